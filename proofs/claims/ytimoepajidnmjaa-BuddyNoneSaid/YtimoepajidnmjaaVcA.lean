/- The words of a calculus of verification conditions over the model's code: kinds, environments, what each operation asks. -/
import Derived.WalkKit
namespace Go.Vc
open Go
set_option linter.unusedSimpArgs false
set_option linter.unusedVariables false

abbrev Hp := Array Obj

structure Sl where
  a : Option Addr
  len : Nat
  cap : Nat

structure Fv where
  f : Nat
  first : Array Value
  captured : Array Value

inductive CK where
  | i (k : IntKind) | b | p | s | m | str | fn | raw
  deriving DecidableEq

@[reducible] def CK.T : CK → Type
  | .i _ => Int
  | .b => Bool
  | .p => Option Addr
  | .s => Sl
  | .m => Option Nat
  | .str => ByteArray
  | .fn => Fv
  | .raw => Value

def CK.v : (c : CK) → c.T → Value
  | .i k, y => .int k y
  | .b, x => .bool x
  | .p, y => .pointer y
  | .s, y => .slice y.a y.len y.cap
  | .m, y => .map y
  | .str, x => .string x
  | .fn, x => .func (.func x.f) x.first x.captured
  | .raw, y => y

inductive SK where
  | one (c : CK)
  | agg (cs : List CK)

def SK.ks : SK → List CK
  | .one c => [c]
  | .agg cs => cs

def ksOf : List SK → List CK
  | [] => []
  | s :: ss => s.ks ++ ksOf ss

@[reducible] def Fam : List CK → Type
  | [] => Hp → Prop
  | c :: cs => c.T → Fam cs

@[reducible] def FamN : List CK → Type
  | [] => Hp → Nat
  | c :: cs => c.T → FamN cs

/-- `R` at values, each of its kind. -/
def Sat : (ks : List CK) → Fam ks → List Value → Hp → Prop
  | [], R, [], h => R h
  | c :: cs, R, v :: vs, h => ∃ x : c.T, v = c.v x ∧ Sat cs (R x) vs h
  | _, _, _, _ => False

def Fam.le : (ks : List CK) → Fam ks → Fam ks → Prop
  | [], R, R' => ∀ h, R h → R' h
  | c :: cs, R, R' => ∀ x : c.T, Fam.le cs (R x) (R' x)

/-- The family that hands its arguments, as values, to `K`. -/
def lam : (ks : List CK) → (List Value → Hp → Prop) → Fam ks
  | [], K => K []
  | c :: cs, K => fun x => lam cs fun vs => K (c.v x :: vs)

/-- What a value of a kind holds, handed to a continuation. -/
def unv : (c : CK) → Value → (c.T → Prop) → Prop
  | .i k, .int k' n, K => if k = k' then K n else False
  | .b, .bool x, K => K x
  | .p, .pointer a, K => K a
  | .s, .slice a l c, K => K ⟨a, l, c⟩
  | .m, .map r, K => K r
  | .str, .string s, K => K s
  | .fn, .func (.func f) x y, K => K ⟨f, x, y⟩
  | .raw, v, K => K v
  | _, _, _ => False

/-- `R` handed its arguments out of values that show their kinds. -/
def apF : (ks : List CK) → Fam ks → List Value → Hp → Prop
  | [], R, [], h => R h
  | c :: cs, R, v :: vs, h => unv c v fun x => apF cs (R x) vs h
  | _, _, _, _ => False

theorem unv_sound {c : CK} {v : Value} {K : c.T → Prop} (h : unv c v K) : ∃ x, v = c.v x ∧ K x := by
  cases c <;> cases v <;> simp only [unv] at h <;> try exact h.elim
  case i.int k k' n => split at h <;> first | exact h.elim | (rename_i e; subst e; exact ⟨n, rfl, h⟩)
  case fn.func f x y => cases f <;> simp only [unv] at h <;> first | exact h.elim | exact ⟨⟨_, x, y⟩, rfl, h⟩
  case b.bool x => exact ⟨x, rfl, h⟩
  case p.pointer a => exact ⟨a, rfl, h⟩
  case s.slice a l c => exact ⟨⟨a, l, c⟩, rfl, h⟩
  case m.map r => exact ⟨r, rfl, h⟩
  case str.string s => exact ⟨s, rfl, h⟩
  all_goals exact ⟨_, rfl, h⟩

theorem apF_sat : ∀ {ks : List CK} {R : Fam ks} {vs : List Value} {h : Hp}, apF ks R vs h → Sat ks R vs h
  | [], _, [], _, h => h
  | _ :: _, _, _ :: _, _, h => by
    obtain ⟨x, e, hx⟩ := unv_sound h
    exact ⟨x, e, apF_sat hx⟩
  | [], _, _ :: _, _, h => h.elim
  | _ :: _, _, [], _, h => h.elim

theorem Sat.mono : ∀ {ks : List CK} {R R' : Fam ks}, Fam.le ks R R' → ∀ {vs : List Value} {h : Hp}, Sat ks R vs h → Sat ks R' vs h
  | [], _, _, hl, [], _, h => hl _ h
  | _ :: _, _, _, hl, _ :: _, _, ⟨x, e, h⟩ => ⟨x, e, Sat.mono (hl x) h⟩
  | [], _, _, _, _ :: _, _, h => h.elim
  | _ :: _, _, _, _, [], _, h => h.elim

theorem sat_lam : ∀ {ks : List CK} {K : List Value → Hp → Prop} {vs : List Value} {h : Hp}, Sat ks (lam ks K) vs h → K vs h
  | [], _, [], _, h => h
  | _ :: _, K, v :: vs, h, hs => by
    obtain ⟨x, rfl, h'⟩ := hs
    exact sat_lam (K := fun vs => K (CK.v _ x :: vs)) h'
  | [], _, _ :: _, _, h => h.elim
  | _ :: _, _, [], _, h => h.elim

/-! ## Environments -/

abbrev Env := Nat → Option Value
def Env.nil : Env := fun _ => none
def Env.put (ρ : Env) (d : Nat) (v : Value) : Env := fun i => bif Nat.beq i d then some v else ρ i
def Env.putO (ρ : Env) : Option Nat → Value → Env
  | some d, v => ρ.put d v
  | none, _ => ρ
def Env.hide (ρ : Env) (ds : List Nat) : Env := fun i => bif ds.contains i then none else ρ i
def Env.ofList : List Value → Env
  | vs => fun i => vs[i]?

def ev (ρ : Env) : Operand → Option Value
  | .tmp t => ρ t
  | .const v => some v
  | .global g => some (.pointer (some ⟨g, 0, none⟩))
  | .func f => some (.func (.func f) #[] #[])

def wv (o : Option Value) (K : Value → Prop) : Prop := match o with | some v => K v | none => False

def evs (ρ : Env) : List Operand → Option (List Value)
  | [] => some []
  | o :: os => match ev ρ o, evs ρ os with | some v, some vs => some (v :: vs) | _, _ => none

/-! ## Memory -/

def cell (h : Hp) (a : Addr) : Option Value :=
  match h[a.block]? with
  | some (.cells c _ _) => if a.spot.isSome then none else c[a.off]?
  | _ => none
def frz (h : Hp) (a : Addr) : Bool :=
  match h[a.block]? with
  | some (.cells _ _ (lo, hi)) => lo ≤ a.off && a.off < hi
  | _ => false
def setc (h : Hp) (a : Addr) (v : Value) : Hp :=
  h.modify a.block fun
      | .cells c elem frozen => .cells (if a.spot.isSome then c else c.setIfInBounds a.off v) elem frozen
      | o => o

/-! ## What an operation asks, and what it hands on -/

def LdI (k : IntKind) (a : Addr) (h : Hp) (K : Int → Prop) : Prop := ∃ n, cell h a = some (.int k n) ∧ K n
def LdB (a : Addr) (h : Hp) (K : Bool → Prop) : Prop := ∃ n, cell h a = some (.bool n) ∧ K n
def LdP (a : Addr) (h : Hp) (K : Option Addr → Prop) : Prop := ∃ n, cell h a = some (.pointer n) ∧ K n
def LdS (a : Addr) (h : Hp) (K : Sl → Prop) : Prop := ∃ n : Sl, cell h a = some (.slice n.a n.len n.cap) ∧ K n
def LdM (a : Addr) (h : Hp) (K : Option Nat → Prop) : Prop := ∃ n, cell h a = some (.map n) ∧ K n
def LdT (a : Addr) (h : Hp) (K : ByteArray → Prop) : Prop := ∃ n, cell h a = some (.string n) ∧ K n
def LdF (a : Addr) (h : Hp) (K : Fv → Prop) : Prop := ∃ n : Fv, cell h a = some (.func (.func n.f) n.first n.captured) ∧ K n
def LdR (a : Addr) (h : Hp) (K : Value → Prop) : Prop := ∃ n, cell h a = some n ∧ K n
def Ld1 : (c : CK) → Addr → Hp → (c.T → Prop) → Prop
  | .i k, a, h, K => LdI k a h K
  | .b, a, h, K => LdB a h K
  | .p, a, h, K => LdP a h K
  | .s, a, h, K => LdS a h K
  | .m, a, h, K => LdM a h K
  | .str, a, h, K => LdT a h K
  | .fn, a, h, K => LdF a h K
  | .raw, a, h, K => LdR a h K
def LdN : List CK → Addr → Nat → Hp → (List Value → Prop) → Prop
  | [], _, _, _, K => K []
  | c :: cs, a, i, h, K => Ld1 c (a.add i) h fun x => LdN cs a (i + 1) h fun vs => K (c.v x :: vs)

def NilP (p : Option Addr) (K : Addr → Prop) : Prop := ∃ a, p = some a ∧ K a
def Ar (k : IntKind) (e : Int) (K : Int → Prop) : Prop := K (k.wrap e)
def Nz (y : Int) (A : Prop) : Prop := y ≠ 0 ∧ A
def Nn (y : Int) (A : Prop) : Prop := 0 ≤ y ∧ A
def Ix (base : Option Addr) (len : Nat) (i : Int) (sz : Nat) (K : Addr → Prop) : Prop := ∃ a, base = some a ∧ 0 ≤ i ∧ i < (len : Int) ∧ K (a.add (i.toNat * sz))
def IxA (a : Addr) (len : Nat) (i : Int) (sz : Nat) (K : Addr → Prop) : Prop := 0 ≤ i ∧ i < (len : Int) ∧ K (a.add (i.toNat * sz))
def IxS (s : ByteArray) (i : Int) (K : Int → Prop) : Prop := ∃ b, 0 ≤ i ∧ s[i.toNat]? = some b ∧ K (b.toNat : Int)
def If (b : Bool) (A B : Prop) : Prop := match b with
  | true => A
  | false => B
theorem If.t {b : Bool} {A B : Prop} (h : If b A B) (e : b = true) : A := by subst e; exact h
theorem If.f {b : Bool} {A B : Prop} (h : If b A B) (e : b = false) : B := by subst e; exact h
theorem If.mk {b : Bool} {A B : Prop} (h1 : b = true → A) (h2 : b = false → B) : If b A B := by cases b; exact h2 rfl; exact h1 rfl
def Nw (o : Obj) (h : Hp) (K : Addr → Hp → Prop) : Prop := K ⟨h.size, 0, none⟩ (h.push o)
def St1 (a : Addr) (v : Value) (h : Hp) (K : Hp → Prop) : Prop := (cell h a).isSome = true ∧ frz h a = false ∧ K (setc h a v)
def StN (a : Addr) (h : Hp) : List Value → Nat → (Hp → Prop) → Prop
  | [], _, K => K h
  | v :: vs, i, K => St1 (a.add i) v h fun h' => StN a h' vs (i + 1) K

/-- `s[l:h]` of a slice with capacity `m` (bounds asked). -/
def SlcL (s : Sl) (sz : Nat) (lo hi mx : Int) (K : Sl → Prop) : Prop :=
  0 ≤ lo ∧ lo ≤ hi ∧ hi ≤ mx ∧ mx ≤ (s.cap : Int) ∧ K ⟨if mx.toNat = lo.toNat then s.a else s.a.map (·.add (lo.toNat * sz)), hi.toNat - lo.toNat, mx.toNat - lo.toNat⟩

/-! ### Maps with whole numbers as keys -/
/-- Block `r` is a map; its entries, in the order in which they were made, are `l`. -/
def MapL (h : Hp) (r : Nat) (k : IntKind) (c : CK) (l : List (Int × c.T)) : Prop :=
  ∃ es clk, h[r]? = some (.map es clk) ∧ es.toList.map (fun e => (e.key, e.val)) = l.map (fun x => (Value.int k x.1, c.v x.2)) ∧
    (l.map (·.1)).Nodup ∧ (es.toList.map (·.born)).Pairwise (· < ·) ∧ ∀ e ∈ es.toList, e.born < clk
def MapO (h : Hp) (m : Option Nat) (k : IntKind) (c : CK) (l : List (Int × c.T)) : Prop :=
  match m with
  | none => l = []
  | some r => MapL h r k c l
def mget {α : Type} (l : List (Int × α)) (n : Int) : Option α := (l.find? fun x => x.1 == n).map (·.2)
def mset {α : Type} (l : List (Int × α)) (n : Int) (v : α) : List (Int × α) :=
  if l.any (fun x => x.1 == n) then l.map (fun x => if x.1 == n then (n, v) else x) else l ++ [(n, v)]
def mdel {α : Type} (l : List (Int × α)) (n : Int) : List (Int × α) := l.filter fun x => !(x.1 == n)
/-- Only block `r` may differ. -/
def OnlyB (h h' : Hp) (r : Nat) : Prop := h'.size = h.size ∧ ∀ b, b ≠ r → h'[b]? = h[b]?
def Lk (k : IntKind) (c : CK) (m : Option Nat) (n : Int) (h : Hp) (K : Option c.T → Prop) : Prop := ∃ l, MapO h m k c l ∧ K (mget l n)
def MLen (k : IntKind) (c : CK) (m : Option Nat) (h : Hp) (K : Int → Prop) : Prop := ∃ l, MapO h m k c l ∧ K (l.length : Int)
def MSet (k : IntKind) (c : CK) (m : Option Nat) (n : Int) (x : c.T) (h : Hp) (K : Hp → Prop) : Prop :=
  ∃ r l, m = some r ∧ MapL h r k c l ∧ ∀ h', OnlyB h h' r → MapL h' r k c (mset l n x) → K h'
def MDel (k : IntKind) (c : CK) (m : Option Nat) (n : Int) (h : Hp) (K : Hp → Prop) : Prop :=
  ∃ l, MapO h m k c l ∧ ∀ h', (∀ r, m = some r → OnlyB h h' r) → (m = none → h' = h) → MapO h' m k c (mdel l n) → K h'

/-- A map's iterator: the map's entries, those that are still to come, and the one that came last. -/
def It (h : Hp) (r : Nat) (k : IntKind) (c : CK) (m : Option Nat) (l todo : List (Int × c.T)) (cur : Option (Int × c.T)) : Prop :=
  match m with
  | none => l = [] ∧ todo = [] ∧ cur = none ∧ ∃ s q y, h[r]? = some (.mapIter none s q y)
  | some b => ∃ es clk seen, h[r]? = some (.mapIter (some b) clk seen clk) ∧ h[b]? = some (.map es clk) ∧ es.toList.map (fun e => (e.key, e.val)) = l.map (fun x => (Value.int k x.1, c.v x.2)) ∧
      (l.map (·.1)).Nodup ∧ (es.toList.map (·.born)).Pairwise (· < ·) ∧ (∀ e ∈ es.toList, e.born < clk) ∧
      (es.toList.filter fun e => !seen.contains e.born).map (fun e => (e.key, e.val)) = todo.map (fun x => (Value.int k x.1, c.v x.2)) ∧
      (∀ x, cur = some x → ∃ e ∈ es.toList, seen.back? = some e.born ∧ e.key = .int k x.1 ∧ e.val = c.v x.2)
def Rng (k : IntKind) (c : CK) (m : Option Nat) (h : Hp) (K : Addr → Hp → Prop) : Prop :=
  ∃ l, MapO h m k c l ∧ ∀ h', h'.size = h.size + 1 → (∀ b, b < h.size → h'[b]? = h[b]?) → It h' h.size k c m l l none → K ⟨h.size, 0, none⟩ h'
def Nxt (k : IntKind) (c : CK) (a : Addr) (h : Hp) (A : Prop) (B : Int → c.T → Hp → Prop) : Prop :=
  a.off = 0 ∧ ∃ m l todo cur, It h a.block k c m l todo cur ∧ (todo = [] → A) ∧
    ∀ n x, (n, x) ∈ todo → ∀ h', OnlyB h h' a.block → It h' a.block k c m l (todo.filter fun y => !(y.1 == n)) (some (n, x)) → B n x h'
def Ent (k : IntKind) (c : CK) (a : Addr) (h : Hp) (K : Int → c.T → Prop) : Prop :=
  a.off = 0 ∧ ∃ m l todo n x, It h a.block k c m l todo (some (n, x)) ∧ K n x

def one1 : Value → Bool
  | .agg _ => false
  | .tuple _ => false
  | _ => true

/-! ### Slices -/
/-- The first `n` cells from the slice's start are `xs`. -/
def Rd (h : Hp) (a : Option Addr) (xs : List Value) : Prop :=
  match a with
  | none => xs = []
  | some a => ∀ j v, xs[j]? = some v → cell h (a.add j) = some v
/-- `append`: the slice's cells, what is appended, and both ways out. -/
def App (s : Sl) (sz bytes : Nat) (e : Nat) (zs : List Value) (x : Sl) (h : Hp) (K : Sl → Hp → Prop) : Prop :=
  ∃ xs ys, xs.length = s.len * sz ∧ ys.length = x.len * sz ∧ Rd h s.a xs ∧ Rd h x.a ys ∧ (∀ v ∈ ys, one1 v = true) ∧ (s.len + x.len) * bytes ≤ 2 ^ 46 ∧ s.len + x.len ≤ 2 ^ 62 ∧
    (s.len + x.len ≤ s.cap → match s.a with
      | some a => StN (a.add (s.len * sz)) h ys 0 fun h' => K ⟨s.a, s.len + x.len, s.cap⟩ h'
      | none => K ⟨none, s.len + x.len, s.cap⟩ h) ∧
    (¬ s.len + x.len ≤ s.cap → ∀ c, s.len + x.len ≤ c → Nw (.cells (xs ++ ys ++ (List.replicate (c - (s.len + x.len)) zs).flatten).toArray e) h fun a h' => K ⟨some a, s.len + x.len, c⟩ h')
/-- `make([]T, n, c)`. -/
def Mk (n c : Int) (bytes : Nat) (e : Nat) (zs : List Value) (h : Hp) (K : Sl → Hp → Prop) : Prop :=
  0 ≤ n ∧ n ≤ c ∧ (bytes : Int) * c ≤ 2 ^ 46 ∧ c < 2 ^ 62 ∧ Nw (.cells (List.replicate c.toNat zs).flatten.toArray e) h fun a h' => K ⟨some a, n.toNat, c.toNat⟩ h'

/-! ### Calls -/
def IOsame (w w' : World) : Prop := w'.os = w.os ∧ w'.tape = w.tape ∧ w'.output = w.output ∧ w.heap.size ≤ w'.heap.size

def packs : List SK → List Value → List Value
  | [], _ => []
  | .one _ :: ss, v :: vs => v :: packs ss vs
  | .one _ :: ss, [] => undef :: packs ss []
  | .agg cs :: ss, vs => .agg (vs.take cs.length).toArray :: packs ss (vs.drop cs.length)
def pack (rs : List SK) (vs : List Value) : Value :=
  match packs rs vs with
  | [v] => v
  | l => .tuple l.toArray

def CallK (P : Program) (f : Nat) (args : Array Value) (rs : List SK) (h : Hp) (R : Fam (ksOf rs)) : Prop :=
  ∀ w : World, w.heap = h → Calls P f args w fun e w' => IOsame w w' ∧ ∃ vs, e = .returned (pack rs vs) ∧ Sat (ksOf rs) R vs w'.heap

theorem CallK.mono {P : Program} {f : Nat} {args : Array Value} {rs : List SK} {h : Hp} {R R' : Fam (ksOf rs)} (c : CallK P f args rs h R) (hl : Fam.le (ksOf rs) R R') : CallK P f args rs h R' :=
  fun w hw => (c w hw).mono fun _ _ ⟨io, vs, e, s⟩ => ⟨io, vs, e, s.mono hl⟩

/-- A call of a function value. -/
def CallV (P : Program) (fv : Fv) (args : List Value) (rs : List SK) (h : Hp) (R : Fam (ksOf rs)) : Prop :=
  CallK P fv.f (fv.first ++ args.toArray ++ fv.captured) rs h R

end Go.Vc
