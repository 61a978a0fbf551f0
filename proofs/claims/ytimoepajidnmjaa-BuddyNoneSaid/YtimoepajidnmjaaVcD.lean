/- Operations that write, make memory or call: what each asks, and that this is enough. -/
import Derived.Test.YtimoepajidnmjaaVcC
namespace Go.Vc
open Go
set_option linter.unusedSimpArgs false
set_option linter.unusedVariables false

def rsOf (P : Program) : List TypeId → Option (List SK)
  | [] => some []
  | t :: ts => match skOf P t, rsOf P ts with | some s, some ss => some (s :: ss) | _, _ => none

def callable (P : Program) (f : Nat) : Bool :=
  match P.funcs[f]? with
  | some fn => !(fn.name == "runtime.NumGoroutine") && fn.body.isSome
  | none => false

def callK (P : Program) (f : Nat) (args : List Value) (h : Hp) (K : Value → Hp → Prop) : Prop :=
  match P.funcs[f]? with
  | some fn => match rsOf P fn.resultTypes.toList with
    | some rs => chk (callable P f) (CallK P f args.toArray rs h (lam (ksOf rs) fun vs h' => K (pack rs vs) h'))
    | none => False
  | none => False

/-- A function value that can be called. -/
def FvOk (P : Program) (fv : Fv) : Prop := callable P fv.f = true
def CallF (P : Program) (fv : Fv) (args : List Value) (rs : List SK) (h : Hp) (R : Fam (ksOf rs)) : Prop :=
  FvOk P fv ∧ CallV P fv args rs h R
def callVK (P : Program) (fv : Fv) (args : List Value) (ty : TypeId) (h : Hp) (K : Value → Hp → Prop) : Prop :=
  match (match P.underlying ty with | some (.tuple ts) => rsOf P ts.toList | _ => rsOf P [ty]) with
  | some rs => CallF P fv args rs h (lam (ksOf rs) fun vs h' => K (pack rs vs) h')
  | none => False

def stK (a : Addr) (vs : List Value) (h : Hp) (K : Hp → Prop) : Prop :=
  match vs with
  | [v] => St1 a v h K
  | vs => StN a h vs 0 K

def keyKs (P : Program) (t : TypeId) (K : IntKind → CK → Prop) : Prop :=
  match P.underlying t with
  | some (.map kt et) => match P.underlying kt, skOf P et with
    | some (.int k), some (.one c) => K k c
    | _, _ => False
  | _ => False

/-- The cells of `len` zero elements with the parts put in. -/
def bsK (P : Program) (t : TypeId) (len : Nat) (ps : List (Nat × Value)) (K : TypeId → List Value → Prop) : Prop :=
  match P.underlying t with
  | some (.slice e) => match P.info? e with
    | some te => match te.zero with
      | some z => match len, ps with
        | 0, [] => K e []
        | 0, _ :: _ => False
        | len + 1, ps => chk (Nat.ble ((len + 1) * te.size) 16777216 && Nat.blt 0 ((len + 1) * te.size) && z.cells.size == te.size)
          (match fillK (fun i => some (i * te.size, te.size)) (List.replicate (len + 1) z.cells.toList).flatten ps with
          | some cs => K e cs
          | none => False)
      | none => False
    | none => False
  | _ => False

/-- What an operation that is not quiet asks. -/
def eK (P : Program) (o : Op) (ty : TypeId) (ρ : Env) (h : Hp) (K : Value → Hp → Prop) : Prop :=
  match o with
  | .store t a x => wv (ev ρ a) fun va => wv (ev ρ x) fun vx => match va with
    | .pointer (some a) => chk ((P.info? t).isSome && vx.cells.size == P.cellsOf t && vx.cells.toList.all one1) (stK a vx.cells.toList h fun h' => K undef h')
    | _ => False
  | .alloc e => match P.info? e with
    | some te => match te.zero with
      | some z => Nw (.cells z.cells e (0, 0)) h fun a h' => K (.pointer (some a)) h'
      | none => False
    | none => False
  | .box e x => wv (ev ρ x) fun v => Nw (.cells v.cells e (0, 0)) h fun a h' => K (.pointer (some a)) h'
  | .buildSlice t len ps => match evParts ρ ps.toList with
    | some vs => bsK P t len vs fun e cs => Nw (.cells cs.toArray e (0, 0)) h fun a h' => K (.slice (some a) len len) h'
    | none => False
  | .makeMap t r => match r with
    | none => Nw (.map #[] 0) h fun a h' => K (.map (some a.block)) h'
    | some _ => False
  | .makeSlice t l c => wv (ev ρ l) fun vl => wv (ev ρ c) fun vc => match P.underlying t, vl, vc with
    | some (.slice e), .int .i64 n, .int .i64 m => match P.info? e with
      | some te => match te.zero with
        | some z => chk (z.cells.size == te.size && Nat.blt 0 te.size) (Mk n m te.bytes e z.cells.toList h fun s h' => K (.slice s.a s.len s.cap) h')
        | none => False
      | none => False
    | _, _, _ => False
  | .range t x => wv (ev ρ x) fun v => keyKs P t fun ki c => match v with
    | .map m => Rng ki c m h fun a h' => K (.pointer (some a)) h'
    | _ => False
  | .mapUpdate t m k x => wv (ev ρ m) fun vm => wv (ev ρ k) fun vk => wv (ev ρ x) fun vx => keyKs P t fun ki c => match vm, vk with
    | .map m, .int k' n => if ki = k' then unv c vx fun x => MSet ki c m n x h fun h' => K undef h' else False
    | _, _ => False
  | .call c => match c.callee, evs ρ c.args.toList, c.argTypes.toList with
    | .value (.func f), some args, _ => callK P f args h K
    | .value g, some args, _ => wv (ev ρ g) fun vg => unv .fn vg fun fv => callVK P fv args ty h K
    | .builtin .append, some [.slice sa sn sc, .slice xa xn xc], [t, t'] => match P.underlying t with
      | some (.slice e) => match P.info? e with
        | some te => match te.zero with
          | some z => chk (Nat.beq t t' && z.cells.size == te.size && Nat.blt 0 te.size) (App ⟨sa, sn, sc⟩ te.size te.bytes e z.cells.toList ⟨xa, xn, xc⟩ h fun s h' => K (.slice s.a s.len s.cap) h')
          | none => False
        | none => False
      | _ => False
    | .builtin .delete, some [.map m, .int k' n], t :: _ => keyKs P t fun ki c => if ki = k' then MDel ki c m n h fun h' => K (.tuple #[]) h' else False
    | _, _, _ => False
  | _ => False

def opK (P : Program) (o : Op) (ty : TypeId) (ρ : Env) (h : Hp) (K : Value → Hp → Prop) : Prop :=
  bif isQ o then qK P o ρ h (fun v => K v h) else eK P o ty ρ h K

theorem IOsame.refl (w : World) : IOsame w w := ⟨rfl, rfl, rfl, Nat.le_refl _⟩
theorem IOsame.trans {a b c : World} (h : IOsame a b) (k : IOsame b c) : IOsame a c := ⟨k.1.trans h.1, k.2.1.trans h.2.1, k.2.2.1.trans h.2.2.1, Nat.le_trans h.2.2.2 k.2.2.2⟩
theorem size_setc (h : Hp) (a : Addr) (v : Value) : (setc h a v).size = h.size := by simp [setc]

theorem nw_run {P : Program} {w : World} {o : Obj} : (newObj o).run P w = .ok w.heap.size { w with heap := w.heap.push o } := rfl

theorem st1_run {P : Program} {w : World} {a : Addr} {v : Value} (ho : one1 v = true) (h1 : (cell w.heap a).isSome = true) (h2 : frz w.heap a = false) : (store a v).run P w = .ok () (w.setCell a v) := by
  obtain ⟨u, hu⟩ := Option.isSome_iff_exists.1 h1
  have hc : w.cell? a = some u := hu
  have hf : w.frozen? a = false := h2
  cases v <;> simp [one1] at ho <;> simp [store, Sem.run, hc, hf]

theorem stN_run {P : Program} : ∀ {vs : List Value} {w : World} {a : Addr} {i : Nat} {K : Hp → Prop}, (∀ v ∈ vs, one1 v = true) → StN a w.heap vs i K →
    ∃ w', (storeCells a vs i).run P w = .ok () w' ∧ IOsame w w' ∧ K w'.heap
  | [], w, a, i, K, _, h => ⟨w, by simp [storeCells], .refl _, h⟩
  | v :: vs, w, a, i, K, ho, h => by
    obtain ⟨h1, h2, h3⟩ := h
    have hs := st1_run (P := P) (ho v (by simp)) h1 h2
    obtain ⟨w', hr, io, hK⟩ := stN_run (P := P) (w := w.setCell (a.add i) v) (fun u hu => ho u (by simp [hu])) h3
    refine ⟨w', ?_, IOsame.trans (b := w.setCell (a.add i) v) ⟨rfl, rfl, rfl, Nat.le_of_eq (size_setc w.heap (a.add i) v).symm⟩ io, hK⟩
    simp only [storeCells, Sem.run_bind, hs, Result.andThen_ok, hr]

theorem stK_run {P : Program} {vs : List Value} {w : World} {a : Addr} {K : Hp → Prop} (ho : ∀ v ∈ vs, one1 v = true) (h : stK a vs w.heap K) :
    ∃ w', (storeCells a vs).run P w = .ok () w' ∧ IOsame w w' ∧ K w'.heap := by
  refine stN_run ho ?_
  unfold stK at h
  split at h
  · simpa [StN, Addr.add_zero'] using h
  · exact h

/-- A run that leaves a value, of an operation's program. -/
def Leaves (P : Program) (s : Sem Next) (w : World) (K : Value → Hp → Prop) : Prop :=
  (∃ v w', s.run P w = .ok (.value v) w' ∧ IOsame w w' ∧ K v w'.heap) ∨
  (∃ w', s.run P w = .ok .skip w' ∧ IOsame w w' ∧ K undef w'.heap) ∨
  (∃ f args rs R, s.run P w = .ok (.enter f args) w ∧ CallK P f args rs w.heap R ∧ ∀ vs h', Sat (ksOf rs) R vs h' → K (pack rs vs) h')

theorem Leaves.upon {P : Program} {o : Oper} {a : Act} {w : World} {K : Value → Hp → Prop} {next : Act → World → Prop} {Q : Exit → Act → World → Prop}
    (h : Leaves P (execOp a.eval o) w K) (hn : ∀ v w', IOsame w w' → K v w'.heap → next (a.put o.dst v) w') : o.wp P a w next Q := by
  unfold Oper.wp
  rcases h with ⟨v, w', hr, io, hK⟩ | ⟨w', hr, io, hK⟩ | ⟨f, args, rs, R, hr, hc, hK⟩
  · rw [hr]; exact hn _ _ io hK
  · rw [hr]; exact hn _ _ io hK
  · rw [hr]
    refine (hc w rfl).mono fun e w' ⟨io, vs, he, hs⟩ => ?_
    subst he
    exact hn _ _ io (hK _ _ hs)

theorem callFunc_run {P : Program} {f : Nat} (h : callable P f = true) (args : Array Value) (w : World) : (callFunc f args).run P w = .ok (.enter f args) w := by
  unfold callable at h
  split at h
  · rename_i fn hf
    simp only [Bool.and_eq_true, Bool.not_eq_true', beq_eq_false_iff_ne] at h
    obtain ⟨h1, h2⟩ := h
    obtain ⟨c, hc⟩ := Option.isSome_iff_exists.1 h2
    simp [callFunc, hf, h1, hc]
  · cases h

theorem callK_leaves {P : Program} {f : Nat} {args : List Value} {w : World} {K : Value → Hp → Prop} (h : callK P f args w.heap K) : Leaves P (callFunc f args.toArray) w K := by
  unfold callK at h
  split at h
  · split at h
    · rename_i rs hrs
      rw [chk_iff] at h
      exact .inr (.inr ⟨f, _, rs, _, callFunc_run h.1 _ _, h.2, fun vs h' hs => sat_lam hs⟩)
    · exact h.elim
  · exact h.elim

theorem callVK_leaves {P : Program} {fv : Fv} {args : List Value} {ty : Nat} {w : World} {K : Value → Hp → Prop} (h : callVK P fv args ty w.heap K) :
    Leaves P (callFunc fv.f (fv.first ++ args.toArray ++ fv.captured)) w K := by
  unfold callVK at h
  split at h
  · rename_i rs _
    exact .inr (.inr ⟨_, _, rs, _, callFunc_run h.1 _ _, h.2, fun vs h' hs => sat_lam hs⟩)
  · exact h.elim

theorem keyKs_inv {P : Program} {t : Nat} {K : IntKind → CK → Prop} (h : keyKs P t K) : ∃ kt et k c, P.underlying t = some (.map kt et) ∧ P.underlying kt = some (.int k) ∧ K k c := by
  unfold keyKs at h
  split at h
  · split at h
    · exact ⟨_, _, _, _, by assumption, by assumption, h⟩
    · exact h.elim
  · exact h.elim

theorem push_io (w : World) (o : Obj) : IOsame w { w with heap := w.heap.push o } := ⟨rfl, rfl, rfl, by simp⟩

theorem set_only (h : Hp) (r : Nat) (o : Obj) : OnlyB h (h.setIfInBounds r o) r := ⟨by simp, fun b hb => by rw [Array.getElem?_setIfInBounds_ne (Ne.symm hb)]⟩

theorem map_modify {es : List MapEntry} {k : IntKind} {c : CK} : ∀ (l : List (Int × c.T)) (es : List MapEntry) (j : Nat) (n : Int) (x : c.T),
    es.map (fun e => (e.key, e.val)) = l.map (fun x => (Value.int k x.1, c.v x.2)) → (l.map (·.1)).Nodup → l.findIdx? (fun x => x.1 == n) = some j →
    (es.modify j fun e => { e with key := .int k n, val := c.v x }).map (fun e => (e.key, e.val)) = (l.map fun y => if y.1 == n then (n, x) else y).map (fun x => (Value.int k x.1, c.v x.2))
  | [], es, j, n, x, he, hn, hj => by simp at hj
  | y :: l, [], j, n, x, he, hn, hj => by simp at he
  | y :: l, e :: es, j, n, x, he, hn, hj => by
    simp only [List.map_cons, List.cons.injEq] at he
    simp only [List.map_cons, List.nodup_cons] at hn
    simp only [List.findIdx?_cons] at hj
    cases hy : y.1 == n
    · rw [hy] at hj
      simp only [Bool.false_eq_true, if_false, Option.map_eq_some_iff] at hj
      obtain ⟨j', hj', rfl⟩ := hj
      have := map_modify (es := es) l es j' n x he.2 hn.2 hj'
      simp only [List.modify_succ_cons, List.map_cons, this, hy, he.1]
      simp
    · rw [hy] at hj
      simp at hj
      subst hj
      have hyn : y.1 = n := by simpa using hy
      simp only [List.modify_zero_cons, List.map_cons, hy, if_true, List.cons.injEq, true_and, he.2]
      congr 1
      have : ∀ z ∈ l, (z.1 == n) = false := by
        intro z hz
        have : z.1 ≠ y.1 := fun e => hn.1 (by rw [← e]; exact List.mem_map_of_mem hz)
        simpa [hyn] using this
      have e : l = l.map fun z => if z.1 == n then (n, x) else z := by
        conv => lhs; rw [← List.map_id l]
        apply List.map_congr_left
        intro z hz
        simp [this z hz]
      exact e

theorem any_findIdx {α : Type} {l : List (Int × α)} {n : Int} {j : Nat} (h : l.findIdx? (fun x => x.1 == n) = some j) : l.any (fun x => x.1 == n) = true := by
  obtain ⟨x, hx, rfl⟩ := findIdx_some h
  rw [List.any_eq_true]
  exact ⟨x, List.mem_of_getElem? hx, by simp⟩
theorem any_findIdx_none {α : Type} {l : List (Int × α)} {n : Int} (h : l.findIdx? (fun x => x.1 == n) = none) : l.any (fun x => x.1 == n) = false := by
  rw [List.findIdx?_eq_none_iff] at h
  rw [List.any_eq_false]
  simpa using h

theorem mset_keys {α : Type} {l : List (Int × α)} {n : Int} {x : α} (hn : (l.map (·.1)).Nodup) : ((mset l n x).map (·.1)).Nodup := by
  unfold mset
  split
  · have : (l.map fun y => if y.1 == n then (n, x) else y).map (·.1) = l.map (·.1) := by
      rw [List.map_map]
      apply List.map_congr_left
      intro y _
      simp only [Function.comp]
      split
      · rename_i h; simp at h; exact h.symm
      · rfl
    rwa [this]
  · rename_i h
    rw [List.map_append, List.nodup_append]
    refine ⟨hn, by simp, ?_⟩
    intro a ha b hb
    simp at hb
    subst hb
    rintro rfl
    obtain ⟨y, hy, rfl⟩ := List.mem_map.1 ha
    exact h (List.any_eq_true.2 ⟨y, hy, by simp⟩)

theorem mset_run {P : Program} {t kt et : Nat} {k : IntKind} {c : CK} (hu : P.underlying t = some (.map kt et)) (hk : P.underlying kt = some (.int k)) {r : Nat} {l : List (Int × c.T)} {n : Int} {x : c.T} {w : World}
    (hm : MapL w.heap r k c l) : ∃ w', (Instr.mapUpdate t (.map (some r)) (.int k n) (c.v x)).run P w = .ok () w' ∧ IOsame w w' ∧ OnlyB w.heap w'.heap r ∧ MapL w'.heap r k c (mset l n x) := by
  obtain ⟨es, clk, hr, he, hn, hp, hb⟩ := hm
  have hlt : r < w.heap.size := (Array.getElem?_eq_some_iff.1 hr).1
  have hset : ∀ o, (w.heap.setIfInBounds r o)[r]? = some o := fun o => by simp [hlt]
  cases hf : l.findIdx? (fun x => x.1 == n) with
  | some j =>
    obtain ⟨y, hy, hyn⟩ := findIdx_some hf
    have hjl : j < l.length := (List.getElem?_eq_some_iff.1 hy).1
    have hlen : es.toList.length = l.length := by simpa using congrArg List.length he
    have hje : j < es.size := by simp at hlen; omega
    have hkey : es[j].key = .int k n := by
      have := congrArg (fun l => l[j]?) he
      simp only [List.getElem?_map, hy, Option.map_some] at this
      rw [Array.getElem?_toList, Array.getElem?_eq_getElem hje] at this
      simp at this
      rw [this.1, hyn]
    refine ⟨{ w with heap := w.heap.setIfInBounds r (.map (es.modify j fun e => { e with key := .int k n, val := c.v x }) clk) }, ?_, ⟨rfl, rfl, rfl, by simp⟩, set_only _ _ _, ?_⟩
    · simp only [Instr.mapUpdate, Sem.run_bind, run_underlying hu, Result.andThen_ok, checkKey_run hk, getObj, Sem.run, hr, findKey_run hk he, hf]
      simp [Array.getElem?_eq_getElem hje, hkey, Instr.keyThatStays, Instr.sameBits, setObj, Sem.run, hr]
    · refine ⟨_, clk, hset _, ?_, mset_keys hn, ?_, ?_⟩
      · rw [Array.toList_modify, map_modify (es := []) l es.toList j n x he hn hf]
        simp [mset, any_findIdx hf]
      · have : (es.modify j fun e => { e with key := .int k n, val := c.v x }).toList.map (·.born) = es.toList.map (·.born) := by
          rw [Array.toList_modify]
          apply List.ext_getElem?
          intro m
          simp only [List.getElem?_map, List.getElem?_modify]
          cases es.toList[m]? <;> simp
          split <;> rfl
        rw [this]; exact hp
      · intro e he'
        have : e.born ∈ (es.modify j fun e => { e with key := .int k n, val := c.v x }).toList.map (·.born) := List.mem_map_of_mem he'
        have e2 : (es.modify j fun e => { e with key := .int k n, val := c.v x }).toList.map (·.born) = es.toList.map (·.born) := by
          rw [Array.toList_modify]
          apply List.ext_getElem?
          intro m
          simp only [List.getElem?_map, List.getElem?_modify]
          cases es.toList[m]? <;> simp
          split <;> rfl
        rw [e2] at this
        obtain ⟨e', h1, h2⟩ := List.mem_map.1 this
        rw [← h2]; exact hb e' h1
  | none =>
    refine ⟨{ w with heap := w.heap.setIfInBounds r (.map (es.push { key := .int k n, val := c.v x, born := clk }) (clk + 1)) }, ?_, ⟨rfl, rfl, rfl, by simp⟩, set_only _ _ _, ?_⟩
    · simp only [Instr.mapUpdate, Sem.run_bind, run_underlying hu, Result.andThen_ok, checkKey_run hk, getObj, Sem.run, hr, findKey_run hk he, hf]
      simp [setObj, Sem.run, hr]
    · refine ⟨_, clk + 1, hset _, ?_, mset_keys hn, ?_, ?_⟩
      · simp [mset, any_findIdx_none hf, he]
      · simp only [Array.toList_push, List.map_append, List.map_cons, List.map_nil, List.pairwise_append]
        refine ⟨hp, by simp, ?_⟩
        intro a ha b hb'
        simp at hb'
        subst hb'
        obtain ⟨e, he1, rfl⟩ := List.mem_map.1 ha
        exact hb e he1
      · intro e he'
        simp only [Array.toList_push, List.mem_append, List.mem_singleton] at he'
        rcases he' with h | rfl
        · have := hb e h; omega
        · simp

theorem mdel_map {k : IntKind} {c : CK} : ∀ (l : List (Int × c.T)) (es : List MapEntry) (j : Nat) (n : Int),
    es.map (fun e => (e.key, e.val)) = l.map (fun x => (Value.int k x.1, c.v x.2)) → (l.map (·.1)).Nodup → l.findIdx? (fun x => x.1 == n) = some j →
    (es.eraseIdx j).map (fun e => (e.key, e.val)) = (mdel l n).map (fun x => (Value.int k x.1, c.v x.2))
  | [], es, j, n, he, hn, hj => by simp at hj
  | y :: l, [], j, n, he, hn, hj => by simp at he
  | y :: l, e :: es, j, n, he, hn, hj => by
    simp only [List.map_cons, List.cons.injEq] at he
    simp only [List.map_cons, List.nodup_cons] at hn
    simp only [List.findIdx?_cons] at hj
    cases hy : y.1 == n
    · rw [hy] at hj
      simp only [Bool.false_eq_true, if_false, Option.map_eq_some_iff] at hj
      obtain ⟨j', hj', rfl⟩ := hj
      have := mdel_map l es j' n he.2 hn.2 hj'
      simp only [List.eraseIdx_cons_succ, List.map_cons, this, mdel, List.filter_cons, hy, he.1]
      simp
    · rw [hy] at hj
      simp at hj
      subst hj
      have hyn : y.1 = n := by simpa using hy
      simp only [List.eraseIdx_zero, List.tail_cons, mdel, List.filter_cons, hy, Bool.not_true, Bool.false_eq_true, if_false, he.2]
      congr 1
      symm
      rw [List.filter_eq_self]
      intro z hz
      have : z.1 ≠ y.1 := fun e => hn.1 (by rw [← e]; exact List.mem_map_of_mem hz)
      simpa [hyn] using this

theorem mdel_none {α : Type} {l : List (Int × α)} {n : Int} (h : l.findIdx? (fun x => x.1 == n) = none) : mdel l n = l := by
  rw [List.findIdx?_eq_none_iff] at h
  unfold mdel
  rw [List.filter_eq_self]
  intro z hz
  have := h z hz
  simpa using this

theorem mdel_keys {α : Type} {l : List (Int × α)} {n : Int} (hn : (l.map (·.1)).Nodup) : ((mdel l n).map (·.1)).Nodup :=
  hn.sublist (List.Sublist.map _ List.filter_sublist)

theorem mdel_run {P : Program} {t kt et ty : Nat} {k : IntKind} {c : CK} (hu : P.underlying t = some (.map kt et)) (hk : P.underlying kt = some (.int k)) {m : Option Nat} {l : List (Int × c.T)} {n : Int} {w : World} {ats : List Nat}
    (hm : MapO w.heap m k c l) : ∃ w', (Builtin.delete_ (t :: ats).toArray ty #[.map m, .int k n]).run P w = .ok (.tuple #[]) w' ∧ IOsame w w' ∧ (∀ r, m = some r → OnlyB w.heap w'.heap r) ∧ (m = none → w'.heap = w.heap) ∧ MapO w'.heap m k c (mdel l n) := by
  cases m with
  | none =>
    simp only [MapO] at hm; subst hm
    exact ⟨w, by simp [Builtin.delete_, run_underlying hu, checkKey_run hk], .refl _, fun r h => (by cases h), fun _ => rfl, rfl⟩
  | some r =>
    obtain ⟨es, clk, hr, he, hn, hp, hb⟩ := hm
    have hlt : r < w.heap.size := (Array.getElem?_eq_some_iff.1 hr).1
    have hset : ∀ o, (w.heap.setIfInBounds r o)[r]? = some o := fun o => by simp [hlt]
    cases hf : l.findIdx? (fun x => x.1 == n) with
    | some j =>
      refine ⟨{ w with heap := w.heap.setIfInBounds r (.map (es.eraseIdxIfInBounds j) clk) }, ?_, ⟨rfl, rfl, rfl, by simp⟩, fun r' h => (by cases h; exact set_only _ _ _), (fun h => by cases h), ?_⟩
      · simp [Builtin.delete_, run_underlying hu, checkKey_run hk, getObj, Sem.run, hr, findKey_run hk he, hf, setObj]
      · refine ⟨_, clk, hset _, ?_, mdel_keys hn, ?_, ?_⟩
        · rw [Array.toList_eraseIdxIfInBounds]
          exact mdel_map l es.toList j n he hn hf
        · rw [Array.toList_eraseIdxIfInBounds]
          exact hp.sublist (List.Sublist.map _ (List.eraseIdx_sublist _ _))
        · rw [Array.toList_eraseIdxIfInBounds]
          intro e he'
          exact hb e ((List.eraseIdx_sublist _ _).mem he')
    | none =>
      refine ⟨{ w with heap := w.heap.setIfInBounds r (.map es clk) }, ?_, ⟨rfl, rfl, rfl, by simp⟩, fun r' h => (by cases h; exact set_only _ _ _), (fun h => by cases h), ?_⟩
      · simp [Builtin.delete_, run_underlying hu, checkKey_run hk, getObj, Sem.run, hr, findKey_run hk he, hf, setObj]
      · rw [mdel_none hf]
        exact ⟨es, clk, hset _, he, hn, hp, hb⟩

end Go.Vc
