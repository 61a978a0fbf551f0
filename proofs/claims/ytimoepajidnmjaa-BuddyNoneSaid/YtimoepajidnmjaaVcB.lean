/- Operations that leave the world as it is: what each asks, and that this is enough. -/
import Derived.Test.YtimoepajidnmjaaVcA
import Derived.WalkLawsBesides
import Derived.WalkSpells
namespace Go.Vc
open Go
set_option linter.unusedSimpArgs false
set_option linter.unusedVariables false

def ckOfD : TypeDesc → Option CK
  | .bool => some .b
  | .int k => some (.i k)
  | .string => some .str
  | .pointer _ => some .p
  | .slice _ => some .s
  | .map _ _ => some .m
  | .func _ _ _ => some .fn
  | .interface _ => some .raw
  | _ => none

mutual
def cksOf (P : Program) : Nat → TypeId → Option (List CK)
  | 0, _ => none
  | n + 1, t =>
    match P.underlying t with
    | some (.struct fs) => cksFs P n fs.toList
    | some (.array m e) => (cksOf P n e).map fun l => (List.replicate m l).flatten
    | some d => (ckOfD d).map fun c => [c]
    | none => none
def cksFs (P : Program) : Nat → List Field → Option (List CK)
  | 0, _ => none
  | _ + 1, [] => some []
  | n + 1, f :: fs => match cksOf P n f.type, cksFs P n fs with
    | some a, some b => some (a ++ b)
    | _, _ => none
end

def isAggD : TypeDesc → Bool
  | .struct _ | .array _ _ => true
  | _ => false

def skOf (P : Program) (t : TypeId) : Option SK :=
  match P.underlying t with
  | some d => bif isAggD d then (cksOf P 24 t).map .agg else (ckOfD d).map .one
  | none => none

def chk (b : Bool) (A : Prop) : Prop := match b with | true => A | false => False
theorem chk_iff {b : Bool} {A : Prop} : chk b A ↔ b = true ∧ A := by cases b <;> simp [chk]

def arK (op : BinOp) (k : IntKind) (x y : Int) (K : Value → Prop) : Prop :=
  match op with
  | .add => Ar k (x + y) fun z => K (.int k z)
  | .sub => Ar k (x - y) fun z => K (.int k z)
  | .mul => Ar k (x * y) fun z => K (.int k z)
  | .quo => Nz y (Ar k (x.tdiv y) fun z => K (.int k z))
  | .rem => Nz y (K (.int k (x.tmod y)))
  | .and => K (.int k (bits .and k x y))
  | .or => K (.int k (bits .or k x y))
  | .xor => K (.int k (bits .xor k x y))
  | .andNot => K (.int k (bits .andNot k x y))
  | .shl => Nn y (Ar k (x * 2 ^ (min y.toNat k.bits)) fun z => K (.int k z))
  | .shr => Nn y (K (.int k (x.fdiv (2 ^ (min y.toNat k.bits)))))
  | .eql => K (.bool (x == y))
  | .neq => K (.bool (x != y))
  | .lss => K (.bool (decide (x < y)))
  | .leq => K (.bool (decide (x ≤ y)))
  | .gtr => K (.bool (decide (x > y)))
  | .geq => K (.bool (decide (x ≥ y)))

def eqK (op : BinOp) (b : Bool) (K : Value → Prop) : Prop :=
  match op with
  | .eql => K (.bool b)
  | .neq => K (.bool (!b))
  | _ => False

/-- A comparison with the literal nil. -/
def nilK (P : Program) (op : BinOp) (t : TypeId) (x y : Value) (K : Value → Prop) : Prop :=
  match P.underlying t, x, y with
  | some (.pointer _), .pointer p, .pointer none => eqK op p.isNone K
  | some (.slice _), .slice p _ _, .slice none 0 0 => eqK op p.isNone K
  | some (.map _ _), .map p, .map none => eqK op p.isNone K
  | _, _, _ => False

def binK (P : Program) (op : BinOp) (t : TypeId) (x y : Value) (K : Value → Prop) : Prop :=
  match x, y with
  | .int k a, .int k' b => if k = k' then arK op k a b K else (match op with | .shl => arK .shl k a b K | .shr => arK .shr k a b K | _ => False)
  | .bool a, .bool b => match P.underlying t with
    | some .bool => eqK op (a == b) K
    | _ => False
  | .string a, .string b => match op with
    | .eql => K (.bool (a.toList == b.toList))
    | .neq => K (.bool (!(a.toList == b.toList)))
    | _ => False
  | _, _ => False

/-- Are two structs of whole numbers and bools alike, field by field? -/
def eqFs (P : Program) (xs ys : List Value) : List Field → Option Bool
  | [] => some true
  | f :: fs => bif f.name == "_" then none else
    match P.underlying f.type, xs[f.offset]?, ys[f.offset]?, eqFs P xs ys fs with
    | some (.int _), some (.int k a), some (.int k' b), some r => if k = k' then some ((a == b) && r) else none
    | some .bool, some (.bool a), some (.bool b), some r => some ((a == b) && r)
    | _, _, _, _ => none
def aggK (P : Program) (op : BinOp) (t : TypeId) (xs ys : List Value) (K : Value → Prop) : Prop :=
  match P.underlying t with
  | some (.struct fs) => chk (!P.stoodInHeld t && !P.eqGuardType P.depth t) (match eqFs P xs ys fs.toList with
    | some b => eqK op b K
    | none => False)
  | _ => False

def isNilC : Operand → Bool
  | .const (.pointer none) => true
  | .const (.slice none 0 0) => true
  | .const (.map none) => true
  | _ => false

def bin2K (P : Program) (op : BinOp) (t : TypeId) (y : Operand) (vx vy : Value) (K : Value → Prop) : Prop :=
  match vx, vy with
  | .agg xs, .agg ys => aggK P op t xs.toList ys.toList K
  | vx, vy => bif isNilC y then nilK P op t vx vy K else binK P op t vx vy K

def fldK (P : Program) (s f : Nat) (K : Field → Prop) : Prop :=
  match P.underlying s with
  | some (.struct fs) => match fs[f]? with
    | some fd => K fd
    | none => False
  | _ => False

def lenK (P : Program) (t : TypeId) (x : Value) (h : Hp) (K : Value → Prop) : Prop :=
  match P.underlying t, x with
  | some (.slice _), .slice _ n _ => K (.int .i64 (n : Int))
  | some .string, .string s => K (.int .i64 (s.size : Int))
  | some (.array n _), _ => K (.int .i64 (n : Int))
  | some (.map kt et), .map m => match P.underlying kt, skOf P et with
    | some (.int k), some (.one c) => MLen k c m h fun z => K (.int .i64 z)
    | _, _ => False
  | _, _ => False

def lkK (P : Program) (t : TypeId) (x i : Value) (ok : Bool) (h : Hp) (K : Value → Prop) : Prop :=
  match P.underlying t, x, i with
  | some (.map kt et), .map m, .int k n => match P.underlying kt, skOf P et, P.info? et with
    | some (.int k'), some (.one c), some ti => match ti.zero with
      | some z => if k = k' then unv c z fun z => Lk k c m n h fun o => K (bif ok then .tuple #[c.v (o.getD z), .bool o.isSome] else c.v (o.getD z)) else False
      | none => False
    | _, _, _ => False
  | _, _, _ => False

def mmK (isMax : Bool) : Value → List Value → (Value → Prop) → Prop
  | v, [], K => K v
  | .int k x, .int _ y :: vs, K => mmK isMax (.int k (bif isMax then (if y > x then y else x) else (if y < x then y else x))) vs K
  | _, _, _ => False

/-- The zero cells of a type with those of its parts put in. -/
def fillK (place : Nat → Option (Nat × Nat)) (cells : List Value) : List (Nat × Value) → Option (List Value)
  | [] => some cells
  | (i, v) :: rest =>
    match place i with
    | none => none
    | some (off, size) =>
      if v.cells.size ≠ size ∨ off + v.cells.size > cells.length then none
      else fillK place (cells.take off ++ v.cells.toList ++ cells.drop (off + size)) rest

def evParts (ρ : Env) : List (Nat × Operand) → Option (List (Nat × Value))
  | [] => some []
  | (i, o) :: os => match ev ρ o, evParts ρ os with | some v, some vs => some ((i, v) :: vs) | _, _ => none

def plF (P : Program) (fs : Array Field) (i : Nat) : Option (Nat × Nat) := match fs[i]? with
  | some f => match P.info? f.type with
    | some ti => some (f.offset, ti.size)
    | none => none
  | none => none

def bldK (P : Program) (t : TypeId) (ps : List (Nat × Value)) (K : Value → Prop) : Prop :=
  match P.info? t, P.underlying t with
  | some ti, some (.struct fs) => match ti.zero with
    | some z => match fillK (plF P fs) z.cells.toList ps with
      | some cs => chk (fs.toList.all fun f => (P.info? f.type).isSome) (K (.agg cs.toArray))
      | none => False
    | none => False
  | some ti, some (.array _ e) => match ti.zero, P.info? e with
    | some z, some te => match fillK (fun i => some (i * te.size, te.size)) z.cells.toList ps with
      | some cs => K (.agg cs.toArray)
      | none => False
    | _, _ => False
  | _, _ => False

/-- A part of an aggregate's cells. -/
def partK (P : Program) (t : TypeId) (cs : List Value) (off : Nat) (K : Value → Prop) : Prop :=
  match P.underlying t, P.info? t with
  | some d, some ti => bif isAggD d then K (.agg ((cs.drop off).take ti.size).toArray) else wv (cs[off]?) K
  | _, _ => False

def slcK (P : Program) (t : TypeId) (x : Value) (lo hi mx : Option Value) (K : Value → Prop) : Prop :=
  match P.underlying t, x with
  | some (.slice e), .slice a n c => match P.info? e with
    | some ti =>
      let loV : Option Int := match lo with | none => some 0 | some (.int .i64 z) => some z | _ => none
      let hiV : Option Int := match hi with | none => some n | some (.int .i64 z) => some z | _ => none
      let mxV : Option Int := match mx, hi with | none, _ => some c | some (.int .i64 z), some _ => some z | _, _ => none
      match loV, hiV, mxV with
      | some l, some h, some m => SlcL ⟨a, n, c⟩ ti.size l h m fun s => K (.slice s.a s.len s.cap)
      | _, _, _ => False
    | none => False
  | _, _ => False

def evO (ρ : Env) : Option Operand → Option (Option Value)
  | none => some none
  | some o => (ev ρ o).map some

/-- What a quiet operation asks. -/
def qK (P : Program) (o : Op) (ρ : Env) (h : Hp) (K : Value → Prop) : Prop :=
  match o with
  | .move x => wv (ev ρ x) K
  | .assign x => wv (ev ρ x) K
  | .pick c x y => wv (ev ρ c) fun v => match v with
    | .bool true => wv (ev ρ x) K
    | .bool false => wv (ev ρ y) K
    | _ => False
  | .load t a => wv (ev ρ a) fun v => match v, skOf P t with
    | .pointer (some a), some (.one c) => chk (P.info? t).isSome (Ld1 c a h fun x => K (c.v x))
    | .pointer (some a), some (.agg cs) => chk (P.cellsOf t == cs.length) (chk (P.info? t).isSome (LdN cs a 0 h fun vs => K (.agg vs.toArray)))
    | _, _ => False
  | .nilCheck x => wv (ev ρ x) fun v => match v with
    | .pointer p => NilP p fun a => K (.pointer (some a))
    | .func (.func f) a b => K (.func (.func f) a b)
    | _ => False
  | .binOp op t x y _ => wv (ev ρ x) fun vx => wv (ev ρ y) fun vy => bin2K P op t y vx vy K
  | .unOp op _ x => wv (ev ρ x) fun v => match op, v with
    | .not, .bool b => K (.bool (!b))
    | .neg, .int k n => Ar k (0 - n) fun z => K (.int k z)
    | _, _ => False
  | .convert s d x => wv (ev ρ x) fun v => match P.underlying s, P.underlying d, v with
    | some _, some (.int k), .int _ n => Ar k n fun z => K (.int k z)
    | some _, some .string, .string x => K (.string x)
    | _, _, _ => False
  | .fieldAddr s x f => wv (ev ρ x) fun v => fldK P s f fun fd => match v with
    | .pointer (some a) => chk (P.cellsOf fd.type != 0) (K (.pointer (some (a.add fd.offset))))
    | _ => False
  | .field s x f => wv (ev ρ x) fun v => fldK P s f fun fd => match v with
    | .agg cs => partK P fd.type cs.toList fd.offset K
    | _ => False
  | .indexAddr t x i => wv (ev ρ x) fun vx => wv (ev ρ i) fun vi => match P.underlying t, vx, vi with
    | some (.slice e), .slice b n _, .int _ i => chk (P.info? e).isSome (Ix b n i (P.cellsOf e) fun a => K (.pointer (some a)))
    | some (.array n e), .pointer (some a), .int _ i => chk (P.info? e).isSome (IxA a n i (P.cellsOf e) fun a => K (.pointer (some a)))
    | _, _, _ => False
  | .index t x i => wv (ev ρ x) fun vx => wv (ev ρ i) fun vi => match P.underlying t, vx, vi with
    | some .string, .string s, .int _ i => IxS s i fun z => K (.int .u8 z)
    | _, _, _ => False
  | .lookup t x i ok => wv (ev ρ x) fun vx => wv (ev ρ i) fun vi => lkK P t vx vi ok h K
  | .extract t i => wv (ev ρ t) fun v => match v with
    | .tuple vs => wv (vs.toList[i]?) K
    | _ => False
  | .makeFunc fn a b => match evs ρ a.toList, evs ρ b.toList with
    | some va, some vb => K (.func fn va.toArray vb.toArray)
    | _, _ => False
  | .build t ps => match evParts ρ ps.toList with
    | some vs => bldK P t vs K
    | none => False
  | .slice t x lo hi mx => wv (ev ρ x) fun v => match evO ρ lo, evO ρ hi, evO ρ mx with
    | some lo, some hi, some mx => slcK P t v lo hi mx K
    | _, _, _ => False
  | .makeInterface t x => wv (ev ρ x) fun v => chk (P.concrete t) (K (.iface t v))
  | .call c => match c.callee, evs ρ c.args.toList, c.argTypes.toList with
    | .builtin .len, some [x], [t] => lenK P t x h K
    | .builtin .cap, some [.slice _ _ n], [t] => (match P.underlying t with | some (.slice _) => K (.int .i64 (n : Int)) | _ => False)
    | .builtin .max, some (x :: xs), _ => mmK true x xs K
    | .builtin .min, some (x :: xs), _ => mmK false x xs K
    | _, _, _ => False
  | _ => False

/-- Is an operation one of the quiet ones? -/
def isQ : Op → Bool
  | .move _ | .assign _ | .pick .. | .load _ _ | .nilCheck _ | .binOp .. | .unOp .. | .convert .. | .fieldAddr .. | .field .. | .indexAddr .. | .index .. | .lookup .. | .extract .. | .makeFunc .. | .build .. | .slice .. | .makeInterface .. => true
  | .call c => match c.callee with | .builtin .len | .builtin .cap | .builtin .max | .builtin .min => true | _ => false
  | _ => false

end Go.Vc
