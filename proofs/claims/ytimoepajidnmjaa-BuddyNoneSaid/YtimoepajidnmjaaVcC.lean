/- That what a quiet operation asks is enough. -/
import Derived.Test.YtimoepajidnmjaaVcB
namespace Go.Vc
open Go
set_option linter.unusedSimpArgs false
set_option linter.unusedVariables false

theorem cell_eq (w : World) (a : Addr) : w.cell? a = cell w.heap a := rfl
theorem frz_eq (w : World) (a : Addr) : w.frozen? a = frz w.heap a := rfl
theorem setc_eq (w : World) (a : Addr) (v : Value) : (w.setCell a v).heap = setc w.heap a v := rfl

theorem info_run {P : Program} {t : Nat} {i : TypeInfo} (hi : P.info? t = some i) (w : World) : (typeInfo t).run P w = .ok i w := by
  simp [typeInfo, hi]
theorem sizeOf_run {P : Program} {t : Nat} (h : (P.info? t).isSome = true) (w : World) : (sizeOf t).run P w = .ok (P.cellsOf t) w := by
  obtain ⟨i, hi⟩ := Option.isSome_iff_exists.1 h
  simp [sizeOf, typeInfo, hi, Program.cellsOf]
theorem zero_run {P : Program} {t : Nat} {i : TypeInfo} {z : Value} (hi : P.info? t = some i) (hz : i.zero = some z) (w : World) : (zeroValue t).run P w = .ok z w := by
  simp [zeroValue, typeInfo, hi, hz]

theorem arK_sound {P : Program} {op : BinOp} {t : Nat} {k : IntKind} {x y : Int} {K : Value → Prop} (h : arK op k x y K) (w : World) :
    ∃ v, (binOp op t (.int k x) (.int k y)).run P w = .ok v w ∧ K v := by
  cases op <;> simp only [arK, Ar, Nz, Nn] at h
  all_goals first
    | (refine ⟨_, ?_, h⟩; simp [binOp, Op.intArith, Op.intCmp, Op.intBits, bits]; done)
    | (obtain ⟨h1, h2⟩ := h; refine ⟨_, ?_, h2⟩; simp [binOp, Op.intDiv, h1]; done)
    | (obtain ⟨h1, h2⟩ := h; refine ⟨_, ?_, h2⟩; simp [binOp, Op.shift, Int.not_lt.2 h1]; done)

theorem eqK_sound {P : Program} {op : BinOp} {t : Nat} {x y : Value} {b : Bool} {K : Value → Prop} (h : eqK op b K) (w : World)
    (hb : ∀ op, (op = .eql ∨ op = .neq) → binOp op t x y = if op = .eql then (do pure (.bool (← Op.equal t x y))) else (do pure (.bool (!(← Op.equal t x y)))))
    (he : (Op.equal t x y).run P w = .ok b w) : ∃ v, (binOp op t x y).run P w = .ok v w ∧ K v := by
  cases op <;> simp only [eqK] at h
  case eql => exact ⟨_, by rw [hb .eql (.inl rfl)]; simp [he], h⟩
  case neq => exact ⟨_, by rw [hb .neq (.inr rfl)]; simp [he], h⟩

theorem eqIn_ptr {P : Program} {t e : Nat} (hu : P.underlying t = some (.pointer e)) (p : Option Addr) (d : Nat) (w : World) : (Op.equalIn (d + 1) t (.pointer p) (.pointer none)).run P w = .ok p.isNone w := by
  cases p <;> simp [Op.equalIn, run_underlying hu]
theorem eqIn_slice {P : Program} {t e : Nat} (hu : P.underlying t = some (.slice e)) (p : Option Addr) (n c d : Nat) (w : World) : (Op.equalIn (d + 1) t (.slice p n c) (.slice none 0 0)).run P w = .ok p.isNone w := by
  cases p <;> simp [Op.equalIn, run_underlying hu]
theorem eqIn_map {P : Program} {t k e : Nat} (hu : P.underlying t = some (.map k e)) (p : Option Nat) (d : Nat) (w : World) : (Op.equalIn (d + 1) t (.map p) (.map none)).run P w = .ok p.isNone w := by
  cases p <;> simp [Op.equalIn, run_underlying hu]
theorem eqIn_bool {P : Program} {t : Nat} (hu : P.underlying t = some .bool) (a b : Bool) (d : Nat) (w : World) : (Op.equalIn (d + 1) t (.bool a) (.bool b)).run P w = .ok (a == b) w := by
  simp [Op.equalIn, run_underlying hu]

theorem nilK_sound {P : Program} {op : BinOp} {t : Nat} {x y : Value} {K : Value → Prop} (h : nilK P op t x y K) (w : World) :
    ∃ v, (binOp op t x y).run P w = .ok v w ∧ K v := by
  unfold nilK at h
  split at h
  case h_1 e p hu =>
    refine eqK_sound h w ?_ ?_
    · rintro op (rfl | rfl) <;> simp [binOp]
    · exact eqIn_ptr hu p 9999 w
  case h_2 e p _ _ hu =>
    refine eqK_sound h w ?_ ?_
    · rintro op (rfl | rfl) <;> simp [binOp]
    · exact eqIn_slice hu p _ _ 9999 w
  case h_3 e e' p hu =>
    refine eqK_sound h w ?_ ?_
    · rintro op (rfl | rfl) <;> simp [binOp]
    · exact eqIn_map hu p 9999 w
  · exact h.elim

theorem binK_sound {P : Program} {op : BinOp} {t : Nat} {x y : Value} {K : Value → Prop} (h : binK P op t x y K) (w : World) :
    ∃ v, (binOp op t x y).run P w = .ok v w ∧ K v := by
  unfold binK at h
  split at h
  case h_1 k a k' b =>
    split at h
    · rename_i e; subst e; exact arK_sound h w
    · cases op <;> simp only at h
      case shl => simp only [arK, Ar, Nn] at h; obtain ⟨h1, h2⟩ := h; exact ⟨_, by simp [binOp, Op.shift, Int.not_lt.2 h1], h2⟩
      case shr => simp only [arK, Ar, Nn] at h; obtain ⟨h1, h2⟩ := h; exact ⟨_, by simp [binOp, Op.shift, Int.not_lt.2 h1], h2⟩
  case h_2 a b =>
    split at h
    · rename_i hu
      refine eqK_sound h w ?_ ?_
      · rintro op (rfl | rfl) <;> simp [binOp]
      · exact eqIn_bool hu a b 9999 w
    · exact h.elim
  case h_3 a b =>
    cases op <;> simp only at h
    · exact ⟨_, rfl, h⟩
    · exact ⟨_, rfl, h⟩
  · exact h.elim
theorem ld1_sound {c : CK} {a : Addr} {h : Hp} {K : c.T → Prop} (hl : Ld1 c a h K) : ∃ x, cell h a = some (c.v x) ∧ K x := by
  cases c <;> exact hl

theorem load_run {P : Program} {w : World} {a : Addr} {v : Value} (h : cell w.heap a = some v) : (load a).run P w = .ok v w := by
  have : w.cell? a = some v := h
  simp [this]

theorem ldN_sound {P : Program} {w : World} : ∀ {cs : List CK} {a : Addr} {i : Nat} {K : List Value → Prop}, LdN cs a i w.heap K →
    ∃ vs, vs.length = cs.length ∧ K vs ∧ ∀ acc, (loadCellsFrom a i cs.length acc).run P w = .ok (acc ++ vs.toArray) w
  | [], a, i, K, h => ⟨[], rfl, h, fun acc => by simp [loadCellsFrom]⟩
  | c :: cs, a, i, K, h => by
    obtain ⟨x, hx, hK⟩ := ld1_sound h
    obtain ⟨vs, hl, hK', hr⟩ := ldN_sound (P := P) hK
    refine ⟨c.v x :: vs, by simp [hl], hK', fun acc => ?_⟩
    simp only [List.length_cons, loadCellsFrom, Sem.run_bind, load_run hx, Result.andThen_ok, hr]
    congr 1
    apply Array.ext'
    simp

theorem isAgg_run {P : Program} {t : Nat} {d : TypeDesc} (h : P.underlying t = some d) (w : World) : (isAgg t).run P w = .ok (isAggD d) w := by
  simp only [isAgg, Sem.run_bind, run_underlying h, Result.andThen_ok]
  cases d <;> rfl

theorem skOf_one {P : Program} {t : Nat} {c : CK} (h : skOf P t = some (.one c)) : ∃ d, P.underlying t = some d ∧ isAggD d = false := by
  unfold skOf at h
  split at h
  · rename_i d hd
    refine ⟨d, hd, ?_⟩
    cases e : isAggD d
    · rfl
    · rw [e] at h; simp at h
  · cases h
theorem skOf_agg {P : Program} {t : Nat} {c : List CK} (h : skOf P t = some (.agg c)) : ∃ d, P.underlying t = some d ∧ isAggD d = true := by
  unfold skOf at h
  split at h
  · rename_i d hd
    refine ⟨d, hd, ?_⟩
    cases e : isAggD d
    · rw [e] at h; simp at h
    · rfl
  · cases h

theorem lenK_sound {P : Program} {t ty : Nat} {x : Value} {K : Value → Prop} {w : World} (h : lenK P t x w.heap K) :
    ∃ v, (Builtin.len_ #[t] ty #[x]).run P w = .ok v w ∧ K v := by
  unfold lenK at h
  split at h
  case h_1 e a n c hu => exact ⟨_, by simp [Builtin.len_, run_underlying hu, goInt], h⟩
  case h_2 s hu => exact ⟨_, by simp [Builtin.len_, run_underlying hu, goInt], h⟩
  case h_3 n e y hu => exact ⟨_, by simp [Builtin.len_, run_underlying hu, goInt], h⟩
  case h_4 kt et m hu =>
    split at h
    case h_1 k c hk hs =>
      obtain ⟨l, hm, hK⟩ := h
      cases m with
      | none => simp only [MapO] at hm; subst hm; exact ⟨_, by simp [Builtin.len_, run_underlying hu, goInt], hK⟩
      | some r =>
        obtain ⟨es, clk, hr, he, _⟩ := hm
        have hlen : es.size = l.length := by simpa using congrArg List.length he
        refine ⟨_, ?_, hK⟩
        simp [Builtin.len_, run_underlying hu, goInt, getObj, Sem.run, hr, hlen]
    · exact h.elim
  · exact h.elim

theorem mmK_sound {P : Program} {w : World} : ∀ {vs : List Value} {v : Value} {b : Bool} {K : Value → Prop}, mmK b v vs K →
    ∃ z, (vs.foldlM (if b then Builtin.max2 else Builtin.min2) v).run P w = .ok z w ∧ K z
  | [], v, b, K, h => ⟨v, by simp, by simpa [mmK] using h⟩
  | u :: vs, v, b, K, h => by
    cases v <;> cases u <;> simp only [mmK] at h <;> try exact h.elim
    case int.int k x k' y =>
      obtain ⟨z, hz, hK⟩ := mmK_sound h
      refine ⟨z, ?_, hK⟩
      cases b
      · simpa [Builtin.min2] using hz
      · simpa [Builtin.max2] using hz

theorem evs_sound {ρ : Env} {a : Act} (hf : ∀ x v, ev ρ x = some v → a.eval x = v) : ∀ {os : List Operand} {vs : List Value}, evs ρ os = some vs → os.map a.eval = vs
  | [], vs, h => by simp [evs] at h; simp [h]
  | o :: os, vs, h => by
    simp only [evs] at h
    split at h
    · rename_i v vs' h1 h2
      cases h
      simp [hf _ _ h1, evs_sound hf h2]
    · cases h
theorem evParts_sound {ρ : Env} {a : Act} (hf : ∀ x v, ev ρ x = some v → a.eval x = v) : ∀ {os : List (Nat × Operand)} {vs : List (Nat × Value)}, evParts ρ os = some vs → os.map (fun (i, x) => (i, a.eval x)) = vs
  | [], vs, h => by simp [evParts] at h; simp [h]
  | (i, o) :: os, vs, h => by
    simp only [evParts] at h
    split at h
    · rename_i v vs' h1 h2
      cases h
      simp [hf _ _ h1, evParts_sound hf h2]
    · cases h

/-! ### maps -/
theorem findNow_spec {k : IntKind} {n : Int} {c : CK} : ∀ (es : List MapEntry) (l : List (Int × c.T)) (i : Nat),
    es.map (fun e => (e.key, e.val)) = l.map (fun x => (Value.int k x.1, c.v x.2)) →
    Instr.findNow (.int k) (.int k n) es i = some (match l.findIdx? (fun x => x.1 == n) with | some j => some (i + j, match l[j]? with | some x => c.v x.2 | none => undef) | none => none)
  | [], l, i, h => by
    cases l with
    | nil => simp [Instr.findNow]
    | cons x l => simp at h
  | e :: es, [], i, h => by simp at h
  | e :: es, x :: l, i, h => by
    simp only [List.map_cons, List.cons.injEq, Prod.mk.injEq] at h
    obtain ⟨⟨h1, h2⟩, h3⟩ := h
    have ih := findNow_spec (n := n) es l (i + 1) h3
    simp only [Instr.findNow, h1, Instr.sameNow, if_true]
    by_cases hx : n = x.1
    · have e1 : (n == x.1) = true := by simpa using hx
      have e2 : (x.1 == n) = true := by simpa using hx.symm
      simp [List.findIdx?_cons, e1, e2, h2]
    · have e1 : (n == x.1) = false := by simpa using hx
      have e2 : (x.1 == n) = false := by simpa using fun h => hx h.symm
      simp only [e1, ih, List.findIdx?_cons, e2]
      cases List.findIdx? (fun x => x.1 == n) l with
      | none => simp
      | some j => simp; omega
theorem findKey_run {P : Program} {kt : Nat} {k : IntKind} (hk : P.underlying kt = some (.int k)) {n : Int} {c : CK} {es : List MapEntry} {l : List (Int × c.T)}
    (he : es.map (fun e => (e.key, e.val)) = l.map (fun x => (Value.int k x.1, c.v x.2))) (w : World) :
    (Instr.findKey kt (.int k n) es).run P w = .ok (match l.findIdx? (fun x => x.1 == n) with | some j => some (j, match l[j]? with | some x => c.v x.2 | none => undef) | none => none) w := by
  simp [Instr.findKey, run_underlying hk, findNow_spec es l 0 he]
theorem checkKey_run' {P : Program} {kt : Nat} {k : IntKind} (hk : P.underlying kt = some (.int k)) (b : Bool) (n : Int) (d : Nat) (w : World) :
    (Instr.checkKey b (d + 1) kt (.int k n)).run P w = .ok () w := by
  simp [Instr.checkKey, run_underlying hk]
theorem checkKey_run {P : Program} {kt : Nat} {k : IntKind} (hk : P.underlying kt = some (.int k)) (b : Bool) (n : Int) (w : World) :
    (Instr.checkKey b 10000 kt (.int k n)).run P w = .ok () w := checkKey_run' hk b n 9999 w
theorem mget_findIdx {α : Type} (l : List (Int × α)) (n : Int) : mget l n = (l.findIdx? (fun x => x.1 == n)).bind fun j => (l[j]?).map (·.2) := by
  induction l with
  | nil => rfl
  | cons x l ih =>
    simp only [mget, List.find?_cons, List.findIdx?_cons] at *
    cases h : x.1 == n
    · simp only [ih]
      cases List.findIdx? (fun x => x.1 == n) l <;> simp
    · simp
theorem findIdx_some {α : Type} {l : List (Int × α)} {n : Int} {j : Nat} (h : l.findIdx? (fun x => x.1 == n) = some j) : ∃ x, l[j]? = some x ∧ x.1 = n := by
  rw [List.findIdx?_eq_some_iff_getElem] at h
  obtain ⟨hj, h1, _⟩ := h
  exact ⟨l[j], by simp [hj], by simpa using h1⟩
theorem lkK_sound {P : Program} {t : Nat} {x i : Value} {ok : Bool} {K : Value → Prop} {w : World} (h : lkK P t x i ok w.heap K) :
    ∃ v, (Instr.lookup t x i ok).run P w = .ok v w ∧ K v := by
  unfold lkK at h
  split at h
  case h_2 => exact h.elim
  rename_i kt et m k n hu
  split at h
  case h_2 => exact h.elim
  rename_i k' c ti hk hs hi
  split at h
  case h_2 => exact h.elim
  rename_i z hz
  split at h
  case isFalse => exact h.elim
  rename_i e; subst e
  obtain ⟨zx, hzx, l, hm, hK⟩ := unv_sound h
  refine ⟨_, ?_, hK⟩
  cases m with
  | none =>
    simp only [MapO] at hm; subst hm
    simp only [Instr.lookup, Sem.run_bind, run_underlying hu, Result.andThen_ok, Sem.run_pure, checkKey_run hk, findKey_run (c := c) (l := []) hk (rfl : List.map _ (#[] : Array MapEntry).toList = _), List.findIdx?_nil, zero_run hi hz]
    cases ok <;> simp [mget, hzx]
  | some r =>
    obtain ⟨es, clk, hr, he, _⟩ := hm
    simp only [Instr.lookup, Sem.run_bind, run_underlying hu, Result.andThen_ok, Sem.run_pure, checkKey_run hk, getObj, Sem.run, hr, findKey_run hk he, mget_findIdx]
    cases hf : l.findIdx? (fun x => x.1 == n) with
    | none => cases ok <;> simp [zero_run hi hz, hzx]
    | some j =>
      obtain ⟨y, hy, _⟩ := findIdx_some hf
      cases ok <;> simp [hy]

theorem foldl_set (off : Nat) : ∀ (vs : List Value) (k : Nat) (cs : Array Value), off + k + vs.length ≤ cs.size →
    ((vs.zipIdx k).foldl (fun cs (c, j) => cs.setIfInBounds (off + j) c) cs).toList = cs.toList.take (off + k) ++ vs ++ cs.toList.drop (off + k + vs.length)
  | [], k, cs, h => by simp
  | v :: vs, k, cs, h => by
    simp only [List.zipIdx_cons, List.foldl_cons]
    rw [foldl_set off vs (k + 1) _ (by simp only [Array.size_setIfInBounds, List.length_cons] at *; omega)]
    simp only [List.length_cons] at h
    have hlt : off + k < cs.toList.length := by simp; omega
    simp only [Array.toList_setIfInBounds, List.length_cons]
    apply List.ext_getElem?
    intro m
    simp only [List.getElem?_append, List.length_take, List.length_set, List.length_append, List.getElem?_take, List.getElem?_set, List.getElem?_drop, List.getElem?_cons, List.length_cons]
    grind

theorem fill_sound (place : Nat → Option (Nat × Nat)) : ∀ (ps : List (Nat × Value)) (cells : List Value) (cs : List Value), fillK place cells ps = some cs → Instr.fill place cells.toArray ps = some cs.toArray
  | [], cells, cs, h => by simp [fillK] at h; simp [Instr.fill, h]
  | (i, v) :: rest, cells, cs, h => by
    simp only [fillK] at h
    simp only [Instr.fill]
    cases hp : place i with
    | none => rw [hp] at h; cases h
    | some os =>
      obtain ⟨off, size⟩ := os
      rw [hp] at h
      simp only at h ⊢
      split at h
      · cases h
      · rename_i hc
        simp only [not_or, Decidable.not_not, Nat.not_lt] at hc
        obtain ⟨h1, h2⟩ := hc
        rw [if_neg (by simp [h1]; omega)]
        have := foldl_set off v.cells.toList 0 cells.toArray (by simp; omega)
        have e : (v.cells.zipIdx.foldl (fun cs (c, j) => cs.setIfInBounds (off + j) c) cells.toArray) = (cells.take off ++ v.cells.toList ++ cells.drop (off + size)).toArray := by
          apply Array.ext'
          rw [← Array.foldl_toList, Array.toList_zipIdx, this]
          simp [h1]
        rw [e]
        exact fill_sound place rest _ _ h

theorem mapM_places {P : Program} {w : World} : ∀ (fs : List Field), (fs.all fun f => (P.info? f.type).isSome) = true →
    (fs.mapM fun f => (do pure (f.offset, ← sizeOf f.type) : Sem (Nat × Nat))).run P w = .ok (fs.map fun f => (f.offset, P.cellsOf f.type)) w
  | [], _ => by simp
  | f :: fs, h => by
    simp only [List.all_cons, Bool.and_eq_true] at h
    have ih := mapM_places (P := P) (w := w) fs h.2
    simp only [List.mapM_cons, Sem.run_bind, sizeOf_run h.1, Result.andThen_ok, Sem.run_pure, ih, List.map_cons]

theorem bldK_sound {P : Program} {t : Nat} {ps : Array (Nat × Value)} {K : Value → Prop} {w : World} (h : bldK P t ps.toList K) :
    ∃ v, (Instr.build t ps).run P w = .ok v w ∧ K v := by
  unfold bldK at h
  split at h
  case h_1 ti fs hi hu =>
    split at h
    case h_2 => exact h.elim
    rename_i z hz
    split at h
    case h_2 => exact h.elim
    rename_i cs hf
    rw [chk_iff] at h
    obtain ⟨hall, hK⟩ := h
    refine ⟨_, ?_, hK⟩
    have hm := mapM_places (P := P) (w := w) fs.toList hall
    have hm' : (fs.mapM fun f => (do pure (f.offset, ← sizeOf f.type) : Sem (Nat × Nat))).run P w = .ok (fs.map fun f => (f.offset, P.cellsOf f.type)) w := by
      rw [Array.mapM_eq_mapM_toList]
      simp only [Sem.run_map, hm, Result.andThen_ok]
      congr 1
      apply Array.ext'
      simp
    have hpl : (fun i => (fs.map fun f => (f.offset, P.cellsOf f.type))[i]?) = plF P fs := by
      funext i
      simp only [plF, Array.getElem?_map]
      cases hfi : fs[i]? with
      | none => simp
      | some f =>
        have hmem : f ∈ fs.toList := by
          have := Array.mem_of_getElem? hfi
          simpa using this
        have := List.all_eq_true.1 hall f hmem
        obtain ⟨ti, hti⟩ := Option.isSome_iff_exists.1 this
        simp [hti, Program.cellsOf]
    have := fill_sound _ _ _ _ hf
    simp only [Instr.build, Sem.run_bind, zero_run hi hz, Result.andThen_ok, run_underlying hu, hm', hpl]
    have e : z.cells.toList.toArray = z.cells := by simp
    rw [e] at this
    simp [this]
  case h_2 ti n e hi hu =>
    split at h
    case h_2 => exact h.elim
    rename_i z te hz hte
    split at h
    case h_2 => exact h.elim
    rename_i cs hf
    refine ⟨_, ?_, h⟩
    have := fill_sound _ _ _ _ hf
    have e1 : z.cells.toList.toArray = z.cells := by simp
    rw [e1] at this
    have hs : (sizeOf e).run P w = .ok te.size w := by simp [sizeOf, info_run hte]
    simp only [Instr.build, Sem.run_bind, zero_run hi hz, Result.andThen_ok, run_underlying hu, hs]
    simp [this]
  · exact h.elim

theorem wv_sound {o : Option Value} {K : Value → Prop} (h : wv o K) : ∃ v, o = some v ∧ K v := by
  cases o with
  | none => exact h.elim
  | some v => exact ⟨v, rfl, h⟩

theorem partK_sound {P : Program} {t off : Nat} {cs : Array Value} {K : Value → Prop} {w : World} (h : partK P t cs.toList off K) :
    ∃ v, (part t cs off).run P w = .ok v w ∧ K v := by
  unfold partK at h
  split at h
  case h_2 => exact h.elim
  rename_i d ti hu hi
  cases hd : isAggD d
  · rw [hd] at h
    obtain ⟨v, hv, hK⟩ := wv_sound h
    refine ⟨v, ?_, hK⟩
    have : cs[off]? = some v := by simpa using hv
    simp [part, isAgg_run hu, hd, this]
  · rw [hd] at h
    refine ⟨_, ?_, h⟩
    simp only [part, Sem.run_bind, isAgg_run hu, hd, Result.andThen_ok, sizeOf, info_run hi, if_true, Sem.run_pure]
    congr 2
    apply Array.ext'
    simp

theorem bound_run {P : Program} {w : World} {z : Int} {y : Nat} {code : BoundsCode} (h0 : 0 ≤ z) (h1 : z ≤ y) : (Instr.sliceBound (.int .i64 z) y code).run P w = .ok z.toNat w := by
  simp [Instr.sliceBound, asIntOf, h0, h1]

theorem optI_inv {o : Option Value} {d l : Int} (h : (match o with | none => some d | some (.int .i64 z) => some z | _ => none) = some l) : (o = none ∧ l = d) ∨ o = some (.int .i64 l) := by
  split at h
  · simp at h; exact .inl ⟨rfl, h.symm⟩
  · simp at h; subst h; exact .inr rfl
  · cases h

theorem slcK_sound {P : Program} {t : Nat} {x : Value} {lo hi mx : Option Value} {K : Value → Prop} {w : World} (h : slcK P t x lo hi mx K) :
    ∃ v, (Instr.sliceAt t x lo hi mx).run P w = .ok v w ∧ K v := by
  unfold slcK at h
  split at h
  case h_2 => exact h.elim
  rename_i e a n c hu
  split at h
  case h_2 => exact h.elim
  rename_i ti hi'
  simp only at h
  split at h
  case h_2 => exact h.elim
  rename_i l hh m hlo hhi hmx
  obtain ⟨h0, h1, h2, h3, hK⟩ := h
  refine ⟨_, ?_, hK⟩
  simp only at h3
  have hsz : (sizeOf e).run P w = .ok ti.size w := by simp [sizeOf, info_run hi']
  have hb : (Instr.sliceBounds true n c lo hi mx).run P w = .ok (l.toNat, hh.toNat, m.toNat) w := by
    have hm : (mx = none ∧ m = c) ∨ (mx = some (.int .i64 m) ∧ hi ≠ none) := by
      split at hmx
      · simp at hmx; exact .inl ⟨rfl, hmx.symm⟩
      · simp at hmx; subst hmx; exact .inr ⟨rfl, by simp⟩
      · cases hmx
    have hl := optI_inv hlo
    have hhh := optI_inv hhi
    clear hlo hhi hmx
    rcases hm with ⟨rfl, rfl⟩ | ⟨rfl, hne⟩ <;> rcases hhh with ⟨rfl, rfl⟩ | rfl
    case inr.inl => exact absurd rfl hne
    all_goals rcases hl with ⟨rfl, rfl⟩ | rfl
    · simp [Instr.sliceBounds]
    · have := bound_run (P := P) (w := w) (z := l) (y := n) (code := .sliceB) h0 (by omega)
      simp [Instr.sliceBounds, this]
    · have := bound_run (P := P) (w := w) (z := hh) (y := c) (code := .sliceAcap) (by omega) (by omega)
      simp [Instr.sliceBounds, this]
    · have := bound_run (P := P) (w := w) (z := hh) (y := c) (code := .sliceAcap) (by omega) (by omega)
      have := bound_run (P := P) (w := w) (z := l) (y := hh.toNat) (code := .sliceB) (by omega) (by omega)
      simp [Instr.sliceBounds, *]
    · have := bound_run (P := P) (w := w) (z := m) (y := c) (code := .slice3Acap) (by omega) (by omega)
      have := bound_run (P := P) (w := w) (z := hh) (y := m.toNat) (code := .slice3B) (by omega) (by omega)
      simp [Instr.sliceBounds, *]
    · have := bound_run (P := P) (w := w) (z := m) (y := c) (code := .slice3Acap) (by omega) (by omega)
      have := bound_run (P := P) (w := w) (z := hh) (y := m.toNat) (code := .slice3B) (by omega) (by omega)
      have := bound_run (P := P) (w := w) (z := l) (y := hh.toNat) (code := .slice3C) (by omega) (by omega)
      simp [Instr.sliceBounds, *]
  simp only [Instr.sliceAt, Instr.slice, Sem.run_bind, run_underlying hu, Result.andThen_ok, hb, hsz, Sem.run_pure]

theorem eqGuard_run {P : Program} {op : BinOp} {t : Nat} {x y : Operand} {a b : Value} (w : World) (h : (∀ cs, a ≠ .agg cs) ∧ a ≠ .nilIface) : (eqGuard op t x y a b).run P w = .ok () w := by
  unfold eqGuard
  cases op <;> simp
  all_goals (cases a <;> first | rfl | (simp at h))

theorem binK_fit {P : Program} {op : BinOp} {t : Nat} {x y : Value} {K : Value → Prop} (h : binK P op t x y K) : (∀ cs, x ≠ .agg cs) ∧ x ≠ .nilIface := by
  unfold binK at h
  split at h <;> first | exact absurd h id | (constructor <;> simp)
theorem nilK_fit {P : Program} {op : BinOp} {t : Nat} {x y : Value} {K : Value → Prop} (h : nilK P op t x y K) : (∀ cs, x ≠ .agg cs) ∧ x ≠ .nilIface := by
  unfold nilK at h
  split at h <;> first | exact absurd h id | (constructor <;> simp)

theorem fldK_inv {P : Program} {s f : Nat} {K : Field → Prop} (h : fldK P s f K) : ∃ fs fd, P.underlying s = some (.struct fs) ∧ fs[f]? = some fd ∧ K fd := by
  unfold fldK at h
  split at h
  · split at h
    · exact ⟨_, _, by assumption, by assumption, h⟩
    · exact h.elim
  · exact h.elim

theorem cellsOf_some {P : Program} {t : Nat} (h : P.cellsOf t ≠ 0) : (P.info? t).isSome = true := by
  unfold Program.cellsOf at h
  cases hi : P.info? t with
  | none => rw [hi] at h; simp at h
  | some i => rfl

theorem evO_sound {ρ : Env} {a : Act} (hf : ∀ x v, ev ρ x = some v → a.eval x = v) {o : Option Operand} {v : Option Value} (h : evO ρ o = some v) : o.map a.eval = v := by
  cases o with
  | none => simp [evO] at h; simp [h]
  | some o =>
    simp only [evO, Option.map_eq_some_iff] at h
    obtain ⟨u, hu, rfl⟩ := h
    simp [hf _ _ hu]

theorem part_one {P : Program} {t : Nat} {d : TypeDesc} {cs : Array Value} {off : Nat} {v : Value} {w : World} (hd : P.underlying t = some d) (hag : isAggD d = false) (h : cs.toList[off]? = some v) : (part t cs off).run P w = .ok v w := by
  have h' : cs[off]? = some v := by simpa using h
  simp [part, isAgg_run hd, hag, h']

theorem eqFs_run {P : Program} {xs ys : Array Value} (d : Nat) : ∀ (fs : List Field) (b : Bool), eqFs P xs.toList ys.toList fs = some b → ∀ w, (Op.eqFields (d + 1) xs ys fs).run P w = .ok b w
  | [], b, h, w => by simp [eqFs] at h; subst h; simp [Op.eqFields]
  | f :: fs, b, h, w => by
    simp only [eqFs] at h
    cases hn : f.name == "_"
    · rw [hn] at h
      simp only [cond_false] at h
      have hne : f.name ≠ "_" := by simpa using hn
      split at h
      · rename_i k0 k a k' b' r hu hx hy hr
        split at h
        case isFalse => cases h
        rename_i e; subst e
        simp only [Option.some.injEq] at h; subst h
        have ih := eqFs_run (d := d) fs r hr w
        simp only [Op.eqFields, hne, ne_eq, not_false_eq_true, if_true, Sem.run_bind, part_one hu rfl hx, part_one hu rfl hy, Result.andThen_ok, run_equalIn_int w d f.type k k0 a b' hu]
        cases hab : a == b' <;> simp [ih]
      · rename_i a b' r hu hx hy hr
        simp only [Option.some.injEq] at h; subst h
        have ih := eqFs_run (d := d) fs r hr w
        simp only [Op.eqFields, hne, ne_eq, not_false_eq_true, if_true, Sem.run_bind, part_one hu rfl hx, part_one hu rfl hy, Result.andThen_ok, run_equalIn_bool' w d f.type a b' hu]
        cases hab : a == b' <;> simp [ih]
      · cases h
    · rw [hn] at h; cases h

theorem aggK_sound {P : Program} {op : BinOp} {t : Nat} {xs ys : Array Value} {K : Value → Prop} (h : aggK P op t xs.toList ys.toList K) (x y : Operand) (w : World) :
    ∃ v, (do eqGuard op t x y (.agg xs) (.agg ys); binOp op t (.agg xs) (.agg ys) : Sem Value).run P w = .ok v w ∧ K v := by
  unfold aggK at h
  split at h
  case h_2 => exact h.elim
  rename_i fs hu
  rw [chk_iff] at h
  obtain ⟨hc, h⟩ := h
  simp only [Bool.and_eq_true, Bool.not_eq_true'] at hc
  split at h
  case h_2 => exact h.elim
  rename_i b hb
  have hfo : P.fieldsOf t = fs := by simp [Program.fieldsOf, hu]
  have hrun : (Op.equalIn 10000 t (.agg xs) (.agg ys)).run P w = .ok b w := by
    have := run_equalIn_struct (P := P) w 9999 t xs ys (by rw [hfo]; exact hu) hc.1
    rw [hfo] at this
    exact this.trans (eqFs_run 9998 fs.toList b hb w)
  have hg := run_eqGuard_agg (P := P) w op t x y xs ys hc.2
  cases op <;> simp only [eqK] at h
  · exact ⟨_, by simp only [Sem.run_bind, hg, Result.andThen_ok, run_eql_struct, hrun], h⟩
  · exact ⟨_, by simp only [Sem.run_bind, hg, Result.andThen_ok, run_neq_struct, hrun], h⟩

theorem qK_sound {P : Program} {ρ : Env} {K : Value → Prop} {a : Act} {w : World} (hf : ∀ x v, ev ρ x = some v → a.eval x = v) (o : Oper) (hk : qK P o.op ρ w.heap K) :
    ∃ v, (execOp a.eval o).run P w = .ok (.value v) w ∧ K v := by
  obtain ⟨dst, op, ty, pos, after, guard⟩ := o
  simp only at hk
  have lift : ∀ {s : Sem Value}, (∃ v, s.run P w = .ok v w ∧ K v) → ∃ v, (do pure (Next.value (← s)) : Sem Next).run P w = .ok (.value v) w ∧ K v := by
    rintro s ⟨v, hv, hK⟩
    exact ⟨v, by simp [hv], hK⟩
  unfold qK at hk
  split at hk
  case h_1 x =>
    obtain ⟨v, hv, hK⟩ := wv_sound hk
    exact ⟨v, by simp [execOp, hf _ _ hv], hK⟩
  case h_2 x =>
    obtain ⟨v, hv, hK⟩ := wv_sound hk
    exact ⟨v, by simp [execOp, hf _ _ hv], hK⟩
  case h_3 c x y =>
    obtain ⟨v, hv, hK⟩ := wv_sound hk
    split at hK
    · obtain ⟨u, hu, hK⟩ := wv_sound hK
      exact ⟨u, by simp [execOp, hf _ _ hv, asBool, hf _ _ hu], hK⟩
    · obtain ⟨u, hu, hK⟩ := wv_sound hK
      exact ⟨u, by simp [execOp, hf _ _ hv, asBool, hf _ _ hu], hK⟩
    · exact hK.elim
  case h_4 t x =>
    obtain ⟨v, hv, hK⟩ := wv_sound hk
    simp only [execOp, hf _ _ hv]
    apply lift
    split at hK
    case h_1 ad c hs =>
      rw [chk_iff] at hK
      obtain ⟨d, hd, hag⟩ := skOf_one hs
      obtain ⟨x, hx, hK⟩ := ld1_sound hK.2
      exact ⟨_, by simp only [Instr.loadAt, Instr.sureAddr, loadVar, Sem.run_bind, Sem.run_pure, Result.andThen_ok, isAgg_run hd, hag]; simpa using load_run hx, hK⟩
    case h_2 ad cs hs =>
      rw [chk_iff, chk_iff] at hK
      obtain ⟨h1, h2, hK⟩ := hK
      obtain ⟨d, hd, hag⟩ := skOf_agg hs
      obtain ⟨vs, hl, hK, hr⟩ := ldN_sound (P := P) hK
      have h1' : P.cellsOf t = cs.length := by simpa using h1
      refine ⟨_, ?_, hK⟩
      simp only [Instr.loadAt, Instr.sureAddr, loadVar, Sem.run_bind, Sem.run_pure, Result.andThen_ok, isAgg_run hd, hag, if_true, sizeOf_run h2, loadCells, h1', hr]
      simp
    · exact hK.elim
  case h_5 x =>
    obtain ⟨v, hv, hK⟩ := wv_sound hk
    simp only [execOp, hf _ _ hv]
    split at hK
    · obtain ⟨ad, rfl, hK⟩ := hK
      exact ⟨_, by simp, hK⟩
    · exact ⟨_, by simp, hK⟩
    · exact hK.elim
  case h_6 op t x y yt =>
    obtain ⟨vx, hx, hk⟩ := wv_sound hk
    obtain ⟨vy, hy, hk⟩ := wv_sound hk
    simp only [execOp, hf _ _ hx, hf _ _ hy]
    apply lift
    unfold bin2K at hk
    split at hk
    · exact aggK_sound hk x y w
    cases hn : isNilC y
    · rw [hn] at hk
      simp only [cond_false] at hk
      obtain ⟨v, hv, hK⟩ := binK_sound hk w
      exact ⟨v, by simp [eqGuard_run w (binK_fit hk), hv], hK⟩
    · rw [hn] at hk
      simp only [cond_true] at hk
      obtain ⟨v, hv, hK⟩ := nilK_sound hk w
      exact ⟨v, by simp [eqGuard_run w (nilK_fit hk), hv], hK⟩
  case h_7 op ty' x =>
    obtain ⟨vx, hx, hk⟩ := wv_sound hk
    simp only [execOp, hf _ _ hx]
    apply lift
    split at hk
    · exact ⟨_, by simp [Op.unary], hk⟩
    · exact ⟨_, by simp [Op.unary, Op.intArith], hk⟩
    · exact hk.elim
  case h_8 s d x =>
    obtain ⟨vx, hx, hk⟩ := wv_sound hk
    simp only [execOp, hf _ _ hx]
    apply lift
    split at hk
    · rename_i h1 h2
      exact ⟨_, by simp [convert, run_underlying h1, run_underlying h2, Conv.intToInt], hk⟩
    · rename_i h1 h2
      exact ⟨_, by simp [convert, run_underlying h1, run_underlying h2], hk⟩
    · exact hk.elim
  case h_9 s x f =>
    obtain ⟨vx, hx, hk⟩ := wv_sound hk
    obtain ⟨fs, fd, hs, hfd, hk⟩ := fldK_inv hk
    simp only [execOp, hf _ _ hx]
    apply lift
    split at hk
    · rename_i ad
      rw [chk_iff] at hk
      have hne : P.cellsOf fd.type ≠ 0 := by simpa using hk.1
      refine ⟨_, ?_, hk.2⟩
      simp only [Instr.fieldAt, Sem.run_bind, run_underlying hs, Result.andThen_ok, hfd, Instr.sureAddr, Sem.run_pure, fieldPlace, sizeOf_run (cellsOf_some hne), hne, if_false]
    · exact hk.elim
  case h_10 s x f =>
    obtain ⟨vx, hx, hk⟩ := wv_sound hk
    obtain ⟨fs, fd, hs, hfd, hk⟩ := fldK_inv hk
    simp only [execOp, hf _ _ hx]
    apply lift
    split at hk
    · rename_i cs
      obtain ⟨v, hv, hK⟩ := partK_sound (w := w) hk
      refine ⟨v, ?_, hK⟩
      simp only [Instr.field, Sem.run_bind, run_underlying hs, Result.andThen_ok, hfd, asAgg, Sem.run_pure, hv]
    · exact hk.elim
  case h_11 t x i =>
    obtain ⟨vx, hx, hk⟩ := wv_sound hk
    obtain ⟨vi, hi, hk⟩ := wv_sound hk
    simp only [execOp, hf _ _ hx, hf _ _ hi]
    apply lift
    split at hk
    · have hu := (by assumption : P.underlying t = some _)
      rw [chk_iff] at hk
      obtain ⟨h1, ad, rfl, h2, h3, hK⟩ := hk
      refine ⟨_, ?_, hK⟩
      simp [Instr.indexAt, asIntOf, run_underlying hu, sizeOf_run h1, h2, h3]
    · have hu := (by assumption : P.underlying t = some _)
      rw [chk_iff] at hk
      obtain ⟨h1, h2, h3, hK⟩ := hk
      refine ⟨_, ?_, hK⟩
      simp [Instr.indexAt, asIntOf, run_underlying hu, sizeOf_run h1, h2, h3, Instr.sureAddr]
    · exact hk.elim
  case h_12 t x i =>
    obtain ⟨vx, hx, hk⟩ := wv_sound hk
    obtain ⟨vi, hi, hk⟩ := wv_sound hk
    simp only [execOp, hf _ _ hx, hf _ _ hi]
    apply lift
    split at hk
    · have hu := (by assumption : P.underlying t = some _)
      obtain ⟨b, h1, h2, hK⟩ := hk
      refine ⟨_, ?_, hK⟩
      simp [Instr.index, asIntOf, run_underlying hu, h1, h2]
    · exact hk.elim
  case h_13 t x i ok =>
    obtain ⟨vx, hx, hk⟩ := wv_sound hk
    obtain ⟨vi, hi, hk⟩ := wv_sound hk
    simp only [execOp, hf _ _ hx, hf _ _ hi]
    exact lift (lkK_sound hk)
  case h_14 t i =>
    obtain ⟨vx, hx, hk⟩ := wv_sound hk
    simp only [execOp, hf _ _ hx]
    apply lift
    split at hk
    · obtain ⟨v, hv, hK⟩ := wv_sound hk
      have hv' := hv
      rw [Array.getElem?_toList] at hv'
      exact ⟨v, by simp [Instr.extract, hv'], hK⟩
    · exact hk.elim
  case h_15 fn x y =>
    split at hk
    · rename_i va vb h1 h2
      have e1 := evs_sound hf h1
      have e2 := evs_sound hf h2
      refine ⟨_, ?_, hk⟩
      have e1' : x.map a.eval = va.toArray := by apply Array.ext'; simpa using e1
      have e2' : y.map a.eval = vb.toArray := by apply Array.ext'; simpa using e2
      simp [execOp, Instr.makeFunc, e1', e2']
    · exact hk.elim
  case h_16 t ps =>
    split at hk
    · rename_i vs h1
      have e1 := evParts_sound hf h1
      have e1' : ps.map (fun (i, x) => (i, a.eval x)) = vs.toArray := by apply Array.ext'; simpa using e1
      simp only [execOp]
      apply lift
      rw [e1']
      exact bldK_sound (by simpa using hk)
    · exact hk.elim
  case h_17 t x lo hi mx =>
    obtain ⟨vx, hx, hk⟩ := wv_sound hk
    simp only [execOp, hf _ _ hx]
    apply lift
    split at hk
    · rename_i l h m h1 h2 h3
      rw [evO_sound hf h1, evO_sound hf h2, evO_sound hf h3]
      exact slcK_sound hk
    · exact hk.elim
  case h_18 t x =>
    obtain ⟨vx, hx, hk⟩ := wv_sound hk
    rw [chk_iff] at hk
    simp only [execOp, hf _ _ hx]
    exact ⟨_, by simp [run_makeInterface w t vx hk.1], hk.2⟩
  case h_19 c =>
    obtain ⟨callee, args, ats⟩ := c
    simp only at hk
    split at hk
    · rename_i x t ha ht
      have ha' := evs_sound hf ha
      have e1 : args.map a.eval = #[x] := by apply Array.ext'; simpa using ha'
      have e2 : ats = #[t] := by apply Array.ext'; simpa using ht
      subst e2
      obtain ⟨v, hv, hK⟩ := lenK_sound (ty := ty) hk
      refine ⟨v, ?_, hK⟩
      simp [execOp, resolve, e1, invoke, builtin, hv]
    · rename_i ad l n t ha ht
      have ha' := evs_sound hf ha
      have e1 : args.map a.eval = #[.slice ad l n] := by apply Array.ext'; simpa using ha'
      have e2 : ats = #[t] := by apply Array.ext'; simpa using ht
      subst e2
      split at hk
      · rename_i hu
        refine ⟨_, ?_, hk⟩
        simp [execOp, resolve, e1, invoke, builtin, Builtin.cap_, run_underlying hu, goInt]
      · exact hk.elim
    · rename_i x xs ha
      have ha' := evs_sound hf ha
      have e1 : args.map a.eval = (x :: xs).toArray := by apply Array.ext'; simpa using ha'
      obtain ⟨v, hv, hK⟩ := mmK_sound (P := P) (w := w) hk
      refine ⟨v, ?_, hK⟩
      simp only [if_true] at hv
      simp [execOp, resolve, e1, invoke, builtin, Builtin.max_, hv]
    · rename_i x xs ha
      have ha' := evs_sound hf ha
      have e1 : args.map a.eval = (x :: xs).toArray := by apply Array.ext'; simpa using ha'
      obtain ⟨v, hv, hK⟩ := mmK_sound (P := P) (w := w) hk
      refine ⟨v, ?_, hK⟩
      simp only [Bool.false_eq_true, if_false] at hv
      simp [execOp, resolve, e1, invoke, builtin, Builtin.min_, hv]
    · exact hk.elim
  · exact hk.elim

end Go.Vc
