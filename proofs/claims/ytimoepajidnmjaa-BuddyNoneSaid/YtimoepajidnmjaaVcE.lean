/- append, make, and every operation that is not quiet: what each asks is enough. -/
import Derived.Test.YtimoepajidnmjaaVcD
namespace Go.Vc
open Go
set_option linter.unusedSimpArgs false
set_option linter.unusedVariables false

theorem rd_run {P : Program} {w : World} {sz n : Nat} {s : Sl} {xs : List Value} (hl : xs.length = s.len * sz) (h : Rd w.heap s.a xs) (hn : n = s.len) :
    (Builtin.firstCells sz n (.slice s.a s.len s.cap)).run P w = .ok xs.toArray w := by
  subst hn
  obtain ⟨a, len, cap⟩ := s
  cases a with
  | none => simp only [Rd] at h; subst h; simp [Builtin.firstCells]
  | some a =>
    simp only at hl h
    simp only [Builtin.firstCells]
    rw [← hl]
    have := run_loadCells_list (P := P) (w := w) a xs (fun j v hv => h j v hv)
    exact this

theorem zeroCells_eq {z : Array Value} (hz : 0 < z.size) : ∀ n, Builtin.zeroCells z n = (List.replicate n z.toList).flatten.toArray := by
  intro n
  apply Array.ext'
  simp only [Builtin.zeroCells, Array.toList_map, Array.toList_range]
  induction n with
  | zero => simp
  | succ n ih =>
    rw [List.replicate_succ', List.flatten_append]
    simp only [List.flatten_cons, List.flatten_nil, List.append_nil]
    rw [← ih]
    rw [Nat.succ_mul, List.range_add, List.map_append, List.map_map]
    congr 1
    apply List.ext_getElem
    · simp
    · intro i h1 h2
      simp at h1 h2
      simp [Nat.mod_eq_of_lt h1, h1]

theorem nextcap_le (n c : Nat) (h : ¬ n ≤ c) : Builtin.nextslicecap n c ≤ 2 * n := by
  unfold Builtin.nextslicecap
  split
  · omega
  · split
    · omega
    · have key : ∀ r c, c ≤ 2 * n → (Builtin.growBy n r c) ≤ 2 * n := by
        intro r
        induction r with
        | zero => intro c hc; simpa [Builtin.growBy] using hc
        | succ r ih =>
          intro c hc
          simp only [Builtin.growBy]
          split
          · exact hc
          · exact ih _ (by omega)
      exact key _ _ (by omega)

theorem app_run {P : Program} {t e ty : Nat} {te : TypeInfo} {z : Value} {s x : Sl} {K : Sl → Hp → Prop} {w : World} (hu : P.underlying t = some (.slice e)) (hi : P.info? e = some te) (hz : te.zero = some z) (hzs : z.cells.size = te.size) (hpos : 0 < te.size)
    (h : App s te.size te.bytes e z.cells.toList x w.heap K) :
    ∃ r w', (Builtin.append_ #[t, t] ty #[.slice s.a s.len s.cap, .slice x.a x.len x.cap]).run P w = .ok (.slice (Sl.a r) r.len r.cap) w' ∧ IOsame w w' ∧ K r w'.heap := by
  obtain ⟨xs, ys, h1, h2, h3, h4, hoy, h5, h6, hin, hout⟩ := h
  have hxs := rd_run (P := P) (n := s.len) h1 h3 rfl
  have hysr := rd_run (P := P) (n := x.len) h2 h4 rfl
  by_cases hroom : s.len + x.len ≤ s.cap
  · have hin := hin hroom
    cases hsa : s.a with
    | some a =>
      rw [hsa] at hin
      obtain ⟨w', hr, io, hK⟩ := stN_run (P := P) hoy hin
      rw [hsa] at hxs
      refine ⟨⟨some a, s.len + x.len, s.cap⟩, w', ?_, io, hK⟩
      simp [Builtin.append_, run_underlying hu, sizeOf, typeInfo, hi, Builtin.lenOf, hroom, hysr, hr]
    | none =>
      rw [hsa] at hin
      rw [hsa] at hxs
      refine ⟨⟨none, s.len + x.len, s.cap⟩, w, ?_, .refl _, hin⟩
      simp [Builtin.append_, run_underlying hu, sizeOf, typeInfo, hi, Builtin.lenOf, hroom, hysr]
  · have hout := hout hroom
    have hcapb : ¬ (2 ^ 48 < Builtin.nextslicecap (s.len + x.len) s.cap * te.bytes) := by
      have := nextcap_le (s.len + x.len) s.cap hroom
      have : Builtin.nextslicecap (s.len + x.len) s.cap * te.bytes ≤ 2 * (s.len + x.len) * te.bytes := Nat.mul_le_mul_right _ this
      rw [Nat.mul_assoc] at this
      omega
    have hbig : ¬ (IntKind.i64.max < ((s.len + x.len : Nat) : Int)) := by
      have : IntKind.i64.max = 9223372036854775807 := by decide
      rw [this]; omega
    have hbig2 : ¬ (IntKind.i64.max < ((s.len : Int) + (x.len : Int))) := by
      have : IntKind.i64.max = 9223372036854775807 := by decide
      rw [this]; omega
    have hzc := zeroCells_eq (z := z.cells) (by omega)
    have hroom' : s.cap < s.len + x.len := by omega
    have hcapb' : ¬ (281474976710656 < Builtin.nextslicecap (s.len + x.len) s.cap * te.bytes) := by simpa using hcapb
    let q := Question.appendCap (s.len + x.len) s.cap e
    let c := q.cut (w.tape w.drawn q)
    have hc : s.len + x.len ≤ c := by simp only [c, q, Question.cut]; omega
    have hK := hout c hc
    refine ⟨⟨some ⟨w.heap.size, 0, none⟩, s.len + x.len, c⟩, { w with drawn := w.drawn + 1, heap := w.heap.push (.cells (xs ++ ys ++ (List.replicate (c - (s.len + x.len)) z.cells.toList).flatten).toArray e (0, 0)) }, ?_, ⟨rfl, rfl, rfl, by simp⟩, hK⟩
    have hf : (Question.appendCap (s.len + x.len) s.cap e).forced = false := rfl
    have h63 : ¬ (9223372036854775807 < (s.len : Int) + (x.len : Int)) := by omega
    have hxs' := rd_run (P := P) (w := w.drew) (n := s.len) h1 (show Rd w.drew.heap s.a xs from h3) rfl
    have hysr' := rd_run (P := P) (w := w.drew) (n := x.len) h2 (show Rd w.drew.heap x.a ys from h4) rfl
    simp [Builtin.append_, run_underlying hu, sizeOf, typeInfo, hi, Builtin.lenOf, hroom, h63, hf, hcapb', hxs', hysr', zeroValue, hz, hzc, newRow]
    refine ⟨rfl, ?_⟩
    unfold World.alloc World.drew
    simp [c, q]

theorem bsK_inv {P : Program} {t len : Nat} {ps : List (Nat × Value)} {K : TypeId → List Value → Prop} (h : bsK P t len ps K) : ∃ e te z cs, P.underlying t = some (.slice e) ∧ P.info? e = some te ∧ te.zero = some z ∧ K e cs ∧
    ((len = 0 ∧ ps = [] ∧ cs = []) ∨ (len * te.size ≤ 16777216 ∧ 0 < len * te.size ∧ z.cells.size = te.size ∧ fillK (fun i => some (i * te.size, te.size)) (List.replicate len z.cells.toList).flatten ps = some cs)) := by
  unfold bsK at h
  split at h
  case h_2 => exact h.elim
  rename_i e hu
  split at h
  case h_2 => exact h.elim
  rename_i te hi
  split at h
  case h_2 => exact h.elim
  rename_i z hz
  split at h
  · exact ⟨e, te, z, [], hu, hi, hz, h, .inl ⟨rfl, rfl, rfl⟩⟩
  · exact h.elim
  · rw [chk_iff] at h
    obtain ⟨hc, h⟩ := h
    simp only [Bool.and_eq_true, beq_iff_eq] at hc
    split at h
    case h_2 => exact h.elim
    rename_i cs hf
    exact ⟨e, te, z, cs, hu, hi, hz, h, .inr ⟨Nat.le_of_ble_eq_true hc.1.1, Nat.blt_eq.mp hc.1.2, hc.2, hf⟩⟩

theorem range_zero {z : Array Value} (hz : 0 < z.size) (n : Nat) : ((Array.range (n * z.size)).map (z[· % z.size]!)) = (List.replicate n z.toList).flatten.toArray := zeroCells_eq hz n

theorem eK_sound {P : Program} {ρ : Env} {K : Value → Hp → Prop} {a : Act} {w : World} (hf : ∀ x v, ev ρ x = some v → a.eval x = v) (o : Oper) (hk : eK P o.op o.type ρ w.heap K) :
    Leaves P (execOp a.eval o) w K := by
  obtain ⟨dst, op, ty, pos, after, guard⟩ := o
  simp only at hk
  have liftV : ∀ {s : Sem Value}, (∃ v w', s.run P w = .ok v w' ∧ IOsame w w' ∧ K v w'.heap) → Leaves P (do pure (Next.value (← s)) : Sem Next) w K := by
    rintro s ⟨v, w', hv, io, hK⟩
    exact .inl ⟨v, w', by simp [hv], io, hK⟩
  have liftU : ∀ {s : Sem Unit}, (∃ w', s.run P w = .ok () w' ∧ IOsame w w' ∧ K undef w'.heap) → Leaves P (do s; pure Next.skip : Sem Next) w K := by
    rintro s ⟨w', hv, io, hK⟩
    exact .inr (.inl ⟨w', by simp [hv], io, hK⟩)
  unfold eK at hk
  split at hk
  case h_1 t x y =>
    obtain ⟨va, ha, hk⟩ := wv_sound hk
    obtain ⟨vx, hx, hk⟩ := wv_sound hk
    simp only [execOp, hf _ _ ha, hf _ _ hx]
    split at hk
    · rename_i ad
      rw [chk_iff] at hk
      obtain ⟨hc, hk⟩ := hk
      simp only [Bool.and_eq_true, beq_iff_eq, List.all_eq_true] at hc
      obtain ⟨⟨h1, h2⟩, h3⟩ := hc
      apply liftU
      obtain ⟨w', hr, io, hK⟩ := stK_run (P := P) h3 hk
      refine ⟨w', ?_, io, hK⟩
      simp only [Instr.storeAt, Instr.sureAddr, Sem.run_bind, Sem.run_pure, Result.andThen_ok, storeVar, sizeOf_run h1, h2, ne_eq, not_true_eq_false, if_false]
      simpa using hr
    · exact hk.elim
  case h_2 e =>
    split at hk
    case h_2 => exact hk.elim
    rename_i te hi
    split at hk
    case h_2 => exact hk.elim
    rename_i z hz
    apply liftV
    refine ⟨_, _, ?_, push_io _ _, hk⟩
    simp [Instr.alloc, zero_run hi hz, newVar, newRow, newObj, Sem.run]
  case h_3 e x =>
    obtain ⟨v, hv, hk⟩ := wv_sound hk
    simp only [execOp, hf _ _ hv]
    apply liftV
    refine ⟨_, _, ?_, push_io _ _, hk⟩
    simp [Instr.box, newVar, newRow, newObj, Sem.run]
  case h_4 t len ps =>
    split at hk
    case h_2 => exact hk.elim
    rename_i vs hps
    have e1 := evParts_sound hf hps
    have e1' : ps.map (fun (i, x) => (i, a.eval x)) = vs.toArray := by apply Array.ext'; simpa using e1
    obtain ⟨e, te, z, cs, hu, hi, hz, hk, hcase⟩ := bsK_inv hk
    simp only [execOp, e1']
    apply liftV
    refine ⟨_, _, ?_, push_io _ _, hk⟩
    rcases hcase with ⟨rfl, rfl, rfl⟩ | ⟨hle, hpos, hzs, hfl⟩
    · simp only [Instr.buildSlice, Sem.run_bind, run_underlying hu, Result.andThen_ok, sizeOf, info_run hi, Sem.run_pure, Nat.zero_mul]
      simp [Instr.fill, newRow, newObj, Sem.run, Array.range_zero']
    have hts : 0 < te.size := Nat.pos_of_mul_pos_left hpos
    have hfill := fill_sound _ _ _ _ hfl
    have hrz := range_zero (z := z.cells) (by omega) len
    rw [hzs] at hrz
    have hne : ¬ (len * te.size = 0) := by omega
    have hle' : ¬ (len * te.size > 2 ^ 24) := by have : (2:Nat) ^ 24 = 16777216 := by decide
                                                 omega
    simp only [Instr.buildSlice, Sem.run_bind, run_underlying hu, Result.andThen_ok, sizeOf, info_run hi, Sem.run_pure, hle', if_false, hne, zero_run hi hz, hrz, hzs, hfill, newRow, newObj, Sem.run]
  case h_5 t r =>
    split at hk
    · apply liftV
      refine ⟨_, _, ?_, push_io _ _, hk⟩
      simp [Instr.makeMap, newObj, Sem.run]
    · exact hk.elim
  case h_6 t l c =>
    obtain ⟨vl, hl, hk⟩ := wv_sound hk
    obtain ⟨vc, hc, hk⟩ := wv_sound hk
    simp only [execOp, hf _ _ hl, hf _ _ hc]
    split at hk
    case h_2 => exact hk.elim
    rename_i e n m hu _
    split at hk
    case h_2 => exact hk.elim
    rename_i te hi
    split at hk
    case h_2 => exact hk.elim
    rename_i z hz
    rw [chk_iff] at hk
    obtain ⟨hcs, h0, h1, h2, h3, hk⟩ := hk
    simp only [Bool.and_eq_true, beq_iff_eq] at hcs
    have hpos : 0 < te.size := Nat.blt_eq.mp hcs.2
    apply liftV
    refine ⟨_, _, ?_, push_io _ _, hk⟩
    have hwn : IntKind.i64.wrap n = n := by unfold IntKind.wrap; simp [IntKind.bits, IntKind.signed]; omega
    have hwm : IntKind.i64.wrap m = m := by unfold IntKind.wrap; simp [IntKind.bits, IntKind.signed]; omega
    have hbig : ¬ ((te.bytes : Int) * m > 2 ^ 48) := by
      have : (2:Int) ^ 46 ≤ 2 ^ 48 := by decide
      omega
    have hm0 : ¬ m < 0 := by omega
    have hn0 : ¬ n < 0 := by omega
    have hnm : ¬ n > m := by omega
    have hnm' : ¬ m < n := by omega
    have hrz := range_zero (z := z.cells) (by omega) m.toNat
    have hrz2 : Array.map (fun x => z.cells[x % z.cells.size]!) (Array.range (m.toNat * te.size)) = (List.replicate m.toNat z.cells.toList).flatten.toArray := by rw [← hcs.1]; exact hrz
    have hbig' : ¬ (281474976710656 < (te.bytes : Int) * m) := by simpa using hbig
    by_cases hz0 : m.toNat * te.size = 0
    · have hmz : m.toNat = 0 := by
        rcases Nat.mul_eq_zero.1 hz0 with h | h
        · exact h
        · omega
      simp [Instr.makeSlice, run_underlying hu, info_run hi, asInt, asIntOf, hwn, hwm, hbig', hm0, hn0, hnm, hnm', askRoom, mark, sizeOf, hmz, newRow]
      rw [show Array.range 0 = #[] from rfl]; simp
    · simp [Instr.makeSlice, run_underlying hu, info_run hi, asInt, asIntOf, hwn, hwm, hbig', hm0, hn0, hnm, hnm', askRoom, mark, sizeOf, hz0, zero_run hi hz, newRow, hrz2]
      intro _; rfl
  case h_7 t x =>
    obtain ⟨v, hv, hk1⟩ := wv_sound hk
    obtain ⟨kt, et, ki, c, hu, hku, hk2⟩ := keyKs_inv hk1
    clear hk hk1
    simp only [execOp, hf _ _ hv]
    split at hk2
    case h_2 => exact hk2.elim
    rename_i m
    apply liftV
    obtain ⟨l, hm, hK⟩ := hk2
    cases m with
    | none =>
      refine ⟨_, { w with heap := w.heap.push (.mapIter none 0 #[] 0) }, ?_, push_io _ _, hK _ (by simp) (fun b hb => by simp [Array.getElem?_push, Nat.ne_of_lt hb]) ?_⟩
      · simp [Instr.range, run_underlying hu, newObj, Sem.run]
      · simp only [MapO] at hm
        exact ⟨hm, hm, rfl, 0, #[], 0, by simp⟩
    | some b =>
      obtain ⟨es, clk, hr, he, hn, hp, hb⟩ := hm
      have hlt : b < w.heap.size := (Array.getElem?_eq_some_iff.1 hr).1
      refine ⟨_, { w with heap := w.heap.push (.mapIter (some b) clk #[] clk) }, ?_, push_io _ _, hK _ (by simp) (fun b hb => by simp [Array.getElem?_push, Nat.ne_of_lt hb]) ?_⟩
      · simp [Instr.range, run_underlying hu, newObj, getObj, Sem.run, hr]
      · exact ⟨es, clk, #[], by simp, by simp [Array.getElem?_push, Nat.ne_of_lt hlt, hr], he, hn, hp, hb, by rw [List.filter_eq_self.2 (fun e _ => by simp)]; exact he, fun x hx => by cases hx⟩
  case h_8 t m k x =>
    obtain ⟨vm, hm, hk1⟩ := wv_sound hk
    obtain ⟨vk, hkk, hk2⟩ := wv_sound hk1
    obtain ⟨vx, hx, hk3⟩ := wv_sound hk2
    obtain ⟨kt, et, ki, c, hu, hku, hk4⟩ := keyKs_inv hk3
    clear hk hk1 hk2 hk3
    simp only [execOp, hf _ _ hm, hf _ _ hkk, hf _ _ hx]
    split at hk4
    · split at hk4
      · rename_i e; subst e
        obtain ⟨x, rfl, r, l, rfl, hl, hK⟩ := unv_sound hk4
        apply liftU
        obtain ⟨w', hr, io, ho, hl'⟩ := mset_run (P := P) hu hku (x := x) hl
        exact ⟨w', hr, io, hK _ ho hl'⟩
      · exact hk4.elim
    · exact hk4.elim
  case h_9 c =>
    obtain ⟨callee, args, ats⟩ := c
    simp only at hk
    split at hk
    · rename_i f args' ha
      have e1 := evs_sound hf ha
      have e1' : args.map a.eval = args'.toArray := by apply Array.ext'; simpa using e1
      have := callK_leaves hk
      simpa [execOp, resolve, e1', Act.eval, Deferred.ofValue, invoke] using this
    · rename_i g args' _ ha
      obtain ⟨vg, hg, hk⟩ := wv_sound hk
      obtain ⟨fv, rfl, hk⟩ := unv_sound hk
      have e1 := evs_sound hf ha
      have e1' : args.map a.eval = args'.toArray := by apply Array.ext'; simpa using e1
      have := callVK_leaves hk
      simpa [execOp, resolve, e1', hf _ _ hg, CK.v, Deferred.ofValue, invoke] using this
    · rename_i sa sn sc xa xn xc t t' ha ht
      have e1 := evs_sound hf ha
      have e1' : args.map a.eval = #[.slice sa sn sc, .slice xa xn xc] := by apply Array.ext'; simpa using e1
      have e2 : ats = #[t, t'] := by apply Array.ext'; simpa using ht
      subst e2
      split at hk
      case h_2 => exact hk.elim
      rename_i e hu
      split at hk
      case h_2 => exact hk.elim
      rename_i te hi
      split at hk
      case h_2 => exact hk.elim
      rename_i z hz
      rw [chk_iff] at hk
      obtain ⟨hcs, hk⟩ := hk
      simp only [Bool.and_eq_true, beq_iff_eq] at hcs
      obtain ⟨⟨h1, h2⟩, h3⟩ := hcs
      have ett : t = t' := Nat.eq_of_beq_eq_true h1
      subst ett
      obtain ⟨r, w', hr, io, hK⟩ := app_run (P := P) (ty := ty) hu hi hz h2 (Nat.blt_eq.mp h3) hk
      refine .inl ⟨_, w', ?_, io, hK⟩
      simp only at hr
      simp [execOp, resolve, e1', invoke, builtin, hr]
    · rename_i m k' n t ats' ha ht
      have e1 := evs_sound hf ha
      have e1' : args.map a.eval = #[.map m, .int k' n] := by apply Array.ext'; simpa using e1
      have e2 : ats = (t :: ats').toArray := by apply Array.ext'; simpa using ht
      subst e2
      obtain ⟨kt, et, ki, c, hu, hku, hk1⟩ := keyKs_inv hk
      clear hk
      split at hk1
      · rename_i e; subst e
        obtain ⟨l, hl, hK⟩ := hk1
        obtain ⟨w', hr, io, h1, h2, h3⟩ := mdel_run (P := P) (ty := ty) (ats := ats') hu hku (n := n) hl
        refine .inl ⟨_, w', ?_, io, hK _ h1 h2 h3⟩
        simp [execOp, resolve, e1', invoke, builtin, hr]
      · exact hk1.elim
    · exact hk.elim
  · exact hk.elim

theorem filt_map {k : IntKind} {c : CK} (p : MapEntry → Bool) (q : Int × c.T → Bool) : ∀ (L : List MapEntry) (T : List (Int × c.T)), L.map (fun e => (e.key, e.val)) = T.map (fun x => (Value.int k x.1, c.v x.2)) →
    (∀ (j : Nat) (e : MapEntry) (y : Int × c.T), L[j]? = some e → T[j]? = some y → p e = q y) → (L.filter p).map (fun e => (e.key, e.val)) = (T.filter q).map (fun x => (Value.int k x.1, c.v x.2))
  | [], T, h, _ => by
    cases T with
    | nil => rfl
    | cons y T => simp at h
  | e :: L, [], h, _ => by simp at h
  | e :: L, y :: T, h, hpq => by
    simp only [List.map_cons, List.cons.injEq] at h
    have h0 := hpq 0 e y rfl rfl
    have ih := filt_map p q L T h.2 (fun j e' y' h1 h2 => hpq (j + 1) e' y' (by simpa using h1) (by simpa using h2))
    simp only [List.filter_cons, h0]
    cases q y
    · simpa using ih
    · simp [h.1, ih]

theorem It.nxt {P : Program} {r : Nat} {k : IntKind} {c : CK} {m : Option Nat} {l todo : List (Int × c.T)} {cur : Option (Int × c.T)} {w : World} (hit : It w.heap r k c m l todo cur) (ty : Nat) :
    (todo = [] ∧ ∃ w', (Instr.next (.pointer (some ⟨r, 0, none⟩)) false ty).run P w = .ok (.tuple #[.bool false]) w' ∧ IOsame w w' ∧ w'.heap = w.heap) ∨
    (∃ n x w', (n, x) ∈ todo ∧ (Instr.next (.pointer (some ⟨r, 0, none⟩)) false ty).run P w = .ok (.tuple #[.bool true, .int k n, c.v x]) w' ∧ IOsame w w' ∧ OnlyB w.heap w'.heap r ∧
      It w'.heap r k c m l (todo.filter fun y => !(y.1 == n)) (some (n, x))) := by
  cases m with
  | none =>
    obtain ⟨rfl, rfl, rfl, s, q, y, hr⟩ := hit
    exact .inl ⟨rfl, w, by simp [Instr.next, getObj, Sem.run, hr], .refl _, rfl⟩
  | some b =>
    obtain ⟨es, clk, seen, hr, hb, he, hn, hp, hlt, htodo, hcur⟩ := hit
    have hrlt : r < w.heap.size := (Array.getElem?_eq_some_iff.1 hr).1
    have hrb : r ≠ b := fun e => by rw [e, hb] at hr; cases hr
    have hchk : ¬ ((!seen.isEmpty && !es.isEmpty && es.all (·.born ≥ clk)) = true) := by
      intro h
      simp only [Bool.and_eq_true, Bool.not_eq_true', Array.all_eq_true', decide_eq_true_eq] at h
      obtain ⟨⟨_, h2⟩, h3⟩ := h
      have h2' : es ≠ #[] := by simpa [Array.isEmpty_iff] using h2
      obtain ⟨e, hme⟩ := Array.exists_mem_of_ne_empty es h2'
      have := h3 e hme
      have := hlt e (by simpa using hme)
      omega
    have hold : ((es.filter fun e => !seen.contains e.born).filter (·.born < clk)) = es.filter fun e => !seen.contains e.born := by
      rw [Array.filter_eq_self]
      intro e hme
      have : e ∈ es := (Array.mem_filter.1 hme).1
      simpa using hlt e (by simpa using this)
    have hnew : ((es.filter fun e => !seen.contains e.born).filter (·.born ≥ clk)) = #[] := by
      rw [Array.filter_eq_empty_iff]
      intro e hme
      have : e ∈ es := (Array.mem_filter.1 hme).1
      have := hlt e (by simpa using this)
      simp; omega
    have hlist : (es.filter fun e => !seen.contains e.born).toList = es.toList.filter fun e => !seen.contains e.born := Array.toList_filter
    have hrun : ∀ (cand : Array (Option MapEntry)), cand = (if (es.filter fun e => !seen.contains e.born).isEmpty then #[none] else #[]) ++ (es.filter fun e => !seen.contains e.born).map some →
        (Instr.next (.pointer (some ⟨r, 0, none⟩)) false ty).run P w = (do
          match cand[← choose (.mapNext cand.size)]? with
          | some (some e) => do
            setObj r (.mapIter (some b) clk (seen.push e.born) clk)
            pure (.tuple #[.bool true, e.key, e.val])
          | some none => pure (.tuple #[.bool false])
          | none => stuck "Next: no such candidate" : Sem Value).run P w := by
      rintro cand rfl
      simp only [Instr.next, getObj, Sem.run_bind, Sem.run, hr, Result.andThen_ok, hb, hchk, if_false, hold, hnew, Array.append_empty, Bool.false_eq_true, Sem.run_bind]
      try rfl
    cases htd : todo with
    | nil =>
      left
      subst htd
      have hnil : (es.filter fun e => !seen.contains e.born) = #[] := by
        apply Array.ext'
        rw [hlist]
        have := congrArg List.length htodo
        simpa using this
      refine ⟨rfl, w, ?_, .refl _, rfl⟩
      rw [hrun #[none] (by rw [hnil]; simp)]
      simp [choose, Sem.run, Question.forced]
    | cons y ys =>
      right
      have hlen : (es.filter fun e => !seen.contains e.born).size = todo.length := by
        rw [← Array.length_toList, hlist]
        simpa using congrArg List.length htodo
      have hne : (es.filter fun e => !seen.contains e.born).isEmpty = false := by
        rw [htd] at hlen
        simp only [List.length_cons] at hlen
        cases hce : (es.filter fun e => !seen.contains e.born).isEmpty
        · rfl
        · rw [Array.isEmpty_iff] at hce; rw [hce] at hlen; simp at hlen
      -- whatever index is drawn
      have key : ∀ (i : Nat), i < todo.length → ∀ w1 : World, w1.heap = w.heap → IOsame w w1 → ∃ n x w', (n, x) ∈ todo ∧
          ((match ((es.filter fun e => !seen.contains e.born).map some)[i]? with
            | some (some e) => do
              setObj r (.mapIter (some b) clk (seen.push e.born) clk)
              pure (.tuple #[.bool true, e.key, e.val])
            | some none => pure (.tuple #[.bool false])
            | none => stuck "Next: no such candidate" : Sem Value)).run P w1 = .ok (.tuple #[.bool true, .int k n, c.v x]) w' ∧ IOsame w w' ∧ OnlyB w.heap w'.heap r ∧
          It w'.heap r k c (some b) l (todo.filter fun y => !(y.1 == n)) (some (n, x)) := by
        intro i hi w1 hw1 io
        have hi' : i < (es.filter fun e => !seen.contains e.born).size := by omega
        let e := (es.filter fun e => !seen.contains e.born)[i]
        have hei : (es.filter fun e => !seen.contains e.born)[i]? = some e := by simp [e, hi']
        have hti : (es.toList.filter fun e => !seen.contains e.born)[i]? = some e := by rw [← hlist, Array.getElem?_toList]; exact hei
        have hty : todo[i]? = some todo[i] := by simp [hi]
        have hkv : (e.key, e.val) = (Value.int k todo[i].1, c.v todo[i].2) := by
          have := congrArg (fun l => l[i]?) htodo
          simp only [List.getElem?_map, hti, hty, Option.map_some, Option.some.injEq] at this
          exact this
        simp only [Prod.mk.injEq] at hkv
        have hmemF : e ∈ es.toList.filter fun e => !seen.contains e.born := List.mem_of_getElem? hti
        have hme : e ∈ es.toList := (List.mem_filter.1 hmemF).1
        have hns : seen.contains e.born = false := by simpa using (List.mem_filter.1 hmemF).2
        refine ⟨todo[i].1, todo[i].2, { w1 with heap := w1.heap.setIfInBounds r (.mapIter (some b) clk (seen.push e.born) clk) }, List.getElem_mem _, ?_, ?_, ?_, ?_⟩
        · have hr1 : w1.heap[r]? = some (.mapIter (some b) clk seen clk) := by rw [hw1]; exact hr
          simp only [Array.getElem?_map, hei, Option.map_some, setObj, Sem.run_bind, Sem.run, hr1, Result.andThen_ok, Sem.run_pure, hkv.1, hkv.2]
        · exact ⟨io.1, io.2.1, io.2.2.1, by simp only [Array.size_setIfInBounds]; exact io.2.2.2⟩
        · rw [hw1]; exact set_only _ _ _
        · rw [hw1]
          refine ⟨es, clk, seen.push e.born, by simp [hrlt], ?_, he, hn, hp, hlt, ?_, fun x hx => ?_⟩
          · rw [Array.getElem?_setIfInBounds_ne hrb]; exact hb
          · -- the rest
            have hinj : ∀ e' ∈ es.toList, (e'.born == e.born) = true → e' = e := by
              intro e' h1 h2
              have h2' : e'.born = e.born := by simpa using h2
              obtain ⟨p, hp1, hp2⟩ := List.getElem_of_mem h1
              obtain ⟨q, hq1, hq2⟩ := List.getElem_of_mem hme
              have hpw := List.pairwise_iff_getElem.1 hp
              rcases Nat.lt_trichotomy p q with h | h | h
              · have := hpw p q (by simpa using hp1) (by simpa using hq1) h
                simp [hp2, hq2, h2'] at this
              · subst h; rw [← hp2, hq2]
              · have := hpw q p (by simpa using hq1) (by simpa using hp1) h
                simp [hp2, hq2, h2'] at this
            have hf1 : (es.toList.filter fun e' => !(seen.push e.born).contains e'.born) = (es.toList.filter fun e' => !seen.contains e'.born).filter fun e' => !(e'.born == e.born) := by
              rw [List.filter_filter]
              apply List.filter_congr
              intro e' _
              simp [Array.contains_eq_mem, Array.mem_push]
              rw [Bool.and_comm]
              congr 1
            rw [hf1]
            refine filt_map _ _ _ _ htodo fun j e' y h1 h2 => ?_
            have hm' : e' ∈ es.toList := (List.mem_filter.1 (List.mem_of_getElem? h1)).1
            have hkv' : (e'.key, e'.val) = (Value.int k y.1, c.v y.2) := by
              have := congrArg (fun l => l[j]?) htodo
              simp only [List.getElem?_map, h1, h2, Option.map_some, Option.some.injEq] at this
              exact this
            simp only [Prod.mk.injEq] at hkv'
            congr 1
            rw [Bool.eq_iff_iff]
            constructor
            · intro hb'
              have := hinj e' hm' hb'
              subst this
              have := hkv'.1.symm.trans hkv.1
              simp only [Value.int.injEq, true_and] at this
              simpa using this
            · intro hy
              have hy' : y.1 = todo[i].1 := by simpa using hy
              have hkk : e'.key = e.key := by rw [hkv'.1, hkv.1, hy']
              obtain ⟨p, hp1, hp2⟩ := List.getElem_of_mem hm'
              obtain ⟨q, hq1, hq2⟩ := List.getElem_of_mem hme
              have hll : es.toList.length = l.length := by simpa using congrArg List.length he
              have hk1 : ∀ (p : Nat) (hp : p < es.toList.length), es.toList[p].key = .int k (l[p]'(by omega)).1 := by
                intro p hp
                have := congrArg (fun l => l[p]?) he
                simp only [List.getElem?_map, List.getElem?_eq_getElem hp, List.getElem?_eq_getElem (show p < l.length by omega), Option.map_some, Option.some.injEq, Prod.mk.injEq] at this
                exact this.1
              have e1 := hk1 p hp1
              have e2 := hk1 q hq1
              rw [hp2] at e1
              rw [hq2] at e2
              rw [hkk, e2] at e1
              simp only [Value.int.injEq, true_and] at e1
              have : p = q := by
                have hnn := List.pairwise_iff_getElem.1 hn
                rcases Nat.lt_trichotomy p q with h | h | h
                · exact absurd (by rw [List.getElem_map, List.getElem_map]; exact e1.symm) (hnn p q (by simp; omega) (by simp; omega) h)
                · exact h
                · exact absurd (by rw [List.getElem_map, List.getElem_map]; exact e1) (hnn q p (by simp; omega) (by simp; omega) h)
              subst this
              rw [← hp2, ← hq2]
              simp
          · cases hx
            refine ⟨e, hme, by simp, hkv.1, hkv.2⟩
      have hsz : ((if (es.filter fun e => !seen.contains e.born).isEmpty then #[none] else #[]) ++ (es.filter fun e => !seen.contains e.born).map some : Array (Option MapEntry)) = (es.filter fun e => !seen.contains e.born).map some := by
        rw [hne]; simp
      rw [← htd]
      rw [hrun _ hsz.symm]
      have hpos : 0 < todo.length := by rw [htd]; simp
      simp only [Sem.run_bind, choose, Sem.run, Array.size_map, hlen]
      cases hfo : (Question.mapNext todo.length).forced
      · simp only [Bool.false_eq_true, if_false, Result.andThen_ok]
        exact key _ (by simp only [Question.cut]; exact Nat.mod_lt _ hpos) _ rfl ⟨rfl, rfl, rfl, Nat.le_refl _⟩
      · simp only [if_true, Result.andThen_ok]
        exact key 0 hpos w rfl (.refl _)

theorem It.ent {P : Program} {r : Nat} {k : IntKind} {c : CK} {m : Option Nat} {l todo : List (Int × c.T)} {n : Int} {x : c.T} {w : World} (hit : It w.heap r k c m l todo (some (n, x))) :
    (Instr.entry (.pointer (some ⟨r, 0, none⟩))).run P w = .ok (.tuple #[.int k n, c.v x]) w := by
  cases m with
  | none => obtain ⟨_, _, h, _⟩ := hit; cases h
  | some b =>
    obtain ⟨es, clk, seen, hr, hb, he, hn, hp, hlt, htodo, hcur⟩ := hit
    obtain ⟨e, hme, hback, hk, hv⟩ := hcur _ rfl
    have hfind : es.find? (·.born == e.born) = some e := by
      rw [← Array.find?_toList, List.find?_eq_some_iff_getElem]
      obtain ⟨p, hp1, hp2⟩ := List.getElem_of_mem hme
      refine ⟨by simp, p, hp1, hp2, fun j hj => ?_⟩
      have hpw := List.pairwise_iff_getElem.1 hp j p (by simp; simp at hp1; omega) (by simpa using hp1) hj
      rw [List.getElem_map, List.getElem_map, hp2] at hpw
      rw [Bool.not_eq_true']
      cases hb2 : (es.toList[j].born == e.born)
      · rfl
      · have := beq_iff_eq.1 hb2; omega
    simp [Instr.entry, getObj, Sem.run, hr, hb, hback, hfind, hk, hv]

def itK (k : IntKind) (c : CK) (o : Op) (ρ : Env) (h : Hp) (K : Value → Hp → Prop) : Prop :=
  match o with
  | .next x false => wv (ev ρ x) fun v => match v with
    | .pointer (some a) => Nxt k c a h (K (.tuple #[.bool false]) h) fun n y h' => K (.tuple #[.bool true, .int k n, c.v y]) h'
    | _ => False
  | .entry x => wv (ev ρ x) fun v => match v with
    | .pointer (some a) => Ent k c a h fun n y => K (.tuple #[.int k n, c.v y]) h
    | _ => False
  | _ => False

theorem It.spot {a : Addr} (h : a.off = 0) : ∃ s, a = ⟨a.block, 0, s⟩ := ⟨a.spot, by cases a; simp at h; subst h; rfl⟩

theorem itK_leaves {P : Program} {k : IntKind} {c : CK} {ρ : Env} {K : Value → Hp → Prop} {a : Act} {w : World} (hf : ∀ x v, ev ρ x = some v → a.eval x = v) (o : Oper) (hk : itK k c o.op ρ w.heap K) : Leaves P (execOp a.eval o) w K := by
  obtain ⟨dst, op, ty, pos, after, guard⟩ := o
  simp only at hk
  unfold itK at hk
  split at hk
  · rename_i x
    obtain ⟨v, hv, hk⟩ := wv_sound hk
    simp only [execOp, hf _ _ hv]
    split at hk
    case h_2 => exact hk.elim
    rename_i ad
    obtain ⟨h0, m, l, todo, cur, hit, hA, hB⟩ := hk
    obtain ⟨s, hs⟩ := It.spot h0
    have hrun : ∀ w : World, (Instr.next (.pointer (some ad)) false ty).run P w = (Instr.next (.pointer (some ⟨ad.block, 0, none⟩)) false ty).run P w := by
      intro w; rw [hs]; rfl
    rcases hit.nxt (P := P) ty with ⟨ht, w', hr, io, hh⟩ | ⟨n, y, w', hm, hr, io, ho, hi'⟩
    · exact .inl ⟨.tuple #[.bool false], w', by simp [hrun, hr], io, by rw [hh]; exact hA ht⟩
    · exact .inl ⟨.tuple #[.bool true, .int k n, c.v y], w', by simp [hrun, hr], io, hB n y hm _ ho hi'⟩
  · rename_i x
    obtain ⟨v, hv, hk⟩ := wv_sound hk
    simp only [execOp, hf _ _ hv]
    split at hk
    case h_2 => exact hk.elim
    rename_i ad
    obtain ⟨h0, m, l, todo, n, y, hit, hK⟩ := hk
    obtain ⟨s, hs⟩ := It.spot h0
    have hrun : (Instr.entry (.pointer (some ad))).run P w = (Instr.entry (.pointer (some ⟨ad.block, 0, none⟩))).run P w := by
      rw [hs]; rfl
    exact .inl ⟨.tuple #[.int k n, c.v y], w, by simp [hrun, hit.ent (P := P)], .refl _, hK⟩
  · exact hk.elim

end Go.Vc
