/- Proving with the calculus: slices that the call itself has made, and append. -/
import Derived.Test.YtimoepajidnmjaaVcL
namespace Go.Vc
open Go
set_option linter.unusedSimpArgs false
set_option linter.unusedVariables false

theorem stN_blk {b o : Nat} : ∀ {vs : List Value} {h : Hp} {cs : List Value} {i : Nat} {K : Hp → Prop}, Blk h b cs → o + i + vs.length ≤ cs.length →
    (∀ h', OnlyB h h' b → Blk h' b (cs.take (o + i) ++ vs ++ cs.drop (o + i + vs.length)) → K h') → StN ⟨b, o, none⟩ h vs i K
  | [], h, cs, i, K, hb, hl, hK => hK h ⟨rfl, fun _ _ => rfl⟩ (by simpa using hb)
  | v :: vs, h, cs, i, K, hb, hl, hK => by
    simp only [List.length_cons] at hl
    refine ⟨?_, ?_, ?_⟩
    · rw [add_lit, hb.cell, List.getElem?_eq_getElem (by omega)]; rfl
    · rw [add_lit]; exact hb.frz
    · rw [add_lit]
      have hb' := hb.set (o := o + i) v
      refine stN_blk hb' (by simp; omega) fun h' ho hb'' => hK h' ?_ ?_
      · exact ⟨ho.1.trans (size_setc _ _ _), fun c hc => (ho.2 c hc).trans (setc_other hc)⟩
      · have e : (cs.set (o + i) v).take (o + (i + 1)) ++ vs ++ (cs.set (o + i) v).drop (o + (i + 1) + vs.length) = cs.take (o + i) ++ v :: vs ++ cs.drop (o + i + (v :: vs).length) := by
          rw [List.drop_set_of_lt (by omega), show o + (i + 1) = (o + i) + 1 by omega, List.take_add_one, List.take_set_of_le (by omega), List.getElem?_set_self (by omega)]
          simp only [Option.toList_some, List.append_assoc, List.singleton_append, List.cons_append, List.nil_append, List.length_cons]
          congr 4
          omega
        rw [e] at hb''
        exact hb''

/-- A slice of the call's own making, its block one of `Q`'s: nil, or a row from its start. -/
def Own (Q : Nat → Prop) (h : Hp) (s : Sl) (sz : Nat) (xs : List Value) : Prop :=
  xs.length = s.len * sz ∧ (s.a = none ∧ s.len = 0 ∧ s.cap = 0 ∨ ∃ b cs, Q b ∧ s.a = some ⟨b, 0, none⟩ ∧ Blk h b cs ∧ s.len ≤ s.cap ∧ cs.length = s.cap * sz ∧ cs.take xs.length = xs)
def OwnBlk (s : Sl) (b : Nat) : Prop := ∃ o, s.a = some ⟨b, o, none⟩
theorem Own.nil (Q : Nat → Prop) (h : Hp) (sz : Nat) : Own Q h ⟨none, 0, 0⟩ sz [] := ⟨by simp, .inl ⟨rfl, rfl, rfl⟩⟩
theorem Own.keep {Q F : Nat → Prop} {h h' : Hp} {s : Sl} {sz : Nat} {xs : List Value} (ho : Own Q h s sz xs) (e : Ext F h h') (hF : ∀ b, Q b → b < h.size → ¬ F b) : Own Q h' s sz xs := by
  refine ⟨ho.1, ho.2.imp id ?_⟩
  rintro ⟨b, cs, hq, ha, hb, r⟩
  exact ⟨b, cs, hq, ha, e.blk hb (hF b hq hb.lt), r⟩
theorem Own.keep0 {Q : Nat → Prop} {h h' : Hp} {s : Sl} {sz : Nat} {xs : List Value} (ho : Own Q h s sz xs) (e : Ext0 h h') : Own Q h' s sz xs := ho.keep e fun _ _ _ h => h
theorem Own.mono {Q Q' : Nat → Prop} {h : Hp} {s : Sl} {sz : Nat} {xs : List Value} (ho : Own Q h s sz xs) (hq : ∀ b, b < h.size → Q b → Q' b) : Own Q' h s sz xs := by
  refine ⟨ho.1, ho.2.imp id ?_⟩
  rintro ⟨b, cs, hQ, ha, hb, r⟩
  exact ⟨b, cs, hq b hb.lt hQ, ha, hb, r⟩
theorem Own.blk_lt {Q : Nat → Prop} {h : Hp} {s : Sl} {sz : Nat} {xs : List Value} (ho : Own Q h s sz xs) {b : Nat} (hb : OwnBlk s b) : Q b ∧ b < h.size := by
  obtain ⟨o, ho'⟩ := hb
  rcases ho.2 with ⟨ha, _⟩ | ⟨b', cs, hq, ha, hk, _⟩
  · rw [ha] at ho'; cases ho'
  · rw [ha] at ho'; cases ho'; exact ⟨hq, hk.lt⟩

theorem Own.rd {Q : Nat → Prop} {h : Hp} {s : Sl} {sz : Nat} {xs : List Value} (ho : Own Q h s sz xs) : Rd h s.a xs := by
  rcases ho.2 with ⟨ha, hl, _⟩ | ⟨b, cs, _, ha, hb, _, _, ht⟩
  · rw [ha]; have := ho.1; rw [hl] at this; simp at this; exact this
  · rw [ha]
    intro j v hv
    rw [add_lit, hb.cell, Nat.zero_add]
    rw [← ht, List.getElem?_take] at hv
    split at hv
    · exact hv
    · cases hv
/-- A cell of the row. -/
theorem Own.cell {Q : Nat → Prop} {h : Hp} {s : Sl} {sz : Nat} {xs : List Value} (ho : Own Q h s sz xs) {j : Nat} {v : Value} (hv : xs[j]? = some v) : ∃ b, s.a = some ⟨b, 0, none⟩ ∧ Vc.cell h ⟨b, j, none⟩ = some v := by
  rcases ho.2 with ⟨ha, hl, _⟩ | ⟨b, cs, _, ha, hb, _, _, ht⟩
  · have := ho.1; rw [hl] at this; simp at this; subst this; simp at hv
  · refine ⟨b, ha, ?_⟩
    rw [hb.cell]
    rw [← ht, List.getElem?_take] at hv
    split at hv
    · exact hv
    · cases hv

theorem Own.app {Q : Nat → Prop} {h : Hp} {s x : Sl} {sz bytes e : Nat} {zs xs ys : List Value} {K : Sl → Hp → Prop} (ho : Own Q h s sz xs) (hq : ∀ b, h.size ≤ b → Q b) (hz : zs.length = sz)
    (hy : ys.length = x.len * sz) (hr : Rd h x.a ys) (h1 : ∀ v ∈ ys, one1 v = true) (hb : (s.len + x.len) * bytes ≤ 2 ^ 46) (hc : s.len + x.len ≤ 2 ^ 62)
    (hx : 0 < x.len) (hK : ∀ s' h', s'.len = s.len + x.len → Ext (OwnBlk s) h h' → Own Q h' s' sz (xs ++ ys) → s'.a ≠ none → K s' h') : App s sz bytes e zs x h K := by
  refine ⟨xs, ys, ho.1, hy, ho.rd, hr, h1, hb, hc, fun hin => ?_, fun hout c hcc => ?_⟩
  · rcases ho.2 with ⟨ha, hl, hcap⟩ | ⟨b, cs, hQ, ha, hk, hle, hcl, ht⟩
    · omega
    · rw [ha]
      simp only
      rw [add_lit]
      have hm : (s.len + x.len) * sz ≤ s.cap * sz := Nat.mul_le_mul_right _ hin
      rw [Nat.add_mul] at hm
      have hxl := ho.1
      refine stN_blk hk (by omega) fun h' ho' hb' => hK _ h' rfl (Ext.of_only ho' ⟨0, ha⟩) ⟨?_, .inr ⟨b, _, hQ, rfl, hb', hin, ?_, ?_⟩⟩ (by simp)
      · simp [hxl, hy, Nat.add_mul]
      · simp; omega
      · rw [List.length_append, hxl]
        rw [Nat.zero_add, Nat.add_zero, ← hxl]
        rw [ht, List.take_append_of_le_length (by simp), List.take_of_length_le (by simp)]
  · refine hK _ _ rfl (Ext.push _ _ _) ⟨by simp [ho.1, hy, Nat.add_mul], .inr ⟨h.size, xs ++ ys ++ (List.replicate (c - (s.len + x.len)) zs).flatten, hq _ (Nat.le_refl _), rfl, ⟨e, by simp⟩, hcc, ?_, ?_⟩⟩ (by simp)
    · simp only [List.length_append, List.length_flatten, List.map_replicate, List.sum_replicate_nat, ho.1, hy, hz, ← Nat.add_mul]
      congr 1; omega
    · rw [List.take_append_of_le_length (by simp), List.take_of_length_le (by simp)]

/-- One element of one cell, behind. -/
theorem rd_one {h : Hp} {v : Value} {e : Nat} : Rd (h.push (.cells #[v] e (0, 0))) (some ⟨h.size, 0, none⟩) [v] := by
  intro j u hu
  rw [add_lit]
  cases j with
  | zero => simp at hu; subst hu; simp [Vc.cell]
  | succ j => simp at hu
theorem rd_two {h : Hp} {u v : Value} {e : Nat} : Rd (h.push (.cells #[u, v] e (0, 0))) (some ⟨h.size, 0, none⟩) [u, v] := by
  intro j x hx
  rw [add_lit]
  match j with
  | 0 => simp at hx; subst hx; simp [Vc.cell]
  | 1 => simp at hx; subst hx; simp [Vc.cell]
  | j + 2 => simp at hx

/-- A store into a row that is known. -/
theorem Blk.st1 {h : Hp} {b o : Nat} {cs : List Value} (hb : Blk h b cs) {v : Value} (ho : o < cs.length) {K : Hp → Prop} (hK : ∀ h', OnlyB h h' b → Blk h' b (cs.set o v) → K h') : St1 (Addr.add ⟨b, 0, none⟩ o) v h K := by
  rw [add_lit, Nat.zero_add]
  refine ⟨?_, hb.frz, hK _ ⟨size_setc _ _ _, fun c hc => setc_other hc⟩ (hb.set v)⟩
  rw [hb.cell, List.getElem?_eq_getElem ho]; rfl
theorem Blk.push (h : Hp) (cs : List Value) (e : Nat) : Blk (h.push (.cells cs.toArray e (0, 0))) h.size cs := ⟨e, by simp⟩
theorem MapL.push (h : Hp) (k : IntKind) (c : CK) : MapL (h.push (.map #[] 0)) h.size k c [] := ⟨#[], 0, by simp, by simp, by simp, by simp, by simp⟩
theorem Ext.only {F : Nat → Prop} {a b c : Hp} {r : Nat} (e : Ext F a b) (ho : OnlyB b c r) (hr : F r ∨ a.size ≤ r) : Ext F a c :=
  ⟨by rw [ho.1]; exact e.1, fun i hi hf => by
    rw [ho.2 i ?_]; exact e.2 i hi hf
    rintro rfl
    rcases hr with h | h
    · exact hf h
    · omega⟩
/-- What is done to new blocks alone. -/
theorem Ext.fresh {a b c : Hp} {F : Nat → Prop} (e : Ext0 a b) (k : Ext F b c) (hF : ∀ i, F i → a.size ≤ i) : Ext0 a c :=
  ⟨Nat.le_trans e.1 k.1, fun i hi _ => (k.2 i (Nat.lt_of_lt_of_le hi e.1) fun hf => by have := hF i hf; omega).trans (e.2 i hi id)⟩

/-- A store into a row of the call's own. -/
theorem Own.st {Q : Nat → Prop} {h : Hp} {s : Sl} {sz : Nat} {xs : List Value} (ho : Own Q h s sz xs) {j : Nat} (hj : j < xs.length) {v : Value} {K : Hp → Prop} {a : Addr} (ha : ∀ b, s.a = some ⟨b, 0, none⟩ → a = ⟨b, j, none⟩)
    (hK : ∀ h', Ext (OwnBlk s) h h' → Own Q h' s sz (xs.set j v) → K h') : St1 a v h K := by
  rcases ho.2 with ⟨h1, hl, _⟩ | ⟨b, cs, hq, hsa, hb, hle, hcl, ht⟩
  · have := ho.1; rw [hl] at this; simp at this; subst this; simp at hj
  · rw [ha b hsa]
    have hjc : j < cs.length := by
      have : (cs.take xs.length).length = xs.length := by rw [ht]
      rw [List.length_take] at this; omega
    refine ⟨by rw [hb.cell, List.getElem?_eq_getElem hjc]; rfl, hb.frz, hK _ (Ext.setc (F := OwnBlk s) ⟨0, hsa⟩) ⟨by simp [ho.1], .inr ⟨b, _, hq, hsa, hb.set v, hle, by simp [hcl], ?_⟩⟩⟩
    rw [List.length_set, List.take_set, ht]


end Go.Vc
