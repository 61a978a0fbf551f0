/- Contracts of the buddy heap's functions, IV: New, Clone. -/
import Derived.Test.YtimoepajidnmjaaBuF
namespace Go.Bu
open Go Go.Vc Go.Proofs
set_option linter.unusedSimpArgs false
set_option linter.unusedVariables false

variable {σ : Hp} {p n sb : Nat} {S : Nat → Bool} {ms : List Nat}

def mapV (ms : List Nat) : List Value := ms.map fun m => Value.map (some m)

/-- A heap that is being made: `j` of its maps are there. -/
structure Part (B : Nat) (h : Hp) (p n : Nat) (j : Nat) (s : Sl) (ms : List Nat) : Prop where
  len : ms.length = j
  sl : s.len = j
  hd : Blk h p [.int .i64 n, .slice s.a s.len s.cap]
  own : Own (fun b => B ≤ b ∧ b ≠ p ∧ b ∉ ms) h s 1 (mapV ms)
  new : ∀ m ∈ ms, B ≤ m ∧ m ≠ p ∧ m < h.size
  nd : ms.Nodup

theorem Part.done {B : Nat} {h : Hp} {j : Nat} {s : Sl} (hp : Part B h p n j s ms) (hB : B ≤ p) (hj : 0 < j) (n1 : 1 ≤ n) (n2 : n ≤ 1024) (lo : 2 ^ j ≤ 2 * n) (hi : n < 2 ^ j) (bnd : Bounded S n)
    (maps : ∀ k m, ms[k]? = some m → ∃ B : List (Int × Bool), MapL h m .i64 .b B ∧ Keys S k B) : ∃ sb, BH h p n S sb ms ∧ ∀ b, fp p sb ms b → B ≤ b := by
  rcases hp.own.2 with ⟨_, hl, _⟩ | ⟨sb, cs, ⟨hq, hqp, hqm⟩, ha, hb, hle, hcl, ht⟩
  · have := hp.sl; omega
  · refine ⟨sb, ⟨?_, ?_, maps, ?_, n1, n2, ?_, ?_, bnd⟩, ?_⟩
    · refine ⟨s.cap, ?_⟩
      have := hp.hd
      rw [ha, hp.sl, ← hp.len] at this
      exact this
    · refine ⟨cs.drop (mapV ms).length, ?_⟩
      have : mapV ms ++ cs.drop (mapV ms).length = cs := by
        conv => lhs; lhs; rw [← ht]
        exact List.take_append_drop _ _
      show Blk h sb (mapV ms ++ _)
      rw [this]; exact hb
    · simp only [List.nodup_cons, List.mem_cons, not_or]
      exact ⟨⟨fun e => hqp e.symm, fun hm => (hp.new p hm).2.1 rfl⟩, hqm, hp.nd⟩
    · rw [hp.len]; exact lo
    · rw [hp.len]; exact hi
    · intro b hb
      simp only [fp, List.mem_cons] at hb
      rcases hb with rfl | rfl | h
      · exact hB
      · exact hq
      · exact (hp.new b h).1

theorem Part.hdS {B : Nat} {h : Hp} {j : Nat} {s : Sl} (hp : Part B h p n j s ms) : cell h ⟨p, 1, none⟩ = some (.slice s.a s.len s.cap) := by rw [hp.hd.cell]; rfl
theorem Part.keep0 {B : Nat} {h h' : Hp} {j : Nat} {s : Sl} (hp : Part B h p n j s ms) (e : Ext0 h h') : Part B h' p n j s ms :=
  ⟨hp.len, hp.sl, e.blk hp.hd id, hp.own.keep0 e, fun m hm => ⟨(hp.new m hm).1, (hp.new m hm).2.1, Nat.lt_of_lt_of_le (hp.new m hm).2.2 e.1⟩, hp.nd⟩

/-- One more map, `m`, which lies in memory already; the box with it lies behind all. -/
theorem Part.step {B : Nat} {h : Hp} {j m e t bytes : Nat} {s : Sl} {zs : List Value} {K : Sl → Hp → Prop} (hp : Part B h p n j s ms) (hj : j ≤ 1000) (hbt : bytes ≤ 1000) (hz : zs.length = 1) (hm : B ≤ m) (hmp : m ≠ p) (hml : m < h.size) (hmn : m ∉ ms) (hms : ¬ OwnBlk s m)
    (hpB : p < h.size) (hBh : B ≤ h.size)
    (hgo : ∀ s' h', Ext (OwnBlk s) h h' → s'.len = j + 1 → Blk h' p [.int .i64 n, .slice s.a s.len s.cap] →
      (∀ h2, OnlyB h' h2 p → Blk h2 p [.int .i64 n, .slice s'.a s'.len s'.cap] → Part B h2 p n (j + 1) s' (ms ++ [m])) → K s' h') :
    App s 1 bytes e zs ⟨some ⟨h.size, 0, none⟩, 1, 1⟩ (h.push (.cells #[.map (some m)] t (0, 0))) K := by
  have hsl := hp.sl
  have own' : Own (fun b => B ≤ b ∧ b ≠ p ∧ b ∉ ms ++ [m]) (h.push (.cells #[.map (some m)] t (0, 0))) s 1 (mapV ms) := by
    have h1 := hp.own
    have h2 : Own (fun b => B ≤ b ∧ b ≠ p ∧ b ∉ ms ++ [m]) h s 1 (mapV ms) := by
      refine ⟨h1.1, h1.2.imp id ?_⟩
      rintro ⟨b, cs, ⟨q1, q2, q3⟩, ha, r⟩
      refine ⟨b, cs, ⟨q1, q2, ?_⟩, ha, r⟩
      simp only [List.mem_append, List.mem_singleton, not_or]
      exact ⟨q3, fun e => hms ⟨0, by rw [ha, e]⟩⟩
    exact h2.keep0 (ext_push _ _)
  have hsz : (h.push (.cells #[.map (some m)] t (0, 0))).size = h.size + 1 := by simp
  refine own'.app (ys := [.map (some m)]) ?_ hz rfl rd_one (by simp [one1]) ?_ ?_ Nat.zero_lt_one fun s' h' hl' he ho hne => ?_
  · intro b hb
    rw [hsz] at hb
    refine ⟨by omega, by omega, ?_⟩
    simp only [List.mem_append, List.mem_singleton, not_or]
    exact ⟨fun hmem => by have := (hp.new b hmem).2.2; omega, by omega⟩
  · simp only
    have : (s.len + 1) * bytes ≤ 1001 * 1000 := Nat.mul_le_mul (by omega) hbt
    omega
  · simp only; omega
  · simp only at hl'
    have he' : Ext (OwnBlk s) h h' := (ext_push h _).to.trans he
    have hnp : ¬ OwnBlk s p := fun hb => (hp.own.blk_lt hb).1.2.1 rfl
    refine hgo s' h' he' (by omega) (he'.blk hp.hd hnp) fun h2 h2o hb2 => ⟨by simp [hp.len], by omega, hb2, ?_, ?_, ?_⟩
    · have : mapV (ms ++ [m]) = mapV ms ++ [.map (some m)] := by simp [mapV]
      rw [this]
      exact ho.keep (Ext.of_only (F := (· = p)) h2o rfl) (fun b hq _ hf => hq.2.1 hf)
    · intro x hx
      have hs2 : h2.size = h'.size := h2o.1
      have := he'.1
      rcases List.mem_append.1 hx with h1 | h1
      · have := hp.new x h1
        exact ⟨this.1, this.2.1, by omega⟩
      · simp at h1; subst h1
        exact ⟨hm, hmp, by omega⟩
    · rw [List.nodup_append]
      refine ⟨hp.nd, by simp, ?_⟩
      intro a ha b hb
      simp at hb; subst hb
      rintro rfl; exact hmn ha

def emptyS : Nat → Bool := fun _ => false
theorem keys_empty (k : Nat) : Keys emptyS k [] := by
  refine ⟨by simp, fun q hq => ?_⟩
  have := can_free hq (first_in k q)
  simp [emptyS] at this

theorem New_ok (pages : Int) {R : Option Addr → Int → Hp → Prop} (hbad : ¬ (1 ≤ pages ∧ pages ≤ 1024) → R none 1 σ)
    (hR : ∀ (n : Nat), pages = (n : Int) → 1 ≤ n → n ≤ 1024 → ∀ σ' sb ms, Ext0 σ σ' → BH σ' σ.size n emptyS sb ms → (∀ b, fp σ.size sb ms b → σ.size ≤ b) → R (some ⟨σ.size, 0, none⟩) 0 σ') : buddy_New.call pages σ R := by
  refine buddy_New.of_vc ?_
  unfold buddy_New.vc
  refine JnB.intro (ifD (fun h1 => ifT rfl (hbad (by omega))) fun h1 => ?_)
  refine ifD (fun h2 => hbad (by omega)) fun h2 => ?_
  obtain ⟨n, rfl⟩ := Int.eq_ofNat_of_zero_le (show 0 ≤ pages by omega)
  have n1 : 1 ≤ n := by omega
  have n2 : n ≤ 1024 := by omega
  unfold Nw
  have e0 := ext_push σ (.cells #[.int .i64 (n : Int), .slice none 0 0] 52 (0, 0))
  refine loop1 (a := .i .i64) (fun t h => ∃ (j : Nat) (s : Sl) (ms : List Nat), t = ((2 ^ j : Nat) : Int) ∧ 2 ^ j ≤ 2 * n ∧ Ext0 σ h ∧ σ.size < h.size ∧ Part σ.size h σ.size n j s ms ∧ ∀ m ∈ ms, MapL h m .i64 .b []) (fun t _ => 2 * n + 1 - t.toNat)
    ⟨0, ⟨none, 0, 0⟩, [], rfl, by simp; omega, Ext.push _ _ _, by simp, ⟨rfl, rfl, Blk.push _ _ _, Own.nil _ _ _, by simp, by simp⟩, by simp⟩ ?_
  rintro t h ⟨j, s, ms, rfl, hj2, hE, hsz, hP, hms⟩
  have hj : j ≤ 11 := by
    apply Classical.byContradiction
    intro hc
    have : 2 ^ 12 ≤ 2 ^ j := Nat.pow_le_pow_right (by decide) (by omega)
    omega
  have hpj := Nat.two_pow_pos j
  refine ifD (fun hle => ?_) (fun hgt => ?_)
  · refine nilP ?_
    rw [add_lit, Nat.zero_add]
    refine ldS hP.hdS ?_
    have e1 := ext_push h (.map #[] 0)
    have hs1 : (h.push (.map #[] 0)).size = h.size + 1 := by simp
    have hP1 := hP.keep0 e1
    refine hP1.step (m := h.size) (by omega) (by omega) rfl (by omega) (by omega) (by omega) (fun hm => by have := (hP.new _ hm).2.2; omega) (fun hb => by have := (hP.own.blk_lt hb).2; omega) (by omega) (by omega) fun s' h' he hl hb hstep => ?_
    refine nilP (hb.st1 (by simp) fun h2 ho hb2 => ?_)
    have hP2 := hstep h2 ho hb2
    have hE2 : Ext0 σ h2 := by
      refine Ext.fresh (Ext.fresh (hE.trans e1) he fun i hi => (hP.own.blk_lt hi).1.1) (Ext.of_only (F := (· = σ.size)) ho rfl) fun i hi => ?_
      rw [hi]; exact Nat.le_refl _
    refine arN (m := 2 ^ (j + 1)) (by rw [Nat.pow_succ]; omega) (by rw [Nat.pow_succ]; omega) ⟨⟨j + 1, s', ms ++ [h.size], rfl, by rw [Nat.pow_succ]; omega, hE2, ?_, hP2, ?_⟩, by rw [Nat.pow_succ]; omega⟩
    · have := ho.1; have := he.1; omega
    · intro m hm
      have keepM : ∀ {m : Nat}, MapL (h.push (.map #[] 0)) m .i64 .b [] → ¬ OwnBlk s m → m ≠ σ.size → MapL h2 m .i64 .b [] := fun hM hn hne => only_mapL ho (he.mapL hM hn) hne
      rcases List.mem_append.1 hm with h1 | h1
      · exact keepM (e1.mapL (hms m h1) id) (fun hb => (hP.own.blk_lt hb).1.2.2 h1) (hP.new m h1).2.1
      · simp at h1; subst h1
        exact keepM (MapL.push _ _ _) (fun hb => by have := (hP.own.blk_lt hb).2; omega) (by omega)
  · have hjpos : 0 < j := by
      rcases Nat.eq_zero_or_pos j with e | e
      · subst e; simp at hgt; omega
      · exact e
    obtain ⟨sb, hB, hF⟩ := hP.done (S := emptyS) (Nat.le_refl _) hjpos n1 n2 hj2 (by omega) (fun x hx => by simp [emptyS] at hx) fun k m hm => ⟨[], hms m (List.mem_of_getElem? hm), keys_empty k⟩
    exact hR n rfl n1 n2 h sb ms hE hB hF

theorem Clone_nil {R : Option Addr → Hp → Prop} (hR : R none σ) : buddy_Heap_Clone.call none σ R := by
  refine buddy_Heap_Clone.of_vc ?_
  unfold buddy_Heap_Clone.vc
  exact made_nil (ifT rfl hR)

theorem Clone_ok (hB : BH σ p n S sb ms) {R : Option Addr → Hp → Prop}
    (hR : ∀ σ' sb' ms', Ext0 σ σ' → BH σ' σ.size n S sb' ms' → (∀ b, fp σ.size sb' ms' b → σ.size ≤ b) → R (some ⟨σ.size, 0, none⟩) σ') : buddy_Heap_Clone.call (some ⟨p, 0, none⟩) σ R := by
  refine buddy_Heap_Clone.of_vc ?_
  unfold buddy_Heap_Clone.vc
  have hl := hB.len
  refine made_ok hB (ifF rfl (nilP (hB.rN ?_)))
  unfold Nw
  have hB1 := hB.keep0 (ext_push σ (.cells #[.int .i64 (n : Int), .slice none 0 0] 52 (0, 0)))
  refine nilP (hB1.rB fun cap => ?_)
  refine loop1 (a := .i .i64) (fun t h => ∃ (j : Nat) (s : Sl) (ms' : List Nat), t = (j : Int) ∧ j ≤ ms.length ∧ Ext0 σ h ∧ σ.size < h.size ∧ Part σ.size h σ.size n j s ms' ∧ ∀ k m', ms'[k]? = some m' → ∃ B : List (Int × Bool), MapL h m' .i64 .b B ∧ Keys S k B)
    (fun t _ => ms.length - t.toNat) ⟨0, ⟨none, 0, 0⟩, [], rfl, by omega, Ext.push _ _ _, by simp, ⟨rfl, rfl, Blk.push _ _ _, Own.nil _ _ _, by simp, by simp⟩, by simp⟩ ?_
  rintro t h ⟨j, s, ms', rfl, hj, hE, hsz, hP, hms⟩
  have hBh := hB.keep0 hE
  refine ifD (fun hlt => ?_) (fun hge => ?_)
  · simp only at hlt
    obtain ⟨m, hm⟩ := hB.get (k := j) (by omega)
    obtain ⟨B, hBm, hK⟩ := hBh.maps j m hm
    refine hBh.rM hm ⟨fun h' => cell h' ⟨σ.size, 1, none⟩ = some (.slice s.a s.len s.cap), hP.hdS, nilP ⟨s, fun h' hS => by rw [add_lit, Nat.zero_add]; exact hS, ?_⟩⟩
    refine clone_ok hBm fun h1 hs1 e1 hM1 => ?_
    have hP1 := hP.keep0 e1
    refine ⟨hP1.hdS, ?_⟩
    refine ⟨(hP1.keep0 (ext_push _ _)).hdS, ?_⟩
    refine hP1.step (m := h.size) (by omega) (by omega) rfl (by omega) (by omega) (by omega) (fun hm => by have := (hP.new _ hm).2.2; omega) (fun hb => by have := (hP.own.blk_lt hb).2; omega) (by omega) (by omega) fun s' h' he hl hb hstep => ?_
    refine nilP (hb.st1 (by simp) fun h2 ho hb2 => ?_)
    have hP2 := hstep h2 ho hb2
    have hE2 : Ext0 σ h2 := by
      refine Ext.fresh (Ext.fresh (hE.trans e1) he fun i hi => (hP.own.blk_lt hi).1.1) (Ext.of_only (F := (· = σ.size)) ho rfl) fun i hi => ?_
      rw [hi]; exact Nat.le_refl _
    refine arN (m := j + 1) (by omega) (by omega) ⟨⟨j + 1, s', ms' ++ [h.size], rfl, by omega, hE2, ?_, hP2, ?_⟩, by omega⟩
    · have := ho.1; have := he.1; omega
    · intro k m' hm'
      have keepM : ∀ {m : Nat} {B : List (Int × Bool)}, MapL h1 m .i64 .b B → ¬ OwnBlk s m → m ≠ σ.size → MapL h2 m .i64 .b B := fun hM hn hne => only_mapL ho (he.mapL hM hn) hne
      rcases Nat.lt_or_ge k ms'.length with h3 | h3
      · rw [List.getElem?_append_left h3] at hm'
        obtain ⟨B', hB', hK'⟩ := hms k m' hm'
        have hmem := List.mem_of_getElem? hm'
        exact ⟨B', keepM (e1.mapL hB' id) (fun hb => (hP.own.blk_lt hb).1.2.2 hmem) (hP.new m' hmem).2.1, hK'⟩
      · rw [List.getElem?_append_right h3] at hm'
        have hk : k = j := by
          have := (List.getElem?_eq_some_iff.1 hm').1
          simp at this
          have := hP.len
          omega
        subst hk
        rw [hP.len, Nat.sub_self] at hm'
        simp at hm'; subst hm'
        exact ⟨B, keepM hM1 (fun hb => by have := (hP.own.blk_lt hb).2; omega) (by omega), hK⟩
  · simp only at hge
    have : j = ms.length := by omega
    subst this
    obtain ⟨sb', hB', hF⟩ := hP.done (S := S) (Nat.le_refl _) hB.len1 hB.n1 hB.n2 hB.lo hB.hi hB.bnd hms
    exact hR h sb' ms' hE hB' hF

end Go.Bu
