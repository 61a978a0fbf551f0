/- Texts joined. -/
import Derived.Test.YtmjjhknmbflfhaaGreatDoorN3
-- SpcD
namespace Go.Ar
open Go Go.Vc Go.Proofs
open Go.Bu (runOk)
set_option linter.unusedSimpArgs false
set_option linter.unusedVariables false

variable {σ : Hp} {F : Rg} {p q r : Nat} {sp : Sp} {l : List (Int × Sl)} {B : Nat → Nat}

/-- Half way through the clone: the words that are not to do are laid. -/
structure ClI (σ v : Hp) (a b h : Nat) (hd : List Value) (sp : Sp) (l todo : List (Int × Sl)) (l' : List (Int × Sl)) (B' : Nat → Nat) (it : Nat) : Prop where
  ext : Ext0 σ v
  hd : Blk v h hd
  row : Blk v a (pgV sp.st)
  map : MapL v b .i64 .s l'
  sub : ∀ x ∈ todo, x ∈ l
  keys : ∀ x : Int, (mget l' x).isSome = true ↔ (mget l x).isSome = true ∧ ¬ x ∈ todo.map (·.1)
  wd : ∀ (k : Nat) s, mget l' (k : Int) = some s → WdH v s (B' k) fun j => sp.wd (32 * k + j)
  inj : ∀ k k' : Nat, (mget l' (k : Int)).isSome = true → (mget l' (k' : Int)).isSome = true → B' k = B' k' → k = k'
  out : ∀ k : Nat, (mget l' (k : Int)).isSome = true → σ.size ≤ B' k ∧ B' k < v.size ∧ B' k ≠ a ∧ B' k ≠ b ∧ B' k ≠ h ∧ B' k ≠ it

end Go.Ar

-- BuG
namespace Go.Bu
open Go Go.Vc Go.Proofs
set_option linter.unusedSimpArgs false
set_option linter.unusedVariables false

variable {σ : Hp} {p n sb : Nat} {S : Nat → Bool} {ms : List Nat}

def mapV (ms : List Nat) : List Value := ms.map fun m => Value.map (some m)

/-- A heap that is being made: `j` of its maps are there. -/
structure Part (B : Nat) (h : Hp) (p n : Nat) (j : Nat) (s : Sl) (ms : List Nat) : Prop where
  len : ms.length = j
  sl : s.len = j
  hd : Blk h p [.int .i64 n, .slice s.a s.len s.cap]
  own : Own (fun b => B ≤ b ∧ b ≠ p ∧ b ∉ ms) h s 1 (mapV ms)
  new : ∀ m ∈ ms, B ≤ m ∧ m ≠ p ∧ m < h.size
  nd : ms.Nodup

theorem Part.done {B : Nat} {h : Hp} {j : Nat} {s : Sl} (hp : Part B h p n j s ms) (hB : B ≤ p) (hj : 0 < j) (n1 : 1 ≤ n) (n2 : n ≤ 1024) (lo : 2 ^ j ≤ 2 * n) (hi : n < 2 ^ j) (bnd : Bounded S n)
    (maps : ∀ k m, ms[k]? = some m → ∃ B : List (Int × Bool), MapL h m .i64 .b B ∧ Keys S k B) : ∃ sb, BH h p n S sb ms ∧ ∀ b, fp p sb ms b → B ≤ b := by
  rcases hp.own.2 with ⟨_, hl, _⟩ | ⟨sb, cs, ⟨hq, hqp, hqm⟩, ha, hb, hle, hcl, ht⟩
  · have := hp.sl; omega
  · refine ⟨sb, ⟨?_, ?_, maps, ?_, n1, n2, ?_, ?_, bnd⟩, ?_⟩
    · refine ⟨s.cap, ?_⟩
      have := hp.hd
      rw [ha, hp.sl, ← hp.len] at this
      exact this
    · refine ⟨cs.drop (mapV ms).length, ?_⟩
      have : mapV ms ++ cs.drop (mapV ms).length = cs := by
        conv => lhs; lhs; rw [← ht]
        exact List.take_append_drop _ _
      show Blk h sb (mapV ms ++ _)
      rw [this]; exact hb
    · simp only [List.nodup_cons, List.mem_cons, not_or]
      exact ⟨⟨fun e => hqp e.symm, fun hm => (hp.new p hm).2.1 rfl⟩, hqm, hp.nd⟩
    · rw [hp.len]; exact lo
    · rw [hp.len]; exact hi
    · intro b hb
      simp only [fp, List.mem_cons] at hb
      rcases hb with rfl | rfl | h
      · exact hB
      · exact hq
      · exact (hp.new b h).1

theorem Part.hdS {B : Nat} {h : Hp} {j : Nat} {s : Sl} (hp : Part B h p n j s ms) : cell h ⟨p, 1, none⟩ = some (.slice s.a s.len s.cap) := by rw [hp.hd.cell]; rfl
theorem Part.keep0 {B : Nat} {h h' : Hp} {j : Nat} {s : Sl} (hp : Part B h p n j s ms) (e : Ext0 h h') : Part B h' p n j s ms :=
  ⟨hp.len, hp.sl, e.blk hp.hd id, hp.own.keep0 e, fun m hm => ⟨(hp.new m hm).1, (hp.new m hm).2.1, Nat.lt_of_lt_of_le (hp.new m hm).2.2 e.1⟩, hp.nd⟩

/-- One more map, `m`, which lies in memory already; the box with it lies behind all. -/
theorem Part.step {B : Nat} {h : Hp} {j m e t bytes : Nat} {s : Sl} {zs : List Value} {K : Sl → Hp → Prop} (hp : Part B h p n j s ms) (hj : j ≤ 1000) (hbt : bytes ≤ 1000) (hz : zs.length = 1) (hm : B ≤ m) (hmp : m ≠ p) (hml : m < h.size) (hmn : m ∉ ms) (hms : ¬ OwnBlk s m)
    (hpB : p < h.size) (hBh : B ≤ h.size)
    (hgo : ∀ s' h', Ext (OwnBlk s) h h' → s'.len = j + 1 → Blk h' p [.int .i64 n, .slice s.a s.len s.cap] →
      (∀ h2, OnlyB h' h2 p → Blk h2 p [.int .i64 n, .slice s'.a s'.len s'.cap] → Part B h2 p n (j + 1) s' (ms ++ [m])) → K s' h') :
    App s 1 bytes e zs ⟨some ⟨h.size, 0, none⟩, 1, 1⟩ (h.push (.cells #[.map (some m)] t (0, 0))) K := by
  have hsl := hp.sl
  have own' : Own (fun b => B ≤ b ∧ b ≠ p ∧ b ∉ ms ++ [m]) (h.push (.cells #[.map (some m)] t (0, 0))) s 1 (mapV ms) := by
    have h1 := hp.own
    have h2 : Own (fun b => B ≤ b ∧ b ≠ p ∧ b ∉ ms ++ [m]) h s 1 (mapV ms) := by
      refine ⟨h1.1, h1.2.imp id ?_⟩
      rintro ⟨b, cs, ⟨q1, q2, q3⟩, ha, r⟩
      refine ⟨b, cs, ⟨q1, q2, ?_⟩, ha, r⟩
      simp only [List.mem_append, List.mem_singleton, not_or]
      exact ⟨q3, fun e => hms ⟨0, by rw [ha, e]⟩⟩
    exact h2.keep0 (ext_push _ _)
  have hsz : (h.push (.cells #[.map (some m)] t (0, 0))).size = h.size + 1 := by simp
  refine own'.app (ys := [.map (some m)]) ?_ hz rfl rd_one (by simp [one1]) ?_ ?_ Nat.zero_lt_one fun s' h' hl' he ho hne => ?_
  · intro b hb
    rw [hsz] at hb
    refine ⟨by omega, by omega, ?_⟩
    simp only [List.mem_append, List.mem_singleton, not_or]
    exact ⟨fun hmem => by have := (hp.new b hmem).2.2; omega, by omega⟩
  · simp only
    have : (s.len + 1) * bytes ≤ 1001 * 1000 := Nat.mul_le_mul (by omega) hbt
    omega
  · simp only; omega
  · simp only at hl'
    have he' : Ext (OwnBlk s) h h' := (ext_push h _).to.trans he
    have hnp : ¬ OwnBlk s p := fun hb => (hp.own.blk_lt hb).1.2.1 rfl
    refine hgo s' h' he' (by omega) (he'.blk hp.hd hnp) fun h2 h2o hb2 => ⟨by simp [hp.len], by omega, hb2, ?_, ?_, ?_⟩
    · have : mapV (ms ++ [m]) = mapV ms ++ [.map (some m)] := by simp [mapV]
      rw [this]
      exact ho.keep (Ext.of_only (F := (· = p)) h2o rfl) (fun b hq _ hf => hq.2.1 hf)
    · intro x hx
      have hs2 : h2.size = h'.size := h2o.1
      have := he'.1
      rcases List.mem_append.1 hx with h1 | h1
      · have := hp.new x h1
        exact ⟨this.1, this.2.1, by omega⟩
      · simp at h1; subst h1
        exact ⟨hm, hmp, by omega⟩
    · rw [List.nodup_append]
      refine ⟨hp.nd, by simp, ?_⟩
      intro a ha b hb
      simp at hb; subst hb
      rintro rfl; exact hmn ha

def emptyS : Nat → Bool := fun _ => false
theorem keys_empty (k : Nat) : Keys emptyS k [] := by
  refine ⟨by simp, fun q hq => ?_⟩
  have := can_free hq (first_in k q)
  simp [emptyS] at this

theorem New_ok (pages : Int) {R : Option Addr → Int → Hp → Prop} (hbad : ¬ (1 ≤ pages ∧ pages ≤ 1024) → R none 1 σ)
    (hR : ∀ (n : Nat), pages = (n : Int) → 1 ≤ n → n ≤ 1024 → ∀ σ' sb ms, Ext0 σ σ' → BH σ' σ.size n emptyS sb ms → (∀ b, fp σ.size sb ms b → σ.size ≤ b) → R (some ⟨σ.size, 0, none⟩) 0 σ') : buddy_New.call pages σ R := by
  refine buddy_New.of_vc ?_
  unfold buddy_New.vc
  refine JnB.intro (ifD (fun h1 => ifT rfl (hbad (by omega))) fun h1 => ?_)
  refine ifD (fun h2 => hbad (by omega)) fun h2 => ?_
  obtain ⟨n, rfl⟩ := Int.eq_ofNat_of_zero_le (show 0 ≤ pages by omega)
  have n1 : 1 ≤ n := by omega
  have n2 : n ≤ 1024 := by omega
  unfold Nw
  have e0 := ext_push σ (.cells #[.int .i64 (n : Int), .slice none 0 0] 52 (0, 0))
  refine loop1 (a := .i .i64) (fun t h => ∃ (j : Nat) (s : Sl) (ms : List Nat), t = ((2 ^ j : Nat) : Int) ∧ 2 ^ j ≤ 2 * n ∧ Ext0 σ h ∧ σ.size < h.size ∧ Part σ.size h σ.size n j s ms ∧ ∀ m ∈ ms, MapL h m .i64 .b []) (fun t _ => 2 * n + 1 - t.toNat)
    ⟨0, ⟨none, 0, 0⟩, [], rfl, by simp; omega, Ext.push _ _ _, by simp, ⟨rfl, rfl, Blk.push _ _ _, Own.nil _ _ _, by simp, by simp⟩, by simp⟩ ?_
  rintro t h ⟨j, s, ms, rfl, hj2, hE, hsz, hP, hms⟩
  have hj : j ≤ 11 := by
    apply Classical.byContradiction
    intro hc
    have : 2 ^ 12 ≤ 2 ^ j := Nat.pow_le_pow_right (by decide) (by omega)
    omega
  have hpj := Nat.two_pow_pos j
  refine ifD (fun hle => ?_) (fun hgt => ?_)
  · refine nilP ?_
    rw [add_lit, Nat.zero_add]
    refine ldS hP.hdS ?_
    have e1 := ext_push h (.map #[] 0)
    have hs1 : (h.push (.map #[] 0)).size = h.size + 1 := by simp
    have hP1 := hP.keep0 e1
    refine hP1.step (m := h.size) (by omega) (by omega) rfl (by omega) (by omega) (by omega) (fun hm => by have := (hP.new _ hm).2.2; omega) (fun hb => by have := (hP.own.blk_lt hb).2; omega) (by omega) (by omega) fun s' h' he hl hb hstep => ?_
    refine nilP (hb.st1 (by simp) fun h2 ho hb2 => ?_)
    have hP2 := hstep h2 ho hb2
    have hE2 : Ext0 σ h2 := by
      refine Ext.fresh (Ext.fresh (hE.trans e1) he fun i hi => (hP.own.blk_lt hi).1.1) (Ext.of_only (F := (· = σ.size)) ho rfl) fun i hi => ?_
      rw [hi]; exact Nat.le_refl _
    refine arN (m := 2 ^ (j + 1)) (by rw [Nat.pow_succ]; omega) (by rw [Nat.pow_succ]; omega) ⟨⟨j + 1, s', ms ++ [h.size], rfl, by rw [Nat.pow_succ]; omega, hE2, ?_, hP2, ?_⟩, by rw [Nat.pow_succ]; omega⟩
    · have := ho.1; have := he.1; omega
    · intro m hm
      have keepM : ∀ {m : Nat}, MapL (h.push (.map #[] 0)) m .i64 .b [] → ¬ OwnBlk s m → m ≠ σ.size → MapL h2 m .i64 .b [] := fun hM hn hne => only_mapL ho (he.mapL hM hn) hne
      rcases List.mem_append.1 hm with h1 | h1
      · exact keepM (e1.mapL (hms m h1) id) (fun hb => (hP.own.blk_lt hb).1.2.2 h1) (hP.new m h1).2.1
      · simp at h1; subst h1
        exact keepM (MapL.push _ _ _) (fun hb => by have := (hP.own.blk_lt hb).2; omega) (by omega)
  · have hjpos : 0 < j := by
      rcases Nat.eq_zero_or_pos j with e | e
      · subst e; simp at hgt; omega
      · exact e
    obtain ⟨sb, hB, hF⟩ := hP.done (S := emptyS) (Nat.le_refl _) hjpos n1 n2 hj2 (by omega) (fun x hx => by simp [emptyS] at hx) fun k m hm => ⟨[], hms m (List.mem_of_getElem? hm), keys_empty k⟩
    exact hR n rfl n1 n2 h sb ms hE hB hF

theorem Clone_ok (hB : BH σ p n S sb ms) {R : Option Addr → Hp → Prop}
    (hR : ∀ σ' sb' ms', Ext0 σ σ' → BH σ' σ.size n S sb' ms' → (∀ b, fp σ.size sb' ms' b → σ.size ≤ b) → R (some ⟨σ.size, 0, none⟩) σ') : buddy_Heap_Clone.call (some ⟨p, 0, none⟩) σ R := by
  refine buddy_Heap_Clone.of_vc ?_
  unfold buddy_Heap_Clone.vc
  have hl := hB.len
  refine made_ok hB (ifF rfl (nilP (hB.rN ?_)))
  unfold Nw
  refine nilP ((hB.keep0 (ext_push σ _)).rB fun cap => ?_)
  refine loop1 (a := .i .i64) (fun t h => ∃ (j : Nat) (s : Sl) (ms' : List Nat), t = (j : Int) ∧ j ≤ ms.length ∧ Ext0 σ h ∧ σ.size < h.size ∧ Part σ.size h σ.size n j s ms' ∧ ∀ k m', ms'[k]? = some m' → ∃ B : List (Int × Bool), MapL h m' .i64 .b B ∧ Keys S k B)
    (fun t _ => ms.length - t.toNat) ⟨0, ⟨none, 0, 0⟩, [], rfl, by omega, Ext.push _ _ _, by simp, ⟨rfl, rfl, Blk.push _ _ _, Own.nil _ _ _, by simp, by simp⟩, by simp⟩ ?_
  rintro t h ⟨j, s, ms', rfl, hj, hE, hsz, hP, hms⟩
  have hBh := hB.keep0 hE
  refine ifD (fun hlt => ?_) (fun hge => ?_)
  · simp only at hlt
    obtain ⟨m, hm⟩ := hB.get (k := j) (by omega)
    obtain ⟨B, hBm, hK⟩ := hBh.maps j m hm
    refine hBh.rM hm ⟨fun h' => cell h' ⟨σ.size, 1, none⟩ = some (.slice s.a s.len s.cap), hP.hdS, nilP ⟨s, fun h' hS => by rw [add_lit, Nat.zero_add]; exact hS, ?_⟩⟩
    refine clone_ok hBm fun h1 hs1 e1 hM1 => ?_
    have hP1 := hP.keep0 e1
    refine ⟨hP1.hdS, ?_⟩
    refine ⟨(hP1.keep0 (ext_push _ _)).hdS, ?_⟩
    refine hP1.step (m := h.size) (by omega) (by omega) rfl (by omega) (by omega) (by omega) (fun hm => by have := (hP.new _ hm).2.2; omega) (fun hb => by have := (hP.own.blk_lt hb).2; omega) (by omega) (by omega) fun s' h' he hl hb hstep => ?_
    refine nilP (hb.st1 (by simp) fun h2 ho hb2 => ?_)
    have hP2 := hstep h2 ho hb2
    have hE2 : Ext0 σ h2 := by
      refine Ext.fresh (Ext.fresh (hE.trans e1) he fun i hi => (hP.own.blk_lt hi).1.1) (Ext.of_only (F := (· = σ.size)) ho rfl) fun i hi => ?_
      rw [hi]; exact Nat.le_refl _
    refine arN (m := j + 1) (by omega) (by omega) ⟨⟨j + 1, s', ms' ++ [h.size], rfl, by omega, hE2, ?_, hP2, ?_⟩, by omega⟩
    · have := ho.1; have := he.1; omega
    · intro k m' hm'
      have keepM : ∀ {m : Nat} {B : List (Int × Bool)}, MapL h1 m .i64 .b B → ¬ OwnBlk s m → m ≠ σ.size → MapL h2 m .i64 .b B := fun hM hn hne => only_mapL ho (he.mapL hM hn) hne
      rcases Nat.lt_or_ge k ms'.length with h3 | h3
      · rw [List.getElem?_append_left h3] at hm'
        obtain ⟨B', hB', hK'⟩ := hms k m' hm'
        have hmem := List.mem_of_getElem? hm'
        exact ⟨B', keepM (e1.mapL hB' id) (fun hb => (hP.own.blk_lt hb).1.2.2 hmem) (hP.new m' hmem).2.1, hK'⟩
      · rw [List.getElem?_append_right h3] at hm'
        have hk : k = j := by
          have := (List.getElem?_eq_some_iff.1 hm').1
          simp at this
          have := hP.len
          omega
        subst hk
        rw [hP.len, Nat.sub_self] at hm'
        simp at hm'; subst hm'
        exact ⟨B, keepM hM1 (fun hb => by have := (hP.own.blk_lt hb).2; omega) (by omega), hK⟩
  · simp only at hge
    have : j = ms.length := by omega
    subst this
    obtain ⟨sb', hB', hF⟩ := hP.done (S := S) (Nat.le_refl _) hB.len1 hB.n1 hB.n2 hB.lo hB.hi hB.bnd hms
    exact hR h sb' ms' hE hB' hF

end Go.Bu

-- Garena
namespace Go.Proofs
open Go.Vc
set_option linter.unusedVariables false
set_option maxRecDepth 100000
def arena_Arena_Counts.hint : Hn := .seq (.o 6) (.seq (.seq (.o 3) (.cond (.seq (.o 6) (.leaf)) (.leaf))) (.seq (.o 5) (.seq (.seq (.o 6) (.block (.loop [(8, .one (.i .i64)), (9, .one (.i .i64)), (10, .one (.i .i64)), (11, .one (.i .i64)), (28, .one (.i .i64))] (.seq (.o 1) (.seq (.cond (.leaf) (.leaf)) (.seq (.block (.seq (.o 6) (.seq (.o 7) (.seq (.o 10) (.seq (.reg (.held true [] (.take 0 (.take 1 (.take 2 (.take 3 (.take 4 (.take 5 (.take 6 (.take 7 (.take 10 (.take 11 (.all [(8, .take 9 (.take 12 (.take 13 (.take 14 (.done)))))]))))))))))))) (.seq (.reg (.held true [] (.take 0 (.take 1 (.take 2 (.take 3 (.take 4 (.take 5 (.take 6 (.take 7 (.take 9 (.take 10 (.all [(8, .take 11 (.take 12 (.take 13 (.done))))]))))))))))))) (.seq (.o 6) (.o 7)))))))) (.o 2))))))) (.seq (.seq (.o 5) (.block (.loop [(12, .one (.i .i64))] (.seq (.reg (.seq [.it .i64 (.i .i64), .op])) (.seq (.cond (.leaf) (.leaf)) (.block (.seq (.reg (.seq [.it .i64 (.i .i64), .op, .op])) (.o 4)))))))) (.seq (.o 16) (.leaf))))))
def arena_Arena_Counts.vc (a : Option Addr) (σ : Hp) (R : Int → Int → Int → Int → Int → Int → Hp → Prop) : Prop :=
 arena_Arena_made.call a σ fun t21 v =>
 If (!t21) (R 0 0 0 0 0 0 v)
  (NilP a fun a24 =>
  LdS (a24.add 0) v fun t26 =>
  LoopK [(.i .i64), (.i .i64), (.i .i64), (.i .i64), (.i .i64)] (fun I => I 0 0 0 0 0 v) fun J (moved : Int) (room : Int) (tails : Int) (spans : Int) (t28 : Int) v1 =>
  If (decide (t28 < ((t26.len : Nat) : Int))) (Ix t26.a t26.len t28 3 fun a31 =>
   LdI .i64 (a31.add 0) v1 fun t32 =>
   LdI .i64 (a31.add 1) v1 fun t321 =>
   LdI .i64 (a31.add 2) v1 fun t322 =>
   Nw (.cells #[.int .i64 0, .int .i64 0, .int .i64 0] 51 (0, 0)) v1 fun n14 v2 =>
   St1 (n14.add 0) (.int .i64 t32) v2 fun v3 =>
   St1 (n14.add 1) (.int .i64 t321) v3 fun v4 =>
   St1 (n14.add 2) (.int .i64 t322) v4 fun v5 =>
   LdI .i64 (n14.add 0) v5 fun t34 =>
   LdI .i64 (n14.add 1) v5 fun t341 =>
   LdI .i64 (n14.add 2) v5 fun t342 =>
   sizes_Tail.call t34 t341 t342 v5 fun t35 t351 v6 =>
   NilP a fun a39 =>
   LdS (a39.add 5) v6 fun t41 =>
   Ix t41.a t41.len t28 1 fun a43 =>
   LdP a43 v6 fun t44 =>
   central_List_Spans.call t44 v6 fun t45 v7 =>
   Held v7 fun S =>
   NilP a fun a49 =>
   LdH S .s (a49.add 6) fun (t51 : Sl) =>
   Ix t51.a t51.len t28 1 fun a53 =>
   LdH S .p a53 fun (t54 : Option Addr) =>
   LdH S (.i .i64) (n14.add 0) fun (t58 : Int) =>
   transfer_Cache_Objects.call t54 v7 fun t55 v8 =>
   And (S v8) <|
   Ar .i64 (((t55.len : Nat) : Int) * t58) fun t59 =>
   Ar .i64 (moved + t59) fun moved1 =>
   Held v8 fun S1 =>
   NilP a fun a63 =>
   LdH S1 .s (a63.add 5) fun (t65 : Sl) =>
   Ix t65.a t65.len t28 1 fun a67 =>
   LdH S1 .p a67 fun (t68 : Option Addr) =>
   LdH S1 (.i .i64) (n14.add 0) fun (t71 : Int) =>
   central_List_Room.call t68 v8 fun t69 v9 =>
   And (S1 v9) <|
   Ar .i64 (t69 * t71) fun t72 =>
   Ar .i64 (room + t72) fun room1 =>
   Ar .i64 (((t45.len : Nat) : Int) * t35) fun t77 =>
   Ar .i64 (tails + t77) fun tails1 =>
   LdI .i64 (n14.add 1) v9 fun t82 =>
   Ar .i64 (((t45.len : Nat) : Int) * t82) fun t83 =>
   Ar .i64 (spans + t83) fun spans1 =>
   Ar .i64 (t28 + 1) fun t85 =>
   J moved1 room1 tails1 spans1 t85 v9)
   (NilP a fun a87 =>
   LdM (a87.add 7) v1 fun t89 =>
   Rng .i64 (.i .i64) t89 v1 fun it v10 =>
   LoopK [(.i .i64)] (fun I1 => I1 0 v10) fun J1 (runs : Int) v11 =>
   Nxt .i64 (.i .i64) it v11 (NilP a fun a104 =>
    LdP (a104.add 2) v11 fun t106 =>
    buddy_Heap_Free.call t106 v11 fun t107 v12 =>
    R moved room tails spans runs t107 v12)
    (fun key val v13 =>
    Ent .i64 (.i .i64) it v13 fun key1 val1 =>
    Ar .i64 (runs + val1) fun runs1 =>
    J1 runs1 v13)))
theorem arena_Arena_Counts.of_vc {a : Option Addr} {σ : Hp} {R : Int → Int → Int → Int → Int → Int → Hp → Prop} (hv : arena_Arena_Counts.vc a σ R) : arena_Arena_Counts.call a σ R :=
 fnK_sound Tryz.func18 (x := arena_Arena_Counts.hint) (args := [.pointer a]) (rs := [.one (.i .i64), .one (.i .i64), .one (.i .i64), .one (.i .i64), .one (.i .i64), .one (.i .i64)]) (R := R) (Eq.mpr (by kernel_rfl) hv)
def arena_Arena_ToTransfer.hint : Hn := .seq (.o 2) (.seq (.seq (.o 4) (.seq (.o 2) (.cond (.seq (.o 3) (.leaf)) (.leaf)))) (.seq (.seq (.o 11) (.cond (.seq (.o 2) (.leaf)) (.leaf))) (.seq (.seq (.o 3) (.block (.loop [(32, .one (.i .i64))] (.seq (.o 1) (.seq (.cond (.leaf) (.leaf)) (.seq (.block (.seq (.o 3) (.seq (.o 14) (.seq (.reg (.seq [.op, .op, .op, .grd false 2 [.op, .op]])) (.cond (.seq (.o 2) (.leaf)) (.leaf)))))) (.o 2))))))) (.seq (.o 13) (.leaf)))))
def arena_Arena_ToTransfer.vc (a : Option Addr) (vclass : Int) (objects : Sl) (σ : Hp) (R : Bool → Int → Hp → Prop) : Prop :=
 arena_Arena_check.call a vclass σ fun ve v =>
 If (ve != 0) (R false ve v)
  (NilP a fun a22 =>
  LdS (a22.add 0) v fun t24 =>
  Ix t24.a t24.len vclass 3 fun a26 =>
  LdI .i64 (a26.add 2) v fun t28 =>
  If (((objects.len : Nat) : Int) != t28) (R false 1 v)
   (LoopK [(.i .i64)] (fun I => I 0 v) fun J (t32 : Int) v1 =>
   If (decide (t32 < ((objects.len : Nat) : Int))) (Ix objects.a objects.len t32 1 fun a34 =>
    LdI .i64 a34 v1 fun addr =>
    NilP a fun a38 =>
    LdS (a38.add 5) v1 fun t40 =>
    Ix t40.a t40.len vclass 1 fun a42 =>
    LdP a42 v1 fun t43 =>
    central_List_IsTaken.call t43 addr v1 fun t45 t451 v2 =>
    JnB (fun r v3 =>
     If r (R false 8 v3)
      (Ar .i64 (t32 + 1) fun t54 =>
      J t54 v3)) fun J1 =>
    If (t451 != 0) (J1 true v2)
     (J1 (!t45) v2))
    (NilP a fun a56 =>
    LdS (a56.add 6) v1 fun t58 =>
    Ix t58.a t58.len vclass 1 fun a60 =>
    LdP a60 v1 fun t61 =>
    transfer_Cache_Insert.call t61 objects v1 fun t63 t631 v4 =>
    R t63 t631 v4)))
theorem arena_Arena_ToTransfer.of_vc {a : Option Addr} {vclass : Int} {objects : Sl} {σ : Hp} {R : Bool → Int → Hp → Prop} (hv : arena_Arena_ToTransfer.vc a vclass objects σ R) : arena_Arena_ToTransfer.call a vclass objects σ R :=
 fnK_sound Tryz.func22 (x := arena_Arena_ToTransfer.hint) (args := [.pointer a, .int .i64 vclass, .slice objects.a objects.len objects.cap]) (rs := [.one .b, .one (.i .i64)]) (R := R) (Eq.mpr (by kernel_rfl) hv)
def arena_Arena_FromTransfer.hint : Hn := .seq (.o 2) (.seq (.seq (.o 4) (.seq (.o 2) (.cond (.seq (.o 3) (.leaf)) (.leaf)))) (.seq (.o 12) (.leaf)))
def arena_Arena_FromTransfer.vc (a : Option Addr) (vclass : Int) (σ : Hp) (R : Sl → Int → Hp → Prop) : Prop :=
 arena_Arena_check.call a vclass σ fun ve v =>
 If (ve != 0) (R ⟨none, 0, 0⟩ ve v)
  (NilP a fun a14 =>
  LdS (a14.add 6) v fun t16 =>
  Ix t16.a t16.len vclass 1 fun a18 =>
  LdP a18 v fun t19 =>
  transfer_Cache_Remove.call t19 v fun t20 t201 v1 =>
  R t20 t201 v1)
theorem arena_Arena_FromTransfer.of_vc {a : Option Addr} {vclass : Int} {σ : Hp} {R : Sl → Int → Hp → Prop} (hv : arena_Arena_FromTransfer.vc a vclass σ R) : arena_Arena_FromTransfer.call a vclass σ R :=
 fnK_sound Tryz.func23 (x := arena_Arena_FromTransfer.hint) (args := [.pointer a, .int .i64 vclass]) (rs := [.one .s, .one (.i .i64)]) (R := R) (Eq.mpr (by kernel_rfl) hv)
def arena_Arena_Release.hint : Hn := .seq (.o 2) (.seq (.block (.seq (.o 4) (.cond (.seq (.o 2) (.leaf)) (.seq (.o 3) (.cond (.seq (.o 2) (.leaf)) (.leaf)))))) (.seq (.seq (.o 6) (.block (.loop [(28, .one (.i .i64))] (.seq (.o 1) (.seq (.cond (.leaf) (.leaf)) (.seq (.block (.seq (.o 3) (.o 4))) (.o 2))))))) (.seq (.o 11) (.seq (.seq (.o 2) (.cond (.seq (.o 3) (.leaf)) (.leaf))) (.seq (.o 1) (.seq (.reg (.tail 10 [.op, .op, .op, .op, .op, .op, .op, .op, .op, .op] [.op, .op])) (.seq (.seq (.o 3) (.block (.loop [(10, .one (.i .i64)), (62, .one (.i .i64))] (.seq (.o 1) (.seq (.cond (.leaf) (.leaf)) (.seq (.block (.seq (.o 4) (.seq (.seq (.o 3) (.block (.loop [(68, .one (.i .i64))] (.seq (.o 1) (.seq (.cond (.leaf) (.leaf)) (.seq (.block (.seq (.o 3) (.o 6))) (.o 2))))))) (.o 5)))) (.o 2))))))) (.seq (.o 3) (.leaf)))))))))
def arena_Arena_Release.vc (a : Option Addr) (want : Int) (σ : Hp) (R : Int → Int → Hp → Prop) : Prop :=
 arena_Arena_made.call a σ fun t18 v =>
 If (!t18) (R 0 5 v)
  (If (decide (want < 0)) (R 0 1 v)
   (NilP a fun a24 =>
   LdS (a24.add 5) v fun t26 =>
   LoopK [(.i .i64)] (fun I => I 0 v) fun J (t28 : Int) v1 =>
   If (decide (t28 < ((t26.len : Nat) : Int))) (Ix t26.a t26.len t28 1 fun a30 =>
    LdP a30 v1 fun l =>
    central_List_Sweep.call l v1 fun t34 v2 =>
    arena_Arena_back.call a t34 v2 fun v3 =>
    Ar .i64 (t28 + 1) fun t36 =>
    J t36 v3)
    (NilP a fun a39 =>
    LdP (a39.add 3) v1 fun t41 =>
    huge_Tracker_Plan.call t41 want v1 fun t43 t431 v4 =>
    If (t431 != 0) (R 0 t431 v4)
     (NilP a fun a50 =>
     LdP (a50.add 3) v4 fun t52 =>
     NilP a fun a55 =>
     LdP (a55.add 1) v4 fun t57 =>
     Nw (.cells #[.func (.func 71) #[.pointer t52] #[], .func (.func 72) #[.pointer t57] #[]] 98 (0, 0)) v4 fun n59 v5 =>
     LoopK [(.i .i64), (.i .i64)] (fun I1 => I1 0 0 v5) fun J1 (released : Int) (t62 : Int) v6 =>
     If (decide (t62 < ((t43.len : Nat) : Int))) (Ix t43.a t43.len t62 2 fun a64 =>
      LdI .i64 (a64.add 0) v6 fun t65 =>
      LdI .i64 (a64.add 1) v6 fun t651 =>
      Nw (.cells #[.int .i64 0, .int .i64 0] 123 (0, 0)) v6 fun n13 v7 =>
      St1 (n13.add 0) (.int .i64 t65) v7 fun v8 =>
      St1 (n13.add 1) (.int .i64 t651) v8 fun v9 =>
      LoopK [(.i .i64)] (fun I2 => I2 0 v9) fun J2 (t68 : Int) v10 =>
      If (decide (t68 < ((2 : Nat) : Int))) (Ix (some n59) 2 t68 1 fun a70 =>
       LdF a70 v10 fun release =>
       LdI .i64 (n13.add 0) v10 fun t74 =>
       LdI .i64 (n13.add 1) v10 fun t76 =>
       CallF Tryz.prog release [.int .i64 t74, .int .i64 t76] [.one (.i .i64)] v10 fun t77 v11 =>
       Ar .i64 (t68 + 1) fun t78 =>
       J2 t78 v11)
       (LdI .i64 (n13.add 1) v10 fun t81 =>
       Ar .i64 (released + t81) fun released1 =>
       Ar .i64 (t62 + 1) fun t83 =>
       J1 released1 t83 v10))
      (R released 0 v6)))))
theorem arena_Arena_Release.of_vc {a : Option Addr} {want : Int} {σ : Hp} {R : Int → Int → Hp → Prop} (hv : arena_Arena_Release.vc a want σ R) : arena_Arena_Release.call a want σ R :=
 fnK_sound Tryz.func25 (x := arena_Arena_Release.hint) (args := [.pointer a, .int .i64 want]) (rs := [.one (.i .i64), .one (.i .i64)]) (R := R) (Eq.mpr (by kernel_rfl) hv)
def arena_Arena_Trim.hint : Hn := .seq (.o 1) (.seq (.seq (.o 3) (.cond (.seq (.o 1) (.leaf)) (.leaf))) (.seq (.o 6) (.seq (.seq (.o 3) (.block (.loop [(16, .one (.i .i64))] (.seq (.o 1) (.seq (.cond (.leaf) (.leaf)) (.seq (.block (.seq (.o 3) (.seq (.o 6) (.seq (.o 7) (.o 7))))) (.o 2))))))) (.seq (.o 3) (.leaf)))))
def arena_Arena_Trim.vc (a : Option Addr) (σ : Hp) (R : Int → Hp → Prop) : Prop :=
 arena_Arena_made.call a σ fun t7 v =>
 If (!t7) (R 0 v)
  (NilP a fun a10 =>
  LdP (a10.add 3) v fun t12 =>
  huge_Tracker_Idle.call t12 v fun idle v1 =>
  LoopK [(.i .i64)] (fun I => I 0 v1) fun J (t16 : Int) v2 =>
  If (decide (t16 < ((idle.len : Nat) : Int))) (Ix idle.a idle.len t16 1 fun a18 =>
   LdI .i64 a18 v2 fun vh =>
   NilP a fun a21 =>
   LdP (a21.add 3) v2 fun t23 =>
   huge_Tracker_Remove.call t23 vh v2 fun t25 v3 =>
   NilP a fun a27 =>
   LdP (a27.add 2) v3 fun t29 =>
   Ar .i64 (vh * 16) fun t31 =>
   buddy_Heap_TakeRun.call t29 t31 16 v3 fun t32 v4 =>
   NilP a fun a34 =>
   LdP (a34.add 1) v4 fun t36 =>
   Ar .i64 (vh * 16) fun t38 =>
   space_Space_Unmap.call t36 t38 16 v4 fun t39 v5 =>
   Ar .i64 (t16 + 1) fun t40 =>
   J t40 v5)
   (R ((idle.len : Nat) : Int) v2))
theorem arena_Arena_Trim.of_vc {a : Option Addr} {σ : Hp} {R : Int → Hp → Prop} (hv : arena_Arena_Trim.vc a σ R) : arena_Arena_Trim.call a σ R :=
 fnK_sound Tryz.func26 (x := arena_Arena_Trim.hint) (args := [.pointer a]) (rs := [.one (.i .i64)]) (R := R) (Eq.mpr (by kernel_rfl) hv)
def arena_Arena_Owns.hint : Hn := .seq (.o 1) (.seq (.reg (.seq [.op, .op, .op, .grd true 7 [.op, .op, .op, .op, .op, .op, .op], .op])) (.leaf))
def arena_Arena_Owns.vc (a : Option Addr) (page : Int) (σ : Hp) (R : Bool → Hp → Prop) : Prop :=
 arena_Arena_made.call a σ fun t6 v =>
 JnB (fun r v1 =>
  R r v1) fun J =>
 If t6 (NilP a fun a9 =>
  LdP (a9.add 3) v fun t11 =>
  huge_Tracker_State.call t11 page v fun t13 v2 =>
  J (decide (t13 > 0)) v2)
  (J false v)
theorem arena_Arena_Owns.of_vc {a : Option Addr} {page : Int} {σ : Hp} {R : Bool → Hp → Prop} (hv : arena_Arena_Owns.vc a page σ R) : arena_Arena_Owns.call a page σ R :=
 fnK_sound Tryz.func28 (x := arena_Arena_Owns.hint) (args := [.pointer a, .int .i64 page]) (rs := [.one .b]) (R := R) (Eq.mpr (by kernel_rfl) hv)
def arena_Arena_Find.hint : Hn := .seq (.o 3) (.seq (.seq (.o 3) (.cond (.seq (.o 3) (.leaf)) (.leaf))) (.seq (.seq (.o 2) (.cond (.seq (.o 3) (.leaf)) (.leaf))) (.seq (.o 8) (.seq (.seq (.o 2) (.cond (.seq (.o 3) (.leaf)) (.leaf))) (.sjn [] (.seq (.o 2) (.cond (.seq (.o 5) (.block (.loop [] (.seq (.reg (.seq [.it .i64 (.i .i64), .op])) (.seq (.cond (.leaf) (.leaf)) (.block (.seq (.reg (.seq [.it .i64 (.i .i64), .op, .op, .op, .op])) (.seq (.o 3) (.seq (.reg (.seq [.op, .op, .op, .op, .grd true 5 [.op, .op, .op, .op, .op]])) (.cond (.seq (.o 5) (.leaf)) (.leaf))))))))))) (.leaf))) (.seq (.o 15) (.seq (.seq (.o 2) (.cond (.seq (.o 4) (.leaf)) (.leaf))) (.seq (.o 6) (.leaf)))))))))
def arena_Arena_Find.vc (a : Option Addr) (addr : Int) (σ : Hp) (R : Int → Int → Int → Hp → Prop) : Prop :=
 arena_Arena_made.call a σ fun t14 v =>
 If (!t14) (R 0 0 5 v)
  (If (decide (addr < 0)) (R 0 0 8 v)
   (NilP a fun a19 =>
   LdP (a19.add 4) v fun t21 =>
   Nz 256 <| Ar .i64 (addr.tdiv 256) fun t23 =>
   pagemap_Map_Get.call t21 t23 v fun no v1 =>
   If (no == 0) (R 0 0 8 v1)
    (Jn [] (fun v2 =>
     NilP a fun a55 =>
     LdS (a55.add 5) v2 fun t57 =>
     Ar .i64 (no - 1) fun t59 =>
     Ix t57.a t57.len t59 1 fun a60 =>
     LdP a60 v2 fun t61 =>
     central_List_Find.call t61 addr v2 fun t63 t631 v3 =>
     If (t631 != 0) (R 0 0 t631 v3)
      (Ar .i64 (no - 1) fun t70 =>
      R t70 t63 0 v3)) fun J =>
    If (no == 41) (NilP a fun a30 =>
     LdM (a30.add 7) v1 fun t32 =>
     Rng .i64 (.i .i64) t32 v1 fun it v4 =>
     LoopK [] (fun I => I v4) fun J1 v5 =>
     Nxt .i64 (.i .i64) it v5 (J v5)
      (fun key val v6 =>
      Ent .i64 (.i .i64) it v6 fun key1 val1 =>
      Nz 256 <| Ar .i64 (addr.tdiv 256) fun p =>
      JnB (fun r v7 =>
       If r (Ar .i64 (key1 * 256) fun t52 =>
        R (-1) t52 0 v7)
        (J1 v7)) fun J2 =>
      If (decide (key1 ≤ p)) (Ar .i64 (key1 + val1) fun t48 =>
       J2 (decide (p < t48)) v6)
       (J2 false v6)))
     (J v1))))
theorem arena_Arena_Find.of_vc {a : Option Addr} {addr : Int} {σ : Hp} {R : Int → Int → Int → Hp → Prop} (hv : arena_Arena_Find.vc a addr σ R) : arena_Arena_Find.call a addr σ R :=
 fnK_sound Tryz.func29 (x := arena_Arena_Find.hint) (args := [.pointer a, .int .i64 addr]) (rs := [.one (.i .i64), .one (.i .i64), .one (.i .i64)]) (R := R) (Eq.mpr (by kernel_rfl) hv)
def arena_Arena_IsTaken.hint : Hn := .seq (.o 1) (.seq (.o 10) (.seq (.seq (.reg (.seq [.op, .op, .op, .grd false 3 [.op, .op, .op]])) (.cond (.seq (.o 1) (.leaf)) (.leaf))) (.seq (.seq (.o 2) (.cond (.seq (.o 1) (.leaf)) (.leaf))) (.seq (.o 14) (.seq (.o 2) (.leaf))))))
def arena_Arena_IsTaken.vc (a : Option Addr) (addr : Int) (σ : Hp) (R : Bool → Hp → Prop) : Prop :=
 arena_Arena_Find.call a addr σ fun t13 t131 t132 v =>
 JnB (fun r v1 =>
  If r (R false v1)
   (If (decide (t13 < 0)) (R true v1)
    (NilP a fun a28 =>
    LdS (a28.add 5) v1 fun t30 =>
    Ix t30.a t30.len t13 1 fun a32 =>
    LdP a32 v1 fun t33 =>
    central_List_IsTaken.call t33 addr v1 fun t35 t351 v2 =>
    R t35 v2))) fun J =>
 If (t132 != 0) (J true v)
  (J (t131 != addr) v)
theorem arena_Arena_IsTaken.of_vc {a : Option Addr} {addr : Int} {σ : Hp} {R : Bool → Hp → Prop} (hv : arena_Arena_IsTaken.vc a addr σ R) : arena_Arena_IsTaken.call a addr σ R :=
 fnK_sound Tryz.func30 (x := arena_Arena_IsTaken.hint) (args := [.pointer a, .int .i64 addr]) (rs := [.one .b]) (R := R) (Eq.mpr (by kernel_rfl) hv)
def arena_Arena_TakePages.hint : Hn := .seq (.o 2) (.seq (.block (.seq (.o 4) (.cond (.seq (.o 2) (.leaf)) (.seq (.reg (.seq [.op, .op, .op, .grd false 2 [.op, .op], .op, .grd false 2 [.op, .op], .op, .grd false 2 [.op, .op], .op, .grd false 5 [.op, .op, .op, .op, .op], .op])) (.cond (.seq (.o 2) (.leaf)) (.leaf)))))) (.seq (.o 9) (.seq (.seq (.o 2) (.cond (.seq (.o 3) (.leaf)) (.leaf))) (.seq (.o 7) (.seq (.o 3) (.leaf))))))
def arena_Arena_TakePages.vc (a : Option Addr) (pages : Int) (align : Int) (σ : Hp) (R : Int → Int → Hp → Prop) : Prop :=
 arena_Arena_made.call a σ fun t12 v =>
 If (!t12) (R 0 5 v)
  (JnB (fun r v1 =>
   JnB (fun r1 v2 =>
    JnB (fun r2 v3 =>
     JnB (fun r3 v4 =>
      If r3 (R 0 1 v4)
       (arena_Arena_get.call a pages align 41 v4 fun t40 t401 v5 =>
       If (t401 != 0) (R 0 t401 v5)
        (NilP a fun a47 =>
        LdM (a47.add 7) v5 fun t49 =>
        MSet .i64 (.i .i64) t49 t40 pages v5 fun v6 =>
        R t40 0 v6))) fun J3 =>
     If r2 (J3 true v3)
      (Ar .i64 (align - 1) fun t32 =>
      J3 ((bits .and .i64 align t32) != 0) v3)) fun J2 =>
    If r1 (J2 true v2)
     (J2 (decide (align > 16)) v2)) fun J1 =>
   If r (J1 true v1)
    (J1 (decide (align < 1)) v1)) fun J =>
  If (decide (pages < 1)) (J true v)
   (J (decide (pages > 64)) v))
theorem arena_Arena_TakePages.of_vc {a : Option Addr} {pages : Int} {align : Int} {σ : Hp} {R : Int → Int → Hp → Prop} (hv : arena_Arena_TakePages.vc a pages align σ R) : arena_Arena_TakePages.call a pages align σ R :=
 fnK_sound Tryz.func33 (x := arena_Arena_TakePages.hint) (args := [.pointer a, .int .i64 pages, .int .i64 align]) (rs := [.one (.i .i64), .one (.i .i64)]) (R := R) (Eq.mpr (by kernel_rfl) hv)
def arena_New.hint : Hn := .seq (.o 2) (.seq (.seq (.o 3) (.cond (.seq (.o 2) (.leaf)) (.leaf))) (.seq (.o 3) (.seq (.seq (.reg (.seq [.op, .op, .op, .grd false 3 [.op, .op, .op], .op, .grd false 2 [.op, .op], .op, .grd false 2 [.op, .op]])) (.cond (.seq (.o 2) (.leaf)) (.leaf))) (.seq (.o 8) (.seq (.o 9) (.seq (.o 9) (.seq (.seq (.o 3) (.block (.loop [(61, .one (.i .i64))] (.seq (.o 1) (.seq (.cond (.leaf) (.leaf)) (.seq (.block (.seq (.o 4) (.seq (.o 7) (.seq (.o 9) (.reg (.heldJ true [18, 21] [] (.take 0 (.take 1 (.take 2 (.take 3 (.take 4 (.take 5 (.take 6 (.take 9 (.take 10 (.take 11 (.take 12 (.take 13 (.all [(7, .all [(8, .all [(14, .all [(15, .take 16 (.take 17 (.all [(18, .take 19 (.take 20 (.all [(21, .done)])))])))])]), (14, .all [(8, .all [(15, .take 16 (.take 17 (.all [(18, .take 19 (.take 20 (.all [(21, .done)])))])))])])]), (14, .all [(7, .all [(8, .all [(15, .take 16 (.take 17 (.all [(18, .take 19 (.take 20 (.all [(21, .done)])))])))])])])]))))))))))))))))))) (.o 2))))))) (.seq (.o 3) (.leaf)))))))))
def arena_New.vc (table : Sl) (s : Option Addr) (room : Int) (σ : Hp) (R : Option Addr → Int → Hp → Prop) : Prop :=
 sizes_Valid.call table σ fun t17 v =>
 If (!t17) (R none 2 v)
  (space_Space_Pages.call s v fun n v1 =>
  JnB (fun r v2 =>
   JnB (fun r1 v3 =>
    JnB (fun r2 v4 =>
     If r2 (R none 1 v4)
      (slices_Clone_api_Class_api_Class.call table v4 fun t37 v5 =>
      pagemap_New.call v5 fun t39 v6 =>
      Nw (.map #[] 0) v6 fun n40 v7 =>
      Nw (.cells #[.slice t37.a t37.len t37.cap, .pointer s, .pointer none, .pointer none, .pointer t39, .slice none 0 0, .slice none 0 0, .map (some n40.block)] 76 (0, 0)) v7 fun n42 v8 =>
      buddy_New.call n v8 fun t46 t461 v9 =>
      NilP (some n42) fun a49 =>
      St1 (a49.add 2) (.pointer t46) v9 fun v10 =>
      huge_New.call n v10 fun t54 t541 v11 =>
      NilP (some n42) fun a57 =>
      St1 (a57.add 3) (.pointer t54) v11 fun v12 =>
      LoopK [(.i .i64)] (fun I => I 0 v12) fun J3 (t61 : Int) v13 =>
      If (decide (t61 < ((table.len : Nat) : Int))) (Ix table.a table.len t61 3 fun a63 =>
       LdI .i64 (a63.add 0) v13 fun t64 =>
       LdI .i64 (a63.add 1) v13 fun t641 =>
       LdI .i64 (a63.add 2) v13 fun t642 =>
       Nw (.cells #[.int .i64 0, .int .i64 0, .int .i64 0] 51 (0, 0)) v13 fun n11 v14 =>
       St1 (n11.add 0) (.int .i64 t64) v14 fun v15 =>
       St1 (n11.add 1) (.int .i64 t641) v15 fun v16 =>
       St1 (n11.add 2) (.int .i64 t642) v16 fun v17 =>
       LdI .i64 (n11.add 0) v17 fun t66 =>
       LdI .i64 (n11.add 1) v17 fun t661 =>
       LdI .i64 (n11.add 2) v17 fun t662 =>
       central_New.call t66 t661 t662 v17 fun t67 t671 v18 =>
       LdI .i64 (n11.add 2) v18 fun t72 =>
       transfer_New.call t72 room v18 fun t74 t741 v19 =>
       Jn [] (fun v20 =>
        Ar .i64 (t61 + 1) fun t97 =>
        J3 t97 v20) fun J4 =>
       Held v19 fun S =>
       NilP (some n42) fun a80 =>
       LdH S .s (a80.add 5) fun (t82 : Sl) =>
       NilP (some n42) fun a87 =>
       LdH S .s (a87.add 6) fun (t89 : Sl) =>
        (Nw (.cells #[.pointer t67] 110 (0, 0)) v19 fun n84 v21 =>
        And (S v21) <|
         (App t82 1 8 110 [.pointer none] ⟨(some n84), 1, 1⟩ v21 fun t85 v22 =>
         And (S v22) <|
         Nw (.cells #[.pointer t74] 112 (0, 0)) v22 fun n91 v23 =>
         And (S v23) <|
         App t89 1 8 112 [.pointer none] ⟨(some n91), 1, 1⟩ v23 fun t92 v24 =>
         And (S v24) <|
         NilP (some n42) fun a93 =>
         St1 (a93.add 5) (.slice t85.a t85.len t85.cap) v24 fun v25 =>
         NilP (some n42) fun a95 =>
         St1 (a95.add 6) (.slice t92.a t92.len t92.cap) v25 fun v26 =>
         J4 v26) ∧
         (Nw (.cells #[.pointer t74] 112 (0, 0)) v21 fun n911 v27 =>
         And (S v27) <|
         App t82 1 8 110 [.pointer none] ⟨(some n84), 1, 1⟩ v27 fun t851 v28 =>
         And (S v28) <|
         App t89 1 8 112 [.pointer none] ⟨(some n911), 1, 1⟩ v28 fun t921 v29 =>
         And (S v29) <|
         NilP (some n42) fun a931 =>
         St1 (a931.add 5) (.slice t851.a t851.len t851.cap) v29 fun v30 =>
         NilP (some n42) fun a951 =>
         St1 (a951.add 6) (.slice t921.a t921.len t921.cap) v30 fun v31 =>
         J4 v31)) ∧
        (Nw (.cells #[.pointer t74] 112 (0, 0)) v19 fun n912 v32 =>
        And (S v32) <|
        Nw (.cells #[.pointer t67] 110 (0, 0)) v32 fun n841 v33 =>
        And (S v33) <|
        App t82 1 8 110 [.pointer none] ⟨(some n841), 1, 1⟩ v33 fun t852 v34 =>
        And (S v34) <|
        App t89 1 8 112 [.pointer none] ⟨(some n912), 1, 1⟩ v34 fun t922 v35 =>
        And (S v35) <|
        NilP (some n42) fun a932 =>
        St1 (a932.add 5) (.slice t852.a t852.len t852.cap) v35 fun v36 =>
        NilP (some n42) fun a952 =>
        St1 (a952.add 6) (.slice t922.a t922.len t922.cap) v36 fun v37 =>
        J4 v37))
       (R (some n42) 0 v13))) fun J2 =>
    If r1 (J2 true v3)
     (J2 (decide (room > 8)) v3)) fun J1 =>
   If r (J1 true v2)
    (J1 (decide (room < 0)) v2)) fun J =>
  If (decide (n < 32)) (J true v1)
   (Nz 16 <|
   J ((n.tmod 16) != 0) v1))
theorem arena_New.of_vc {table : Sl} {s : Option Addr} {room : Int} {σ : Hp} {R : Option Addr → Int → Hp → Prop} (hv : arena_New.vc table s room σ R) : arena_New.call table s room σ R :=
 fnK_sound Tryz.func37 (x := arena_New.hint) (args := [.slice table.a table.len table.cap, .pointer s, .int .i64 room]) (rs := [.one .p, .one (.i .i64)]) (R := R) (Eq.mpr (by kernel_rfl) hv)
def arena_Arena_Clone.hint : Hn := .seq (.o 1) (.seq (.seq (.reg (.heldJ false [] [(22, .one .b)] (.take 0 (.all [(1, .take 2 (.take 3 (.split 13 (.take 4 (.take 5 (.take 6 (.take 7 (.take 8 (.take 9 (.take 10 (.take 11 (.take 12 (.done)))))))))) (.take 4 (.take 6 (.take 7 (.take 8 (.all [(5, .all [(9, .all [(10, .take 11 (.take 12 (.done)))])]), (9, .all [(5, .all [(10, .take 11 (.take 12 (.done)))])])]))))))))])))) (.cond (.seq (.o 1) (.leaf)) (.leaf))) (.seq (.reg (.heldJ true [] [(5, .one .p)] (.take 0 (.take 1 (.take 2 (.take 3 (.take 5 (.take 6 (.take 7 (.take 8 (.take 9 (.take 11 (.take 12 (.take 13 (.take 14 (.take 16 (.take 17 (.take 18 (.take 19 (.all [(4, .all [(10, .all [(15, .all [(20, .all [(21, .take 22 (.all [(23, .take 24 (.done))]))]), (21, .all [(20, .take 22 (.all [(23, .take 24 (.done))]))])]), (21, .all [(15, .all [(20, .take 22 (.all [(23, .take 24 (.done))]))])])]), (21, .all [(10, .all [(15, .all [(20, .take 22 (.all [(23, .take 24 (.done))]))])])])]), (21, .all [(4, .all [(10, .all [(15, .all [(20, .take 22 (.all [(23, .take 24 (.done))]))])])])])])))))))))))))))))))) (.seq (.seq (.o 6) (.block (.loop [(52, .one (.i .i64))] (.seq (.o 1) (.seq (.cond (.leaf) (.leaf)) (.seq (.block (.seq (.o 5) (.reg (.held true [26, 29] (.take 0 (.take 1 (.take 2 (.take 3 (.take 4 (.take 5 (.take 6 (.take 10 (.take 11 (.take 12 (.take 13 (.take 14 (.take 15 (.take 16 (.take 17 (.take 18 (.take 19 (.take 20 (.all [(7, .all [(8, .all [(9, .all [(21, .all [(22, .all [(23, .take 24 (.take 25 (.all [(26, .take 27 (.take 28 (.all [(29, .done)])))])))])])])])])]))))))))))))))))))))))) (.o 2))))))) (.seq (.seq (.o 5) (.block (.loop [] (.seq (.reg (.seq [.it .i64 (.i .i64), .op])) (.seq (.cond (.leaf) (.leaf)) (.block (.seq (.reg (.seq [.it .i64 (.i .i64), .op, .op, .op, .op])) (.o 7)))))))) (.seq (.o 2) (.leaf))))))
def arena_Arena_Clone.vc (a : Option Addr) (s : Option Addr) (σ : Hp) (R : Option Addr → Hp → Prop) : Prop :=
 Jn [.b] (fun (t22 : Bool) v =>
  If t22 (R none v)
   (Jn [.p] (fun (vx : Option Addr) v1 =>
    NilP a fun a48 =>
    LdS (a48.add 5) v1 fun t50 =>
    LoopK [(.i .i64)] (fun I => I 0 v1) fun J2 (t52 : Int) v2 =>
    If (decide (t52 < ((t50.len : Nat) : Int))) (Ix t50.a t50.len t52 1 fun a55 =>
     LdP a55 v2 fun l =>
     Held v2 fun S1 =>
     NilP vx fun a60 =>
     LdH S1 .s (a60.add 5) fun (t62 : Sl) =>
     NilP vx fun a68 =>
     LdH S1 .s (a68.add 6) fun (t70 : Sl) =>
     NilP a fun a72 =>
     LdH S1 .s (a72.add 6) fun (t74 : Sl) =>
     Ix t74.a t74.len t52 1 fun a76 =>
     LdH S1 .p a76 fun (t77 : Option Addr) =>
     central_List_Clone.call l v2 fun t64 v3 =>
     And (S1 v3) <|
     Nw (.cells #[.pointer t64] 110 (0, 0)) v3 fun n65 v4 =>
     And (S1 v4) <|
     App t62 1 8 110 [.pointer none] ⟨(some n65), 1, 1⟩ v4 fun t66 v5 =>
     And (S1 v5) <|
     transfer_Cache_Clone.call t77 v5 fun t78 v6 =>
     And (S1 v6) <|
     Nw (.cells #[.pointer t78] 112 (0, 0)) v6 fun n79 v7 =>
     And (S1 v7) <|
     App t70 1 8 112 [.pointer none] ⟨(some n79), 1, 1⟩ v7 fun t80 v8 =>
     And (S1 v8) <|
     NilP vx fun a81 =>
     St1 (a81.add 5) (.slice t66.a t66.len t66.cap) v8 fun v9 =>
     NilP vx fun a83 =>
     St1 (a83.add 6) (.slice t80.a t80.len t80.cap) v9 fun v10 =>
     Ar .i64 (t52 + 1) fun t85 =>
     J2 t85 v10)
     (NilP a fun a87 =>
     LdM (a87.add 7) v2 fun t89 =>
     Rng .i64 (.i .i64) t89 v2 fun it v11 =>
     LoopK [] (fun I1 => I1 v11) fun J3 v12 =>
     Nxt .i64 (.i .i64) it v12 (R vx v12)
      (fun key val v13 =>
      Ent .i64 (.i .i64) it v13 fun key1 val1 =>
      NilP vx fun a97 =>
      LdM (a97.add 7) v13 fun t99 =>
      MSet .i64 (.i .i64) t99 key1 val1 v13 fun v14 =>
      J3 v14))) fun J1 =>
   Held v fun S =>
   NilP a fun a24 =>
   LdH S .s (a24.add 0) fun (t26 : Sl) =>
   NilP a fun a30 =>
   LdH S .p (a30.add 2) fun (t32 : Option Addr) =>
   NilP a fun a35 =>
   LdH S .p (a35.add 3) fun (t37 : Option Addr) =>
   NilP a fun a40 =>
   LdH S .p (a40.add 4) fun (t42 : Option Addr) =>
    (slices_Clone_api_Class_api_Class.call t26 v fun t27 v15 =>
    And (S v15) <|
     (buddy_Heap_Clone.call t32 v15 fun t33 v16 =>
     And (S v16) <|
      (huge_Tracker_Clone.call t37 v16 fun t38 v17 =>
      And (S v17) <|
       (pagemap_Map_Clone.call t42 v17 fun t43 v18 =>
       And (S v18) <|
       Nw (.map #[] 0) v18 fun n44 v19 =>
       And (S v19) <|
       Nw (.cells #[.slice t27.a t27.len t27.cap, .pointer s, .pointer t33, .pointer t38, .pointer t43, .slice none 0 0, .slice none 0 0, .map (some n44.block)] 76 (0, 0)) v19 fun n46 v20 =>
       And (S v20) <|
       J1 (some n46) v20) ∧
       (Nw (.map #[] 0) v17 fun n441 v21 =>
       And (S v21) <|
       pagemap_Map_Clone.call t42 v21 fun t431 v22 =>
       And (S v22) <|
       Nw (.cells #[.slice t27.a t27.len t27.cap, .pointer s, .pointer t33, .pointer t38, .pointer t431, .slice none 0 0, .slice none 0 0, .map (some n441.block)] 76 (0, 0)) v22 fun n461 v23 =>
       And (S v23) <|
       J1 (some n461) v23)) ∧
      (Nw (.map #[] 0) v16 fun n442 v24 =>
      And (S v24) <|
      huge_Tracker_Clone.call t37 v24 fun t381 v25 =>
      And (S v25) <|
      pagemap_Map_Clone.call t42 v25 fun t432 v26 =>
      And (S v26) <|
      Nw (.cells #[.slice t27.a t27.len t27.cap, .pointer s, .pointer t33, .pointer t381, .pointer t432, .slice none 0 0, .slice none 0 0, .map (some n442.block)] 76 (0, 0)) v26 fun n462 v27 =>
      And (S v27) <|
      J1 (some n462) v27)) ∧
     (Nw (.map #[] 0) v15 fun n443 v28 =>
     And (S v28) <|
     buddy_Heap_Clone.call t32 v28 fun t331 v29 =>
     And (S v29) <|
     huge_Tracker_Clone.call t37 v29 fun t382 v30 =>
     And (S v30) <|
     pagemap_Map_Clone.call t42 v30 fun t433 v31 =>
     And (S v31) <|
     Nw (.cells #[.slice t27.a t27.len t27.cap, .pointer s, .pointer t331, .pointer t382, .pointer t433, .slice none 0 0, .slice none 0 0, .map (some n443.block)] 76 (0, 0)) v31 fun n463 v32 =>
     And (S v32) <|
     J1 (some n463) v32)) ∧
    (Nw (.map #[] 0) v fun n444 v33 =>
    And (S v33) <|
    slices_Clone_api_Class_api_Class.call t26 v33 fun t271 v34 =>
    And (S v34) <|
    buddy_Heap_Clone.call t32 v34 fun t332 v35 =>
    And (S v35) <|
    huge_Tracker_Clone.call t37 v35 fun t383 v36 =>
    And (S v36) <|
    pagemap_Map_Clone.call t42 v36 fun t434 v37 =>
    And (S v37) <|
    Nw (.cells #[.slice t271.a t271.len t271.cap, .pointer s, .pointer t332, .pointer t383, .pointer t434, .slice none 0 0, .slice none 0 0, .map (some n444.block)] 76 (0, 0)) v37 fun n464 v38 =>
    And (S v38) <|
    J1 (some n464) v38))) fun J =>
 arena_Arena_made.call a σ fun t11 v39 =>
 If (!t11) (J true v39)
  (NilP a fun a17 =>
   (space_Space_Pages.call s v39 fun t15 v40 =>
   LdP (a17.add 1) v40 fun t19 =>
   space_Space_Pages.call t19 v40 fun t20 v41 =>
   J (t15 != t20) v41) ∧
   (LdP (a17.add 1) v39 fun t191 =>
   space_Space_Pages.call s v39 fun t151 v42 =>
   space_Space_Pages.call t191 v42 fun t201 v43 =>
   J (t151 != t201) v43))
theorem arena_Arena_Clone.of_vc {a : Option Addr} {s : Option Addr} {σ : Hp} {R : Option Addr → Hp → Prop} (hv : arena_Arena_Clone.vc a s σ R) : arena_Arena_Clone.call a s σ R :=
 fnK_sound Tryz.func40 (x := arena_Arena_Clone.hint) (args := [.pointer a, .pointer s]) (rs := [.one .p]) (R := R) (Eq.mpr (by kernel_rfl) hv)
def arena_Arena_Grow.hint : Hn := .seq (.o 1) (.seq (.seq (.o 4) (.seq (.o 2) (.cond (.seq (.o 2) (.leaf)) (.leaf)))) (.seq (.o 17) (.seq (.seq (.o 2) (.cond (.seq (.o 2) (.leaf)) (.leaf))) (.seq (.o 10) (.leaf)))))
def arena_Arena_Grow.vc (a : Option Addr) (vclass : Int) (σ : Hp) (R : Int → Hp → Prop) : Prop :=
 arena_Arena_check.call a vclass σ fun ve v =>
 If (ve != 0) (R ve v)
  (NilP a fun a17 =>
  LdS (a17.add 0) v fun t19 =>
  Ix t19.a t19.len vclass 3 fun a21 =>
  LdI .i64 (a21.add 1) v fun t23 =>
  Ar .i64 (vclass + 1) fun t25 =>
  arena_Arena_get.call a t23 1 t25 v fun t26 t261 v1 =>
  If (t261 != 0) (R t261 v1)
   (NilP a fun a33 =>
   LdS (a33.add 5) v1 fun t35 =>
   Ix t35.a t35.len vclass 1 fun a37 =>
   LdP a37 v1 fun t38 =>
   central_List_Add.call t38 t26 v1 fun t40 v2 =>
   R t40 v2))
theorem arena_Arena_Grow.of_vc {a : Option Addr} {vclass : Int} {σ : Hp} {R : Int → Hp → Prop} (hv : arena_Arena_Grow.vc a vclass σ R) : arena_Arena_Grow.call a vclass σ R :=
 fnK_sound Tryz.func52 (x := arena_Arena_Grow.hint) (args := [.pointer a, .int .i64 vclass]) (rs := [.one (.i .i64)]) (R := R) (Eq.mpr (by kernel_rfl) hv)
def arena_Arena_FromCentral.hint : Hn := .seq (.o 2) (.seq (.seq (.o 4) (.seq (.o 2) (.cond (.seq (.o 3) (.leaf)) (.leaf)))) (.seq (.o 13) (.leaf)))
def arena_Arena_FromCentral.vc (a : Option Addr) (vclass : Int) (many : Int) (σ : Hp) (R : Sl → Int → Hp → Prop) : Prop :=
 arena_Arena_check.call a vclass σ fun ve v =>
 If (ve != 0) (R ⟨none, 0, 0⟩ ve v)
  (NilP a fun a16 =>
  LdS (a16.add 5) v fun t18 =>
  Ix t18.a t18.len vclass 1 fun a20 =>
  LdP a20 v fun t21 =>
  central_List_Take.call t21 many v fun t23 t231 v1 =>
  R t23 t231 v1)
theorem arena_Arena_FromCentral.of_vc {a : Option Addr} {vclass : Int} {many : Int} {σ : Hp} {R : Sl → Int → Hp → Prop} (hv : arena_Arena_FromCentral.vc a vclass many σ R) : arena_Arena_FromCentral.call a vclass many σ R :=
 fnK_sound Tryz.func53 (x := arena_Arena_FromCentral.hint) (args := [.pointer a, .int .i64 vclass, .int .i64 many]) (rs := [.one .s, .one (.i .i64)]) (R := R) (Eq.mpr (by kernel_rfl) hv)
def arena_Arena_GivePages.hint : Hn := .seq (.o 1) (.seq (.seq (.o 3) (.cond (.seq (.o 1) (.leaf)) (.leaf))) (.seq (.o 11) (.seq (.seq (.o 2) (.cond (.seq (.o 1) (.leaf)) (.leaf))) (.seq (.o 6) (.seq (.o 6) (.seq (.o 1) (.leaf)))))))
def arena_Arena_GivePages.vc (a : Option Addr) (start : Int) (σ : Hp) (R : Int → Hp → Prop) : Prop :=
 arena_Arena_made.call a σ fun t8 v =>
 If (!t8) (R 5 v)
  (NilP a fun a12 =>
  LdM (a12.add 7) v fun t14 =>
  Lk .i64 (.i .i64) t14 start v fun t16 =>
  If (!t16.isSome) (R 8 v)
   (NilP a fun a22 =>
   LdM (a22.add 7) v fun t24 =>
   MDel .i64 (.i .i64) t24 start v fun v1 =>
   Nw (.cells #[.int .i64 start, .int .i64 (t16.getD 0)] 123 (0, 0)) v1 fun n30 v2 =>
   arena_Arena_back.call a ⟨(some n30), 1, 1⟩ v2 fun v3 =>
   R 0 v3))
theorem arena_Arena_GivePages.of_vc {a : Option Addr} {start : Int} {σ : Hp} {R : Int → Hp → Prop} (hv : arena_Arena_GivePages.vc a start σ R) : arena_Arena_GivePages.call a start σ R :=
 fnK_sound Tryz.func54 (x := arena_Arena_GivePages.hint) (args := [.pointer a, .int .i64 start]) (rs := [.one (.i .i64)]) (R := R) (Eq.mpr (by kernel_rfl) hv)
def arena_Arena_ToCentral.hint : Hn := .seq (.o 1) (.seq (.seq (.o 4) (.seq (.o 2) (.cond (.seq (.o 2) (.leaf)) (.leaf)))) (.seq (.o 14) (.seq (.seq (.o 2) (.cond (.seq (.o 2) (.leaf)) (.leaf))) (.seq (.o 3) (.seq (.o 1) (.leaf))))))
def arena_Arena_ToCentral.vc (a : Option Addr) (vclass : Int) (objects : Sl) (σ : Hp) (R : Int → Hp → Prop) : Prop :=
 arena_Arena_check.call a vclass σ fun ve v =>
 If (ve != 0) (R ve v)
  (NilP a fun a18 =>
  LdS (a18.add 5) v fun t20 =>
  Ix t20.a t20.len vclass 1 fun a22 =>
  LdP a22 v fun t23 =>
  central_List_Put.call t23 objects v fun t25 t251 v1 =>
  If (t251 != 0) (R t251 v1)
   (arena_Arena_back.call a t25 v1 fun v2 =>
   R 0 v2))
theorem arena_Arena_ToCentral.of_vc {a : Option Addr} {vclass : Int} {objects : Sl} {σ : Hp} {R : Int → Hp → Prop} (hv : arena_Arena_ToCentral.vc a vclass objects σ R) : arena_Arena_ToCentral.call a vclass objects σ R :=
 fnK_sound Tryz.func55 (x := arena_Arena_ToCentral.hint) (args := [.pointer a, .int .i64 vclass, .slice objects.a objects.len objects.cap]) (rs := [.one (.i .i64)]) (R := R) (Eq.mpr (by kernel_rfl) hv)
def arena_Arena_made.hint : Hn := .seq (.o 1) (.seq (.reg (.seq [.op, .op, .op, .grd true 5 [.op, .op, .op, .op, .op], .op])) (.leaf))
def arena_Arena_made.vc (a : Option Addr) (σ : Hp) (R : Bool → Hp → Prop) : Prop :=
 JnB (fun r v =>
  R r v) fun J =>
 If (!a.isNone) (NilP a fun a7 =>
  LdP (a7.add 1) σ fun t9 =>
  J (!t9.isNone) σ)
  (J false σ)
theorem arena_Arena_made.of_vc {a : Option Addr} {σ : Hp} {R : Bool → Hp → Prop} (hv : arena_Arena_made.vc a σ R) : arena_Arena_made.call a σ R :=
 fnK_sound Tryz.func57 (x := arena_Arena_made.hint) (args := [.pointer a]) (rs := [.one .b]) (R := R) (Eq.mpr (by kernel_rfl) hv)
def arena_Arena_check.hint : Hn := .seq (.o 1) (.seq (.block (.seq (.o 4) (.cond (.seq (.o 1) (.leaf)) (.seq (.reg (.seq [.op, .op, .op, .grd false 7 [.op, .op, .op, .op, .op, .op, .op], .op])) (.cond (.seq (.o 1) (.leaf)) (.leaf)))))) (.seq (.o 1) (.leaf)))
def arena_Arena_check.vc (a : Option Addr) (vclass : Int) (σ : Hp) (R : Int → Hp → Prop) : Prop :=
 arena_Arena_made.call a σ fun t7 v =>
 If (!t7) (R 5 v)
  (JnB (fun r v1 =>
   If r (R 1 v1)
    (R 0 v1)) fun J =>
  If (decide (vclass < 0)) (J true v)
   (NilP a fun a15 =>
   LdS (a15.add 0) v fun t17 =>
   J (decide (vclass ≥ ((t17.len : Nat) : Int))) v))
theorem arena_Arena_check.of_vc {a : Option Addr} {vclass : Int} {σ : Hp} {R : Int → Hp → Prop} (hv : arena_Arena_check.vc a vclass σ R) : arena_Arena_check.call a vclass σ R :=
 fnK_sound Tryz.func64 (x := arena_Arena_check.hint) (args := [.pointer a, .int .i64 vclass]) (rs := [.one (.i .i64)]) (R := R) (Eq.mpr (by kernel_rfl) hv)
def arena_Arena_back.hint : Hn := .seq (.o 3) (.block (.loop [(8, .one (.i .i64))] (.seq (.o 1) (.seq (.cond (.leaf) (.leaf)) (.seq (.block (.seq (.o 4) (.seq (.reg (.tail 8 [.op, .op, .op, .op, .op, .op, .op, .op] [.op])) (.seq (.reg (.tail 8 [.op, .op, .op, .op, .op, .op, .op, .op] [.op])) (.reg (.tail 8 [.op, .op, .op, .op, .op, .op, .op, .op] [.op])))))) (.o 2))))))
def arena_Arena_back.vc (a : Option Addr) (runs : Sl) (σ : Hp) (R : Hp → Prop) : Prop :=
 LoopK [(.i .i64)] (fun I => I 0 σ) fun J (t8 : Int) v =>
 If (decide (t8 < ((runs.len : Nat) : Int))) (Ix runs.a runs.len t8 2 fun a10 =>
  LdI .i64 (a10.add 0) v fun t11 =>
  LdI .i64 (a10.add 1) v fun t111 =>
  Nw (.cells #[.int .i64 0, .int .i64 0] 123 (0, 0)) v fun n5 v1 =>
  St1 (n5.add 0) (.int .i64 t11) v1 fun v2 =>
  St1 (n5.add 1) (.int .i64 t111) v2 fun v3 =>
  NilP a fun a13 =>
  LdP (a13.add 4) v3 fun t15 =>
  LdI .i64 (n5.add 0) v3 fun t17 =>
  LdI .i64 (n5.add 1) v3 fun t19 =>
  pagemap_Map_Clear.call t15 t17 t19 v3 fun t20 v4 =>
  NilP a fun a22 =>
  LdP (a22.add 3) v4 fun t24 =>
  LdI .i64 (n5.add 0) v4 fun t26 =>
  LdI .i64 (n5.add 1) v4 fun t28 =>
  huge_Tracker_Unuse.call t24 t26 t28 v4 fun t29 v5 =>
  NilP a fun a31 =>
  LdP (a31.add 2) v5 fun t33 =>
  LdI .i64 (n5.add 0) v5 fun t35 =>
  LdI .i64 (n5.add 1) v5 fun t37 =>
  buddy_Heap_Give.call t33 t35 t37 v5 fun t38 v6 =>
  Ar .i64 (t8 + 1) fun t39 =>
  J t39 v6)
  (R v)
theorem arena_Arena_back.of_vc {a : Option Addr} {runs : Sl} {σ : Hp} {R : Hp → Prop} (hv : arena_Arena_back.vc a runs σ R) : arena_Arena_back.call a runs σ R :=
 fnK_sound Tryz.func68 (x := arena_Arena_back.hint) (args := [.pointer a, .slice runs.a runs.len runs.cap]) (rs := []) (R := R) (Eq.mpr (by kernel_rfl) hv)
def arena_Arena_get.hint : Hn := .seq (.o 2) (.seq (.o 12) (.sjn [(10, .one (.i .i64)), (11, .one (.i .i64))] (.seq (.o 2) (.cond (.seq (.o 1) (.seq (.block (.loop [(12, .one (.i .i64))] (.seq (.seq (.o 5) (.cond (.leaf) (.leaf))) (.block (.o 3))))) (.seq (.seq (.o 4) (.cond (.seq (.o 2) (.leaf)) (.leaf))) (.o 12)))) (.leaf))) (.seq (.seq (.o 2) (.cond (.seq (.o 3) (.leaf)) (.leaf))) (.seq (.o 7) (.seq (.o 8) (.seq (.o 3) (.leaf)))))))
def arena_Arena_get.vc (a : Option Addr) (pages : Int) (align : Int) (no : Int) (σ : Hp) (R : Int → Int → Hp → Prop) : Prop :=
 NilP a fun a15 =>
 LdP (a15.add 2) σ fun t17 =>
 buddy_Heap_Take.call t17 pages align σ fun t20 t201 v =>
 Jn [(.i .i64), (.i .i64)] (fun (start : Int) (ve : Int) v1 =>
  If (ve != 0) (R 0 ve v1)
   (NilP a fun a50 =>
   LdP (a50.add 3) v1 fun t52 =>
   huge_Tracker_Use.call t52 start pages v1 fun t55 v2 =>
   NilP a fun a57 =>
   LdP (a57.add 4) v2 fun t59 =>
   pagemap_Map_Set.call t59 start pages no v2 fun t63 v3 =>
   R start 0 v3)) fun J =>
 If (t201 == 6) (LoopK [(.i .i64)] (fun I => I 16 v) fun J1 (size : Int) v4 =>
  If (decide (size < (if align > pages then align else pages))) (Ar .i64 (size * 2) fun size1 =>
   J1 size1 v4)
   (arena_Arena_grow.call a size v4 fun t34 v5 =>
   If (!t34) (R 0 6 v5)
    (NilP a fun a38 =>
    LdP (a38.add 2) v5 fun t40 =>
    buddy_Heap_Take.call t40 pages align v5 fun t43 t431 v6 =>
    J t43 t431 v6)))
  (J t20 t201 v)
theorem arena_Arena_get.of_vc {a : Option Addr} {pages : Int} {align : Int} {no : Int} {σ : Hp} {R : Int → Int → Hp → Prop} (hv : arena_Arena_get.vc a pages align no σ R) : arena_Arena_get.call a pages align no σ R :=
 fnK_sound Tryz.func82 (x := arena_Arena_get.hint) (args := [.pointer a, .int .i64 pages, .int .i64 align, .int .i64 no]) (rs := [.one (.i .i64), .one (.i .i64)]) (R := R) (Eq.mpr (by kernel_rfl) hv)
def arena_Arena_grow.hint : Hn := .seq (.o 1) (.seq (.seq (.o 2) (.block (.loop [(5, .one (.i .i64))] (.seq (.seq (.o 9) (.cond (.leaf) (.leaf))) (.seq (.block (.seq (.seq (.o 8) (.cond (.leaf) (.leaf))) (.seq (.seq (.o 3) (.block (.loop [(6, .one (.i .i64))] (.seq (.seq (.o 6) (.cond (.leaf) (.leaf))) (.seq (.block (.o 6)) (.o 3)))))) (.seq (.o 7) (.seq (.o 1) (.leaf)))))) (.o 4)))))) (.seq (.o 1) (.leaf)))
def arena_Arena_grow.vc (a : Option Addr) (pages : Int) (σ : Hp) (R : Bool → Hp → Prop) : Prop :=
 LoopK [(.i .i64)] (fun I => I pages σ) fun J (start : Int) v =>
 Ar .i64 (start + pages) fun t10 =>
 NilP a fun a12 =>
 LdP (a12.add 1) v fun t14 =>
 space_Space_Pages.call t14 v fun t15 v1 =>
 If (decide (t10 ≤ t15)) (NilP a fun a21 =>
  LdP (a21.add 1) v1 fun t23 =>
  space_Space_Map.call t23 start pages v1 fun t26 v2 =>
  If (t26 != 0) (Ar .i64 (start + pages) fun start1 =>
   J start1 v2)
   (Nz 16 <| Ar .i64 (start.tdiv 16) fun vh =>
   LoopK [(.i .i64)] (fun I1 => I1 vh v2) fun J1 (vh1 : Int) v3 =>
   Ar .i64 (start + pages) fun t33 =>
   Nz 16 <| Ar .i64 (t33.tdiv 16) fun t34 =>
   If (decide (vh1 < t34)) (NilP a fun a39 =>
    LdP (a39.add 3) v3 fun t41 =>
    huge_Tracker_Add.call t41 vh1 v3 fun t43 v4 =>
    Ar .i64 (vh1 + 1) fun vh2 =>
    J1 vh2 v4)
    (NilP a fun a45 =>
    LdP (a45.add 2) v3 fun t47 =>
    buddy_Heap_Give.call t47 start pages v3 fun t50 v5 =>
    R true v5)))
  (R false v1)
theorem arena_Arena_grow.of_vc {a : Option Addr} {pages : Int} {σ : Hp} {R : Bool → Hp → Prop} (hv : arena_Arena_grow.vc a pages σ R) : arena_Arena_grow.call a pages σ R :=
 fnK_sound Tryz.func167 (x := arena_Arena_grow.hint) (args := [.pointer a, .int .i64 pages]) (rs := [.one .b]) (R := R) (Eq.mpr (by kernel_rfl) hv)
def arena_Arena_Tick.hint : Hn := .seq (.seq (.o 3) (.cond (.leaf) (.leaf))) (.seq (.o 6) (.block (.loop [(14, .one (.i .i64))] (.seq (.o 1) (.seq (.cond (.leaf) (.leaf)) (.seq (.block (.seq (.o 5) (.seq (.o 4) (.block (.loop [(22, .one (.i .i64))] (.seq (.o 1) (.seq (.cond (.leaf) (.leaf)) (.seq (.block (.seq (.o 3) (.o 4))) (.o 2))))))))) (.o 2)))))))
def arena_Arena_Tick.vc (a : Option Addr) (σ : Hp) (R : Hp → Prop) : Prop :=
 arena_Arena_made.call a σ fun t7 v =>
 If (!t7) (R v)
  (NilP a fun a10 =>
  LdS (a10.add 6) v fun t12 =>
  LoopK [(.i .i64)] (fun I => I 0 v) fun J (t14 : Int) v1 =>
  If (decide (t14 < ((t12.len : Nat) : Int))) (Ix t12.a t12.len t14 1 fun a17 =>
   LdP a17 v1 fun t =>
   transfer_Cache_Tick.call t v1 fun t20 v2 =>
   LoopK [(.i .i64)] (fun I1 => I1 0 v2) fun J1 (t22 : Int) v3 =>
   If (decide (t22 < ((t20.len : Nat) : Int))) (Ix t20.a t20.len t22 1 fun a24 =>
    LdS a24 v3 fun batch =>
    arena_Arena_ToCentral.call a t14 batch v3 fun t29 v4 =>
    Ar .i64 (t22 + 1) fun t30 =>
    J1 t30 v4)
    (Ar .i64 (t14 + 1) fun t31 =>
    J t31 v3))
   (R v1))
theorem arena_Arena_Tick.of_vc {a : Option Addr} {σ : Hp} {R : Hp → Prop} (hv : arena_Arena_Tick.vc a σ R) : arena_Arena_Tick.call a σ R :=
 fnK_sound Tryz.func186 (x := arena_Arena_Tick.hint) (args := [.pointer a]) (rs := []) (R := R) (Eq.mpr (by kernel_rfl) hv)
end Go.Proofs

-- ArD
namespace Go.Ar
open Go Go.Vc Go.Proofs
open Go.Bu (runOk giveS takeAt cnt)
set_option linter.unusedSimpArgs false
set_option linter.unusedVariables false

/-! ## Parts -/
inductive Lb where
  | hd | tab | free | trk | own | crow | trow | runs
  | cen (k : Nat)
  | tra (k : Nat)
  deriving DecidableEq
/-- Where the parts lie. -/
structure Lay where
  p : Nat
  hs : Nat
  fr : Nat
  tr : Nat
  op : Nat
  rn : Nat
  tab : Sl
  crow : Sl
  trow : Sl
  cps : List Nat
  tps : List Nat
def hdV (Y : Lay) : List Value := [.slice Y.tab.a Y.tab.len Y.tab.cap, .pointer (some ⟨Y.hs, 0, none⟩), .pointer (some ⟨Y.fr, 0, none⟩), .pointer (some ⟨Y.tr, 0, none⟩), .pointer (some ⟨Y.op, 0, none⟩), .slice Y.crow.a Y.crow.len Y.crow.cap, .slice Y.trow.a Y.trow.len Y.trow.cap, .map (some Y.rn)]
def tabV (tb : List Cls) : List Value := tb.flatMap fun c => [.int .i64 (c.size : Int), .int .i64 (c.pages : Int), .int .i64 (c.batch : Int)]
def ptrV (l : List Nat) : List Value := l.map fun b => .pointer (some ⟨b, 0, none⟩)
def runI (l : List (Nat × Nat)) : List (Int × Int) := l.map fun r => ((r.1 : Int), (r.2 : Int))
def FreeR (p n : Nat) (S : Nat → Bool) : Hp → Rg → Prop := fun σ F => ∃ sb ms, Go.Bu.BH σ p n S sb ms ∧ ∀ b, Go.Bu.fp p sb ms b → F b
def TrkR (p : Nat) (st : List Nat) : Hp → Rg → Prop := fun σ F => ∃ q, TrH σ p q st ∧ F p ∧ F q
def CenR (p : Option Nat) (c : Option Cls) (ss : Option (List SpA)) : Hp → Rg → Prop := fun σ F => match p, c, ss with
  | some p, some c, some ss => ∃ ps, CeH σ F p c ps ss
  | _, _, _ => True
def TraR (p : Option Nat) (c : Option Cls) (room : Nat) (t : Option TrA) : Hp → Rg → Prop := fun σ F => match p, c, t with
  | some p, some c, some t => TfH σ F p c.batch room t
  | _, _, _ => True
def AC (A : AR) (Y : Lay) (T : Nat → Hp → Rg → Prop) : Lb → Hp → Rg → Prop
  | .hd => BlkR Y.p (hdV Y)
  | .tab => SlR Y.tab 3 (tabV A.tb)
  | .free => FreeR Y.fr A.n A.S
  | .trk => TrkR Y.tr A.st
  | .own => fun σ F => PmH σ F Y.op A.ow
  | .crow => RowR Y.crow 1 (ptrV Y.cps)
  | .trow => RowR Y.trow 1 (ptrV Y.tps)
  | .runs => MapR Y.rn .i64 (.i .i64) (runI A.runs)
  | .cen k => CenR Y.cps[k]? A.tb[k]? A.cen[k]?
  | .tra k => T k
def traT (A : AR) (Y : Lay) (k : Nat) : Hp → Rg → Prop := TraR Y.tps[k]? A.tb[k]? A.room A.tra[k]?

theorem FreeR.loc (p n : Nat) (S : Nat → Bool) : Lcl (FreeR p n S) := by
  rintro σ σ' F G ⟨sb, ms, h, hf⟩ hz hs
  have hlt : ∀ b, Go.Bu.fp p sb ms b → b < σ.size := fun b hb => by
    unfold Go.Bu.fp at hb
    rcases List.mem_cons.1 hb with h1 | h1
    · obtain ⟨c, hc⟩ := h.hd; rw [h1]; exact hc.lt
    rcases List.mem_cons.1 h1 with h2 | h2
    · obtain ⟨c, hc⟩ := h.row; rw [h2]; exact hc.lt
    · obtain ⟨k, hk⟩ := List.getElem?_of_mem h2
      obtain ⟨B, hB, _⟩ := h.maps k b hk
      exact hB.lt
  have e : Ext (fun b => ¬ Go.Bu.fp p sb ms b) σ σ' := ⟨hz, fun b hb hf' => (hs b hb (hf b (Classical.not_not.1 hf'))).2⟩
  exact ⟨sb, ms, h.keep e fun b hb hn => hn hb, fun b hb => (hs b (hlt b hb) (hf b hb)).1⟩
theorem TrkR.loc (p : Nat) (st : List Nat) : Lcl (TrkR p st) := by
  rintro σ σ' F G ⟨q, h, hp, hq⟩ hz hs
  have e : Ext (fun b => b ≠ p ∧ b ≠ q) σ σ' := ⟨hz, fun b hb hf => by
    by_cases h1 : b = p
    · subst h1; exact (hs b hb hp).2
    · have h2 : b = q := Classical.byContradiction fun h2 => hf ⟨h1, h2⟩
      subst h2; exact (hs b hb hq).2⟩
  exact ⟨q, h.keep e (fun hx => hx.1 rfl) (fun hx => hx.2 rfl), (hs p h.lt.1 hp).1, (hs q h.lt.2 hq).1⟩
theorem CenR.loc (p : Option Nat) (c : Option Cls) (ss : Option (List SpA)) : Lcl (CenR p c ss) := by
  rintro σ σ' F G h hz hs
  unfold CenR at *
  split
  · simp only at h
    obtain ⟨ps, h⟩ := h
    exact ⟨ps, CeH.loc _ _ _ _ h hz hs⟩
  · trivial
theorem TraR.loc (p : Option Nat) (c : Option Cls) (room : Nat) (t : Option TrA) : Lcl (TraR p c room t) := by
  rintro σ σ' F G h hz hs
  unfold TraR at *
  split
  · exact TfH.loc _ _ _ _ h hz hs
  · trivial
theorem AC.loc {A : AR} {Y : Lay} {T : Nat → Hp → Rg → Prop} (hT : ∀ k, Lcl (T k)) : ∀ i, Lcl (AC A Y T i)
  | .hd => BlkR.loc _ _
  | .tab => SlR.loc _ _ _
  | .free => FreeR.loc _ _ _
  | .trk => TrkR.loc _ _
  | .own => PmH.loc
  | .crow => RowR.loc _ _ _
  | .trow => RowR.loc _ _ _
  | .runs => MapR.loc _ _ _ _
  | .cen k => CenR.loc _ _ _
  | .tra k => hT k
theorem traT.loc {A : AR} {Y : Lay} (k : Nat) : Lcl (traT A Y k) := TraR.loc _ _ _ _

/-- What holds of every arena that was made. -/
structure LayOk (A : AR) (Y : Lay) : Prop where
  c : Y.cps.length = A.tb.length
  t : Y.tps.length = A.tb.length
  cen : A.cen.length = A.tb.length
  tra : A.tra.length = A.tb.length
  tb1 : 1 ≤ A.tb.length
  tb2 : A.tb.length ≤ 40
  n1 : 32 ≤ A.n
  n2 : A.n ≤ 1024
  n3 : A.n % 16 = 0
  st : A.st.length = A.n
  room : A.room ≤ 8
  ok : ∀ c ∈ A.tb, c.ok
structure AHY (σ : Hp) (F : Rg) (Y : Lay) (A : AR) (T : Nat → Hp → Rg → Prop) : Prop where
  lay : LayOk A Y
  tl : ∀ k, Lcl (T k)
  sep : Sep (AC A Y T) σ F
def AH (σ : Hp) (F : Rg) (p hs : Nat) (A : AR) : Prop := ∃ Y : Lay, Y.p = p ∧ Y.hs = hs ∧ AHY σ F Y A (traT A Y)

variable {σ : Hp} {F : Rg} {p hs : Nat} {A : AR} {Y : Lay} {T : Nat → Hp → Rg → Prop}

theorem AHY.loc : Lcl fun σ F => AHY σ F Y A T := fun σ σ' F G h hz hs => ⟨h.lay, h.tl, Sep.loc (AC.loc h.tl) _ _ _ _ h.sep hz hs⟩
theorem AH.loc : Lcl fun σ F => AH σ F p hs A := fun σ σ' F G ⟨Y, h1, h2, h⟩ hz hs => ⟨Y, h1, h2, AHY.loc _ _ _ _ h hz hs⟩
theorem AHY.keep0 {σ' : Hp} (h : AHY σ F Y A T) (e : Ext0 σ σ') : AHY σ' F Y A T := Lcl.keep0 AHY.loc h e
theorem AH.keep0 {σ' : Hp} (h : AH σ F p hs A) (e : Ext0 σ σ') : AH σ' F p hs A := Lcl.keep0 AH.loc h e

/-! ## The header and the rows, read -/
theorem AHY.hd (h : AHY σ F Y A T) : Blk σ Y.p (hdV Y) := by
  obtain ⟨G, hG, hp, hb⟩ := h.sep.get .hd
  exact hb
theorem tabV_len (tb : List Cls) : (tabV tb).length = tb.length * 3 := by
  induction tb with
  | nil => rfl
  | cons x l ih => simp only [tabV, List.flatMap_cons, List.length_append, List.length_cons, List.length_nil] at *; omega
theorem tabV_get {tb : List Cls} {i : Nat} {c : Cls} (h : tb[i]? = some c) : (tabV tb)[3 * i]? = some (.int .i64 (c.size : Int)) ∧ (tabV tb)[3 * i + 1]? = some (.int .i64 (c.pages : Int)) ∧ (tabV tb)[3 * i + 2]? = some (.int .i64 (c.batch : Int)) := by
  induction tb generalizing i with
  | nil => simp at h
  | cons x l ih =>
    have e : tabV (x :: l) = [.int .i64 (x.size : Int), .int .i64 (x.pages : Int), .int .i64 (x.batch : Int)] ++ tabV l := by simp [tabV]
    rw [e]
    cases i with
    | zero => simp at h; subst h; simp
    | succ i =>
      have := ih (i := i) (by simpa using h)
      rw [show 3 * (i + 1) = 3 * i + 3 by omega]
      simpa using this
theorem AHY.tabL (h : AHY σ F Y A T) : Y.tab.len = A.tb.length := by
  obtain ⟨G, hG, hb⟩ := h.sep.get .tab
  have := hb.1
  rw [tabV_len] at this; omega
theorem tab_rd {s : Sl} {tb : List Cls} (h : SlR s 3 (tabV tb) σ F) {k d : Nat} {c : Cls} (hc : tb[k]? = some c) (hd : d < 3) {K : Int → Prop} (hK : K (if d = 0 then c.size else if d = 1 then c.pages else c.batch : Nat)) :
    Ix s.a s.len (k : Int) 3 fun a => LdI .i64 (a.add d) σ K := by
  have hg := tabV_get hc
  have hv : (tabV tb)[3 * k + d]? = some (.int .i64 ((if d = 0 then c.size else if d = 1 then c.pages else c.batch : Nat) : Int)) := by
    match d, hd with
    | 0, _ => exact hg.1
    | 1, _ => exact hg.2.1
    | 2, _ => exact hg.2.2
  have hk := (List.getElem?_eq_some_iff.1 hc).1
  obtain ⟨b, o, ha, hcell⟩ := h.cell hv
  have hl := h.1
  rw [tabV_len] at hl
  rw [ha]
  refine ix (by omega) (by omega) ?_
  rw [add_lit, add_lit]
  refine ldI ?_ hK
  rw [show o + (k : Int).toNat * 3 + d = o + (3 * k + d) by omega]; exact hcell
theorem AHY.tabR (h : AHY σ F Y A T) {k d : Nat} {c : Cls} (hc : A.tb[k]? = some c) (hd : d < 3) {K : Int → Prop} (hK : K (if d = 0 then c.size else if d = 1 then c.pages else c.batch : Nat)) :
    Ix Y.tab.a Y.tab.len (k : Int) 3 fun a => LdI .i64 (a.add d) σ K := by
  obtain ⟨G, hG, hb⟩ := h.sep.get .tab
  exact tab_rd hb hc hd hK
theorem ptr_rd {s : Sl} {l : List Nat} (h : SlR s 1 (ptrV l) σ F) {k q : Nat} (hq : l[k]? = some q) {K : Option Addr → Prop} (hK : K (some ⟨q, 0, none⟩)) : Ix s.a s.len (k : Int) 1 fun a => LdP a σ K := by
  have hk := (List.getElem?_eq_some_iff.1 hq).1
  obtain ⟨b, o, ha, hcell⟩ := h.cell (j := k) (v := .pointer (some ⟨q, 0, none⟩)) (by simp [ptrV, hq])
  have hl := h.1
  simp [ptrV] at hl
  rw [ha]
  refine ix (by omega) (by omega) ?_
  rw [add_lit]
  exact ldP (by rw [show o + (k : Int).toNat * 1 = o + k by omega]; exact hcell) hK
theorem AHY.crowL (h : AHY σ F Y A T) : Y.crow.len = A.tb.length := by
  obtain ⟨G, hG, hb⟩ := h.sep.get .crow
  have := hb.1
  have := h.lay.c
  simp [ptrV] at *; omega
theorem AHY.trowL (h : AHY σ F Y A T) : Y.trow.len = A.tb.length := by
  obtain ⟨G, hG, hb⟩ := h.sep.get .trow
  have := hb.1
  have := h.lay.t
  simp [ptrV] at *; omega
theorem AHY.crowR (h : AHY σ F Y A T) {k q : Nat} (hq : Y.cps[k]? = some q) {K : Option Addr → Prop} (hK : K (some ⟨q, 0, none⟩)) : Ix Y.crow.a Y.crow.len (k : Int) 1 fun a => LdP a σ K := by
  obtain ⟨G, hG, hb⟩ := h.sep.get .crow
  exact ptr_rd (RowR.slR hb) hq hK
theorem AHY.at_ (h : AHY σ F Y A T) {k : Nat} (hk : k < A.tb.length) : ∃ c ss q t r, A.tb[k]? = some c ∧ A.cen[k]? = some ss ∧ Y.cps[k]? = some q ∧ A.tra[k]? = some t ∧ Y.tps[k]? = some r ∧ c.ok := by
  have h1 := h.lay.c; have h2 := h.lay.t; have h3 := h.lay.cen; have h4 := h.lay.tra
  exact ⟨A.tb[k], A.cen[k], Y.cps[k], A.tra[k], Y.tps[k], by simp, by simp, by simp, by simp, by simp, h.lay.ok _ (List.getElem_mem hk)⟩
theorem C_cen {k q : Nat} {c : Cls} {ss : List SpA} {G : Rg} (h1 : Y.cps[k]? = some q) (h2 : A.tb[k]? = some c) (h3 : A.cen[k]? = some ss) (h : AC A Y T (.cen k) σ G) : ∃ ps, CeH σ G q c ps ss := by
  simp only [AC] at h
  rw [h1, h2, h3] at h
  exact h
theorem AHY.cen (h : AHY σ F Y A T) {k q : Nat} {c : Cls} {ss : List SpA} (h1 : Y.cps[k]? = some q) (h2 : A.tb[k]? = some c) (h3 : A.cen[k]? = some ss) : ∃ G ps, (∀ b, G b → F b) ∧ CeH σ G q c ps ss := by
  obtain ⟨G, hG, hb⟩ := h.sep.get (.cen k)
  obtain ⟨ps, hc⟩ := C_cen h1 h2 h3 hb
  exact ⟨G, ps, hG, hc⟩

/-! ## made, check, Owns -/
theorem amade_ok (h : AHY σ F Y A T) {R : Bool → Hp → Prop} (hR : R true σ) : arena_Arena_made.call (some ⟨Y.p, 0, none⟩) σ R := by
  refine arena_Arena_made.of_vc ?_
  unfold arena_Arena_made.vc
  exact JnB.intro (ifT rfl (nilP (h.hd.rP rfl hR)))
theorem acheck_ok (h : AHY σ F Y A T) (k : Int) {R : Int → Hp → Prop} (h1 : A.ck k = false → R 1 σ) (h0 : ∀ x : Nat, k = x → x < A.tb.length → R 0 σ) : arena_Arena_check.call (some ⟨Y.p, 0, none⟩) k σ R := by
  refine arena_Arena_check.of_vc ?_
  unfold arena_Arena_check.vc
  have hl := h.tabL
  have bad : ¬ (0 ≤ k ∧ k < A.tb.length) → R 1 σ := fun hn => h1 (by unfold AR.ck; rw [← Bool.decide_and]; exact decide_eq_false hn)
  refine amade_ok h (ifF rfl (JnB.intro (ifD (fun c1 => ifT rfl (bad (by omega))) fun c1 => nilP (h.hd.rS rfl (ifD (fun c2 => ?_) fun c2 => ?_)))))
  · simp only at c2; exact bad (by omega)
  · simp only at c2; exact h0 k.toNat (by omega) (by omega)
theorem Owns_ok (h : AHY σ F Y A T) (x : Int) {R : Bool → Hp → Prop} (hR : R (ownsA A x) σ) : arena_Arena_Owns.call (some ⟨Y.p, 0, none⟩) x σ R := by
  refine arena_Arena_Owns.of_vc ?_
  unfold arena_Arena_Owns.vc
  obtain ⟨G, hG, q, hT, _⟩ := h.sep.get .trk
  refine amade_ok h (JnB.intro (ifT rfl (nilP (h.hd.rP rfl (TState_ok hT x ?_)))))
  have : decide (stI A.st x > 0) = ownsA A x := by
    unfold stI ownsA
    by_cases hx : 0 ≤ x
    · by_cases hl : x < A.st.length
      · rw [if_pos ⟨hx, hl⟩, decide_eq_true hx, Bool.true_and, decide_eq_decide]; omega
      · rw [if_neg (by omega), decide_eq_true hx, Bool.true_and, List.getD_eq_getElem?_getD, List.getElem?_eq_none (by omega)]; rfl
    · rw [if_neg (by omega), decide_eq_false hx]; rfl
  rw [this]; exact hR

/-! ## Find -/
/-- Large runs do not meet; the owners' numbers are those of runs and of classes. -/
structure RunsOk (A : AR) : Prop where
  dis : ∀ r ∈ A.runs, ∀ s ∈ A.runs, ∀ x, r.1 ≤ x → x < r.1 + r.2 → s.1 ≤ x → x < s.1 + s.2 → r = s
  big : ∀ x, x < 1024 → A.ow x = 41 → (runOf A x).isSome = true
  cls : ∀ x, x < 1024 → A.ow x ≠ 0 → A.ow x ≠ 41 → A.ow x ≤ A.tb.length
  fit : ∀ r ∈ A.runs, r.1 + r.2 ≤ 1024
end Go.Ar

-- ArE
namespace Go.Ar
open Go Go.Vc Go.Proofs
open Go.Bu (runOk giveS takeAt cnt)
set_option linter.unusedSimpArgs false
set_option linter.unusedVariables false

open Classical in
/-- One part changes; the others lie elsewhere. -/
theorem _root_.Go.Vc.Sep.stepD {L : Type} {C : L → Hp → Rg → Prop} {σ : Hp} {F : Rg} (hC : ∀ i, Lcl (C i)) (h : Sep C σ F) (i : L) : ∃ G : Rg, (∀ b, G b → F b) ∧ C i σ G ∧ (∀ j, j ≠ i → ∃ H : Rg, (∀ b, H b → F b) ∧ (∀ b, H b → ¬ G b) ∧ C j σ H) ∧ ∀ (σ' : Hp) (C' : L → Hp → Rg → Prop) (G' : Rg),
    (∀ j, j ≠ i → C' j = C j) → Ext G σ σ' → (∀ b, G' b → G b ∨ σ.size ≤ b) → C' i σ' G' → Lcl (C' i) → Sep C' σ' fun b => F b ∧ b < σ.size ∧ ¬ G b ∨ G' b := by
  obtain ⟨ρ, h⟩ := h
  refine ⟨_, fun b hb => hb.1, h i, fun j hj => ⟨_, fun b hb => hb.1, fun b h1 h2 => hj (h1.2.symm.trans h2.2), h j⟩, fun σ' C' G' hj e hg hi hL => ⟨fun b => if G' b then i else ρ b, fun j => ?_⟩⟩
  by_cases hji : j = i
  · subst hji
    exact hL.mono hi fun b _ hb => ⟨.inr hb, if_pos hb⟩
  · rw [hj j hji]
    refine hC j _ _ _ _ (h j) e.1 fun b hb hf => ?_
    have hnG : ¬ (F b ∧ ρ b = i) := fun hx => hji (hf.2.symm.trans hx.2)
    have hnG' : ¬ G' b := fun hx => by
      rcases hg b hx with h1 | h1
      · exact hnG h1
      · omega
    exact ⟨⟨.inl ⟨hf.1, hb, hnG⟩, (if_neg hnG').trans hf.2⟩, e.2 b hb hnG⟩

variable {σ : Hp} {F : Rg} {p hs : Nat} {A : AR} {Y : Lay} {T : Nat → Hp → Rg → Prop}

theorem AHY.step (h : AHY σ F Y A T) (i : Lb) : ∃ G : Rg, (∀ b, G b → F b) ∧ AC A Y T i σ G ∧ (∀ j, j ≠ i → ∃ H : Rg, (∀ b, H b → F b) ∧ (∀ b, H b → ¬ G b) ∧ AC A Y T j σ H) ∧ ∀ (σ' : Hp) (A' : AR) (Y' : Lay) (T' : Nat → Hp → Rg → Prop) (G' H : Rg),
    LayOk A' Y' → (∀ k, Lcl (T' k)) → (∀ j, j ≠ i → AC A' Y' T' j = AC A Y T j) → Ext G σ σ' → (∀ b, G' b → G b ∨ σ.size ≤ b) → AC A' Y' T' i σ' G' → (∀ b, (F b ∧ b < σ.size ∧ ¬ G b ∨ G' b) → H b) → AHY σ' H Y' A' T' := by
  obtain ⟨G, hG, hi, hd, hput⟩ := h.sep.stepD (AC.loc h.tl) i
  refine ⟨G, hG, hi, hd, fun σ' A' Y' T' G' H hL hT hj e hg hi' hH => ⟨hL, hT, ?_⟩⟩
  exact (Sep.loc (AC.loc hT)).mono (hput σ' _ G' hj e hg hi' (AC.loc hT i)) fun b _ hb => hH b hb
/-- Nothing of the region is lost. -/
theorem grow_of {σ : Hp} {F G G' : Rg} (hG : ∀ b, G b → F b) (hg : ∀ b, G' b → G b ∨ σ.size ≤ b) : ∀ b, (F b ∧ b < σ.size ∧ ¬ G b ∨ G' b) → Grow F σ b := fun b hb => by
  rcases hb with hb | hb
  · exact .inl hb.1
  · exact (hg b hb).imp (hG b) id
theorem same_of {σ : Hp} {F G G' : Rg} (hG : ∀ b, G b → F b) (hg : ∀ b, G' b → G b) : ∀ b, (F b ∧ b < σ.size ∧ ¬ G b ∨ G' b) → F b := fun b hb => by
  rcases hb with hb | hb
  · exact hb.1
  · exact hG b (hg b hb)
theorem cut_of {σ : Hp} {F G : Rg} (hG : ∀ b, G b → F b) : ∀ b, (F b ∧ b < σ.size ∧ ¬ G b ∨ Cut G σ b) → Cut F σ b := fun b hb => by
  rcases hb with hb | hb
  · exact ⟨hb.1, hb.2.1⟩
  · exact ⟨hG b hb.1, hb.2⟩
theorem AC_ow {ow : Nat → Nat} : ∀ j, j ≠ Lb.own → AC { A with ow := ow } Y T j = AC A Y T j := by
  intro j hj; cases j <;> first | rfl | exact absurd rfl hj
theorem AC_st {st : List Nat} : ∀ j, j ≠ Lb.trk → AC { A with st := st } Y T j = AC A Y T j := by
  intro j hj; cases j <;> first | rfl | exact absurd rfl hj
theorem AC_S {S : Nat → Bool} : ∀ j, j ≠ Lb.free → AC { A with S := S } Y T j = AC A Y T j := by
  intro j hj; cases j <;> first | rfl | exact absurd rfl hj
theorem AC_runs {rs : List (Nat × Nat)} : ∀ j, j ≠ Lb.runs → AC { A with runs := rs } Y T j = AC A Y T j := by
  intro j hj; cases j <;> first | rfl | exact absurd rfl hj
theorem AC_cen {k : Nat} {ss : List SpA} : ∀ j, j ≠ Lb.cen k → AC { A with cen := A.cen.set k ss } Y T j = AC A Y T j := by
  intro j hj
  cases j <;> first | rfl | skip
  rename_i k'
  have hne : k ≠ k' := fun e => hj (by rw [e])
  simp only [AC]
  rw [List.getElem?_set_ne hne]
theorem LayOk.ow {ow : Nat → Nat} (h : LayOk A Y) : LayOk { A with ow := ow } Y := ⟨h.c, h.t, h.cen, h.tra, h.tb1, h.tb2, h.n1, h.n2, h.n3, h.st, h.room, h.ok⟩
theorem LayOk.setS {S : Nat → Bool} (h : LayOk A Y) : LayOk { A with S := S } Y := ⟨h.c, h.t, h.cen, h.tra, h.tb1, h.tb2, h.n1, h.n2, h.n3, h.st, h.room, h.ok⟩
theorem LayOk.setRuns {rs : List (Nat × Nat)} (h : LayOk A Y) : LayOk { A with runs := rs } Y := ⟨h.c, h.t, h.cen, h.tra, h.tb1, h.tb2, h.n1, h.n2, h.n3, h.st, h.room, h.ok⟩
theorem LayOk.setSt {st : List Nat} (h : LayOk A Y) (hl : st.length = A.st.length) : LayOk { A with st := st } Y := ⟨h.c, h.t, h.cen, h.tra, h.tb1, h.tb2, h.n1, h.n2, h.n3, hl.trans h.st, h.room, h.ok⟩
theorem LayOk.setCen {k : Nat} {ss : List SpA} (h : LayOk A Y) : LayOk { A with cen := A.cen.set k ss } Y := ⟨h.c, h.t, by simpa using h.cen, h.tra, h.tb1, h.tb2, h.n1, h.n2, h.n3, h.st, h.room, h.ok⟩
theorem turnT_len (st : List Nat) (a m : Int) (v : Nat) (fr : List Nat) : (turnT st a m v fr).length = st.length := by
  unfold turnT; split <;> simp [setR_len]
theorem addT_len (st : List Nat) (k : Int) : (addT st k).length = st.length := by
  unfold addT; split <;> simp [setR_len]
theorem remT_len (st : List Nat) (k : Int) : (remT st k).length = st.length := by
  unfold remT; split <;> simp [setR_len]

/-! ## The parts' calls -/
theorem AHY.Clear (h : AHY σ F Y A T) (a m : Nat) (ha : a ≤ 1000000) {R : Int → Hp → Prop} (hR : ∀ σ' t, Ext F σ σ' → AHY σ' (Grow F σ) Y { A with ow := setO A.ow a m 0 } T → R t σ') : pagemap_Map_Clear.call (some ⟨Y.op, 0, none⟩) a m σ R := by
  obtain ⟨G, hG, hi, _, hput⟩ := h.step .own
  refine PClear_ok hi a m ha fun σ' e hP => hR σ' _ (e.sub hG) ?_
  exact hput σ' _ _ T (Grow G σ) _ h.lay.ow h.tl AC_ow e (fun b hb => hb) hP (grow_of hG fun b hb => hb)
theorem AHY.Set (h : AHY σ F Y A T) (a m : Nat) (ha : a ≤ 1000000) {no : Nat} (h1 : 1 ≤ no) (h2 : no ≤ 1000) {R : Int → Hp → Prop} (hR : ∀ σ' t, Ext F σ σ' → AHY σ' (Grow F σ) Y { A with ow := setO A.ow a m no } T → R t σ') : pagemap_Map_Set.call (some ⟨Y.op, 0, none⟩) a m no σ R := by
  obtain ⟨G, hG, hi, _, hput⟩ := h.step .own
  refine PSet_ok hi a m ha h1 h2 fun σ' e hP => hR σ' _ (e.sub hG) ?_
  exact hput σ' _ _ T (Grow G σ) _ h.lay.ow h.tl AC_ow e (fun b hb => hb) hP (grow_of hG fun b hb => hb)
theorem AHY.trk (h : AHY σ F Y A T) : ∃ G : Rg, (∀ b, G b → F b) ∧ ∃ q, TrH σ Y.tr q A.st ∧ F q ∧ ∀ (σ' : Hp) (st : List Nat), st.length = A.st.length → Ext (· = q) σ σ' → TrH σ' Y.tr q st → Ext F σ σ' ∧ AHY σ' F Y { A with st := st } T := by
  obtain ⟨G, hG, ⟨q, hT, gp, gq⟩, _, hput⟩ := h.step .trk
  refine ⟨G, hG, q, hT, hG _ gq, fun σ' st hl e h' => ⟨e.sub fun b hb => by subst hb; exact hG _ gq, ?_⟩⟩
  exact hput σ' _ _ T G _ (h.lay.setSt hl) h.tl AC_st (e.sub fun b hb => by subst hb; exact gq) (fun b hb => .inl hb) ⟨q, h', gp, gq⟩ (same_of hG fun b hb => hb)
theorem AHY.Unuse (h : AHY σ F Y A T) (a m : Int) {R : Int → Hp → Prop} (hR : ∀ σ' t, Ext F σ σ' → AHY σ' F Y { A with st := turnT A.st a m 2 [1] } T → R t σ') : huge_Tracker_Unuse.call (some ⟨Y.tr, 0, none⟩) a m σ R := by
  obtain ⟨G, hG, q, hT, _, hput⟩ := h.trk
  refine Unuse_ok hT a m fun σ' e h' => ?_
  have := hput σ' _ (turnT_len _ _ _ _ _) e h'
  exact hR σ' _ this.1 this.2
theorem AHY.Use (h : AHY σ F Y A T) (a m : Int) {R : Int → Hp → Prop} (hR : ∀ σ' t, Ext F σ σ' → AHY σ' F Y { A with st := turnT A.st a m 1 [2, 3] } T → R t σ') : huge_Tracker_Use.call (some ⟨Y.tr, 0, none⟩) a m σ R := by
  obtain ⟨G, hG, q, hT, _, hput⟩ := h.trk
  refine Use_ok hT a m fun σ' e h' => ?_
  have := hput σ' _ (turnT_len _ _ _ _ _) e h'
  exact hR σ' _ this.1 this.2
theorem AHY.AddH (h : AHY σ F Y A T) (k : Int) {R : Int → Hp → Prop} (hR : ∀ σ' t, Ext F σ σ' → AHY σ' F Y { A with st := addT A.st k } T → R t σ') : huge_Tracker_Add.call (some ⟨Y.tr, 0, none⟩) k σ R := by
  obtain ⟨G, hG, q, hT, _, hput⟩ := h.trk
  refine TAdd_ok hT k fun σ' e h' => ?_
  have := hput σ' _ (addT_len _ _) e h'
  exact hR σ' _ this.1 this.2
theorem AHY.RemH (h : AHY σ F Y A T) (k : Int) {R : Int → Hp → Prop} (hR : ∀ σ' t, Ext F σ σ' → AHY σ' F Y { A with st := remT A.st k } T → R t σ') : huge_Tracker_Remove.call (some ⟨Y.tr, 0, none⟩) k σ R := by
  obtain ⟨G, hG, q, hT, _, hput⟩ := h.trk
  refine TRemove_ok hT k fun σ' e h' => ?_
  have := hput σ' _ (remT_len _ _) e h'
  exact hR σ' _ this.1 this.2
theorem AHY.free (h : AHY σ F Y A T) : ∃ sb ms, Go.Bu.BH σ Y.fr A.n A.S sb ms ∧ ∀ (σ' : Hp) (S : Nat → Bool), Ext (· ∈ ms) σ σ' → Go.Bu.BH σ' Y.fr A.n S sb ms → Ext F σ σ' ∧ AHY σ' F Y { A with S := S } T := by
  obtain ⟨G, hG, ⟨sb, ms, hB, hf⟩, _, hput⟩ := h.step .free
  have hm : ∀ b, b ∈ ms → G b := fun b hb => hf b (by unfold Go.Bu.fp; simp [hb])
  refine ⟨sb, ms, hB, fun σ' S e h' => ⟨e.sub fun b hb => hG b (hm b hb), ?_⟩⟩
  exact hput σ' _ _ T G _ h.lay.setS h.tl AC_S (e.sub hm) (fun b hb => .inl hb) ⟨sb, ms, h', hf⟩ (same_of hG fun b hb => hb)
theorem AHY.Give (h : AHY σ F Y A T) (a m : Int) {R : Int → Hp → Prop} (hR : ∀ σ' t, Ext F σ σ' → AHY σ' F Y { A with S := giveS A.n A.S a m } T → R t σ') : buddy_Heap_Give.call (some ⟨Y.fr, 0, none⟩) a m σ R := by
  obtain ⟨sb, ms, hB, hput⟩ := h.free
  refine Go.Bu.Give_ok hB a m fun σ' e h' => ?_
  have := hput σ' _ e h'
  exact hR σ' _ this.1 this.2
theorem AHY.TakeRun (h : AHY σ F Y A T) (a m : Int) {R : Int → Hp → Prop} (hR : ∀ σ' t, Ext F σ σ' → AHY σ' F Y { A with S := Go.Bu.runS A.n A.S a m } T → R t σ') : buddy_Heap_TakeRun.call (some ⟨Y.fr, 0, none⟩) a m σ R := by
  obtain ⟨sb, ms, hB, hput⟩ := h.free
  refine Go.Bu.TakeRun_ok hB a m fun σ' e h' => ?_
  have := hput σ' _ e h'
  exact hR σ' _ this.1 this.2
theorem AHY.TakeB (h : AHY σ F Y A T) (a m : Int) {R : Int → Int → Hp → Prop} (hR : ∀ σ', Ext F σ σ' → AHY σ' F Y { A with S := Go.Bu.takeS A.n A.S a m } T → R ((Go.Bu.takeV A.n A.S a m : Nat) : Int) (Go.Bu.takeE A.n A.S a m) σ') : buddy_Heap_Take.call (some ⟨Y.fr, 0, none⟩) a m σ R := by
  obtain ⟨sb, ms, hB, hput⟩ := h.free
  refine Go.Bu.Take_ok hB a m fun σ' e h' => ?_
  have := hput σ' _ e h'
  exact hR σ' this.1 this.2

/-! ## back -/
def rV (rs : List (Nat × Nat)) : List Value := rs.flatMap fun r => [.int .i64 (r.1 : Int), .int .i64 (r.2 : Int)]
theorem rV_len (rs : List (Nat × Nat)) : (rV rs).length = rs.length * 2 := by
  induction rs with
  | nil => rfl
  | cons x l ih => simp only [rV, List.flatMap_cons, List.length_append, List.length_cons, List.length_nil] at *; omega
theorem rV_get {l : List (Nat × Nat)} {i : Nat} {r : Nat × Nat} (h : l[i]? = some r) : (rV l)[2 * i]? = some (.int .i64 (r.1 : Int)) ∧ (rV l)[2 * i + 1]? = some (.int .i64 (r.2 : Int)) := by
  induction l generalizing i with
  | nil => simp at h
  | cons x l ih =>
    have e : rV (x :: l) = [.int .i64 (x.1 : Int), .int .i64 (x.2 : Int)] ++ rV l := by simp [rV]
    rw [e]
    cases i with
    | zero => simp at h; subst h; simp
    | succ i =>
      have := ih (i := i) (by simpa using h)
      rw [show 2 * (i + 1) = 2 * i + 2 by omega]
      simpa using this
theorem runV_rV (c : Cls) (l : List Nat) : runV c l = rV (l.map fun s => (s, c.pages)) := by
  simp [runV, rV, List.flatMap_map]
theorem rV_rd {s : Sl} {rs : List (Nat × Nat)} (h : SlR s 2 (rV rs) σ F) {i : Nat} {r : Nat × Nat} (hr : rs[i]? = some r) {K : Int → Int → Prop} (hK : K (r.1 : Int) (r.2 : Int)) :
    Ix s.a s.len (i : Int) 2 fun a => LdI .i64 (a.add 0) σ fun u => LdI .i64 (a.add 1) σ fun w => K u w := by
  have hg := rV_get hr
  have hi := (List.getElem?_eq_some_iff.1 hr).1
  obtain ⟨b, o, ha, hc⟩ := h.cell hg.1
  obtain ⟨b1, o1, ha1, hc1⟩ := h.cell hg.2
  rw [ha] at ha1; cases ha1
  have hl := h.1
  rw [rV_len] at hl
  rw [ha]
  refine ix (by omega) (by omega) ?_
  rw [add_lit]
  refine ldI ?_ (ldI ?_ hK) <;> rw [add_lit]
  · rw [show o + (i : Int).toNat * 2 + 0 = o + 2 * i by omega]; exact hc
  · rw [show o + (i : Int).toNat * 2 + 1 = o + (2 * i + 1) by omega]; exact hc1
theorem AHY.mono {G : Rg} (h : AHY σ F Y A T) (hs : ∀ b, b < σ.size → F b → G b) : AHY σ G Y A T := Lcl.mono AHY.loc h hs
theorem AHY.cut (h : AHY σ F Y A T) : AHY σ (Cut F σ) Y A T := Lcl.cut AHY.loc h
theorem backA_snoc (A : AR) (rs : List (Nat × Nat)) (r : Nat × Nat) : backA A (rs ++ [r]) = back1 (backA A rs) r := by simp [backA]
theorem back_ok (h : AHY σ F Y A T) {sl : Sl} {rs : List (Nat × Nat)} {X : Rg} (hs : SlR sl 2 (rV rs) σ X) (hX : ∀ b, b < σ.size → X b → ¬ F b) (hl : rs.length ≤ 1000000) (hb : ∀ r ∈ rs, r.1 ≤ 1000000) {R : Hp → Prop}
    (hR : ∀ σ', Ext F σ σ' → AHY σ' (Grow F σ) Y (backA A rs) T → R σ') : arena_Arena_back.call (some ⟨Y.p, 0, none⟩) sl σ R := by
  refine arena_Arena_back.of_vc ?_
  unfold arena_Arena_back.vc
  have hlen : sl.len = rs.length := by have := hs.1; rw [rV_len] at this; omega
  have hs0 : SlR sl 2 (rV rs) σ (Cut X σ) := (SlR.loc _ _ _).cut hs
  refine loop1 (a := .i .i64) (fun (t : Int) v => ∃ i : Nat, t = (i : Int) ∧ i ≤ rs.length ∧ Ext F σ v ∧ AHY v (Grow F σ) Y (backA A (rs.take i)) T) (fun t _ => rs.length - t.toNat) ⟨0, rfl, by omega, Ext.refl _ _, by simpa [backA] using h.mono fun b _ hb => .inl hb⟩ ?_
  rintro t v ⟨i, rfl, hi, e, hA⟩
  refine ifD (fun hlt => ?_) fun hge => ?_
  · have hi' : i < rs.length := by omega
    have hx : rs[i]? = some rs[i] := List.getElem?_eq_getElem hi'
    have hbr := hb _ (List.getElem_mem hi')
    have hsv := (SlR.loc _ _ _).keep hs0 e fun b hb' hx hf => hX b hb' hx.1 hf
    refine rV_rd hsv hx ?_
    have htk : rs.take (i + 1) = rs.take i ++ [rs[i]] := by rw [List.take_add_one, hx]; rfl
    generalize rs[i] = r at *
    refine nw (cs := [.int .i64 0, .int .i64 0]) fun v4 hz4 e4 hb4 => hb4.s1 (by simp) fun v5 o5 b5 => b5.s1 (by simp) fun v6 o6 b6 => ?_
    have e46 : Ext0 v v6 := Ext.fresh (Ext.fresh e4 o5.ext fun i hi => by omega) o6.ext fun i hi => by omega
    have hA6 := hA.cut.keep0 e46
    have nF : ¬ Cut (Grow F σ) v v.size := fun hf => by have := hf.2; omega
    have b6' : Blk v6 v.size [.int .i64 (r.1 : Int), .int .i64 (r.2 : Int)] := b6
    have z6 : v.size < v6.size := b6.lt
    refine nilP (hA6.hd.rP rfl (b6'.rI rfl (b6'.rI rfl (hA6.Clear r.1 r.2 hbr fun v7 t7 e7 hA7 => ?_))))
    have b7 := e7.blk b6' nF
    have hA7' := hA7.mono (G := fun b => Cut (Grow F σ) v b ∨ v.size < b) fun b _ hb => by
      rcases hb with hb | hb
      · exact .inl hb
      · exact .inr (by omega)
    have nF7 : ¬ (Cut (Grow F σ) v v.size ∨ v.size < v.size) := fun hf => by
      rcases hf with h | h
      · exact nF h
      · omega
    refine nilP (hA7'.hd.rP rfl (b7.rI rfl (b7.rI rfl (hA7'.Unuse _ _ fun v8 t8 e8 hA8 => ?_))))
    have b8 := e8.blk b7 nF7
    refine nilP (hA8.hd.rP rfl (b8.rI rfl (b8.rI rfl (hA8.Give _ _ fun v9 t9 e9 hA9 => ?_))))
    have sub : ∀ b, (Cut (Grow F σ) v b ∨ v.size < b) → Grow F σ b := fun b hb => by
      rcases hb with hb | hb
      · exact hb.1
      · exact .inr (by have := e.1; omega)
    have ee : Ext F σ v9 := ((((e.trans (Ext0.to e46)).growT (e7.sub fun b hb => hb.1))).growT (e8.sub sub)).growT (e9.sub sub)
    refine arN (m := i + 1) (by omega) (by omega) ⟨⟨i + 1, rfl, by omega, ee, ?_⟩, by omega⟩
    rw [htk, backA_snoc]
    exact hA9.mono fun b _ hb => sub b hb
  · have : i = rs.length := by omega
    subst this
    rw [List.take_length] at hA
    exact hR v e hA

end Go.Ar

-- ArF
namespace Go.Ar
open Go Go.Vc Go.Proofs
open Go.Bu (runOk giveS takeAt cnt)
set_option linter.unusedSimpArgs false
set_option linter.unusedVariables false

variable {σ : Hp} {F : Rg} {p hs : Nat} {A : AR} {Y : Lay} {T : Nat → Hp → Rg → Prop}

/-- A step of a central list. -/
theorem AHY.cenS (h : AHY σ F Y A T) {k q : Nat} {c : Cls} {ss : List SpA} (h1 : Y.cps[k]? = some q) (h2 : A.tb[k]? = some c) (h3 : A.cen[k]? = some ss) :
    ∃ G : Rg, (∀ b, G b → F b) ∧ (∃ ps, CeH σ G q c ps ss) ∧ (∀ j, ∃ H : Rg, (∀ b, H b → F b) ∧ (∀ b, H b → ¬ G b) ∧ T j σ H) ∧ ∀ (σ' : Hp) (ss' : List SpA) (ps' : List (Nat × Nat)) (G' H : Rg),
      Ext G σ σ' → (∀ b, G' b → G b ∨ σ.size ≤ b) → CeH σ' G' q c ps' ss' → (∀ b, (F b ∧ b < σ.size ∧ ¬ G b ∨ G' b) → H b) → AHY σ' H Y { A with cen := A.cen.set k ss' } T := by
  obtain ⟨G, hG, hi, hd, hput⟩ := h.step (.cen k)
  have hk : k < A.cen.length := (List.getElem?_eq_some_iff.1 h3).1
  refine ⟨G, hG, C_cen h1 h2 h3 hi, fun j => hd (.tra j) (by intro e; cases e), fun σ' ss' ps' G' H e hg hC hH => ?_⟩
  refine hput σ' _ _ T G' H h.lay.setCen h.tl AC_cen e hg ?_ hH
  simp only [AC]
  rw [h1, h2, List.getElem?_set_self hk]
  exact ⟨ps', hC⟩

theorem FromCentral_ok (h : AHY σ F Y A T) (k m : Int) {R : Sl → Int → Hp → Prop} (hR : ∀ s σ', Ext F σ σ' → RowR s 1 (ints (fromCenV A k m)) σ' (fun b => σ.size ≤ b) → AHY σ' (Cut F σ) Y (fromCenS A k m) T → R s (fromCenE A k m) σ') :
    arena_Arena_FromCentral.call (some ⟨Y.p, 0, none⟩) k m σ R := by
  refine arena_Arena_FromCentral.of_vc ?_
  unfold arena_Arena_FromCentral.vc
  refine acheck_ok h k (fun hk => ?_) fun x hx hlt => ?_
  · have e1 : fromCenE A k m = 1 := by unfold fromCenE; rw [hk]; rfl
    have e2 : fromCenS A k m = A := by unfold fromCenS; rw [e1]; rfl
    have e3 : fromCenV A k m = [] := by unfold fromCenV; rw [e1]; rfl
    have := hR ⟨none, 0, 0⟩ σ (Ext.refl _ _) (by rw [e3]; exact RowR.nil _ _ _ _) (by rw [e2]; exact h.cut)
    rw [e1] at this
    exact ifT rfl this
  · subst hx
    have hk : A.ck (x : Int) = true := by unfold AR.ck; simp; omega
    obtain ⟨c, ss, q, t, r, hc, hss, hq, _, _, hok⟩ := h.at_ hlt
    obtain ⟨G, hG, ⟨ps, hC⟩, _, hput⟩ := h.cenS hq hc hss
    refine ifF rfl (nilP (h.hd.rS rfl (h.crowR hq ?_)))
    by_cases hm : m < 0
    · have e1 : fromCenE A x m = 1 := by unfold fromCenE; rw [hk, if_pos rfl, if_pos hm]
      have e2 : fromCenS A x m = A := by unfold fromCenS; rw [e1]; rfl
      have e3 : fromCenV A x m = [] := by unfold fromCenV; rw [e1]; rfl
      have := hR ⟨none, 0, 0⟩ σ (Ext.refl _ _) (by rw [e3]; exact RowR.nil _ _ _ _) (by rw [e2]; exact h.cut)
      rw [e1] at this
      exact CTake_neg hC m hm this
    · have e1 : fromCenE A x m = 0 := by unfold fromCenE; rw [hk, if_pos rfl, if_neg hm]
      have er : fromCenR A x m = takeC c m.toNat ss := by unfold fromCenR; simp only [Int.toNat_natCast]; rw [hc, hss]
      have e2 : fromCenS A x m = { A with cen := A.cen.set x (takeC c m.toNat ss).2 } := by unfold fromCenS; rw [e1, if_pos rfl, er]; rfl
      have e3 : fromCenV A x m = (takeC c m.toNat ss).1 := by unfold fromCenV; rw [e1, if_pos rfl, er]
      refine CTake_ok hC m (by omega) fun s σ' e hrow hC' => ?_
      have := hR s σ' (e.sub hG) (by rw [e3]; exact hrow) (by rw [e2]; exact hput σ' _ _ (Cut G σ) _ e (fun b hb => .inl hb.1) hC' (cut_of hG))
      rw [e1] at this; exact this

theorem AC_tra {k : Nat} {f : TrA → TrA} : ∀ j, j ≠ Lb.tra k → AC { A with tra := A.tra.modify k f } Y (traT { A with tra := A.tra.modify k f } Y) j = AC A Y (traT A Y) j := by
  intro j hj
  cases j <;> first | rfl | skip
  rename_i k'
  have hne : k ≠ k' := fun e => hj (by rw [e])
  simp only [AC, traT]
  simp [List.getElem?_modify, hne]
theorem LayOk.setTra {k : Nat} {f : TrA → TrA} (h : LayOk A Y) : LayOk { A with tra := A.tra.modify k f } Y := ⟨h.c, h.t, h.cen, by simpa using h.tra, h.tb1, h.tb2, h.n1, h.n2, h.n3, h.st, h.room, h.ok⟩
/-- A step of a transfer cache. -/
theorem AHY.traS (h : AHY σ F Y A (traT A Y)) {k q : Nat} {c : Cls} {t : TrA} (h1 : Y.tps[k]? = some q) (h2 : A.tb[k]? = some c) (h3 : A.tra[k]? = some t) :
    ∃ G : Rg, (∀ b, G b → F b) ∧ TfH σ G q c.batch A.room t ∧ ∀ (σ' : Hp) (f : TrA → TrA) (G' H : Rg),
      Ext G σ σ' → (∀ b, G' b → G b ∨ σ.size ≤ b) → TfH σ' G' q c.batch A.room (f t) → (∀ b, (F b ∧ b < σ.size ∧ ¬ G b ∨ G' b) → H b) → AHY σ' H Y { A with tra := A.tra.modify k f } (traT { A with tra := A.tra.modify k f } Y) := by
  obtain ⟨G, hG, hi, hd, hput⟩ := h.step (.tra k)
  have hi' : TfH σ G q c.batch A.room t := by
    simp only [AC, traT] at hi
    rw [h1, h2, h3] at hi
    exact hi
  refine ⟨G, hG, hi', fun σ' f G' H e hg hC hH => ?_⟩
  refine hput σ' _ _ _ G' H h.lay.setTra (fun j => traT.loc j) AC_tra e hg ?_ hH
  simp only [AC, traT]
  rw [h1, h2, List.getElem?_modify_eq, h3]
  exact hC
/-! ## ToCentral -/
theorem CeH.stB {q : Nat} {c : Cls} {ps : List (Nat × Nat)} {ss : List SpA} {G : Rg} (h : CeH σ G q c ps ss) : ∀ s ∈ ss, s.st ≤ 1024 := by
  intro s hs
  obtain ⟨i, hi⟩ := List.getElem?_of_mem hs
  have hl := (List.getElem?_eq_some_iff.1 hi).1
  have hp : i < ps.length := by rw [h.len]; exact hl
  have := (h.sp _ _ _ (List.getElem?_eq_getElem hp) hi).fit
  omega
theorem ToCentral_ok (h : AHY σ F Y A T) (k : Int) {sl : Sl} {xs : List Int} (hi : ∀ x ∈ xs, I63 x) (hl : xs.length ≤ 1000000) (hcap : sl.len ≤ sl.cap)
    (hs : (∃ X : Rg, SlR sl 1 (intsI xs) σ X ∧ ∀ b, b < σ.size → X b → ¬ F b) ∨ ∃ j, ∀ H, T j σ H → SlR sl 1 (intsI xs) σ H)
    {R : Int → Hp → Prop} (hR : ∀ σ', Ext F σ σ' → AHY σ' (Grow F σ) Y (toCenS A k xs) T → R (toCenE A k xs) σ') :
    arena_Arena_ToCentral.call (some ⟨Y.p, 0, none⟩) k sl σ R := by
  refine arena_Arena_ToCentral.of_vc ?_
  unfold arena_Arena_ToCentral.vc
  have no : ∀ e : Int, e ≠ 0 → toCenE A k xs = e → R e σ := fun e he h1 => by
    have e2 : toCenS A k xs = A := by unfold toCenS; rw [if_neg (by omega)]
    have := hR σ (Ext.refl _ _) (by rw [e2]; exact h.mono fun b _ hb => .inl hb)
    rw [h1] at this; exact this
  refine acheck_ok h k (fun hk => ifT rfl (no 1 (by decide) (by unfold toCenE; rw [hk]; rfl))) fun x hx hlt => ?_
  subst hx
  have hk : A.ck (x : Int) = true := by unfold AR.ck; simp; omega
  obtain ⟨c, ss, q, t, r, hc, hss, hq, _, _, hok⟩ := h.at_ hlt
  obtain ⟨G, hG, ⟨ps, hC⟩, hd, hput⟩ := h.cenS hq hc hss
  have hX : ∃ X : Rg, SlR sl 1 (intsI xs) σ X ∧ ∀ b, X b → ¬ G b := by
    rcases hs with ⟨X, h1, h2⟩ | ⟨j, hj⟩
    · exact ⟨Cut X σ, (SlR.loc _ _ _).cut h1, fun b hb hg => h2 b hb.2 hb.1 (hG b hg)⟩
    · obtain ⟨H, _, hn, hT⟩ := hd j
      exact ⟨H, hj H hT, hn⟩
  obtain ⟨X, hsX, hXG⟩ := hX
  have eE : toCenE A x xs = putE c ss xs := by unfold toCenE; rw [hk, if_pos rfl]; simp only [Int.toNat_natCast]; rw [hc, hss]
  refine ifF rfl (nilP (h.hd.rS rfl (h.crowR hq (CPut_ok hC hsX hXG hi hl hcap (fun hn => ?_) fun h0 o σ1 e1 hrow hC1 => ?_))))
  · refine ifT (by simpa using hn) (no _ hn eE)
  · refine ifF rfl ?_
    have eS : toCenS A x xs = backA { A with cen := A.cen.set x (sweep (xs.foldl (put1 c) ss)) } ((swept (xs.foldl (put1 c) ss)).map fun s => (s, c.pages)) := by
      unfold toCenS; rw [eE, if_pos h0]; simp only [Int.toNat_natCast]; rw [hc, hss]
    have hA1 := hput σ1 _ _ (Cut G σ) _ e1 (fun b hb => .inl hb.1) hC1 (cut_of hG)
    rw [runV_rV] at hrow
    have hlr : ((swept (xs.foldl (put1 c) ss)).map fun s => (s, c.pages)).length ≤ 1000000 ∧ ∀ r ∈ ((swept (xs.foldl (put1 c) ss)).map fun s => (s, c.pages)), r.1 ≤ 1000000 := by
      have hfold : ∀ (ys : List Int) (ls : List SpA), ((ys.foldl (put1 c) ls).map (·.st)) = ls.map (·.st) := by
        intro ys
        induction ys with
        | nil => intro ls; rfl
        | cons y ys ih =>
          intro ls
          rw [List.foldl_cons, ih]
          unfold put1
          split
          · rename_i j hj
            split
            · rename_i s hs2
              split
              · simp only [List.map_set]
                apply List.ext_getElem?
                intro z
                rw [List.getElem?_set]
                by_cases hz : j = z
                · subst hz
                  rw [if_pos rfl]
                  have := (List.getElem?_eq_some_iff.1 hs2).1
                  rw [if_pos (by simpa using this)]
                  simp [hs2, SpA.put]
                · rw [if_neg hz]
              · rfl
            · rfl
          · rfl
      have hsw : ∀ s ∈ swept (xs.foldl (put1 c) ss), s ∈ ss.map (·.st) := by
        intro s hs2
        rw [← hfold xs ss]
        unfold swept at hs2
        simp only [List.mem_map, List.mem_filter] at hs2 ⊢
        obtain ⟨z, hz, rfl⟩ := hs2
        exact ⟨z, hz.1, rfl⟩
      have hfew := hC.few
      refine ⟨?_, fun r hr => ?_⟩
      · have : (swept (xs.foldl (put1 c) ss)).length ≤ (xs.foldl (put1 c) ss).length := by
          unfold swept; rw [List.length_map]; exact List.length_filter_le _ _
        have h2 : (xs.foldl (put1 c) ss).length = ss.length := by have := congrArg List.length (hfold xs ss); simpa using this
        rw [List.length_map]; omega
      · obtain ⟨s, hs2, rfl⟩ := List.mem_map.1 hr
        obtain ⟨z, hz, rfl⟩ := List.mem_map.1 (hsw s hs2)
        have := hC.stB z hz
        simp only; omega
    refine back_ok hA1 hrow.slR (fun b _ hb hf => by have := hf.2; omega) hlr.1 hlr.2 fun σ2 e2 hA2 => ?_
    have := hR σ2 ((e1.sub hG).trans (e2.sub fun b hb => hb.1)) ?_
    · rw [eE, h0] at this; exact this
    · rw [eS]
      exact hA2.mono fun b _ hb => by
        rcases hb with hb | hb
        · exact .inl hb.1
        · exact .inr (Nat.le_trans e1.1 hb)

end Go.Ar

-- ArG
namespace Go.Ar
open Go Go.Vc Go.Proofs
open Go.Bu (runOk giveS takeAt cnt)
set_option linter.unusedSimpArgs false
set_option linter.unusedVariables false

variable {σ : Hp} {F : Rg} {p hs : Nat} {A : AR} {Y : Lay} {T : Nat → Hp → Rg → Prop}

/-! ## Large runs -/
theorem runI_get (l : List (Nat × Nat)) (x : Int) : mget (runI l) x = (l.find? fun r => (r.1 : Int) == x).map fun r => (r.2 : Int) := by
  induction l with
  | nil => rfl
  | cons r l ih =>
    have : runI (r :: l) = ((r.1 : Int), (r.2 : Int)) :: runI l := rfl
    rw [this, mget_cons, List.find?_cons, ih]
    by_cases h : (r.1 : Int) = x
    · simp [h]
    · have : ((r.1 : Int) == x) = false := by simpa using h
      rw [this, if_neg h]
theorem runI_del (l : List (Nat × Nat)) (x : Int) : mdel (runI l) x = runI (l.filter fun q => !((q.1 : Int) == x)) := by
  unfold mdel runI
  rw [List.filter_map]; rfl
theorem runI_set (l : List (Nat × Nat)) (x m : Nat) : mset (runI l) (x : Int) (m : Int) = runI (takeAS.mset2 l x m) := by
  unfold mset takeAS.mset2 runI
  have e : (l.map fun r => ((r.1 : Int), (r.2 : Int))).any (fun y => y.1 == (x : Int)) = l.any fun r => r.1 == x := by
    rw [List.any_map]
    congr 1
    funext r
    exact beqN r.1 x
  rw [e]
  split
  · rw [List.map_map, List.map_map]
    apply List.map_congr_left
    intro r _
    simp only [Function.comp_def]
    rw [beqN]
    split <;> rfl
  · simp
theorem AHY.runsS (h : AHY σ F Y A T) : F Y.rn ∧ MapL σ Y.rn .i64 (.i .i64) (runI A.runs) ∧ ∀ (σ' : Hp) (rs : List (Nat × Nat)), OnlyB σ σ' Y.rn → MapL σ' Y.rn .i64 (.i .i64) (runI rs) → AHY σ' F Y { A with runs := rs } T := by
  obtain ⟨G, hG, ⟨gr, hm⟩, _, hput⟩ := h.step .runs
  refine ⟨hG _ gr, hm, fun σ' rs ho h' => ?_⟩
  exact hput σ' _ _ T G _ h.lay.setRuns h.tl AC_runs (ho.ext.sub fun b hb => by subst hb; exact gr) (fun b hb => .inl hb) ⟨gr, h'⟩ (same_of hG fun b hb => hb)
theorem GivePages_ok (h : AHY σ F Y A T) (x : Int) (hf : ∀ r ∈ A.runs, r.1 ≤ 1000000) {R : Int → Hp → Prop} (hR : ∀ σ', Ext F σ σ' → AHY σ' (Grow F σ) Y (giveAS A x) T → R (giveAE A x) σ') :
    arena_Arena_GivePages.call (some ⟨Y.p, 0, none⟩) x σ R := by
  refine arena_Arena_GivePages.of_vc ?_
  unfold arena_Arena_GivePages.vc
  obtain ⟨gr, hm, hput⟩ := h.runsS
  refine amade_ok h (ifF rfl (nilP (h.hd.rM rfl ⟨_, hm, ?_⟩)))
  rw [runI_get]
  cases hr : (A.runs.find? fun r => (r.1 : Int) == x) with
  | none =>
    have e1 : giveAE A x = 8 := by unfold giveAE runAt; rw [hr]; rfl
    have e2 : giveAS A x = A := by unfold giveAS runAt; rw [hr]
    have := hR σ (Ext.refl _ _) (by rw [e2]; exact h.mono fun b _ hb => .inl hb)
    rw [e1] at this
    exact ifT rfl this
  | some r =>
    have e1 : giveAE A x = 0 := by unfold giveAE runAt; rw [hr]; rfl
    have e2 : giveAS A x = back1 { A with runs := A.runs.filter fun q => !((q.1 : Int) == x) } r := by unfold giveAS runAt; rw [hr]
    have hrm := List.mem_of_find?_eq_some hr
    have hrx : (r.1 : Int) = x := by simpa using List.find?_some hr
    refine ifF rfl (nilP (h.hd.rM rfl ⟨_, hm, fun v1 ho1 _ hm1 => ?_⟩))
    have o1 := ho1 _ rfl
    have hm1' : MapL v1 Y.rn .i64 (.i .i64) (mdel (runI A.runs) x) := hm1
    rw [runI_del] at hm1'
    have hA1 := hput v1 _ o1 hm1'
    simp only [Option.map_some, Option.getD_some]
    refine nw (cs := [.int .i64 x, .int .i64 (r.2 : Int)]) fun v2 hz2 e2' hb2 => ?_
    have hA2 := hA1.cut.keep0 e2'
    have hsl : SlR ⟨some ⟨v1.size, 0, none⟩, 1, 1⟩ 2 (rV [r]) v2 (· = v1.size) := by
      refine ⟨rfl, .inr ⟨_, 0, _, rfl, rfl, hb2, fun j hj => ?_⟩⟩
      have : rV [r] = [.int .i64 (r.1 : Int), .int .i64 (r.2 : Int)] := rfl
      rw [this, hrx, Nat.zero_add]
    refine back_ok hA2 hsl (fun b _ hb hc => by have := hc.2; omega) (by simp) (fun q hq => by simp at hq; subst hq; exact hf _ hrm) fun v3 e3 hA3 => ?_
    have e13 : Ext F σ v3 := (o1.ext.sub fun b hb => by subst hb; exact gr).trans ((Ext0.to e2').trans (e3.sub fun b hb => hb.1))
    have := hR v3 e13 (by
      rw [e2]
      exact hA3.mono fun b _ hb => by
        rcases hb with hb | hb
        · exact .inl hb.1
        · exact .inr (by have := o1.1; omega))
    rw [e1] at this; exact this

end Go.Ar

-- ArH
namespace Go.Ar
open Go Go.Vc Go.Proofs
open Go.Bu (runOk giveS takeAt cnt)
set_option linter.unusedSimpArgs false
set_option linter.unusedVariables false

variable {σ : Hp} {F : Rg} {p hs : Nat} {A : AR} {Y : Lay} {T : Nat → Hp → Rg → Prop}

/-- One cache has let go of its batches; they lie in its region. -/
def tickT (A : AR) (Y : Lay) (k r : Nat) (c : Cls) (t : TrA) (out : Sl) (sls : List Sl) (j : Nat) : Hp → Rg → Prop :=
  if j = k then fun σ G => TfH σ G r c.batch A.room t.tick ∧ SlR out 1 (sls.map slV) σ G ∧ Bat sls t.out σ G else traT A Y j
theorem tickT.loc {k r : Nat} {c : Cls} {t : TrA} {out : Sl} {sls : List Sl} (j : Nat) : Lcl (tickT A Y k r c t out sls j) := by
  unfold tickT
  split
  · exact fun σ σ' F G ⟨h1, h2, h3⟩ hz hs => ⟨TfH.loc _ _ _ _ h1 hz hs, SlR.loc _ _ _ _ _ _ _ h2 hz hs, Bat.loc _ _ _ _ _ _ h3 hz hs⟩
  · exact traT.loc j
end Go.Ar

-- BuT
namespace Go.Bu
set_option linter.unusedSimpArgs false
set_option linter.unusedVariables false

variable {n : Nat} {S : Nat → Bool}

theorem takeFrom_spec {m a k x : Nat} (h : takeFrom n S m a k = some x) : ∃ j, j < k ∧ m ≤ 2 ^ j ∧ a ≤ 2 ^ j ∧ (blocks n S j).head? = some x ∧ ∀ i, i < j → m ≤ 2 ^ i → a ≤ 2 ^ i → blocks n S i = [] := by
  have before : ∀ k, takeFrom n S m a k = none → ∀ i, i < k → m ≤ 2 ^ i → a ≤ 2 ^ i → blocks n S i = [] := by
    intro k
    induction k with
    | zero => intro _ i hi; omega
    | succ k ih =>
      intro hn i hi h1 h2
      rw [takeFrom] at hn
      split at hn
      · cases hn
      · rename_i hn'
        by_cases e : i = k
        · subst e
          rw [if_pos ⟨h1, h2⟩] at hn
          simpa using hn
        · exact ih hn' i (by omega) h1 h2
  induction k with
  | zero => simp [takeFrom] at h
  | succ k ih =>
    rw [takeFrom] at h
    split at h
    · rename_i y hy
      cases h
      obtain ⟨j, h1, h2⟩ := ih hy
      exact ⟨j, by omega, h2⟩
    · rename_i hn
      split at h
      · rename_i hc
        exact ⟨k, by omega, hc.1, hc.2, h, before k hn⟩
      · cases h
theorem take_in (hb : Bounded S n) {m a x : Nat} (h : takeAt n S m a = some x) : x + m ≤ n ∧ ∀ y, x ≤ y → y < x + m → S y = true := by
  obtain ⟨j, _, hm, _, hh, _⟩ := takeFrom_spec h
  have hmem : x ∈ blocks n S j := List.mem_of_head? hh
  obtain ⟨q, rfl, hc⟩ := (mem_blocks hb).1 hmem
  have := full_bound hb (can_iff.1 hc).1
  exact ⟨by omega, fun y h1 h2 => can_free hc (place_iff.2 (by omega))⟩


end Go.Bu

-- ArI
namespace Go.Ar
open Go Go.Vc Go.Proofs
open Go.Bu (runOk giveS takeAt cnt)
set_option linter.unusedSimpArgs false
set_option linter.unusedVariables false

variable {σ : Hp} {F H : Rg} {p hs : Nat} {A : AR} {sp : Sp} {Y : Lay} {T : Nat → Hp → Rg → Prop}

/-- An arena and its space, apart. -/
structure W2 (σ : Hp) (F H : Rg) (Y : Lay) (A : AR) (T : Nat → Hp → Rg → Prop) (sp : Sp) : Prop where
  a : AHY σ F Y A T
  s : SpH3 σ H Y.hs sp
  d : ∀ b, F b → ¬ H b
  g : Gl σ
  o : Off F
  o2 : Off H
def Both (F H : Rg) : Rg := fun b => F b ∨ H b
theorem W2.arena (h : W2 σ F H Y A T sp) {σ' : Hp} {A' : AR} (e : Ext F σ σ') (ha : AHY σ' F Y A' T) : W2 σ' F H Y A' T sp :=
  ⟨ha, Lcl.keep SpH3.loc h.s e fun b _ hb hf => h.d b hf hb, h.d, h.g.keep e h.o, h.o, h.o2⟩
theorem W2.space (h : W2 σ F H Y A T sp) {σ' : Hp} {sp' : Sp} (e : Ext H σ σ') (hs : SpH3 σ' H Y.hs sp') : W2 σ' F H Y A T sp' :=
  ⟨Lcl.keep AHY.loc h.a e fun b _ hb hf => h.d b hb hf, hs, h.d, h.g.keep e h.o2, h.o, h.o2⟩
theorem W2.keep0 (h : W2 σ F H Y A T sp) {σ' : Hp} (e : Ext0 σ σ') : W2 σ' F H Y A T sp := ⟨h.a.keep0 e, h.s.keep0 e, h.d, h.g.keep0 e, h.o, h.o2⟩
theorem W2.cut (h : W2 σ F H Y A T sp) : W2 σ (Cut F σ) (Cut H σ) Y A T sp := ⟨h.a.cut, Lcl.cut SpH3.loc h.s, fun b hb hc => h.d b hb.1 hc.1, h.g, h.o.sub fun b hb => hb.1, h.o2.sub fun b hb => hb.1⟩
/-- The arena grows into what is new. -/
theorem W2.arenaG (h : W2 σ F H Y A T sp) {σ' : Hp} {A' : AR} (e : Ext F σ σ') (ha : AHY σ' (Grow F σ) Y A' T) : W2 σ' (Grow F σ) (Cut H σ) Y A' T sp :=
  ⟨ha, Lcl.keep SpH3.loc (Lcl.cut SpH3.loc h.s) e fun b _ hb hf => h.d b hf hb.1, fun b hb hc => by
    rcases hb with hb | hb
    · exact h.d b hb hc.1
    · have := hc.2; omega, h.g.keep e h.o, h.o.grow h.g, h.o2.sub fun b hb => hb.1⟩

theorem W2.rSp (h : W2 σ F H Y A T sp) {K : Option Addr → Prop} (hK : K (some ⟨Y.hs, 0, none⟩)) : LdP (Addr.add ⟨Y.p, 0, none⟩ 1) σ K := h.a.hd.rP rfl hK

/-! ## grow -/
theorem addHs_succ (st : List Nat) (a m : Nat) : addHs st a (m + 1) = addT (addHs st a m) ((a + m : Nat) : Int) := by
  unfold addHs; rw [List.range_succ, List.map_append, List.foldl_append]; rfl
theorem mapS_err {a m : Int} (h : mapE sp a m ≠ 0) : mapS sp a m = sp := by unfold mapS; rw [if_neg h]
theorem growStart_none {size : Nat} (h1 : 1 ≤ size) (h : ∀ j, 1 ≤ j → j * size + size ≤ sp.st.length → mapE sp ((j * size : Nat) : Int) (size : Int) ≠ 0) : growStart sp size = none := by
  unfold growStart
  rw [List.find?_eq_none]
  intro x hx
  obtain ⟨j, hj, rfl⟩ := List.mem_map.1 hx
  rw [List.mem_range] at hj
  have h2 : (j + 1) * size ≤ sp.st.length := Nat.le_trans (Nat.mul_le_mul_right size hj) (Nat.div_mul_le_self _ _)
  rw [Nat.add_mul, Nat.one_mul] at h2
  by_cases h0 : j = 0
  · subst h0; simp
  · have := h j (by omega) h2
    have hbe : (mapE sp ((j * size : Nat) : Int) (size : Int) == 0) = false := by simpa only [beq_eq_false_iff_ne] using this
    rw [hbe, Bool.and_false]; simp
theorem growStart_some {size j : Nat} (h1 : 1 ≤ size) (h0 : 1 ≤ j) (hf : j * size + size ≤ sp.st.length) (hm : mapE sp ((j * size : Nat) : Int) (size : Int) = 0) (h : ∀ i, 1 ≤ i → i < j → mapE sp ((i * size : Nat) : Int) (size : Int) ≠ 0) : growStart sp size = some (j * size) := by
  unfold growStart
  have hj : j < sp.st.length / size := by
    rw [Nat.lt_iff_add_one_le, Nat.le_div_iff_mul_le h1, Nat.add_mul, Nat.one_mul]; exact hf
  have hsplit : List.range (sp.st.length / size) = List.range j ++ (j :: (List.range (sp.st.length / size - j - 1)).map (j + 1 + ·)) := by
    apply List.ext_getElem?
    intro i
    rw [List.getElem?_append, List.length_range]
    by_cases hi : i < j
    · rw [if_pos hi, List.getElem?_range (by omega), List.getElem?_range hi]
    · rw [if_neg hi]
      by_cases hij : i = j
      · subst hij; rw [Nat.sub_self, List.getElem?_cons_zero, List.getElem?_range hj]
      · rw [show i - j = (i - j - 1) + 1 by omega, List.getElem?_cons_succ, List.getElem?_map]
        by_cases hl : i < sp.st.length / size
        · rw [List.getElem?_range hl, List.getElem?_range (by omega)]
          simp only [Option.map_some]
          congr 1; omega
        · rw [List.getElem?_eq_none (by rw [List.length_range]; omega), List.getElem?_eq_none (by rw [List.length_range]; omega)]; rfl
  rw [hsplit, List.map_append, List.find?_append]
  have hnone : ((List.range j).map (· * size)).find? (fun (s : Nat) => s != 0 && mapE sp s size == 0) = none := by
    rw [List.find?_eq_none]
    intro x hx
    obtain ⟨i, hi, rfl⟩ := List.mem_map.1 hx
    rw [List.mem_range] at hi
    by_cases h0 : i = 0
    · subst h0; simp
    · have := h i (by omega) hi
      have hbe : (mapE sp ((i * size : Nat) : Int) (size : Int) == 0) = false := by simpa only [beq_eq_false_iff_ne] using this
      rw [hbe, Bool.and_false]; simp
  rw [hnone, List.map_cons, List.find?_cons]
  have : (j * size != 0 && mapE sp ((j * size : Nat) : Int) (size : Int) == 0) = true := by
    rw [hm]
    have hp : 0 < j * size := Nat.mul_pos (by omega) (by omega)
    have hne : j * size ≠ 0 := by omega
    simp [hne]
  rw [this]; rfl
theorem grow_ok' (h : W2 σ F H Y A T sp) {size : Nat} (h1 : size = 16 ∨ size = 32 ∨ size = 64) {R : Bool → Hp → Prop} (h0 : growA A sp size = none → ∀ σ', Ext (Both F H) σ σ' → W2 σ' F H Y A T sp → R false σ')
    (hR : ∀ A' sp', growA A sp size = some (A', sp') → ∀ σ', Ext (Both F H) σ σ' → W2 σ' F H Y A' T sp' → R true σ') : arena_Arena_grow.call (some ⟨Y.p, 0, none⟩) (size : Int) σ R := by
  refine arena_Arena_grow.of_vc ?_
  unfold arena_Arena_grow.vc
  have hn2 : sp.st.length ≤ 1024 := by obtain ⟨q, r, l, B, hh⟩ := h.s; exact hh.n2
  have es : ∀ {a b : Hp}, Ext H a b → Ext (Both F H) a b := fun e => e.sub fun b hb => .inr hb
  have ea : ∀ {a b : Hp}, Ext F a b → Ext (Both F H) a b := fun e => e.sub fun b hb => .inl hb
  have hmul : ∀ j, j * size + size = (j + 1) * size := fun j => by rw [Nat.add_mul, Nat.one_mul]
  refine loop1 (a := .i .i64) (fun (t : Int) v => ∃ j : Nat, t = ((j * size : Nat) : Int) ∧ 1 ≤ j ∧ j * size ≤ 1024 + 64 ∧ Ext (Both F H) σ v ∧ W2 v F H Y A T sp ∧ ∀ i, 1 ≤ i → i < j → i * size + size ≤ sp.st.length → mapE sp ((i * size : Nat) : Int) (size : Int) ≠ 0) (fun t _ => 2000 - t.toNat)
    ⟨1, by omega, Nat.le_refl _, by omega, Ext.refl _ _, h, fun i h1 h2 => by omega⟩ ?_
  rintro t v ⟨j, rfl, hj, hb, e, hW, hall⟩
  refine arN (m := j * size + size) (by omega) (by omega) (nilP (hW.rSp (Pages_ok hW.s (ifD (fun hlt => ?_) fun hge => ?_))))
  · have hf : j * size + size ≤ sp.st.length := by omega
    refine nilP (hW.rSp (Map_ok hW.s hW.g hW.o2 _ _ fun v2 e2 hS2 => ?_))
    refine iff_ (fun hc => ?_) fun hc => ?_
    · have hne : mapE sp ((j * size : Nat) : Int) (size : Int) ≠ 0 := by simpa using hc
      rw [mapS_err hne] at hS2
      refine arN (m := (j + 1) * size) (by rw [← hmul]; omega) (by rw [← hmul]; omega) ⟨⟨j + 1, rfl, by omega, by rw [← hmul]; omega, e.trans (es e2), hW.space e2 hS2, fun i hi1 hi2 hif => ?_⟩, by rw [← hmul]; omega⟩
      by_cases hij : i = j
      · subst hij; exact hne
      · exact hall i hi1 (by omega) hif
    · have hm0 : mapE sp ((j * size : Nat) : Int) (size : Int) = 0 := by simpa using hc
      have hW2 := hW.space e2 hS2
      have hfit : ∀ i, i < j → i * size + size ≤ sp.st.length := fun i hi => by
        have : (i + 1) * size ≤ j * size := Nat.mul_le_mul_right _ hi
        rw [hmul]; omega
      have hgs := growStart_some (sp := sp) (by omega) hj hf hm0 fun i hi1 hi2 => hall i hi1 hi2 (hfit i hi2)
      have hga : growA A sp size = some ({ A with st := addHs A.st (j * size / 16) (size / 16), S := giveS A.n A.S ((j * size : Nat) : Int) size }, mapS sp ((j * size : Nat) : Int) size) := by unfold growA; rw [hgs]
      have hd16 : (j * size) % 16 = 0 := by
        rcases h1 with rfl | rfl | rfl
        · omega
        · omega
        · omega
      refine nz (by decide) (arN (m := j * size / 16) (by rw [tdiv_nn (by omega)]; simp) (by omega) ?_)
      refine loop1 (a := .i .i64) (fun (t : Int) w => ∃ i : Nat, t = ((j * size / 16 + i : Nat) : Int) ∧ i ≤ size / 16 ∧ Ext (Both F H) σ w ∧ W2 w F H Y { A with st := addHs A.st (j * size / 16) i } T (mapS sp ((j * size : Nat) : Int) size)) (fun t _ => 200 - t.toNat)
        ⟨0, by omega, by omega, e.trans (es e2), hW2⟩ ?_
      rintro t w ⟨i, rfl, hi, ew, hWw⟩
      refine arN (m := j * size + size) (by omega) (by omega) (nz (by decide) (arN (m := (j * size + size) / 16) (by rw [tdiv_nn (by omega)]; simp) (by omega) (ifD (fun hlt2 => ?_) fun hge2 => ?_)))
      · refine nilP (hWw.a.hd.rP rfl (hWw.a.AddH _ fun w2 t2 e3 hA3 => ?_))
        refine arN (m := j * size / 16 + (i + 1)) (by omega) (by omega) ⟨⟨i + 1, rfl, by omega, ew.trans (ea e3), ?_⟩, by omega⟩
        rw [addHs_succ]
        exact hWw.arena e3 hA3
      · have hii : i = size / 16 := by omega
        subst hii
        refine nilP (hWw.a.hd.rP rfl (hWw.a.Give _ _ fun w2 t2 e3 hA3 => ?_))
        exact hR _ _ hga w2 (ew.trans (ea e3)) (hWw.arena e3 hA3)
  · have hgs := growStart_none (sp := sp) (size := size) (by omega) fun i hi1 hif => by
      by_cases hij : i < j
      · exact hall i hi1 hij hif
      · have : j * size ≤ i * size := Nat.mul_le_mul_right _ (by omega)
        omega
    have hga : growA A sp size = none := by unfold growA; rw [hgs]
    exact h0 hga v e hW

/-! ## get -/
theorem takeArg_ok {m a : Nat} (h1 : 1 ≤ m) (h2 : m ≤ 64) (ha : a = 1 ∨ a = 2 ∨ a = 4 ∨ a = 8 ∨ a = 16) : Go.Bu.takeArg (m : Int) (a : Int) = true := by
  have hp : Go.Bu.isPow (a : Int) = true := by rcases ha with rfl | rfl | rfl | rfl | rfl <;> decide
  unfold Go.Bu.takeArg
  rw [hp]
  simp only [Bool.and_true, Bool.and_eq_true, decide_eq_true_eq]
  omega
theorem W2.take (h : W2 σ F H Y A T sp) {m a : Nat} (hok : Go.Bu.takeArg (m : Int) (a : Int) = true) {R : Int → Int → Hp → Prop} (h0 : takeAt A.n A.S m a = none → ∀ σ', Ext F σ σ' → W2 σ' F H Y A T sp → R 0 6 σ')
    (h1 : ∀ x, takeAt A.n A.S m a = some x → x + m ≤ A.n → ∀ σ', Ext F σ σ' → W2 σ' F H Y { A with S := Go.Bu.take A.S x (x + m) } T sp → R (x : Int) 0 σ') : buddy_Heap_Take.call (some ⟨Y.fr, 0, none⟩) (m : Int) (a : Int) σ R := by
  have hbnd : Go.Bu.Bounded A.S A.n := by obtain ⟨sb, ms, hB, _⟩ := h.a.free; exact hB.bnd
  refine h.a.TakeB _ _ fun σ' e hA => ?_
  have hW := h.arena e hA
  cases ht : takeAt A.n A.S m a with
  | none =>
    have e1 : Go.Bu.takeE A.n A.S (m : Int) (a : Int) = 6 := by unfold Go.Bu.takeE; rw [hok, if_pos rfl]; simp only [Int.toNat_natCast]; rw [ht]
    have e2 : Go.Bu.takeV A.n A.S (m : Int) (a : Int) = 0 := by unfold Go.Bu.takeV; rw [hok, if_pos rfl]; simp only [Int.toNat_natCast]; rw [ht]
    have e3 : Go.Bu.takeS A.n A.S (m : Int) (a : Int) = A.S := by unfold Go.Bu.takeS; rw [hok, if_pos rfl]; simp only [Int.toNat_natCast]; rw [ht]
    rw [e1, e2]; rw [e3] at hW
    exact h0 ht σ' e hW
  | some x =>
    have e1 : Go.Bu.takeE A.n A.S (m : Int) (a : Int) = 0 := by unfold Go.Bu.takeE; rw [hok, if_pos rfl]; simp only [Int.toNat_natCast]; rw [ht]
    have e2 : Go.Bu.takeV A.n A.S (m : Int) (a : Int) = x := by unfold Go.Bu.takeV; rw [hok, if_pos rfl]; simp only [Int.toNat_natCast]; rw [ht]
    have e3 : Go.Bu.takeS A.n A.S (m : Int) (a : Int) = Go.Bu.take A.S x (x + m) := by unfold Go.Bu.takeS; rw [hok, if_pos rfl]; simp only [Int.toNat_natCast]; rw [ht]
    rw [e1, e2]; rw [e3] at hW
    exact h1 x ht (Go.Bu.take_in hbnd ht).1 σ' e hW
theorem growA_n {size : Nat} {A' : AR} {sp' : Sp} (h : growA A sp size = some (A', sp')) : A'.n = A.n := by
  unfold growA at h
  split at h
  · cases h
  · cases h; rfl
/-- Regions grow. -/
def Fits (σ : Hp) (F H F' H' : Rg) : Prop := (∀ b, F' b → Grow F σ b) ∧ ∀ b, H' b → H b
theorem get_ok (h : W2 σ F H Y A T sp) {m a no : Nat} (h1 : 1 ≤ m) (h2 : m ≤ 64) (ha : a = 1 ∨ a = 2 ∨ a = 4 ∨ a = 8 ∨ a = 16) (hn1 : 1 ≤ no) (hn2 : no ≤ 1000) {R : Int → Int → Hp → Prop}
    (h0 : (getA A sp m a no).1 = none → ∀ σ', Ext (Both F H) σ σ' → W2 σ' F H Y (getA A sp m a no).2.1 T (getA A sp m a no).2.2 → R 0 6 σ')
    (hR : ∀ x, (getA A sp m a no).1 = some x → x + m ≤ A.n → ∀ σ' F' H', Fits σ F H F' H' → Ext (Both F H) σ σ' → W2 σ' F' H' Y (getA A sp m a no).2.1 T (getA A sp m a no).2.2 → R (x : Int) 0 σ') :
    arena_Arena_get.call (some ⟨Y.p, 0, none⟩) (m : Int) (a : Int) (no : Int) σ R := by
  refine arena_Arena_get.of_vc ?_
  unfold arena_Arena_get.vc
  have hok := takeArg_ok h1 h2 ha
  have es : ∀ {a b : Hp}, Ext H a b → Ext (Both F H) a b := fun e => e.sub fun b hb => .inr hb
  have ea : ∀ {a b : Hp}, Ext F a b → Ext (Both F H) a b := fun e => e.sub fun b hb => .inl hb
  have fin : ∀ (v : Hp) (x : Nat) (A1 : AR) (sp1 : Sp), Ext (Both F H) σ v → x + m ≤ A.n → W2 v F H Y { A1 with S := Go.Bu.take A1.S x (x + m) } T sp1 → getA A sp m a no = (some x, useA A1 x m no, sp1) →
      NilP (some ⟨Y.p, 0, none⟩) fun a50 => LdP (a50.add 3) v fun t52 => huge_Tracker_Use.call t52 (x : Int) (m : Int) v fun t55 v2 => NilP (some ⟨Y.p, 0, none⟩) fun a57 => LdP (a57.add 4) v2 fun t59 => pagemap_Map_Set.call t59 (x : Int) (m : Int) (no : Int) v2 fun t63 v3 => R (x : Int) 0 v3 := by
    intro v x A1 sp1 e hxm hW hg
    have hxl : x ≤ 1000000 := by have := h.a.lay.n2; omega
    refine nilP (hW.a.hd.rP rfl (hW.a.Use _ _ fun v2 t2 e2 hA2 => ?_))
    have hW2 := hW.arena e2 hA2
    refine nilP (hW2.a.hd.rP rfl (hW2.a.Set x m hxl hn1 hn2 fun v3 t3 e3 hA3 => ?_))
    have hW3 := hW2.arenaG e3 hA3
    refine hR x (by rw [hg]) hxm v3 (Grow F v2) (Cut H v2) ⟨fun b hb => ?_, fun b hb => hb.1⟩ ((e.trans (ea e2)).trans (ea e3)) (by rw [hg]; exact hW3)
    rcases hb with hb | hb
    · exact .inl hb
    · exact .inr (Nat.le_trans (e.trans (ea e2)).1 hb)
  refine nilP (h.a.hd.rP rfl (h.take hok (fun ht v e hW => ?_) fun x ht hxn v e hW => ?_))
  · refine Jn.intro (ifT rfl ?_)
    -- the size
    have hmx : (if (a : Int) > (m : Int) then (a : Int) else (m : Int)) = ((max m a : Nat) : Int) := by
      by_cases hgt : (a : Int) > (m : Int)
      · rw [if_pos hgt]; omega
      · rw [if_neg hgt]; omega
    rw [hmx]
    refine loop1 (a := .i .i64) (fun (t : Int) w => w = v ∧ (t = 16 ∨ t = 32 ∧ 16 < max m a ∨ t = 64 ∧ 32 < max m a)) (fun t _ => 100 - t.toNat) ⟨rfl, .inl rfl⟩ ?_
    rintro (t : Int) w ⟨rfl, hcase⟩
    have ha16 : a ≤ 16 := by omega
    refine ifD (fun hlt => ?_) fun hge => ?_
    · have : t = 16 ∨ t = 32 := by omega
      rcases this with rfl | rfl
      · exact ar (by omega) (by omega) ⟨⟨rfl, by omega⟩, by decide⟩
      · exact ar (by omega) (by omega) ⟨⟨rfl, by omega⟩, by decide⟩
    · have hup : t = ((upSize (max m a) : Nat) : Int) := by
        unfold upSize
        by_cases c1 : max m a ≤ 16
        · rw [if_pos c1]; omega
        · rw [if_neg c1]
          by_cases c2 : max m a ≤ 32
          · rw [if_pos c2]; omega
          · rw [if_neg c2]; omega
      subst hup
      have hsz : upSize (max m a) = 16 ∨ upSize (max m a) = 32 ∨ upSize (max m a) = 64 := by omega
      refine grow_ok' hW hsz (fun hg σ' e' hW' => ?_) fun A' sp' hg σ' e' hW' => ?_
      · have hga : getA A sp m a no = (none, A, sp) := by unfold getA; rw [ht]; simp only; rw [hg]
        exact ifT rfl (h0 (by rw [hga]) σ' ((ea e).trans e') (by rw [hga]; exact hW'))
      · refine ifF rfl (nilP (hW'.a.hd.rP rfl (hW'.take hok (fun ht2 v2 e2 hW2 => ?_) fun x ht2 hxn v2 e2 hW2 => ?_)))
        · have hga : getA A sp m a no = (none, A', sp') := by unfold getA; rw [ht]; simp only; rw [hg]; simp only; rw [ht2]
          exact ifT rfl (h0 (by rw [hga]) v2 (((ea e).trans e').trans (ea e2)) (by rw [hga]; exact hW2))
        · have hga : getA A sp m a no = (some x, useA A' x m no, sp') := by unfold getA; rw [ht]; simp only; rw [hg]; simp only; rw [ht2]
          exact ifF rfl (fin v2 x A' sp' (((ea e).trans e').trans (ea e2)) (by rw [← growA_n hg]; exact hxn) hW2 hga)
  · have hga : getA A sp m a no = (some x, useA A x m no, sp) := by unfold getA; rw [ht]
    refine Jn.intro (ifF rfl (ifF rfl (fin v x A sp (ea e) hxn hW hga)))

end Go.Ar

-- ArJ
namespace Go.Ar
open Go Go.Vc Go.Proofs
open Go.Bu (runOk giveS takeAt cnt)
set_option linter.unusedSimpArgs false
set_option linter.unusedVariables false

variable {σ : Hp} {F H : Rg} {p hs : Nat} {A : AR} {sp : Sp} {Y : Lay} {T : Nat → Hp → Rg → Prop}

theorem Fits.refl : Fits σ F H F H := ⟨fun b hb => .inl hb, fun b hb => hb⟩
theorem W2.mono {F' H' : Rg} (h : W2 σ F H Y A T sp) (hF : Off F') (hF2 : ∀ b, b < σ.size → F b → F' b) (hH : ∀ b, H' b → H b) (hH2 : ∀ b, b < σ.size → H b → H' b) (hd : ∀ b, F' b → ¬ H' b) : W2 σ F' H' Y A T sp :=
  ⟨h.a.mono hF2, Lcl.mono SpH3.loc h.s hH2, hd, h.g, hF, h.o2.sub hH⟩

theorem AGrow_ok (h : W2 σ F H Y A T sp) (k : Int) {R : Int → Hp → Prop} (hR : ∀ σ' F' H', Fits σ F H F' H' → Ext (Both F H) σ σ' → W2 σ' F' H' Y (growS A sp k).1 T (growS A sp k).2 → R (growE A sp k) σ') :
    arena_Arena_Grow.call (some ⟨Y.p, 0, none⟩) k σ R := by
  refine arena_Arena_Grow.of_vc ?_
  unfold arena_Arena_Grow.vc
  refine acheck_ok h.a k (fun hk => ?_) fun x hx hlt => ?_
  · have e1 : growE A sp k = 1 := by unfold growE; rw [hk]; rfl
    have e2 : growS A sp k = (A, sp) := by unfold growS; rw [hk]; rfl
    have := hR σ F H Fits.refl (Ext.refl _ _) (by rw [e2]; exact h)
    rw [e1] at this
    exact ifT rfl this
  · subst hx
    have hk : A.ck (x : Int) = true := by unfold AR.ck; simp; omega
    obtain ⟨c, ss, q, t, r, hc, hss, hq, _, _, hok⟩ := h.a.at_ hlt
    have ht2 := h.a.lay.tb2
    obtain ⟨_, _, _, hp1, hp4, _⟩ := hok
    refine ifF rfl (nilP (h.a.hd.rS rfl (h.a.tabR (d := 1) hc (by omega) ?_)))
    simp only [if_neg (show ¬ (1 = 0) by omega), if_true]
    refine arN (m := x + 1) (by omega) (by omega) ?_
    have eE : growE A sp x = match (getA A sp c.pages 1 (x + 1)).1 with
      | some y => addSE c ss y
      | none => 6 := by unfold growE; rw [hk, if_pos rfl]; simp only [Int.toNat_natCast]; rw [hc, hss]; rfl
    have eS : growS A sp x = match getA A sp c.pages 1 (x + 1) with
      | (some y, A', sp') => (if addSE c ss y = 0 then { A' with cen := A'.cen.set x (addS c ss y) } else A', sp')
      | (none, A', sp') => (A', sp') := by unfold growS; rw [hk, if_pos rfl]; simp only [Int.toNat_natCast]; rw [hc, hss]; rfl
    refine get_ok (a := 1) h hp1 (by omega) (.inl rfl) (by omega) (by omega) (fun hg σ' e hW => ?_) fun y hg hyn σ' F' H' hfit e hW => ?_
    · have := hR σ' F H Fits.refl e
      rw [eE, eS, hg] at this
      generalize getA A sp c.pages 1 (x + 1) = g at *
      obtain ⟨g1, g2, g3⟩ := g
      simp only at hg; subst hg
      exact ifT rfl (this hW)
    · have hfr : (getA A sp c.pages 1 (x + 1)).2.1.tb = A.tb ∧ (getA A sp c.pages 1 (x + 1)).2.1.cen = A.cen := by
        unfold getA
        split
        · exact ⟨rfl, rfl⟩
        · split
          · exact ⟨rfl, rfl⟩
          · rename_i A1 sp1 hga
            have : A1.tb = A.tb ∧ A1.cen = A.cen := by
              unfold growA at hga
              split at hga
              · cases hga
              · cases hga; exact ⟨rfl, rfl⟩
            split
            · exact this
            · exact this
      have hRx := fun σ' F' H' => hR σ' F' H'
      rw [eE, eS] at hRx
      generalize getA A sp c.pages 1 (x + 1) = g at *
      obtain ⟨g1, A', sp'⟩ := g
      simp only at hg hW hfr hRx; subst hg
      simp only at hRx
      have hWc := hW
      obtain ⟨G, hG, ⟨ps, hC⟩, _, hput⟩ := hW.a.cenS hq (by rw [hfr.1]; exact hc) (by rw [hfr.2]; exact hss)
      have hn2 := h.a.lay.n2
      refine ifF rfl (nilP (hW.a.hd.rS rfl (hW.a.crowR hq (CAdd_ok hC (by omega) (fun h9 v e2 => ?_) fun h0 v ps' e2 hC2 => ?_))))
      · have := hRx v F' H' hfit (e.trans0 e2) (by rw [h9]; exact hW.keep0 e2)
        rw [h9] at this; exact this
      · have hA2 := hput v _ _ (Grow G σ') _ e2 (fun b hb => hb) hC2 (grow_of hG fun b hb => hb)
        have hW2 := hW.arenaG (e2.sub hG) hA2
        have := hRx v (Grow F' σ') (Cut H' σ') ⟨fun b hb => ?_, fun b hb => hfit.2 b hb.1⟩ (e.newT (e2.sub hG) fun b hb => ?_) (by rw [h0]; exact hW2)
        · rw [h0] at this; exact this
        · rcases hb with hb | hb
          · exact hfit.1 b hb
          · exact .inr (Nat.le_trans e.1 hb)
        · rcases hfit.1 b hb with h1 | h1
          · exact .inl (.inl h1)
          · exact .inr h1

theorem pow16 : ∀ a : Nat, a < 17 → 1 ≤ a → ((bits .and .i64 (a : Int) ((a : Int) - 1) != 0) = !(a == 1 || (a == 2 || (a == 4 || (a == 8 || a == 16))))) := by decide
theorem ATakePages_ok (h : W2 σ F H Y A T sp) (m a : Int) {R : Int → Int → Hp → Prop} (hR : ∀ σ' F' H', Fits σ F H F' H' → Ext (Both F H) σ σ' → W2 σ' F' H' Y (takeAS A sp m a).1 T (takeAS A sp m a).2 → R ((takeAV A sp m a : Nat) : Int) (takeAE A sp m a) σ') :
    arena_Arena_TakePages.call (some ⟨Y.p, 0, none⟩) m a σ R := by
  refine arena_Arena_TakePages.of_vc ?_
  unfold arena_Arena_TakePages.vc
  have bad : pagesOk m a = false → R 0 1 σ := fun hk => by
    have e1 : takeAE A sp m a = 1 := by unfold takeAE; rw [hk]; rfl
    have e2 : takeAS A sp m a = (A, sp) := by unfold takeAS; rw [hk]; rfl
    have e3 : takeAV A sp m a = 0 := by unfold takeAV; rw [hk]; rfl
    have := hR σ F H Fits.refl (Ext.refl _ _) (by rw [e2]; exact h)
    rw [e1, e3] at this; exact this
  have badR : ¬ (1 ≤ m ∧ m ≤ 64 ∧ (a = 1 ∨ a = 2 ∨ a = 4 ∨ a = 8 ∨ a = 16)) → R 0 1 σ := fun hn => bad (by
    rw [← Bool.not_eq_true]
    intro hp
    unfold pagesOk at hp
    simp at hp
    omega)
  refine amade_ok h.a (ifF rfl (JnB.intro (ifD (fun c1 => JnB.intro (ifT rfl (JnB.intro (ifT rfl (JnB.intro (ifT rfl (ifT rfl (badR (by omega))))))))) fun c1 => ?_)))
  refine JnB.intro (ifD (fun c2 => JnB.intro (ifT rfl (JnB.intro (ifT rfl (ifT rfl (badR (by omega))))))) fun c2 => ?_)
  refine JnB.intro (ifD (fun c3 => JnB.intro (ifT rfl (ifT rfl (badR (by omega))))) fun c3 => ?_)
  refine JnB.intro (ifD (fun c4 => ifT rfl (badR (by omega))) fun c4 => ar (by omega) (by omega) ?_)
  obtain ⟨y, rfl⟩ := Int.eq_ofNat_of_zero_le (show 0 ≤ m by omega)
  obtain ⟨z, rfl⟩ := Int.eq_ofNat_of_zero_le (show 0 ≤ a by omega)
  rw [pow16 z (by omega) (by omega)]
  refine iff_ (fun c5 => ?_) fun c5 => ?_
  · refine badR (fun hh => ?_)
    simp at c5
    omega
  · have hz : z = 1 ∨ z = 2 ∨ z = 4 ∨ z = 8 ∨ z = 16 := by
      simp at c5
      omega
    have hk : pagesOk (y : Int) (z : Int) = true := by
      unfold pagesOk
      simp
      omega
    have eE : takeAE A sp y z = if (getA A sp y z 41).1.isSome then 0 else 6 := by unfold takeAE; rw [hk, if_pos rfl]; rfl
    have eV : takeAV A sp y z = (getA A sp y z 41).1.getD 0 := by unfold takeAV; rw [hk, if_pos rfl]; rfl
    have eS : takeAS A sp y z = match getA A sp y z 41 with
      | (some x, A', sp') => ({ A' with runs := takeAS.mset2 A'.runs x y }, sp')
      | (none, A', sp') => (A', sp') := by unfold takeAS; rw [hk, if_pos rfl]; rfl
    refine get_ok (no := 41) h (by omega) (by omega) hz (by omega) (by omega) (fun hg σ' e hW => ?_) fun x hg hyn σ' F' H' hfit e hW => ?_
    · have := hR σ' F H Fits.refl e
      rw [eE, eS, eV, hg] at this
      generalize getA A sp y z 41 = g at *
      obtain ⟨g1, g2, g3⟩ := g
      simp only at hg; subst hg
      exact ifT rfl (this hW)
    · have hRx := fun σ' F' H' => hR σ' F' H'
      rw [eE, eS, eV] at hRx
      generalize getA A sp y z 41 = g at *
      obtain ⟨g1, A', sp'⟩ := g
      simp only at hg hW hRx; subst hg
      simp only at hRx
      obtain ⟨gr, hm, hput⟩ := hW.a.runsS
      refine ifF rfl (nilP (hW.a.hd.rM rfl ⟨_, _, rfl, hm, fun v ho hm' => ?_⟩))
      have hm2 : MapL v Y.rn .i64 (.i .i64) (mset (runI A'.runs) (x : Int) (y : Int)) := hm'
      rw [runI_set] at hm2
      have hA2 := hput v _ ho hm2
      have e2 : Ext F' σ' v := ho.ext.sub fun b hb => by subst hb; exact gr
      have hW2 := hW.arena e2 hA2
      exact hRx v F' H' hfit (e.newT e2 fun b hb => by
        rcases hfit.1 b hb with h1 | h1
        · exact .inl (.inl h1)
        · exact .inr h1) hW2

/-! ## Trim -/
theorem ATrim_ok (h : W2 σ F H Y A T sp) {R : Int → Hp → Prop} (hR : ∀ σ', Ext (Both F H) σ σ' → W2 σ' (Cut F σ) (Cut H σ) Y (trimS A sp).1 T (trimS A sp).2 → R ((trimV A : Nat) : Int) σ') :
    arena_Arena_Trim.call (some ⟨Y.p, 0, none⟩) σ R := by
  refine arena_Arena_Trim.of_vc ?_
  unfold arena_Arena_Trim.vc
  have es : ∀ {a b : Hp}, Ext (Cut H σ) a b → Ext (Both F H) a b := fun e => e.sub fun b hb => .inr hb.1
  have ea : ∀ {a b : Hp}, Ext (Cut F σ) a b → Ext (Both F H) a b := fun e => e.sub fun b hb => .inl hb.1
  obtain ⟨G, hG, q, hT, _⟩ := h.a.trk
  refine amade_ok h.a (ifF rfl (nilP (h.a.hd.rP rfl (TIdle_ok hT fun s v1 e1 hrow => ?_))))
  have hn2 := h.a.lay.n2
  have hstl := h.a.lay.st
  have hlen := hrow.lenN
  have hthl : (those A.st 0).length ≤ 64 := by
    unfold those
    refine Nat.le_trans (List.length_filter_le _ _) ?_
    rw [List.length_range]; omega
  have hthm : ∀ k ∈ those A.st 0, k ≤ 64 := fun k hk => by
    unfold those at hk
    have := (List.mem_filter.1 hk).1
    rw [List.mem_range] at this
    omega
  have hsl := (SlR.loc _ _ _).cut hrow.slR
  refine loop1 (a := .i .i64) (fun (t : Int) w => ∃ i : Nat, t = (i : Int) ∧ i ≤ (those A.st 0).length ∧ Ext (Both F H) σ w ∧ W2 w (Cut F σ) (Cut H σ) Y (((those A.st 0).take i).foldl trim1 (A, sp)).1 T (((those A.st 0).take i).foldl trim1 (A, sp)).2 ∧ SlR s 1 (ints (those A.st 0)) w (fun b => σ.size ≤ b)) (fun t _ => (those A.st 0).length - t.toNat)
    ⟨0, rfl, by omega, Ext0.to e1, h.cut.keep0 e1, hrow.slR⟩ ?_
  rintro t w ⟨i, rfl, hi, e, hW, hs⟩
  refine ifD (fun hlt => ?_) fun hge => ?_
  · have hi' : i < (those A.st 0).length := by omega
    have hx : (those A.st 0)[i]? = some (those A.st 0)[i] := List.getElem?_eq_getElem hi'
    have htk : (those A.st 0).take (i + 1) = (those A.st 0).take i ++ [(those A.st 0)[i]] := by rw [List.take_add_one, hx]; rfl
    have hk := hthm _ (List.getElem_mem hi')
    generalize (those A.st 0)[i] = k at *
    refine hs.ixN hx (nilP (hW.a.hd.rP rfl (hW.a.RemH _ fun w2 t2 e2 hA2 => ?_)))
    have hW2 := hW.arena e2 hA2
    refine nilP (hW2.a.hd.rP rfl (arN (m := k * 16) (by omega) (by omega) (hW2.a.TakeRun _ _ fun w3 t3 e3 hA3 => ?_)))
    have hW3 := hW2.arena e3 hA3
    refine nilP (hW3.rSp (arN (m := k * 16) (by omega) (by omega) (Unmap_ok hW3.s hW3.g hW3.o2 _ _ fun w4 e4 hS4 => ?_)))
    have hW4 := hW3.space e4 hS4
    have hs4 : SlR s 1 (ints (those A.st 0)) w4 (fun b => σ.size ≤ b) := (SlR.loc _ _ _).keep ((SlR.loc _ _ _).keep ((SlR.loc _ _ _).keep hs e2 fun b _ hb hc => by have := hc.2; omega) e3 fun b _ hb hc => by have := hc.2; omega) e4 fun b _ hb hc => by have := hc.2; omega
    refine arN (m := i + 1) (by omega) (by omega) ⟨⟨i + 1, rfl, by omega, ((e.trans (ea e2)).trans (ea e3)).trans (es e4), ?_, hs4⟩, by omega⟩
    rw [htk, List.foldl_append]
    exact hW4
  · have : i = (those A.st 0).length := by omega
    subst this
    rw [List.take_length] at hW
    rw [hlen]
    exact hR w e hW

end Go.Ar

-- Pdq
namespace Go.Proofs
open Go.Vc
set_option linter.unusedVariables false
set_option maxRecDepth 100000
end Go.Proofs

-- PlA
namespace Go.Ar
open Go Go.Vc Go.Proofs
set_option linter.unusedSimpArgs false
set_option linter.unusedVariables false

variable {σ : Hp} {Q : Rg} {key : Nat → Nat}

end Go.Ar

-- PlB
namespace Go.Ar
open Go Go.Vc Go.Proofs
set_option linter.unusedSimpArgs false
set_option linter.unusedVariables false

variable {σ : Hp} {F : Rg} {p q : Nat} {st : List Nat}

def backed (st : List Nat) : List Nat := (List.range (st.length / 16)).filter fun h => 0 < cntR st (16 * h) (16 * h + 16) 2
end Go.Ar

-- PlC
namespace Go.Ar
open Go Go.Vc Go.Proofs
set_option linter.unusedSimpArgs false
set_option linter.unusedVariables false

variable {σ : Hp} {F : Rg} {p q : Nat} {st : List Nat}

end Go.Ar

-- ArK
namespace Go.Ar
open Go Go.Vc Go.Proofs
open Go.Bu (runOk giveS takeAt cnt)
set_option linter.unusedSimpArgs false
set_option linter.unusedVariables false

variable {σ : Hp} {F H : Rg} {p hs : Nat} {A : AR} {sp : Sp} {Y : Lay} {T : Nat → Hp → Rg → Prop}

end Go.Ar

-- ArL
namespace Go.Ar
open Go Go.Vc Go.Proofs
open Go.Bu (runOk giveS takeAt cnt)
set_option linter.unusedSimpArgs false
set_option linter.unusedVariables false

variable {σ : Hp} {F H : Rg} {p hs : Nat} {A : AR} {sp : Sp} {Y : Lay} {T : Nat → Hp → Rg → Prop}

theorem ptr_rdH {s : Sl} {l : List Nat} (h : SlR s 1 (ptrV l) σ F) {k q : Nat} (hq : l[k]? = some q) {K : Option Addr → Prop} (hK : K (some ⟨q, 0, none⟩)) : Ix s.a s.len (k : Int) 1 fun a => LdH (fun m => Ext0 σ m) .p a K := by
  have hk := (List.getElem?_eq_some_iff.1 hq).1
  obtain ⟨b, o, ha, hcell⟩ := h.cell (j := k) (v := .pointer (some ⟨q, 0, none⟩)) (by simp [ptrV, hq])
  have hl := h.1
  simp [ptrV] at hl
  rw [ha]
  refine ix (by omega) (by omega) ⟨_, fun m hm => ?_, hK⟩
  rw [add_lit, show o + (k : Int).toNat * 1 = o + k by omega, cell_ext hm (cell_lt' hcell) id]
  exact hcell
theorem AHY.crowH (h : AHY σ F Y A T) {k q : Nat} (hq : Y.cps[k]? = some q) {K : Option Addr → Prop} (hK : K (some ⟨q, 0, none⟩)) : Ix Y.crow.a Y.crow.len (k : Int) 1 fun a => LdH (fun m => Ext0 σ m) .p a K := by
  obtain ⟨G, hG, hb⟩ := h.sep.get .crow
  exact ptr_rdH (RowR.slR hb) hq hK
theorem AHY.trowH (h : AHY σ F Y A T) {k q : Nat} (hq : Y.tps[k]? = some q) {K : Option Addr → Prop} (hK : K (some ⟨q, 0, none⟩)) : Ix Y.trow.a Y.trow.len (k : Int) 1 fun a => LdH (fun m => Ext0 σ m) .p a K := by
  obtain ⟨G, hG, hb⟩ := h.sep.get .trow
  exact ptr_rdH (RowR.slR hb) hq hK
theorem AHY.hdH (h : AHY σ F Y A T) {i : Nat} {c : CK} {x : c.T} (hx : (hdV Y)[i]? = some (c.v x)) {K : c.T → Prop} (hK : K x) : LdH (fun m => Ext0 σ m) c (Addr.add ⟨Y.p, 0, none⟩ i) K := by
  refine ⟨x, fun m hm => ?_, hK⟩
  rw [add_lit, (Ext.blk hm h.hd id).cell, Nat.zero_add]; exact hx
theorem AHY.tra (h : AHY σ F Y A (traT A Y)) {k q : Nat} {c : Cls} {t : TrA} (h1 : Y.tps[k]? = some q) (h2 : A.tb[k]? = some c) (h3 : A.tra[k]? = some t) : ∃ G : Rg, (∀ b, G b → F b) ∧ TfH σ G q c.batch A.room t := by
  obtain ⟨G, hG, hi, _⟩ := h.traS h1 h2 h3
  exact ⟨G, hG, hi⟩
/-- The box of a class. -/
theorem cls_box {c : Cls} {s : Sl} {tb : List Cls} (h : SlR s 3 (tabV tb) σ F) {k ty : Nat} (hc : tb[k]? = some c) {K : Addr → Hp → Prop} (hK : ∀ v, Ext0 σ v → Blk v σ.size [.int .i64 (c.size : Int), .int .i64 (c.pages : Int), .int .i64 (c.batch : Int)] → K ⟨σ.size, 0, none⟩ v) :
    Ix s.a s.len (k : Int) 3 fun a31 => LdI .i64 (a31.add 0) σ fun t32 => LdI .i64 (a31.add 1) σ fun t321 => LdI .i64 (a31.add 2) σ fun t322 =>
     Nw (.cells #[.int .i64 0, .int .i64 0, .int .i64 0] ty (0, 0)) σ fun n14 v2 => St1 (n14.add 0) (.int .i64 t32) v2 fun v3 => St1 (n14.add 1) (.int .i64 t321) v3 fun v4 => St1 (n14.add 2) (.int .i64 t322) v4 fun v5 => K n14 v5 := by
  have hg := tabV_get hc
  have hk := (List.getElem?_eq_some_iff.1 hc).1
  obtain ⟨b, o, ha, c0⟩ := h.cell hg.1
  obtain ⟨b1, o1, ha1, c1⟩ := h.cell hg.2.1
  obtain ⟨b2, o2, ha2, c2⟩ := h.cell hg.2.2
  rw [ha] at ha1 ha2; cases ha1; cases ha2
  have hl := h.1
  rw [tabV_len] at hl
  rw [ha]
  refine ix (by omega) (by omega) ?_
  rw [add_lit, show o + (k : Int).toNat * 3 = o + 3 * k by omega]
  refine ldI0 (by simpa using c0) (ldI0 (by rw [Nat.add_assoc]; exact c1) (ldI0 (by rw [Nat.add_assoc]; exact c2) ?_))
  refine nw (cs := [.int .i64 0, .int .i64 0, .int .i64 0]) fun v2 hz2 e2 b2 => b2.s1 (by simp) fun v3 o3 b3 => b3.s1 (by simp) fun v4 o4 b4 => b4.s1 (by simp) fun v5 o5 b5 => ?_
  exact hK v5 (Ext.fresh (Ext.fresh (Ext.fresh e2 o3.ext fun i hi => by omega) o4.ext fun i hi => by omega) o5.ext fun i hi => by omega) b5

def part {α : Type} (f : Cls → α → Nat) (tb : List Cls) (l : List α) (i : Nat) : Nat := (((tb.zip l).take i).map fun x => f x.1 x.2).sum
theorem part_succ {α : Type} {f : Cls → α → Nat} {tb : List Cls} {l : List α} {i : Nat} {c : Cls} {x : α} (hc : tb[i]? = some c) (hx : l[i]? = some x) : part f tb l (i + 1) = part f tb l i + f c x := by
  unfold part
  have : (tb.zip l)[i]? = some (c, x) := by rw [List.getElem?_zip_eq_some]; exact ⟨hc, hx⟩
  rw [List.take_add_one, this]
  simp
theorem part_all {α : Type} {f : Cls → α → Nat} {tb : List Cls} {l : List α} (h : l.length = tb.length) : part f tb l tb.length = ((tb.zip l).map fun x => f x.1 x.2).sum := by
  unfold part
  rw [List.take_of_length_le (by rw [List.length_zip]; omega)]
theorem sum_del : ∀ {l : List (Int × Int)} {n x : Int}, (l.map (·.1)).Nodup → (n, x) ∈ l → (l.map (·.2)).sum = x + ((l.filter fun y => !(y.1 == n)).map (·.2)).sum
  | [], _, _, _, h => by simp at h
  | y :: l, n, x, hn, h => by
    simp only [List.map_cons, List.nodup_cons] at hn
    rcases List.mem_cons.1 h with h1 | h1
    · subst h1
      have : l.filter (fun y => !(y.1 == n)) = l := by
        rw [List.filter_eq_self]
        intro z hz
        have : z.1 ≠ n := fun e => hn.1 (List.mem_map.2 ⟨z, hz, e⟩)
        simpa using this
      rw [List.filter_cons_of_neg (by simp), this]
      simp
    · have hne : y.1 ≠ n := fun e => hn.1 (List.mem_map.2 ⟨_, h1, e.symm⟩)
      rw [List.filter_cons_of_pos (by simpa using hne)]
      simp only [List.map_cons, List.sum_cons]
      rw [sum_del hn.2 h1]; omega
theorem sum_runI (l : List (Nat × Nat)) : ((runI l).map (·.2)).sum = (((l.map (·.2)).sum : Nat) : Int) := by
  induction l with
  | nil => rfl
  | cons x l ih =>
    have : runI (x :: l) = ((x.1 : Int), (x.2 : Int)) :: runI l := rfl
    rw [this]
    simp only [List.map_cons, List.sum_cons]
    rw [ih]; omega

theorem ACounts_ok (h : AHY σ F Y A (traT A Y)) (hr : cRuns A ≤ 1000000) {R : Int → Int → Int → Int → Int → Int → Hp → Prop}
    (hR : ∀ σ', Ext0 σ σ' → R (cMoved A : Nat) (cRoom A : Nat) (cTails A : Nat) (cSpans A : Nat) (cRuns A : Nat) (cnt A.n A.S : Nat) σ') : arena_Arena_Counts.call (some ⟨Y.p, 0, none⟩) σ R := by
  refine arena_Arena_Counts.of_vc ?_
  unfold arena_Arena_Counts.vc
  have htl := h.tabL
  have ht2 := h.lay.tb2
  refine amade_ok h (ifF rfl (nilP (h.hd.rS rfl ?_)))
  refine loop5 (a := .i .i64) (bb := .i .i64) (c := .i .i64) (d := .i .i64) (e := .i .i64) (fun (moved room tails spans t : Int) v => ∃ i : Nat, t = (i : Int) ∧ i ≤ A.tb.length ∧ Ext0 σ v ∧ moved = (part (fun c (t : TrA) => t.bs.flatten.length * c.size) A.tb A.tra i : Nat) ∧ room = (part (fun c ss => roomC ss * c.size) A.tb A.cen i : Nat) ∧ tails = (part (fun c (ss : List SpA) => ss.length * c.tail) A.tb A.cen i : Nat) ∧ spans = (part (fun c (ss : List SpA) => ss.length * c.pages) A.tb A.cen i : Nat) ∧
      part (fun c (t : TrA) => t.bs.flatten.length * c.size) A.tb A.tra i ≤ i * 1000000000 ∧ part (fun c ss => roomC ss * c.size) A.tb A.cen i ≤ i * 1000000000 ∧ part (fun c (ss : List SpA) => ss.length * c.tail) A.tb A.cen i ≤ i * 1000000000 ∧ part (fun c (ss : List SpA) => ss.length * c.pages) A.tb A.cen i ≤ i * 1000000000) (fun _ _ _ _ t _ => A.tb.length - t.toNat)
    ⟨0, rfl, by omega, Ext.refl _ _, by simp [part], by simp [part], by simp [part], by simp [part], by simp [part], by simp [part], by simp [part], by simp [part]⟩ ?_
  rintro moved room tails spans t v ⟨i, rfl, hi, e, rfl, rfl, rfl, rfl, b1, b2, b3, b4⟩
  have hv := h.keep0 e
  refine ifD (fun hlt => ?_) fun hge => ?_
  · have hi' : i < A.tb.length := by simp only at hlt; omega
    obtain ⟨c, ss, q, t, r, hc, hss, hq, ht, hrr, hok⟩ := h.at_ hi'
    obtain ⟨G, hG, htab⟩ := hv.sep.get .tab
    refine cls_box htab hc fun v5 e5 b5 => ?_
    have h5 := hv.keep0 e5
    refine b5.rI rfl (b5.rI rfl (b5.rI rfl (Tail_ok hok fun v6 e6 => ?_)))
    have h6 := h5.keep0 e6
    have b6 := e6.blk b5 id
    obtain ⟨G1, ps, _, hC⟩ := h6.cen hq hc hss
    refine nilP (h6.hd.rS rfl (h6.crowR hq (Spans_ok hC fun s v7 e7 hrow => ?_)))
    have h7 := h6.keep0 e7
    have b7 := e7.blk b6 id
    have hsl : s.len = ss.length := by have := hrow.1; rw [runV_len, List.length_map] at this; omega
    refine ⟨fun m => Ext0 v7 m, Ext.refl _ _, nilP (h7.hdH (c := .s) (x := Y.trow) rfl (h7.trowH hrr ⟨(c.size : Int), fun m hm => by rw [add_lit, (Ext.blk hm b7 id).cell]; rfl, ?_⟩))⟩
    obtain ⟨G2, _, hTf⟩ := h7.tra hrr hc ht
    refine Objs_ok hTf fun s2 v8 e8 hl8 hrow8 => ⟨e8, ?_⟩
    have h8 := h7.keep0 e8
    have b8 := e8.blk b7 id
    have hflat := hTf.flat
    have hroom := hC.room
    have hfew := hC.few
    obtain ⟨hz1, hz2, _, hp1, hp2, _⟩ := hok
    have hm1 : t.bs.flatten.length * c.size ≤ 1000000000 := Nat.le_trans (Nat.mul_le_mul hflat hz2) (by omega)
    have hm2 : roomC ss * c.size ≤ 1000000000 := Nat.le_trans (Nat.mul_le_mul hroom hz2) (by omega)
    have htail : c.tail ≤ 1024 := by unfold Cls.tail; omega
    have hm3 : ss.length * c.tail ≤ 1000000000 := Nat.le_trans (Nat.mul_le_mul hfew htail) (by omega)
    have hm4 : ss.length * c.pages ≤ 1000000000 := Nat.le_trans (Nat.mul_le_mul hfew hp2) (by omega)
    have s1 := part_succ (f := fun c (t : TrA) => t.bs.flatten.length * c.size) hc ht
    have s2' := part_succ (f := fun c ss => roomC ss * c.size) hc hss
    have s3 := part_succ (f := fun c (ss : List SpA) => ss.length * c.tail) hc hss
    have s4 := part_succ (f := fun c (ss : List SpA) => ss.length * c.pages) hc hss
    refine arN (m := t.bs.flatten.length * c.size) (by rw [hl8]; simp) (by omega) (arN (m := part (fun c (t : TrA) => t.bs.flatten.length * c.size) A.tb A.tra (i + 1)) (by rw [s1]; simp) (by rw [s1]; omega) ?_)
    refine ⟨fun m => Ext0 v8 m, Ext.refl _ _, nilP (h8.hdH (c := .s) (x := Y.crow) rfl (h8.crowH hq ⟨(c.size : Int), fun m hm => by rw [add_lit, (Ext.blk hm b8 id).cell]; rfl, ?_⟩))⟩
    obtain ⟨G3, ps3, _, hC8⟩ := h8.cen hq hc hss
    refine Room_ok hC8 fun v9 e9 => ⟨e9, ?_⟩
    have b9 := e9.blk b8 id
    refine arN (m := roomC ss * c.size) (by simp) (by omega) (arN (m := part (fun c ss => roomC ss * c.size) A.tb A.cen (i + 1)) (by rw [s2']; simp) (by rw [s2']; omega) ?_)
    refine arN (m := ss.length * c.tail) (by rw [hsl]; simp) (by omega) (arN (m := part (fun c (ss : List SpA) => ss.length * c.tail) A.tb A.cen (i + 1)) (by rw [s3]; simp) (by rw [s3]; omega) ?_)
    refine b9.rI rfl (arN (m := ss.length * c.pages) (by rw [hsl]; simp) (by omega) (arN (m := part (fun c (ss : List SpA) => ss.length * c.pages) A.tb A.cen (i + 1)) (by rw [s4]; simp) (by rw [s4]; omega) ?_))
    refine arN (m := i + 1) (by omega) (by omega) ⟨⟨i + 1, rfl, by omega, ((((Ext.trans e e5).trans e6).trans e7).trans e8).trans e9, rfl, rfl, rfl, rfl, by rw [s1]; omega, by rw [s2']; omega, by rw [s3]; omega, by rw [s4]; omega⟩, by omega⟩
  · have : i = A.tb.length := by simp only at hge; omega
    subst this
    obtain ⟨_, hm, _⟩ := hv.runsS
    have hsum := sum_runI A.runs
    refine nilP (hv.hd.rM rfl (rng1 (c := .i .i64) (a := .i .i64) (x0 := (0 : Int)) hm (fun todo (z : Int) w => Ext0 v w ∧ (todo.map (·.1)).Nodup ∧ (∀ y ∈ todo, 0 ≤ (y.2 : Int)) ∧ 0 ≤ z ∧ z + (todo.map (·.2)).sum = ((cRuns A : Nat) : Int)) (fun w hz ew => ⟨ew, hm.nodup, fun y hy => ?_, by omega, ?_⟩) (fun z w hI => ?_) ?_))
    · obtain ⟨r, _, rfl⟩ := List.mem_map.1 hy
      show (0 : Int) ≤ (r.2 : Int); omega
    · rw [Int.zero_add]; exact hsum
    · obtain ⟨ew, _, _, _, hz⟩ := hI
      have hz' : z = ((cRuns A : Nat) : Int) := by simpa using hz
      subst hz'
      have hw := hv.keep0 ew
      obtain ⟨sb, ms, hB, _⟩ := hw.free
      refine nilP (hw.hd.rP rfl (Go.Bu.Free_ok hB ?_))
      rw [part_all h.lay.tra, part_all h.lay.cen, part_all h.lay.cen, part_all h.lay.cen]
      exact hR w (Ext.trans e ew)
    · rintro todo n (x : Int) (z : Int) w w' J ⟨ew, hn, hpos, hz0, hz⟩ hx ho hlt hJ
      have hd := sum_del hn hx
      have hxp : 0 ≤ x := hpos _ hx
      have hrest : 0 ≤ ((todo.filter fun y => !(y.1 == n)).map (·.2)).sum := by
        have : ∀ l : List (Int × Int), (∀ y ∈ l, 0 ≤ y.2) → 0 ≤ (l.map (·.2)).sum := by
          intro l
          induction l with
          | nil => intro _; simp
          | cons y l ih =>
            intro hl
            have := ih fun u hu => hl u (List.mem_cons_of_mem _ hu)
            have := hl y List.mem_cons_self
            simp only [List.map_cons, List.sum_cons]; omega
        exact this _ fun y hy => hpos y (List.mem_filter.1 hy).1
      have hz2 : z + x + ((todo.filter fun y => !(y.1 == n)).map (·.2)).sum = ((cRuns A : Nat) : Int) := by
        exact (Int.add_assoc z x _).trans ((congrArg (fun (u : Int) => z + u) hd.symm).trans hz)
      have hxi : (0 : Int) ≤ x := hxp
      have hup : z + x ≤ ((cRuns A : Nat) : Int) := Int.le_trans (Int.le_add_of_nonneg_right hrest) (Int.le_of_eq hz2)
      have hlo : (0 : Int) ≤ z + x := Int.add_nonneg hz0 hxi
      refine ar ?_ ?_ (hJ (z + x) w' rfl rfl ⟨Ext.fresh ew ho.ext fun i hi => by omega, ?_, fun y hy => hpos y (List.mem_filter.1 hy).1, ?_, hz2⟩)
      · show -9223372036854775808 ≤ (z : Int) + (x : Int); omega
      · show (z : Int) + (x : Int) ≤ 9223372036854775807; omega
      · exact List.Nodup.sublist (List.filter_sublist.map _) hn
      · exact Int.add_nonneg hz0 hxi

end Go.Ar

-- SzB
namespace Go.Ar
open Go Go.Vc Go.Proofs
set_option linter.unusedSimpArgs false
set_option linter.unusedVariables false

variable {σ : Hp}

theorem rising_iff : ∀ (xs : List (Int × Int × Int)), rising xs = true ↔ ∀ (i : Nat) a b, xs[i]? = some a → xs[i + 1]? = some b → a.1 < b.1
  | [] => by simp [rising]
  | [x] => by simp [rising]
  | x :: y :: l => by
    have ih := rising_iff (y :: l)
    show (decide (x.1 < y.1) && rising (y :: l)) = true ↔ _
    rw [Bool.and_eq_true, ih, decide_eq_true_eq]
    constructor
    · rintro ⟨h1, h2⟩ i a b ha hb
      cases i with
      | zero => simp at ha hb; subst ha; subst hb; exact h1
      | succ i => exact h2 i a b (by simpa using ha) (by simpa using hb)
    · intro h
      exact ⟨h 0 x y rfl rfl, fun i a b ha hb => h (i + 1) a b (by simpa using ha) (by simpa using hb)⟩
theorem validT_iff (xs : List (Int × Int × Int)) : validT xs = true ↔ 1 ≤ xs.length ∧ xs.length ≤ 40 ∧ (∀ (i : Nat) t, xs[i]? = some t → clsOk t.1 t.2.1 t.2.2 = true) ∧ ∀ (i : Nat) a b, xs[i]? = some a → xs[i + 1]? = some b → a.1 < b.1 := by
  unfold validT
  simp only [Bool.and_eq_true, decide_eq_true_eq, rising_iff, List.all_eq_true]
  constructor
  · rintro ⟨h1, h2, h3, h4⟩
    exact ⟨h1, h2, fun i t ht => h3 t (List.mem_of_getElem? ht), h4⟩
  · rintro ⟨h1, h2, h3, h4⟩
    exact ⟨h1, h2, fun t ht => by obtain ⟨i, hi⟩ := List.getElem?_of_mem ht; exact h3 i t hi, h4⟩
theorem Valid_ok {s : Sl} {xs : List (Int × Int × Int)} (ha : Acts σ s xs) {R : Bool → Hp → Prop} (hR : ∀ σ', Ext0 σ σ' → R (validT xs) σ') : sizes_Valid.call s σ R := by
  refine sizes_Valid.of_vc ?_
  unfold sizes_Valid.vc
  have no : ∀ σ', Ext0 σ σ' → ¬ (1 ≤ xs.length ∧ xs.length ≤ 40 ∧ (∀ (i : Nat) t, xs[i]? = some t → clsOk t.1 t.2.1 t.2.2 = true) ∧ ∀ (i : Nat) a b, xs[i]? = some a → xs[i + 1]? = some b → a.1 < b.1) → R false σ' := fun σ' e hn => by
    have := hR σ' e
    have hf : validT xs = false := by rw [← Bool.not_eq_true, validT_iff]; exact hn
    rw [hf] at this; exact this
  have hlen := ha.1
  refine JnB.intro (ifD (fun c1 => ifT rfl (no σ (Ext.refl _ _) fun h => by omega)) fun c1 => ?_)
  refine ifD (fun c2 => no σ (Ext.refl _ _) fun h => by omega) fun c2 => ?_
  refine loop1 (a := .i .i64) (fun (t : Int) v => ∃ i : Nat, t = (i : Int) ∧ i ≤ xs.length ∧ Ext0 σ v ∧ (∀ (j : Nat) t, j < i → xs[j]? = some t → clsOk t.1 t.2.1 t.2.2 = true) ∧ ∀ (j : Nat) a b, j + 1 < i → xs[j]? = some a → xs[j + 1]? = some b → a.1 < b.1) (fun t _ => xs.length - t.toNat)
    ⟨0, rfl, by omega, Ext.refl _ _, fun j t h => by omega, fun j a b h => by omega⟩ ?_
  rintro t v ⟨i, rfl, hi, e, h1, h2⟩
  have hav := acts_keep0 ha e
  refine ifD (fun hlt => ?_) fun hge => ?_
  · have hi' : i < xs.length := by omega
    have hx : xs[i]? = some xs[i] := List.getElem?_eq_getElem hi'
    generalize xs[i] = r at hx
    obtain ⟨x, y, z⟩ := r
    refine acts_rd hav hx ?_
    refine nw (cs := [.int .i64 0, .int .i64 0, .int .i64 0]) fun v2 hz2 e2 b2 => b2.s1 (by simp) fun v3 o3 b3 => b3.s1 (by simp) fun v4 o4 b4 => b4.s1 (by simp) fun v5 o5 b5 => ?_
    have e5 : Ext0 v v5 := Ext.fresh (Ext.fresh (Ext.fresh e2 o3.ext fun i hi => by omega) o4.ext fun i hi => by omega) o5.ext fun i hi => by omega
    refine Jn.intro ⟨(· = v5), rfl, ⟨x, fun m hm => by rw [hm, add_lit, b5.cell]; rfl, ⟨y, fun m hm => by rw [hm, add_lit, b5.cell]; rfl, ⟨z, fun m hm => by rw [hm, add_lit, b5.cell]; rfl, ?_⟩⟩⟩⟩
    refine one_ok x y z fun v7 e7 => ?_
    have e07 := (Ext.trans e e5).trans e7
    have bad : (clsOk x y z = false ∨ ∃ a, 0 < i ∧ xs[i - 1]? = some a ∧ x ≤ a.1) → R false v7 := fun hb => no v7 e07 fun hv => by
      rcases hb with hb | ⟨a, hp, hb1, hb2⟩
      · have := hv.2.2.1 i _ hx; simp only at this; rw [hb] at this; cases this
      · have := hv.2.2.2 (i - 1) a (x, y, z) hb1 (by rw [show i - 1 + 1 = i by omega]; exact hx)
        simp only at this; omega
    cases hc : clsOk x y z
    · exact ifT rfl (ifT rfl (bad (.inl hc)))
    · have next : (∀ a, 0 < i → xs[i - 1]? = some a → a.1 < x) → Ar .i64 ((i : Int) + 1) fun t38 => (∃ i : Nat, t38 = (i : Int) ∧ i ≤ xs.length ∧ Ext0 σ v7 ∧ (∀ (j : Nat) t, j < i → xs[j]? = some t → clsOk t.1 t.2.1 t.2.2 = true) ∧ ∀ (j : Nat) a b, j + 1 < i → xs[j]? = some a → xs[j + 1]? = some b → a.1 < b.1) ∧ xs.length - t38.toNat < xs.length - (i : Int).toNat := by
        intro hp
        refine arN (m := i + 1) (by omega) (by omega) ⟨⟨i + 1, rfl, by omega, e07, fun j t hj ht => ?_, fun j a b hj hja hjb => ?_⟩, by omega⟩
        · by_cases hji : j = i
          · subst hji; rw [hx] at ht; cases ht; exact hc
          · exact h1 j t (by omega) ht
        · by_cases hji : j + 1 = i
          · subst hji
            rw [hx] at hjb; cases hjb
            exact hp a (by omega) hja
          · exact h2 j a b (by omega) hja hjb
      refine ifF rfl (ifD (fun hp => ?_) fun hp => ifF rfl (next fun a hp2 => by omega))
      have hxp : xs[i - 1]? = some (xs[i - 1]'(by omega)) := List.getElem?_eq_getElem _
      generalize xs[i - 1]'(by omega) = r at hxp
      obtain ⟨x', y', z'⟩ := r
      have hav7 := acts_keep0 ha e07
      obtain ⟨b, o, g1, g2, g3, g4, g5⟩ := hav7.2 (i - 1) x' y' z' hxp
      have b7 := e7.blk b5 id
      refine arN (m := i - 1) (by omega) (by omega) ?_
      rw [g1]
      refine ix (by omega) (by omega) ?_
      have g3' : cell v7 ⟨b, o + (((i - 1 : Nat) : Int)).toNat * 3 + 0, none⟩ = some (.int .i64 x') := by simpa using g3
      have fin : If (decide (x ≤ x')) (R false v7) (Ar .i64 ((i : Int) + 1) fun t38 => (∃ i : Nat, t38 = (i : Int) ∧ i ≤ xs.length ∧ Ext0 σ v7 ∧ (∀ (j : Nat) t, j < i → xs[j]? = some t → clsOk t.1 t.2.1 t.2.2 = true) ∧ ∀ (j : Nat) a b, j + 1 < i → xs[j]? = some a → xs[j + 1]? = some b → a.1 < b.1) ∧ xs.length - t38.toNat < xs.length - (i : Int).toNat) := by
        refine ifD (fun hle => bad (.inr ⟨_, by omega, hxp, hle⟩)) fun hgt => next fun a _ ha2 => ?_
        rw [hxp] at ha2; cases ha2
        simp only; omega
      rw [add_lit b o]
      exact ⟨b7.rI rfl (ldI0 g3' fin), ldI0 g3' (b7.rI rfl fin)⟩
  · have : i = xs.length := by omega
    subst this
    have hv : validT xs = true := (validT_iff xs).2 ⟨by omega, by omega, fun i t ht => h1 i t (List.getElem?_eq_some_iff.1 ht).1 ht, fun i a b hja hjb => h2 i a b (List.getElem?_eq_some_iff.1 hjb).1 hja hjb⟩
    have := hR v e
    rw [hv] at this; exact this

end Go.Ar

-- ArM
namespace Go.Ar
open Go Go.Vc Go.Proofs
open Go.Bu (runOk giveS takeAt cnt)
set_option linter.unusedSimpArgs false
set_option linter.unusedVariables false

variable {σ : Hp} {F H : Rg} {p hs : Nat} {A : AR} {sp : Sp} {Y : Lay} {T : Nat → Hp → Rg → Prop}

open Classical in
/-- A part more. -/
theorem _root_.Go.Vc.Sep.put {L : Type} {C C' : L → Hp → Rg → Prop} {σ : Hp} {F G : Rg} (hC : ∀ i, Lcl (C i)) (h : Sep C σ F) (i : L) (hd : ∀ b, G b → ¬ F b) (hj : ∀ j, j ≠ i → C' j = C j) (hi : C' i σ G) (hL : Lcl (C' i)) : Sep C' σ fun b => F b ∨ G b := by
  obtain ⟨ρ, h⟩ := h
  refine ⟨fun b => if G b then i else ρ b, fun j => ?_⟩
  by_cases hji : j = i
  · subst hji
    exact hL.mono hi fun b _ hb => ⟨.inr hb, if_pos hb⟩
  · rw [hj j hji]
    refine (hC j).mono (h j) fun b _ hf => ⟨.inl hf.1, ?_⟩
    show (if G b then i else ρ b) = j
    rw [if_neg fun hg => hd b hg hf.1]; exact hf.2

/-- The parts, with a header of one's own. -/
def ACh (A : AR) (Y : Lay) (T : Nat → Hp → Rg → Prop) (cs : List Value) : Lb → Hp → Rg → Prop
  | .hd => BlkR Y.p cs
  | i => AC A Y T i
theorem ACh.loc {cs : List Value} (hT : ∀ k, Lcl (T k)) : ∀ i, Lcl (ACh A Y T cs i)
  | .hd => BlkR.loc _ _
  | .tab => AC.loc (A := A) (Y := Y) hT .tab
  | .free => AC.loc (A := A) (Y := Y) hT .free
  | .trk => AC.loc (A := A) (Y := Y) hT .trk
  | .own => AC.loc (A := A) (Y := Y) hT .own
  | .crow => AC.loc (A := A) (Y := Y) hT .crow
  | .trow => AC.loc (A := A) (Y := Y) hT .trow
  | .runs => AC.loc (A := A) (Y := Y) hT .runs
  | .cen k => AC.loc (A := A) (Y := Y) hT (.cen k)
  | .tra k => AC.loc (A := A) (Y := Y) hT (.tra k)
theorem ACh_hd : ACh A Y T (hdV Y) = AC A Y T := by
  funext i; cases i <;> rfl

/-- A class more: its list. -/
theorem app_crow {cs : List Value} (hT : ∀ k, Lcl (T k)) (h : Sep (ACh A Y T cs) σ F) (hlen : A.cen.length ≤ Y.cps.length) (hl : Y.cps.length ≤ 40) {vb cp ty : Nat} (hb : Blk σ vb [.pointer (some ⟨cp, 0, none⟩)]) (hvb : ¬ F vb) {K : Sl → Hp → Prop}
    (hK : ∀ s' σ', Ext F σ σ' → Sep (ACh A { Y with crow := s', cps := Y.cps ++ [cp] } T cs) σ' (Grow F σ) → K s' σ') : App Y.crow 1 8 ty [.pointer none] ⟨some ⟨vb, 0, none⟩, 1, 1⟩ σ K := by
  obtain ⟨G, hG, hi, _, hput⟩ := h.stepD (ACh.loc hT) .crow
  have hi : RowR Y.crow 1 (ptrV Y.cps) σ G := hi
  have hlc : Y.crow.len = Y.cps.length := by have := hi.1; simp [ptrV] at this; omega
  refine hi.app (ys := [.pointer (some ⟨cp, 0, none⟩)]) rfl rfl ?_ (by simp [one1]) (by simp only; omega) (by simp only; omega) Nat.zero_lt_one fun s' σ' hl' e hr => hK s' σ' (e.sub hG) ?_
  · intro j u hu
    rw [add_lit, Nat.zero_add, hb.cell]; exact hu
  refine (Sep.loc (ACh.loc hT)).mono (hput σ' (ACh A { Y with crow := s', cps := Y.cps ++ [cp] } T cs) (Grow G σ) (fun j hj => ?_) e (fun b hb => hb) ?_ (ACh.loc hT _)) fun b _ hb => grow_of hG (fun b hb => hb) b hb
  · cases j <;> first | rfl | exact absurd rfl hj | skip
    rename_i k
    show CenR (Y.cps ++ [cp])[k]? A.tb[k]? A.cen[k]? = CenR Y.cps[k]? A.tb[k]? A.cen[k]?
    rcases Nat.lt_or_ge k Y.cps.length with h1 | h1
    · rw [List.getElem?_append_left h1]
    · have : A.cen[k]? = none := List.getElem?_eq_none (by omega)
      rw [this]
      funext σ F
      unfold CenR
      cases (Y.cps ++ [cp])[k]? <;> cases Y.cps[k]? <;> cases A.tb[k]? <;> rfl
  · show RowR s' 1 (ptrV (Y.cps ++ [cp])) σ' (Grow G σ)
    have : ptrV (Y.cps ++ [cp]) = ptrV Y.cps ++ [.pointer (some ⟨cp, 0, none⟩)] := by simp [ptrV]
    rw [this]; exact hr
theorem traT_more (hlen : A.tra.length ≤ Y.tps.length) (tp : Nat) (s' : Sl) : traT A { Y with trow := s', tps := Y.tps ++ [tp] } = traT A Y := by
  funext k
  unfold traT
  simp only
  rcases Nat.lt_or_ge k Y.tps.length with h1 | h1
  · rw [List.getElem?_append_left h1]
  · have : A.tra[k]? = none := List.getElem?_eq_none (by omega)
    rw [this]
    funext σ F
    unfold TraR
    cases (Y.tps ++ [tp])[k]? <;> cases Y.tps[k]? <;> cases A.tb[k]? <;> rfl
/-- .. its cache. -/
theorem app_trow {cs : List Value} (h : Sep (ACh A Y (traT A Y) cs) σ F) (hlen : A.tra.length ≤ Y.tps.length) (hl : Y.tps.length ≤ 40) {vb tp ty : Nat} (hb : Blk σ vb [.pointer (some ⟨tp, 0, none⟩)]) (hvb : ¬ F vb) {K : Sl → Hp → Prop}
    (hK : ∀ s' σ', Ext F σ σ' → Sep (ACh A { Y with trow := s', tps := Y.tps ++ [tp] } (traT A { Y with trow := s', tps := Y.tps ++ [tp] }) cs) σ' (Grow F σ) → K s' σ') : App Y.trow 1 8 ty [.pointer none] ⟨some ⟨vb, 0, none⟩, 1, 1⟩ σ K := by
  have hT : ∀ k, Lcl (traT A Y k) := fun k => traT.loc k
  obtain ⟨G, hG, hi, _, hput⟩ := h.stepD (ACh.loc hT) .trow
  have hi : RowR Y.trow 1 (ptrV Y.tps) σ G := hi
  have hlc : Y.trow.len = Y.tps.length := by have := hi.1; simp [ptrV] at this; omega
  refine hi.app (ys := [.pointer (some ⟨tp, 0, none⟩)]) rfl rfl ?_ (by simp [one1]) (by simp only; omega) (by simp only; omega) Nat.zero_lt_one fun s' σ' hl' e hr => hK s' σ' (e.sub hG) ?_
  · intro j u hu
    rw [add_lit, Nat.zero_add, hb.cell]; exact hu
  rw [traT_more hlen]
  refine (Sep.loc (ACh.loc hT)).mono (hput σ' (ACh A { Y with trow := s', tps := Y.tps ++ [tp] } (traT A Y) cs) (Grow G σ) (fun j hj => ?_) e (fun b hb => hb) ?_ (ACh.loc hT _)) fun b _ hb => grow_of hG (fun b hb => hb) b hb
  · cases j <;> first | rfl | exact absurd rfl hj
  · show RowR s' 1 (ptrV (Y.tps ++ [tp])) σ' (Grow G σ)
    have : ptrV (Y.tps ++ [tp]) = ptrV Y.tps ++ [.pointer (some ⟨tp, 0, none⟩)] := by simp [ptrV]
    rw [this]; exact hr
/-- The header is written anew. -/
theorem st_hd {cs : List Value} (hT : ∀ k, Lcl (T k)) (h : Sep (ACh A Y T cs) σ F) {i : Nat} {v : Value} (hi : i < cs.length) {K : Hp → Prop} (hK : ∀ σ', Ext F σ σ' → Sep (ACh A Y T (cs.set i v)) σ' F → K σ') : St1 (Addr.add ⟨Y.p, 0, none⟩ i) v σ K := by
  obtain ⟨G, hG, hp, _, hput⟩ := h.stepD (ACh.loc hT) .hd
  have hp : BlkR Y.p cs σ G := hp
  refine hp.2.s1 (by omega) fun σ' o b => hK σ' (o.ext.sub fun b hb => by subst hb; exact hG _ hp.1) ?_
  rw [Nat.zero_add] at b
  refine (Sep.loc (ACh.loc hT)).mono (hput σ' (ACh A Y T (cs.set i v)) G (fun j hj => ?_) (o.ext.sub fun b hb => by subst hb; exact hp.1) (fun b hb => .inl hb) ⟨hp.1, b⟩ (ACh.loc hT _)) fun b _ hb => same_of hG (fun b hb => hb) b hb
  cases j <;> first | rfl | exact absurd rfl hj
theorem hdCh {cs : List Value} (h : Sep (ACh A Y T cs) σ F) : Blk σ Y.p cs ∧ F Y.p := by
  obtain ⟨G, hG, hp, hb⟩ := h.get .hd
  exact ⟨hb, hG _ hp⟩
/-- The new list and the new cache come in. -/
theorem put_cls {cs : List Value} {i cp tp : Nat} {c : Cls} {ss : List SpA} {t : TrA} {ps : List (Nat × Nat)} {Gc Gt : Rg} (h : Sep (ACh A Y (traT A Y) cs) σ F) (hlc : A.cen.length = i) (hlt : A.tra.length = i) (hcp : Y.cps[i]? = some cp) (htp : Y.tps[i]? = some tp) (hc : A.tb[i]? = some c)
    (hC : CeH σ Gc cp c ps ss) (hTf : TfH σ Gt tp c.batch A.room t) (d1 : ∀ b, Gc b → ¬ F b) (d2 : ∀ b, Gt b → ¬ F b) (d3 : ∀ b, Gc b → ¬ Gt b) :
    Sep (ACh { A with cen := A.cen ++ [ss], tra := A.tra ++ [t] } Y (traT { A with cen := A.cen ++ [ss], tra := A.tra ++ [t] } Y) cs) σ fun b => (F b ∨ Gc b) ∨ Gt b := by
  have hT : ∀ k, Lcl (traT A Y k) := fun k => traT.loc k
  have h1 : Sep (ACh { A with cen := A.cen ++ [ss] } Y (traT A Y) cs) σ fun b => F b ∨ Gc b := by
    refine h.put (ACh.loc hT) (.cen i) d1 (fun j hj => ?_) ?_ (ACh.loc hT _)
    · cases j <;> first | rfl | skip
      rename_i k
      have hne : k ≠ i := fun e => hj (by rw [e])
      show CenR Y.cps[k]? A.tb[k]? (A.cen ++ [ss])[k]? = CenR Y.cps[k]? A.tb[k]? A.cen[k]?
      rcases Nat.lt_or_ge k i with h2 | h2
      · rw [List.getElem?_append_left (by omega)]
      · have h3 : (A.cen ++ [ss])[k]? = none := List.getElem?_eq_none (by rw [List.length_append, List.length_singleton]; omega)
        have h4 : A.cen[k]? = none := List.getElem?_eq_none (by omega)
        rw [h3, h4]
    · show CenR Y.cps[i]? A.tb[i]? (A.cen ++ [ss])[i]? σ Gc
      rw [hcp, hc, List.getElem?_append_right (by omega), hlc, Nat.sub_self]
      exact ⟨ps, hC⟩
  refine h1.put (ACh.loc hT) (.tra i) (fun b hb hf => ?_) (fun j hj => ?_) ?_ (ACh.loc (fun k => traT.loc k) _)
  · rcases hf with hf | hf
    · exact d2 b hb hf
    · exact d3 b hf hb
  · cases j <;> first | rfl | skip
    rename_i k
    have hne : k ≠ i := fun e => hj (by rw [e])
    show TraR Y.tps[k]? A.tb[k]? A.room (A.tra ++ [t])[k]? = TraR Y.tps[k]? A.tb[k]? A.room A.tra[k]?
    rcases Nat.lt_or_ge k i with h2 | h2
    · rw [List.getElem?_append_left (by omega)]
    · have h3 : (A.tra ++ [t])[k]? = none := List.getElem?_eq_none (by rw [List.length_append, List.length_singleton]; omega)
      have h4 : A.tra[k]? = none := List.getElem?_eq_none (by omega)
      rw [h3, h4]
  · show TraR Y.tps[i]? A.tb[i]? A.room (A.tra ++ [t])[i]? σ Gt
    rw [htp, hc, List.getElem?_append_right (by omega), hlt, Nat.sub_self]
    exact hTf

end Go.Ar

-- ArN
namespace Go.Ar
open Go Go.Vc Go.Proofs
open Go.Bu (runOk giveS takeAt cnt)
set_option linter.unusedSimpArgs false
set_option linter.unusedVariables false

variable {σ : Hp} {F H : Rg} {p hs : Nat} {A : AR} {sp : Sp} {Y : Lay} {T : Nat → Hp → Rg → Prop}

/-! ## Parts, one by one -/
open Classical in
noncomputable def Prt {L : Type} (C : L → Hp → Rg → Prop) (S : L → Prop) (i : L) : Hp → Rg → Prop := if S i then C i else NoneR
theorem Prt.loc {L : Type} {C : L → Hp → Rg → Prop} {S : L → Prop} (hC : ∀ i, Lcl (C i)) (i : L) : Lcl (Prt C S i) := by
  unfold Prt; split
  · exact hC i
  · exact NoneR.loc
theorem Prt.put {L : Type} {C : L → Hp → Rg → Prop} {S : L → Prop} {F G : Rg} (hC : ∀ i, Lcl (C i)) (h : Sep (Prt C S) σ F) (i : L) (hd : ∀ b, G b → ¬ F b) (hi : C i σ G) : Sep (Prt C fun j => S j ∨ j = i) σ fun b => F b ∨ G b := by
  refine h.put (Prt.loc hC) i hd (fun j hj => ?_) ?_ (Prt.loc hC i)
  · unfold Prt
    by_cases hS : S j
    · rw [if_pos (.inl hS), if_pos hS]
    · rw [if_neg (fun h => hS (h.resolve_right hj)), if_neg hS]
  · unfold Prt
    rw [if_pos (.inr rfl)]; exact hi
theorem Prt.all {L : Type} {C : L → Hp → Rg → Prop} {S : L → Prop} {F : Rg} (h : Sep (Prt C S) σ F) (hS : ∀ i, S i) : Sep C σ F := by
  have : Prt C S = C := by
    funext i; unfold Prt; rw [if_pos (hS i)]
  rw [this] at h; exact h
theorem Prt.one {L : Type} {C : L → Hp → Rg → Prop} (S : L → Prop) (l : L) (h : ∀ i, S i → C i σ fun _ => False) : Sep (Prt C S) σ fun _ => False := by
  refine ⟨fun _ => l, fun i => ?_⟩
  have : (fun (b : Nat) => False ∧ l = i) = fun _ => False := by funext b; simp
  rw [this]
  unfold Prt
  by_cases hS : S i
  · rw [if_pos hS]; exact h i hS
  · rw [if_neg hS]; trivial

/-! ## A table of classes -/
theorem tabV_one {tb : List Cls} : ∀ v ∈ tabV tb, one1 v = true := by
  intro v hv
  simp only [tabV, List.mem_flatMap] at hv
  obtain ⟨c, _, hc⟩ := hv
  simp at hc
  rcases hc with rfl | rfl | rfl <;> rfl
theorem acts_cls {s : Sl} {xs : List (Int × Int × Int)} (ha : Acts σ s xs) (hv : validT xs = true) {i : Nat} {c : Cls} (hc : (xs.map toCls)[i]? = some c) : xs[i]? = some ((c.size : Int), (c.pages : Int), (c.batch : Int)) ∧ c.ok := by
  rw [List.getElem?_map, Option.map_eq_some_iff] at hc
  obtain ⟨⟨x, y, z⟩, ht, rfl⟩ := hc
  obtain ⟨c, hok, he, hx, hy, hz⟩ := toCls_eq (((validT_iff xs).1 hv).2.2.1 i _ ht)
  simp only at hx hy hz
  rw [he, ht, hx, hy, hz]
  exact ⟨rfl, hok⟩
theorem tabClone_ok {s : Sl} {xs : List (Int × Int × Int)} (ha : Acts σ s xs) (hv : validT xs = true) {R : Sl → Hp → Prop} (hR : ∀ s' σ', Ext0 σ σ' → SlR s' 3 (tabV (xs.map toCls)) σ' (fun b => σ.size ≤ b) → R s' σ') : slices_Clone_api_Class_api_Class.call s σ R := by
  refine slices_Clone_api_Class_api_Class.of_vc ?_
  unfold slices_Clone_api_Class_api_Class.vc
  have hva := (validT_iff xs).1 hv
  have hlen := ha.1
  have hl0 : 0 < (xs.map toCls).length := by rw [List.length_map]; omega
  have h0 : (xs.map toCls)[0]? = some (xs.map toCls)[0] := List.getElem?_eq_getElem hl0
  obtain ⟨bb, oo, hsa, _⟩ := ha.2 0 _ _ _ (acts_cls ha hv h0).1
  refine ifF (by rw [hsa]; rfl) (nw (cs := []) fun v hvz e1 hb1 => ?_)
  have hav := acts_keep0 ha e1
  refine (RowR.nil v (fun b => σ.size ≤ b) 3 (some ⟨σ.size, 0, none⟩)).app (ys := tabV (xs.map toCls)) rfl (by rw [tabV_len, List.length_map]; omega) ?_ tabV_one (by simp only; omega) (by simp only; omega) (by omega) fun s' h' hl' e' ho' => hR s' h' (Ext.fresh e1 e' fun i hi => hi) ?_
  · rw [hsa]
    intro j u hu
    have hjl := (List.getElem?_eq_some_iff.1 hu).1
    rw [tabV_len, List.length_map] at hjl
    have hi : j / 3 < (xs.map toCls).length := by rw [List.length_map]; omega
    have hc : (xs.map toCls)[j / 3]? = some (xs.map toCls)[j / 3] := List.getElem?_eq_getElem hi
    generalize (xs.map toCls)[j / 3] = c at hc
    have hg := tabV_get hc
    obtain ⟨b, o, g1, _, g3, g4, g5⟩ := hav.2 (j / 3) _ _ _ (acts_cls ha hv hc).1
    rw [hsa] at g1; cases g1
    rw [add_lit]
    rcases (by omega : j = 3 * (j / 3) ∨ j = 3 * (j / 3) + 1 ∨ j = 3 * (j / 3) + 2) with hj | hj | hj
    · rw [hj] at hu; rw [hg.1] at hu; cases hu
      rw [show oo + j = oo + j / 3 * 3 by omega]; exact g3
    · rw [hj] at hu; rw [hg.2.1] at hu; cases hu
      rw [show oo + j = oo + j / 3 * 3 + 1 by omega]; exact g4
    · rw [hj] at hu; rw [hg.2.2] at hu; cases hu
      rw [show oo + j = oo + j / 3 * 3 + 2 by omega]; exact g5
  · rw [List.nil_append] at ho'
    refine (SlR.loc _ _ _).mono ho'.slR fun b _ hg => ?_
    rcases hg with h | h
    · exact h
    · omega

end Go.Ar

-- ArO
namespace Go.Ar
open Go Go.Vc Go.Proofs
open Go.Bu (runOk giveS takeAt cnt)
set_option linter.unusedSimpArgs false
set_option linter.unusedVariables false

variable {σ : Hp} {F H : Rg} {p hs : Nat} {A : AR} {sp : Sp} {Y : Lay} {T : Nat → Hp → Rg → Prop}

def newA (n room : Nat) (tb : List Cls) : AR := { n := n, room := room, tb := tb, S := Go.Bu.emptyS, st := List.replicate n 0, ow := fun _ => 0, cen := List.replicate tb.length [], tra := List.replicate tb.length ⟨0, []⟩, runs := [] }
def newP (n room : Nat) (tb : List Cls) (i : Nat) : AR := { newA n room tb with cen := List.replicate i [], tra := List.replicate i ⟨0, []⟩ }
def newE (xs : List (Int × Int × Int)) (n : Nat) (room : Int) : Int := if validT xs then (if 32 ≤ n ∧ n % 16 = 0 ∧ 0 ≤ room ∧ room ≤ 8 then 0 else 1) else 2
def S0 : Lb → Prop
  | .crow | .trow | .cen _ | .tra _ => True
  | _ => False

/-- Behind the lists of one class: the header's two slices. -/
theorem two_rows {i cp tp : Nat} {c : Cls} {ss : List SpA} {t : TrA} {ps : List (Nat × Nat)} {Gc Gt : Rg} {crow trow : Sl} (hpos : Y.cps.length = i ∧ Y.tps.length = i)
    (h : Sep (ACh A { Y with crow := crow, trow := trow, cps := Y.cps ++ [cp], tps := Y.tps ++ [tp] } (traT A { Y with crow := crow, trow := trow, cps := Y.cps ++ [cp], tps := Y.tps ++ [tp] }) (hdV Y)) σ F)
    (hlc : A.cen.length = i) (hlt : A.tra.length = i) (hc : A.tb[i]? = some c) (hC : CeH σ Gc cp c ps ss) (hTf : TfH σ Gt tp c.batch A.room t) (d1 : ∀ b, Gc b → ¬ F b) (d2 : ∀ b, Gt b → ¬ F b) (d3 : ∀ b, Gc b → ¬ Gt b) {K : Hp → Prop}
    (hK : ∀ σ' Y', Ext F σ σ' → Y'.p = Y.p → Y'.hs = Y.hs → Y'.cps.length = i + 1 → Y'.tps.length = i + 1 → Sep (ACh { A with cen := A.cen ++ [ss], tra := A.tra ++ [t] } Y' (traT { A with cen := A.cen ++ [ss], tra := A.tra ++ [t] } Y') (hdV Y')) σ' (fun b => (F b ∨ Gc b) ∨ Gt b) → K σ') :
    NilP (some ⟨Y.p, 0, none⟩) fun a93 => St1 (a93.add 5) (.slice crow.a crow.len crow.cap) σ fun v25 => NilP (some ⟨Y.p, 0, none⟩) fun a95 => St1 (a95.add 6) (.slice trow.a trow.len trow.cap) v25 K := by
  have hT : ∀ k, Lcl (traT A { Y with crow := crow, trow := trow, cps := Y.cps ++ [cp], tps := Y.tps ++ [tp] } k) := fun k => traT.loc k
  refine nilP (st_hd (Y := { Y with crow := crow, trow := trow, cps := Y.cps ++ [cp], tps := Y.tps ++ [tp] }) hT h (i := 5) (by simp [hdV]) fun v1 e1 h1 => nilP (st_hd (Y := { Y with crow := crow, trow := trow, cps := Y.cps ++ [cp], tps := Y.tps ++ [tp] }) hT h1 (i := 6) (by simp [hdV]) fun v2 e2 h2 => ?_))
  have hC2 := (CeH.loc (c := c) (ps := ps) (ss := ss) (p := cp)).keep ((CeH.loc (c := c) (ps := ps) (ss := ss) (p := cp)).keep hC e1 fun b _ hb hf => d1 b hb hf) e2 fun b _ hb hf => d1 b hb hf
  have hT2 := (TfH.loc (p := tp) (batch := c.batch) (room := A.room) (t := t)).keep ((TfH.loc (p := tp) (batch := c.batch) (room := A.room) (t := t)).keep hTf e1 fun b _ hb hf => d2 b hb hf) e2 fun b _ hb hf => d2 b hb hf
  have h3 := put_cls (cp := cp) (tp := tp) h2 hlc hlt (by simp only; rw [List.getElem?_append_right (by omega), hpos.1, Nat.sub_self]; rfl) (by simp only; rw [List.getElem?_append_right (by omega), hpos.2, Nat.sub_self]; rfl) hc hC2 hT2 d1 d2 d3
  exact hK v2 { Y with crow := crow, trow := trow, cps := Y.cps ++ [cp], tps := Y.tps ++ [tp] } (e1.trans e2) rfl rfl (by simp [hpos.1]) (by simp [hpos.2]) h3

theorem chs {cs : List Value} {σ' : Hp} (hT : ∀ k, Lcl (T k)) (h : Sep (ACh A Y T cs) σ F) (e : Ext0 σ σ') : Sep (ACh A Y T cs) σ' F := (Sep.loc (ACh.loc hT)).keep0 h e
theorem chcut {cs : List Value} (hT : ∀ k, Lcl (T k)) (h : Sep (ACh A Y T cs) σ F) : Sep (ACh A Y T cs) σ (Cut F σ) := (Sep.loc (ACh.loc hT)).cut h

end Go.Ar

-- AlA
namespace Go.Ar
open Go.Bu (runOk giveS takeAt cnt)
set_option linter.unusedSimpArgs false
set_option linter.unusedVariables false

def al0 : AR × Sp := (newA 64 2 [⟨256, 1, 2⟩], newSp 64)
def al1 : AR × Sp := growS al0.1 al0.2 0
def al2 : AR × Sp := (fromCenS al1.1 0 3, al1.2)
def al3 : AR × Sp := takeAS al2.1 al2.2 20 1
def al4 : AR × Sp := (giveAS al3.1 32, al3.2)
def al5 : AR × Sp := trimS al4.1 al4.2
def al6 : AR × Sp := (toCenS al5.1 0 [4096], al5.2)
theorem al_e1 : growE al0.1 al0.2 0 = 0 := by decide +kernel
theorem al_e2 : fromCenE al1.1 0 3 = 0 ∧ fromCenV al1.1 0 3 = [4096] := by decide +kernel
theorem al_e3 : cMoved al2.1 = 0 ∧ cRoom al2.1 = 0 ∧ cTails al2.1 = 0 ∧ cSpans al2.1 = 1 ∧ cRuns al2.1 = 0 ∧ cnt al2.1.n al2.1.S = 15 := by decide +kernel
theorem al_e4 : takeAE al2.1 al2.2 20 1 = 0 ∧ takeAV al2.1 al2.2 20 1 = 32 := by decide +kernel
theorem al_e5 : giveAE al3.1 32 = 0 ∧ (∀ r ∈ al3.1.runs, r.1 ≤ 1000000) := by decide +kernel
theorem al_e6 : trimV al4.1 = 2 := by decide +kernel
theorem al_e7 : toCenE al5.1 0 [4096] = 0 := by decide +kernel
theorem al_e8 : trimV al6.1 = 1 ∧ ownsA (trimS al6.1 al6.2).1 16 = false := by decide +kernel

end Go.Ar

-- ArP
namespace Go.Ar
open Go Go.Vc Go.Proofs
open Go.Bu (runOk giveS takeAt cnt)
set_option linter.unusedSimpArgs false
set_option linter.unusedVariables false

variable {σ : Hp} {F H : Rg} {p hs : Nat} {A : AR} {sp : Sp} {Y : Lay} {T : Nat → Hp → Rg → Prop}

theorem newP_succ (n room : Nat) (tb : List Cls) (i : Nat) : ({ newP n room tb i with cen := (newP n room tb i).cen ++ [[]], tra := (newP n room tb i).tra ++ [⟨0, []⟩] } : AR) = newP n room tb (i + 1) := by
  unfold newP
  simp only [← List.replicate_succ']
theorem newP_all (n room : Nat) (tb : List Cls) : newP n room tb tb.length = newA n room tb := rfl

/-- The rows of one class, in any order. -/
theorem rows3 {i cp tp : Nat} {c : Cls} {ss : List SpA} {t : TrA} {ps : List (Nat × Nat)} {Gc Gt : Rg} {z : Nat} (hF : ∀ b, F b → z ≤ b ∧ b < σ.size) (hpos : Y.cps.length = i ∧ Y.tps.length = i) (hi : i < 40)
    (h : Sep (ACh A Y (traT A Y) (hdV Y)) σ F) (hlc : A.cen.length = i) (hlt : A.tra.length = i) (hc : A.tb[i]? = some c) (hC : CeH σ Gc cp c ps ss) (hTf : TfH σ Gt tp c.batch A.room t) (d1 : ∀ b, Gc b → ¬ F b ∧ z ≤ b ∧ b < σ.size) (d2 : ∀ b, Gt b → ¬ F b ∧ z ≤ b ∧ b < σ.size) (d3 : ∀ b, Gc b → ¬ Gt b) {J4 : Hp → Prop}
    (hK : ∀ σ' Y', Ext F σ σ' → Y'.p = Y.p → Y'.hs = Y.hs → Y'.cps.length = i + 1 → Y'.tps.length = i + 1 → Sep (ACh { A with cen := A.cen ++ [ss], tra := A.tra ++ [t] } Y' (traT { A with cen := A.cen ++ [ss], tra := A.tra ++ [t] } Y') (hdV Y')) σ' (fun b => z ≤ b) → J4 σ') :
    Held σ fun S => NilP (some ⟨Y.p, 0, none⟩) fun a80 => LdH S .s (a80.add 5) fun (t82 : Sl) => NilP (some ⟨Y.p, 0, none⟩) fun a87 => LdH S .s (a87.add 6) fun (t89 : Sl) =>
        (Nw (.cells #[.pointer (some ⟨cp, 0, none⟩)] 110 (0, 0)) σ fun n84 v21 => And (S v21) <|
         (App t82 1 8 110 [.pointer none] ⟨(some n84), 1, 1⟩ v21 fun t85 v22 => And (S v22) <| Nw (.cells #[.pointer (some ⟨tp, 0, none⟩)] 112 (0, 0)) v22 fun n91 v23 => And (S v23) <| App t89 1 8 112 [.pointer none] ⟨(some n91), 1, 1⟩ v23 fun t92 v24 => And (S v24) <|
         NilP (some ⟨Y.p, 0, none⟩) fun a93 => St1 (a93.add 5) (.slice t85.a t85.len t85.cap) v24 fun v25 => NilP (some ⟨Y.p, 0, none⟩) fun a95 => St1 (a95.add 6) (.slice t92.a t92.len t92.cap) v25 fun v26 => J4 v26) ∧
         (Nw (.cells #[.pointer (some ⟨tp, 0, none⟩)] 112 (0, 0)) v21 fun n911 v27 => And (S v27) <| App t82 1 8 110 [.pointer none] ⟨(some n84), 1, 1⟩ v27 fun t851 v28 => And (S v28) <| App t89 1 8 112 [.pointer none] ⟨(some n911), 1, 1⟩ v28 fun t921 v29 => And (S v29) <|
         NilP (some ⟨Y.p, 0, none⟩) fun a931 => St1 (a931.add 5) (.slice t851.a t851.len t851.cap) v29 fun v30 => NilP (some ⟨Y.p, 0, none⟩) fun a951 => St1 (a951.add 6) (.slice t921.a t921.len t921.cap) v30 fun v31 => J4 v31)) ∧
        (Nw (.cells #[.pointer (some ⟨tp, 0, none⟩)] 112 (0, 0)) σ fun n912 v32 => And (S v32) <| Nw (.cells #[.pointer (some ⟨cp, 0, none⟩)] 110 (0, 0)) v32 fun n841 v33 => And (S v33) <|
        App t82 1 8 110 [.pointer none] ⟨(some n841), 1, 1⟩ v33 fun t852 v34 => And (S v34) <| App t89 1 8 112 [.pointer none] ⟨(some n912), 1, 1⟩ v34 fun t922 v35 => And (S v35) <|
        NilP (some ⟨Y.p, 0, none⟩) fun a932 => St1 (a932.add 5) (.slice t852.a t852.len t852.cap) v35 fun v36 => NilP (some ⟨Y.p, 0, none⟩) fun a952 => St1 (a952.add 6) (.slice t922.a t922.len t922.cap) v36 fun v37 => J4 v37) := by
  have hT : ∀ k, Lcl (traT A Y k) := fun k => traT.loc k
  have hlC := CeH.loc (c := c) (ps := ps) (ss := ss) (p := cp)
  have hlT := TfH.loc (p := tp) (batch := c.batch) (room := A.room) (t := t)
  refine ⟨fun m => Blk m Y.p (hdV Y), (hdCh h).1, nilP ⟨Y.crow, fun m hm => by rw [add_lit, hm.cell]; rfl, nilP ⟨Y.trow, fun m hm => by rw [add_lit, hm.cell]; rfl, ?_⟩⟩⟩
  -- both rows, from where the boxes lie
  have app2 : ∀ (w : Hp) (F1 : Rg) (b1 b2 : Nat), Ext0 σ w → (∀ b, F1 b → F b) → Sep (ACh A Y (traT A Y) (hdV Y)) w F1 → Blk w b1 [.pointer (some ⟨cp, 0, none⟩)] → Blk w b2 [.pointer (some ⟨tp, 0, none⟩)] → σ.size ≤ b1 → σ.size ≤ b2 →
      App Y.crow 1 8 110 [.pointer none] ⟨some ⟨b1, 0, none⟩, 1, 1⟩ w fun t85 v28 => And (Blk v28 Y.p (hdV Y)) <| App Y.trow 1 8 112 [.pointer none] ⟨some ⟨b2, 0, none⟩, 1, 1⟩ v28 fun t92 v29 => And (Blk v29 Y.p (hdV Y)) <|
        NilP (some ⟨Y.p, 0, none⟩) fun a93 => St1 (a93.add 5) (.slice t85.a t85.len t85.cap) v29 fun v30 => NilP (some ⟨Y.p, 0, none⟩) fun a95 => St1 (a95.add 6) (.slice t92.a t92.len t92.cap) v30 fun v31 => J4 v31 := by
    intro w F1 b1 b2 ew hF1 hw hb1 hb2 hz1 hz2
    have hFw : ∀ b, F1 b → z ≤ b ∧ b < σ.size := fun b hb => hF b (hF1 b hb)
    have hsw := ew.1
    refine app_crow hT hw (by omega) (by omega) hb1 (fun hf => by have := hFw _ hf; omega) fun s1 v28 e28 h28 => ?_
    have h28b := (hdCh h28).1
    have h28' : Sep (ACh A { Y with crow := s1, cps := Y.cps ++ [cp] } (traT A { Y with crow := s1, cps := Y.cps ++ [cp] }) (hdV Y)) v28 (Grow F1 w) := h28
    refine ⟨h28b, ?_⟩
    have c28 : Sep (ACh A { Y with crow := s1, cps := Y.cps ++ [cp] } (traT A { Y with crow := s1, cps := Y.cps ++ [cp] }) (hdV Y)) v28 (fun b => F1 b ∨ w.size ≤ b) := h28'
    have hb2' := e28.blk hb2 fun hf => by have := hFw _ hf; omega
    have hb2lt := hb2.lt
    refine app_trow c28 (by simp only; omega) (by simp only; omega) hb2' (fun hf => by
      rcases hf with hf | hf
      · have := hFw _ hf; omega
      · omega) fun s2 v29 e29 h29 => ?_
    refine ⟨(hdCh h29).1, ?_⟩
    have sub29 : ∀ b, (F1 b ∨ w.size ≤ b) → F b ∨ σ.size ≤ b := fun b hb => by
      rcases hb with hb | hb
      · exact .inl (hF1 b hb)
      · exact .inr (by omega)
    have eAll : Ext F σ v29 := ((Ext0.to ew).trans (e28.sub hF1)).newT e29 sub29
    have hC29 := hlC.keep hC eAll fun b _ hb hf => (d1 b hb).1 hf
    have hT29 := hlT.keep hTf eAll fun b _ hb hf => (d2 b hb).1 hf
    have hs28 := e28.1
    refine two_rows (F := Grow (fun b => F1 b ∨ w.size ≤ b) v28) hpos h29 hlc hlt hc hC29 hT29 (fun b hb hf => ?_) (fun b hb hf => ?_) d3 fun w2 Y' e2 p1 p2 p3 p4 h2 => ?_
    · have := d1 b hb
      rcases hf with (hf | hf) | hf
      · exact this.1 (hF1 b hf)
      · omega
      · omega
    · have := d2 b hb
      rcases hf with (hf | hf) | hf
      · exact this.1 (hF1 b hf)
      · omega
      · omega
    · refine hK w2 Y' (eAll.newT e2 fun b hb => ?_) p1 p2 p3 p4 ((Sep.loc (ACh.loc (fun k => traT.loc k))).mono h2 fun b _ hb => ?_)
      · rcases hb with (hb | hb) | hb
        · exact .inl (hF1 b hb)
        · exact .inr (by omega)
        · exact .inr (by omega)
      · have hz0 : z ≤ σ.size := by have := (d1 _ hC.fp); omega
        rcases hb with (((hb | hb) | hb) | hb) | hb
        · exact (hFw b hb).1
        · omega
        · omega
        · exact (d1 b hb).2.1
        · exact (d2 b hb).2.1
  have S0 : ∀ {w : Hp}, Ext0 σ w → Blk w Y.p (hdV Y) := fun e => e.blk (hdCh h).1 id
  refine ⟨nw (cs := [.pointer (some ⟨cp, 0, none⟩)]) fun v21 z21 e21 b21 => ⟨S0 e21, ?_, ?_⟩, nw (cs := [.pointer (some ⟨tp, 0, none⟩)]) fun v32 z32 e32 b32 => ⟨S0 e32, nw (cs := [.pointer (some ⟨cp, 0, none⟩)]) fun v33 z33 e33 b33 => ⟨S0 (Ext.trans e32 e33), ?_⟩⟩⟩
  · -- row, box, row
    have h21 := chs hT h e21
    refine app_crow hT h21 (by omega) (by omega) b21 (fun hf => by have := hF _ hf; omega) fun s1 v22 e22 h22 => ⟨(hdCh h22).1, ?_⟩
    have h22' : Sep (ACh A { Y with crow := s1, cps := Y.cps ++ [cp] } (traT A { Y with crow := s1, cps := Y.cps ++ [cp] }) (hdV Y)) v22 (Grow F v21) := h22
    have c22 := chcut (fun k => traT.loc k) h22'
    refine nw (cs := [.pointer (some ⟨tp, 0, none⟩)]) fun v23 z23 e23 b23 => ?_
    have h23 := chs (fun k => traT.loc k) c22 e23
    refine ⟨(hdCh h23).1, app_trow h23 (by simp only; omega) (by simp only; omega) b23 (fun hf => by have := hf.2; omega) fun s2 v24 e24 h24 => ⟨(hdCh h24).1, ?_⟩⟩
    have hs22 := e22.1
    have hs23 := e23.1
    have sub24 : ∀ b, Cut (Grow F v21) v22 b → F b ∨ σ.size ≤ b := fun b hb => by
      rcases hb.1 with h | h
      · exact .inl h
      · exact .inr (by omega)
    have eAll : Ext F σ v24 := ((((Ext0.to e21).trans e22).trans0 e23)).newT e24 sub24
    have hC24 := hlC.keep hC eAll fun b _ hb hf => (d1 b hb).1 hf
    have hT24 := hlT.keep hTf eAll fun b _ hb hf => (d2 b hb).1 hf
    refine two_rows (F := Grow (Cut (Grow F v21) v22) v23) hpos h24 hlc hlt hc hC24 hT24 (fun b hb hf => ?_) (fun b hb hf => ?_) d3 fun w2 Y' e2 p1 p2 p3 p4 h2 => ?_
    · have := d1 b hb
      rcases hf with hf | hf
      · rcases hf.1 with hf | hf
        · exact this.1 hf
        · omega
      · omega
    · have := d2 b hb
      rcases hf with hf | hf
      · rcases hf.1 with hf | hf
        · exact this.1 hf
        · omega
      · omega
    · refine hK w2 Y' (eAll.newT e2 fun b hb => ?_) p1 p2 p3 p4 ((Sep.loc (ACh.loc (fun k => traT.loc k))).mono h2 fun b _ hb => ?_)
      · rcases hb with hb | hb
        · exact sub24 b hb
        · exact .inr (by omega)
      · have hz0 : z ≤ σ.size := by have := (d1 _ hC.fp); omega
        rcases hb with ((hb | hb) | hb) | hb
        · rcases sub24 b hb with h | h
          · exact (hF b h).1
          · omega
        · omega
        · exact (d1 b hb).2.1
        · exact (d2 b hb).2.1
  · -- box, row, row
    refine nw (cs := [.pointer (some ⟨tp, 0, none⟩)]) fun v27 z27 e27 b27 => ⟨S0 (Ext.trans e21 e27), ?_⟩
    exact app2 v27 F σ.size v21.size (Ext.trans e21 e27) (fun b hb => hb) (chs hT (chs hT h e21) e27) (e27.blk b21 id) b27 (Nat.le_refl _) (by omega)
  · exact app2 v33 F v32.size σ.size (Ext.trans e32 e33) (fun b hb => hb) (chs hT (chs hT h e32) e33) b33 (e33.blk b32 id) (by omega) (Nat.le_refl _)

end Go.Ar

-- ArQ
namespace Go.Ar
open Go Go.Vc Go.Proofs
open Go.Bu (runOk giveS takeAt cnt)
set_option linter.unusedSimpArgs false
set_option linter.unusedVariables false

variable {σ : Hp} {F H : Rg} {p hs : Nat} {A : AR} {sp : Sp} {Y : Lay} {T : Nat → Hp → Rg → Prop}

theorem iv_cut {P : Hp → Rg → Prop} (hl : Lcl P) {a : Nat} (h : P σ fun b => a ≤ b) : P σ fun b => a ≤ b ∧ b < σ.size := hl.mono h fun b hb hf => ⟨hf, hb⟩
theorem newLay {n room : Nat} {tb : List Cls} (h1 : 32 ≤ n) (h2 : n ≤ 1024) (h3 : n % 16 = 0) (h4 : room ≤ 8) (h5 : 1 ≤ tb.length) (h6 : tb.length ≤ 40) (h7 : ∀ c ∈ tb, c.ok) (hc : Y.cps.length = tb.length) (ht : Y.tps.length = tb.length) : LayOk (newA n room tb) Y :=
  ⟨hc, ht, by simp [newA], by simp [newA], h5, h6, h1, h2, h3, by simp [newA], h4, h7⟩
theorem ANew_ok {s : Sl} {xs : List (Int × Int × Int)} (ha : Acts σ s xs) (hS : SpH3 σ H hs sp) (room : Int) {R : Option Addr → Int → Hp → Prop}
    (h0 : newE xs sp.st.length room ≠ 0 → ∀ σ', Ext0 σ σ' → R none (newE xs sp.st.length room) σ')
    (h1 : newE xs sp.st.length room = 0 → ∀ σ' Y, Ext0 σ σ' → Y.hs = hs → AHY σ' (fun b => σ.size ≤ b) Y (newA sp.st.length room.toNat (xs.map toCls)) (traT (newA sp.st.length room.toNat (xs.map toCls)) Y) → R (some ⟨Y.p, 0, none⟩) 0 σ') :
    arena_New.call s (some ⟨hs, 0, none⟩) room σ R := by
  refine arena_New.of_vc ?_
  unfold arena_New.vc
  have hn2 : sp.st.length ≤ 1024 := by obtain ⟨q, r, l, B, h⟩ := hS; exact h.n2
  refine Valid_ok ha fun v e => ?_
  cases hv : validT xs
  · have e1 : newE xs sp.st.length room = 2 := by unfold newE; rw [hv]; rfl
    have := h0 (by rw [e1]; decide) v e
    rw [e1] at this
    exact ifT rfl this
  have eE : newE xs sp.st.length room = if 32 ≤ sp.st.length ∧ sp.st.length % 16 = 0 ∧ 0 ≤ room ∧ room ≤ 8 then 0 else 1 := by unfold newE; rw [hv, if_pos rfl]
  refine ifF rfl (Pages_ok (hS.keep0 e) ?_)
  have bad : ¬ (32 ≤ sp.st.length ∧ sp.st.length % 16 = 0 ∧ 0 ≤ room ∧ room ≤ 8) → R none 1 v := fun hn => by
    rw [if_neg hn] at eE
    have := h0 (by rw [eE]; decide) v e
    rw [eE] at this; exact this
  have tm : (((sp.st.length : Nat) : Int).tmod 16) = ((sp.st.length % 16 : Nat) : Int) := by rw [tmod_nn (by omega)]; simp
  refine JnB.intro (ifD (fun c1 => JnB.intro (ifT rfl (JnB.intro (ifT rfl (ifT rfl (bad (by omega))))))) fun c1 => nz (by decide) ?_)
  rw [tm, bneN0]
  refine JnB.intro (iff_ (fun c2 => JnB.intro (ifT rfl (ifT rfl (bad (fun h => by have := h.2.1; simp [this] at c2))))) fun c2 => ?_)
  have c2' : sp.st.length % 16 = 0 := by simpa using c2
  refine JnB.intro (ifD (fun c3 => ifT rfl (bad (by omega))) fun c3 => ifD (fun c4 => bad (by omega)) fun c4 => ?_)
  obtain ⟨rm, rfl⟩ := Int.eq_ofNat_of_zero_le (show 0 ≤ room by omega)
  rw [if_pos (by omega)] at eE
  have h1 := h1 eE
  simp only [Int.toNat_natCast] at h1
  have hva := (validT_iff xs).1 hv
  have hav := acts_keep0 ha e
  have hn1 : 32 ≤ sp.st.length := by omega
  generalize sp.st.length = n at *
  have hlen : s.len = (xs.map toCls).length := by rw [List.length_map]; exact ha.1
  have hcl : ∀ {σ' : Hp} {i : Nat} {c : Cls}, Acts σ' s xs → (xs.map toCls)[i]? = some c → xs[i]? = some ((c.size : Int), (c.pages : Int), (c.batch : Int)) ∧ c.ok := fun h hc => acts_cls h hv hc
  have htb1 : 1 ≤ (xs.map toCls).length ∧ (xs.map toCls).length ≤ 40 := by rw [List.length_map]; omega
  refine tabClone_ok hav hv fun tab v5 e5 htab => PNew_ok fun v6 op e6 hop hP => nwMap fun v7 z7 e7 hm => ?_
  generalize htbd : xs.map toCls = tb at *
  refine nw (cs := [.slice tab.a tab.len tab.cap, .pointer (some ⟨hs, 0, none⟩), .pointer none, .pointer none, .pointer (some ⟨op, 0, none⟩), .slice none 0 0, .slice none 0 0, .map (some v6.size)]) fun v8 z8 e8 b8 => ?_
  refine Go.Bu.New_ok _ (fun hb => absurd ⟨by omega, by omega⟩ hb) fun n' hn' _ _ v9 sb ms e9 hB hfp => ?_
  have hnn : n = n' := by omega
  subst hnn
  have b9 := e9.blk b8 id
  refine nilP (b9.s1 (by simp) fun v10 o10 b10 => TNew_ok (by omega) (by omega) c2' fun v11 tp tq e11 htp htq hTk => nilP ((e11.blk b10 id).s1 (by simp) fun v12 o12 b12 => ?_))
  have s5 := e5.1; have s6 := e6.1; have s9 := e9.1; have s10 := o10.1; have s11 := e11.1; have s12 := o12.1
  have hb8 := b8.lt
  -- the parts, all in one memory
  have x9 : Ext (· = v7.size) v9 v12 := (o10.ext.trans (Ext0.to e11)).trans o12.ext
  have x5 : Ext (· = v7.size) v5 v12 := (Ext0.to (Ext.trans (Ext.trans (Ext.trans e6 e7) e8) e9)).trans x9
  have x6 : Ext (· = v7.size) v6 v12 := (Ext0.to (Ext.trans (Ext.trans e7 e8) e9)).trans x9
  have x7 : Ext (· = v7.size) v7 v12 := (Ext0.to (Ext.trans e8 e9)).trans x9
  have x11 : Ext (· = v7.size) v11 v12 := o12.ext
  have p1 := (SlR.loc _ _ _).keep (iv_cut (SlR.loc _ _ _) htab) x5 fun b _ hb hf => by omega
  have p2 := (PmH.loc (p := op) (ow := fun _ => 0)).keep (iv_cut PmH.loc hP) x6 fun b _ hb hf => by omega
  have p3 : MapL v12 v6.size .i64 (.i .i64) [] := x7.mapL (hm _ _) (by omega)
  have p5 : FreeR v8.size n Go.Bu.emptyS v12 (fun b => v8.size ≤ b ∧ b < v9.size) := (FreeR.loc _ _ _).keep (iv_cut (FreeR.loc _ _ _) ⟨sb, ms, hB, hfp⟩) x9 fun b _ hb hf => by omega
  have p6 : TrkR tp (List.replicate n 0) v12 (fun b => v10.size ≤ b ∧ b < v11.size) := (TrkR.loc _ _).keep (iv_cut (TrkR.loc _ _) ⟨tq, hTk, htp, htq⟩) x11 fun b _ hb hf => by omega
  let Y0 : Lay := { p := v7.size, hs := hs, fr := v8.size, tr := tp, op := op, rn := v6.size, tab := tab, crow := ⟨none, 0, 0⟩, trow := ⟨none, 0, 0⟩, cps := [], tps := [] }
  have b12' : Blk v12 v7.size (hdV Y0) := b12
  let Cf := ACh (newP n rm tb 0) Y0 (traT (newP n rm tb 0) Y0) (hdV Y0)
  have hCf : ∀ i, Lcl (Cf i) := ACh.loc fun k => traT.loc k
  have q0 : Sep (Prt Cf S0) v12 fun _ => False := Prt.one S0 .hd fun i hi => by
    cases i <;> first | exact hi.elim | exact RowR.nil _ _ _ _ | exact trivial
  have q1 := Prt.put hCf q0 .tab (G := fun b => v.size ≤ b ∧ b < v5.size) (fun b hb hf => hf) p1
  have q2 := Prt.put hCf q1 .own (G := fun b => v5.size ≤ b ∧ b < v6.size) (fun b hb hf => by
    rcases hf with hf | hf
    · exact hf
    · omega) p2
  have q3 := Prt.put hCf q2 .runs (G := fun b => b = v6.size) (fun b hb hf => by
    rcases hf with (hf | hf) | hf
    · exact hf
    · omega
    · omega) ⟨rfl, p3⟩
  have q4 := Prt.put hCf q3 .hd (G := fun b => b = v7.size) (fun b hb hf => by
    rcases hf with ((hf | hf) | hf) | hf
    · exact hf
    · omega
    · omega
    · omega) ⟨rfl, b12'⟩
  have q5 := Prt.put hCf q4 .free (G := fun b => v8.size ≤ b ∧ b < v9.size) (fun b hb hf => by
    rcases hf with (((hf | hf) | hf) | hf) | hf
    · exact hf
    · omega
    · omega
    · omega
    · omega) p5
  have q6 := Prt.put hCf q5 .trk (G := fun b => v10.size ≤ b ∧ b < v11.size) (fun b hb hf => by
    rcases hf with ((((hf | hf) | hf) | hf) | hf) | hf
    · exact hf
    · omega
    · omega
    · omega
    · omega
    · omega) p6
  have q7 : Sep Cf v12 fun b => v.size ≤ b := by
    refine (Sep.loc hCf).mono (Prt.all q6 fun i => ?_) fun b _ hf => ?_
    · cases i <;> simp [S0]
    · rcases hf with (((((hf | hf) | hf) | hf) | hf) | hf) | hf
      · exact hf.elim
      · omega
      · omega
      · omega
      · omega
      · omega
      · omega
  have e12 : Ext0 v v12 := Ext.fresh e5 x5 fun i hi => by omega
  have szv := e.1
  refine loop1 (a := .i .i64) (fun (t : Int) w => ∃ (i : Nat) (Y : Lay), t = (i : Int) ∧ i ≤ tb.length ∧ Y.p = v7.size ∧ Y.hs = hs ∧ Y.cps.length = i ∧ Y.tps.length = i ∧ Ext0 v w ∧ Sep (ACh (newP n rm tb i) Y (traT (newP n rm tb i) Y) (hdV Y)) w (fun b => v.size ≤ b)) (fun t _ => tb.length - t.toNat)
    ⟨0, Y0, rfl, by omega, rfl, rfl, rfl, rfl, e12, q7⟩ ?_
  rintro t w ⟨i, Y, rfl, hi, hYp, hYh, hYc, hYt, ew, hsep⟩
  refine ifD (fun hlt => ?_) fun hge => ?_
  · have hi' : i < tb.length := by omega
    have hc : tb[i]? = some tb[i] := List.getElem?_eq_getElem hi'
    generalize tb[i] = c at hc
    have haw := acts_keep0 hav ew
    obtain ⟨hxi, hok⟩ := hcl haw hc
    refine acts_rd haw hxi ?_
    refine nw (cs := [.int .i64 0, .int .i64 0, .int .i64 0]) fun v14 hz14 e14 b14 => b14.s1 (by simp) fun v15 o15 b15 => b15.s1 (by simp) fun v16 o16 b16 => b16.s1 (by simp) fun v17 o17 b17 => ?_
    have e17 : Ext0 w v17 := Ext.fresh (Ext.fresh (Ext.fresh e14 o15.ext fun i hi => by omega) o16.ext fun i hi => by omega) o17.ext fun i hi => by omega
    have b17' : Blk v17 w.size [.int .i64 (c.size : Int), .int .i64 (c.pages : Int), .int .i64 (c.batch : Int)] := b17
    refine b17'.rI rfl (b17'.rI rfl (b17'.rI rfl (CNew_ok hok fun v18 cp e18 hcp1 hcp2 hCe => ?_)))
    have b18 := e18.blk b17' id
    obtain ⟨_, _, _, _, _, _, hbt1, hbt2⟩ := id hok
    refine b18.rI rfl (FNew_ok hbt1 hbt2 (by omega) fun v19 tp2 e19 htp1 htp2 hTf => Jn.intro ?_)
    have s14 := e17.1; have s18 := e18.1; have s19 := e19.1; have sw := ew.1
    have hT : ∀ k, Lcl (traT (newP n rm tb i) Y k) := fun k => traT.loc k
    have h19 := chs hT (chs hT (chs hT (chcut hT hsep) e17) e18) e19
    have hCe19 := hCe.keep0 e19
    rw [← hYp]
    refine rows3 (F := Cut (fun b => v.size ≤ b) w) (z := v.size) (ss := []) (t := ⟨0, []⟩) (fun b hb => ⟨hb.1, by have := hb.2; omega⟩) ⟨hYc, hYt⟩ (by omega) h19 (by simp [newP]) (by simp [newP]) hc hCe19 hTf (fun b hb => ?_) (fun b hb => ?_) (fun b hb hb2 => by omega) fun w2 Y' e2 y1 y2 y3 y4 h2 => ?_
    · subst hb; exact ⟨fun hf => by have := hf.2; omega, by omega, by omega⟩
    · subst hb; exact ⟨fun hf => by have := hf.2; omega, by omega, by omega⟩
    · rw [newP_succ] at h2
      exact arN (m := i + 1) (by omega) (by omega) ⟨⟨i + 1, Y', rfl, by omega, y1, y2.trans hYh, y3, y4, Ext.fresh (Ext.trans (Ext.trans (Ext.trans ew e17) e18) e19) e2 fun b hb => hb.1, h2⟩, by omega⟩
  · have : i = tb.length := by omega
    subst this
    rw [newP_all, ACh_hd] at hsep
    have hl : LayOk (newA n rm tb) Y := newLay hn1 hn2 c2' (by omega) htb1.1 htb1.2 (fun c hc => by
      obtain ⟨j, hj⟩ := List.getElem?_of_mem hc
      exact (hcl hav hj).2) hYc hYt
    have := h1 w Y (Ext.trans e ew) hYh ⟨hl, fun k => traT.loc k, (Sep.loc (AC.loc fun k => traT.loc k)).mono hsep fun b _ hb => Nat.le_trans szv hb⟩
    rw [hYp] at this
    exact this

end Go.Ar

-- ArR
namespace Go.Ar
open Go Go.Vc Go.Proofs
open Go.Bu (runOk giveS takeAt cnt)
set_option linter.unusedSimpArgs false
set_option linter.unusedVariables false

variable {σ : Hp} {F H : Rg} {p hs : Nat} {A : AR} {sp : Sp} {Y : Lay} {T : Nat → Hp → Rg → Prop}

theorem ivd {a1 b1 a2 b2 b : Nat} (d : b1 ≤ a2 ∨ b2 ≤ a1) (h1 : a1 ≤ b ∧ b < b1) (h2 : a2 ≤ b ∧ b < b2) : False := by omega
theorem ivp {a b r : Nat} (d : r < a ∨ b ≤ r) (h : a ≤ r ∧ r < b) : False := by omega
/-- An arena without lists: its parts, each in an interval. -/
theorem assemble {w : Hp} {z a1 b1 a2 b2 a3 b3 a4 b4 : Nat} (hT : ∀ k, Lcl (T k)) (hc : A.cen = []) (hcr : Y.crow = ⟨none, 0, 0⟩) (htr : Y.trow = ⟨none, 0, 0⟩) (hcp : Y.cps = []) (htp : Y.tps = []) (hT0 : ∀ k σ F, T k σ F)
    (p1 : SlR Y.tab 3 (tabV A.tb) w fun b => a1 ≤ b ∧ b < b1) (p2 : FreeR Y.fr A.n A.S w fun b => a2 ≤ b ∧ b < b2) (p3 : TrkR Y.tr A.st w fun b => a3 ≤ b ∧ b < b3) (p4 : PmH w (fun b => a4 ≤ b ∧ b < b4) Y.op A.ow) (p5 : MapL w Y.rn .i64 (.i .i64) (runI A.runs)) (p6 : Blk w Y.p (hdV Y))
    (hz : z ≤ a1 ∧ z ≤ a2 ∧ z ≤ a3 ∧ z ≤ a4 ∧ z ≤ Y.rn ∧ z ≤ Y.p)
    (d12 : b1 ≤ a2 ∨ b2 ≤ a1) (d13 : b1 ≤ a3 ∨ b3 ≤ a1) (d14 : b1 ≤ a4 ∨ b4 ≤ a1) (d23 : b2 ≤ a3 ∨ b3 ≤ a2) (d24 : b2 ≤ a4 ∨ b4 ≤ a2) (d34 : b3 ≤ a4 ∨ b4 ≤ a3)
    (e1 : Y.rn < a1 ∨ b1 ≤ Y.rn) (e2 : Y.rn < a2 ∨ b2 ≤ Y.rn) (e3 : Y.rn < a3 ∨ b3 ≤ Y.rn) (e4 : Y.rn < a4 ∨ b4 ≤ Y.rn) (f1 : Y.p < a1 ∨ b1 ≤ Y.p) (f2 : Y.p < a2 ∨ b2 ≤ Y.p) (f3 : Y.p < a3 ∨ b3 ≤ Y.p) (f4 : Y.p < a4 ∨ b4 ≤ Y.p) (g : Y.rn ≠ Y.p) :
    Sep (ACh A Y T (hdV Y)) w fun b => z ≤ b := by
  have hCf : ∀ i, Lcl (ACh A Y T (hdV Y) i) := ACh.loc hT
  have q0 : Sep (Prt (ACh A Y T (hdV Y)) S0) w fun _ => False := Prt.one S0 .hd fun i hi => by
    cases i <;> first | exact hi.elim | skip
    · show RowR Y.crow 1 (ptrV Y.cps) w _
      rw [hcr, hcp]; exact RowR.nil _ _ _ _
    · show RowR Y.trow 1 (ptrV Y.tps) w _
      rw [htr, htp]; exact RowR.nil _ _ _ _
    · rename_i k
      show CenR Y.cps[k]? A.tb[k]? A.cen[k]? w _
      rw [hcp]; exact trivial
    · exact hT0 _ _ _
  have q1 := Prt.put hCf q0 .tab (G := fun b => a1 ≤ b ∧ b < b1) (fun b hb hf => hf) p1
  have q2 := Prt.put hCf q1 .free (G := fun b => a2 ≤ b ∧ b < b2) (fun b hb hf => by
    rcases hf with hf | hf
    · exact hf
    · exact ivd d12 hf hb) p2
  have q3 := Prt.put hCf q2 .trk (G := fun b => a3 ≤ b ∧ b < b3) (fun b hb hf => by
    rcases hf with (hf | hf) | hf
    · exact hf
    · exact ivd d13 hf hb
    · exact ivd d23 hf hb) p3
  have q4 := Prt.put hCf q3 .own (G := fun b => a4 ≤ b ∧ b < b4) (fun b hb hf => by
    rcases hf with ((hf | hf) | hf) | hf
    · exact hf
    · exact ivd d14 hf hb
    · exact ivd d24 hf hb
    · exact ivd d34 hf hb) p4
  have q5 := Prt.put hCf q4 .runs (G := fun b => b = Y.rn) (fun b hb hf => by
    subst hb
    rcases hf with (((hf | hf) | hf) | hf) | hf
    · exact hf
    · exact ivp e1 hf
    · exact ivp e2 hf
    · exact ivp e3 hf
    · exact ivp e4 hf) ⟨rfl, p5⟩
  have q6 := Prt.put hCf q5 .hd (G := fun b => b = Y.p) (fun b hb hf => by
    subst hb
    rcases hf with ((((hf | hf) | hf) | hf) | hf) | hf
    · exact hf
    · exact ivp f1 hf
    · exact ivp f2 hf
    · exact ivp f3 hf
    · exact ivp f4 hf
    · exact g hf.symm) ⟨rfl, p6⟩
  clear d12 d13 d14 d23 d24 d34 e1 e2 e3 e4 f1 f2 f3 f4
  refine (Sep.loc hCf).mono (Prt.all q6 fun i => ?_) fun b _ hf => ?_
  · cases i <;> simp [S0]
  · rcases hf with (((((hf | hf) | hf) | hf) | hf) | hf) | hf
    · exact hf.elim
    · omega
    · omega
    · omega
    · omega
    · rw [hf]; exact hz.2.2.2.2.1
    · rw [hf]; exact hz.2.2.2.2.2

theorem runI_filter (l : List (Nat × Nat)) (x : Nat) : (runI l).filter (fun y => !(y.1 == (x : Int))) = runI (l.filter fun r => !(r.1 == x)) := by
  unfold runI
  rw [List.filter_map]
  congr 1
  apply List.filter_congr
  intro r _
  simp only [Function.comp_def]
  rw [beqN]
theorem perm_del : ∀ {l : List (Nat × Nat)} {r : Nat × Nat}, (l.map (·.1)).Nodup → r ∈ l → l.Perm (r :: l.filter fun y => !(y.1 == r.1))
  | [], _, _, h => by simp at h
  | y :: l, r, hn, h => by
    simp only [List.map_cons, List.nodup_cons] at hn
    rcases List.mem_cons.1 h with h1 | h1
    · subst h1
      have : l.filter (fun z => !(z.1 == r.1)) = l := by
        rw [List.filter_eq_self]
        intro z hz
        have : z.1 ≠ r.1 := fun e => hn.1 (List.mem_map.2 ⟨z, hz, e⟩)
        simpa using this
      rw [List.filter_cons_of_neg (by simp), this]
    · have hne : y.1 ≠ r.1 := fun e => hn.1 (List.mem_map.2 ⟨_, h1, e.symm⟩)
      rw [List.filter_cons_of_pos (by simpa using hne)]
      exact ((perm_del hn.2 h1).cons y).trans (List.Perm.swap _ _ _)

end Go.Ar

-- ArS
namespace Go.Ar
open Go Go.Vc Go.Proofs
open Go.Bu (runOk giveS takeAt cnt)
set_option linter.unusedSimpArgs false
set_option linter.unusedVariables false

variable {σ : Hp} {F H : Rg} {p hs : Nat} {A : AR} {sp : Sp} {Y : Lay} {T : Nat → Hp → Rg → Prop}

def cloneP (A : AR) (rs : List (Nat × Nat)) (i : Nat) : AR := { A with cen := A.cen.take i, tra := A.tra.take i, runs := rs }
theorem cloneP_succ {i : Nat} {ss : List SpA} {t : TrA} (h1 : A.cen[i]? = some ss) (h2 : A.tra[i]? = some t) (rs : List (Nat × Nat)) : ({ cloneP A rs i with cen := (cloneP A rs i).cen ++ [ss], tra := (cloneP A rs i).tra ++ [t] } : AR) = cloneP A rs (i + 1) := by
  unfold cloneP
  rw [List.take_add_one, List.take_add_one, h1, h2]; rfl
theorem cloneP_all {i : Nat} (h1 : A.cen.length = i) (h2 : A.tra.length = i) (rs : List (Nat × Nat)) : cloneP A rs i = { A with runs := rs } := by
  unfold cloneP
  rw [List.take_of_length_le (by omega), List.take_of_length_le (by omega)]
theorem tabClS_ok {s : Sl} {tb : List Cls} (h : SlR s 3 (tabV tb) σ F) (hl : tb.length ≤ 40) {R : Sl → Hp → Prop} (hR : ∀ s' σ', Ext0 σ σ' → SlR s' 3 (tabV tb) σ' (fun b => σ.size ≤ b) → R s' σ') : slices_Clone_api_Class_api_Class.call s σ R := by
  refine slices_Clone_api_Class_api_Class.of_vc ?_
  unfold slices_Clone_api_Class_api_Class.vc
  have hlen := h.1
  rw [tabV_len] at hlen
  exact clone_vc h (by decide) rfl tabV_one (by decide) (by omega) fun s' σ' _ e hr => hR s' σ' e hr.slR
/-- The runs go over, one by one. -/
theorem ch_runs {cs : List Value} (hT : ∀ k, Lcl (T k)) (h : Sep (ACh A Y T cs) σ F) : F Y.rn ∧ MapL σ Y.rn .i64 (.i .i64) (runI A.runs) ∧ ∀ (σ' : Hp) (rs : List (Nat × Nat)), OnlyB σ σ' Y.rn → MapL σ' Y.rn .i64 (.i .i64) (runI rs) → Sep (ACh { A with runs := rs } Y T cs) σ' F := by
  obtain ⟨G, hG, ⟨gr, hm⟩, _, hput⟩ := h.stepD (ACh.loc hT) .runs
  refine ⟨hG _ gr, hm, fun σ' rs ho h' => ?_⟩
  refine (Sep.loc (ACh.loc hT)).mono (hput σ' (ACh { A with runs := rs } Y T cs) G (fun j hj => ?_) (ho.ext.sub fun b hb => by subst hb; exact gr) (fun b hb => .inl hb) ⟨gr, h'⟩ (ACh.loc hT _)) fun b _ hb => same_of hG (fun b hb => hb) b hb
  cases j <;> first | rfl | exact absurd rfl hj

theorem AClone_ok (h : AHY σ F Y A (traT A Y)) (hS : SpH3 σ H Y.hs sp) {hs2 : Nat} {H2 : Rg} {sp2 : Sp} (hS2 : SpH3 σ H2 hs2 sp2) {R : Option Addr → Hp → Prop} (h0 : sp2.st.length ≠ sp.st.length → R none σ)
    (h1 : sp2.st.length = sp.st.length → ∀ σ' Yn rs, Ext0 σ σ' → Yn.hs = hs2 → rs.Perm A.runs → AHY σ' (fun b => σ.size ≤ b) Yn { A with runs := rs } (traT { A with runs := rs } Yn) → R (some ⟨Yn.p, 0, none⟩) σ') :
    arena_Arena_Clone.call (some ⟨Y.p, 0, none⟩) (some ⟨hs2, 0, none⟩) σ R := by
  refine arena_Arena_Clone.of_vc ?_
  unfold arena_Arena_Clone.vc
  have ht2 := h.lay.tb2
  refine ⟨fun (t : Bool) w => w = σ ∧ (t = true ↔ sp2.st.length ≠ sp.st.length), ?_, ?_⟩
  rotate_left
  · have hne : ((((sp2.st.length : Nat) : Int) != ((sp.st.length : Nat) : Int)) = true ↔ sp2.st.length ≠ sp.st.length) := by rw [bneN]; simp
    refine amade_ok h (ifF rfl (nilP ⟨Pages_ok hS2 (h.hd.rP rfl (Pages_ok hS ⟨rfl, hne⟩)), h.hd.rP rfl (Pages_ok hS2 (Pages_ok hS ⟨rfl, hne⟩))⟩))
  rintro t w ⟨rfl, ht⟩
  refine iff_ (fun hc => h0 (ht.1 hc)) fun hc => ?_
  have heq : sp2.st.length = sp.st.length := Classical.byContradiction fun hn => by rw [ht.2 hn] at hc; cases hc
  have h1 := h1 heq
  refine ⟨fun (vx : Option Addr) v => ∃ Yn : Lay, vx = some ⟨Yn.p, 0, none⟩ ∧ Yn.hs = hs2 ∧ Yn.cps = [] ∧ Yn.tps = [] ∧ Ext0 w v ∧ Sep (ACh (cloneP A [] 0) Yn (traT (cloneP A [] 0) Yn) (hdV Yn)) v (fun b => w.size ≤ b), ?_, ?_⟩
  · -- the lists, and the runs
    rintro vx v ⟨Y1, rfl, hYh, hYc, hYt, ev, hsep0⟩
    have hv0 := h.keep0 ev
    refine nilP (hv0.hd.rS rfl ?_)
    have hcl := h.crowL
    refine loop1 (a := .i .i64) (fun (t : Int) u => ∃ (i : Nat) (Yn : Lay), t = (i : Int) ∧ i ≤ A.tb.length ∧ Yn.p = Y1.p ∧ Yn.hs = hs2 ∧ Yn.cps.length = i ∧ Yn.tps.length = i ∧ Ext0 w u ∧ Sep (ACh (cloneP A [] i) Yn (traT (cloneP A [] i) Yn) (hdV Yn)) u (fun b => w.size ≤ b)) (fun t _ => A.tb.length - t.toNat)
      ⟨0, Y1, rfl, by omega, rfl, hYh, by rw [hYc]; rfl, by rw [hYt]; rfl, ev, hsep0⟩ ?_
    rintro t u ⟨i, Yn, rfl, hi, hYp, hYh2, hYc2, hYt2, eu, hsep⟩
    have hu := h.keep0 eu
    have sw := eu.1
    refine ifD (fun hlt => ?_) fun hge => ?_
    · have hi' : i < A.tb.length := by simp only at hlt; omega
      obtain ⟨c, ss, q, t, r, hc, hss, hq, ht, hr, hok⟩ := h.at_ hi'
      refine hu.crowR hq ?_
      obtain ⟨Gc, psc, hGc, hC⟩ := hu.cen hq hc hss
      obtain ⟨Gt, hGt, hTf⟩ := hu.tra hr hc ht
      -- the pointer to the cache, in any later memory
      obtain ⟨Gr, hGr, hrow⟩ := h.sep.get .trow
      have hrow : RowR Y.trow 1 (ptrV Y.tps) w Gr := hrow
      obtain ⟨rb, ro, hra, hrc⟩ := hrow.slR.cell (j := i) (v := .pointer (some ⟨r, 0, none⟩)) (by simp [ptrV, hr])
      have hrlt := cell_lt' hrc
      have htl := h.trowL
      rw [← hYp]
      have hT : ∀ k, Lcl (traT (cloneP A [] i) Yn k) := fun k => traT.loc k
      have hcut := chcut hT hsep
      have hCuo : ∀ {m : Hp}, Ext (fun b => w.size ≤ b) w m → Blk m Y.p (hdV Y) := fun e => e.blk h.hd (by have := h.hd.lt; omega)
      refine ⟨fun m => Blk m Yn.p (hdV Yn) ∧ Ext (fun b => w.size ≤ b) w m, ⟨(hdCh hsep).1, Ext0.to eu⟩, nilP ⟨Yn.crow, fun m hm => by rw [add_lit, hm.1.cell]; rfl, nilP ⟨Yn.trow, fun m hm => by rw [add_lit, hm.1.cell]; rfl, nilP ⟨Y.trow, fun m hm => by rw [add_lit, (hCuo hm.2).cell]; rfl, ?_⟩⟩⟩⟩
      show Ix Y.trow.a Y.trow.len (i : Int) 1 _
      rw [hra]
      refine ix (by omega) (by omega) ⟨some ⟨r, 0, none⟩, fun m hm => ?_, ?_⟩
      · rw [add_lit, show ro + (i : Int).toNat * 1 = ro + i by omega, cell_ext hm.2 hrlt (by omega)]; exact hrc
      refine CClone_ok hC fun v3 cp psc' e3 hcp hC3 => ?_
      have h3 := chs hT hcut e3
      have x3 : Ext (fun b => w.size ≤ b) w v3 := Ext0.to (Ext.trans eu e3)
      refine ⟨⟨(hdCh h3).1, x3⟩, nw (cs := [.pointer (some ⟨cp, 0, none⟩)]) fun v4 z4 e4 b4 => ?_⟩
      have h4 := chs hT h3 e4
      have s3 := e3.1
      have x4 : Ext (fun b => w.size ≤ b) w v4 := x3.trans (Ext0.to e4)
      refine ⟨⟨(hdCh h4).1, x4⟩, app_crow hT h4 (by rw [hYc2]; unfold cloneP; simp; omega) (by omega) b4 (fun hf => by have := hf.2; omega) fun s1 v5 e5 h5 => ?_⟩
      have h5' : Sep (ACh (cloneP A [] i) { Yn with crow := s1, cps := Yn.cps ++ [cp] } (traT (cloneP A [] i) { Yn with crow := s1, cps := Yn.cps ++ [cp] }) (hdV Yn)) v5 (Grow (Cut (fun b => w.size ≤ b) u) v4) := h5
      have c5 := chcut (fun k => traT.loc k) h5'
      have x5 : Ext (fun b => w.size ≤ b) w v5 := x4.trans (e5.sub fun b hb => hb.1)
      have s5 := e5.1
      refine ⟨⟨(hdCh h5').1, x5⟩, ?_⟩
      have hTf5 := (TfH.loc (p := r) (batch := c.batch) (room := A.room) (t := t)).keep ((TfH.loc (p := r) (batch := c.batch) (room := A.room) (t := t)).cut (h.tra hr hc ht).choose_spec.2) x5 fun b hb hf hx => by have := hf.2; omega
      refine FClone_ok hTf5 fun v6 tp e6 htp hT6 => ?_
      have h6 := chs (fun k => traT.loc k) c5 e6
      have x6 := x5.trans (Ext0.to e6)
      have s6 := e6.1
      refine ⟨⟨(hdCh h6).1, x6⟩, nw (cs := [.pointer (some ⟨tp, 0, none⟩)]) fun v7 z7 e7 b7 => ?_⟩
      have h7 := chs (fun k => traT.loc k) h6 e7
      have x7 := x6.trans (Ext0.to e7)
      refine ⟨⟨(hdCh h7).1, x7⟩, app_trow h7 (by simp only; rw [hYt2]; unfold cloneP; simp; omega) (by simp only; omega) b7 (fun hf => by have := hf.2; omega) fun s2 v8 e8 h8 => ?_⟩
      have x8 := x7.trans (e8.sub fun b (hb : Cut (Grow (Cut (fun b => w.size ≤ b) u) v4) v5 b) => show w.size ≤ b from by
        rcases hb.1 with h | h
        · exact h.1
        · omega)
      refine ⟨⟨(hdCh h8).1, x8⟩, ?_⟩
      -- where the new ones lie
      have kC := (CeH.loc (c := c) (ps := psc') (ss := ss) (p := cp)).keep (iv_cut (CeH.loc (c := c) (ps := psc') (ss := ss) (p := cp)) hC3) ((((Ext0.to e4 : Ext (Cut (fun b => w.size ≤ b) u) v3 v4).trans e5).trans (Ext0.to e6)).trans (Ext0.to e7)) fun b _ hb hf => by have := hf.2; omega
      have kC8 := (CeH.loc (c := c) (ps := psc') (ss := ss) (p := cp)).keep kC e8 fun b _ hb hf => by
        rcases hf.1 with h | h
        · have := h.2; omega
        · omega
      have kT := (TfH.loc (p := tp) (batch := c.batch) (room := A.room) (t := t)).keep ((TfH.loc (p := tp) (batch := c.batch) (room := A.room) (t := t)).keep0 (iv_cut (TfH.loc (p := tp) (batch := c.batch) (room := A.room) (t := t)) hT6) e7) e8 fun b _ hb hf => by have := hf.2; omega
      have e8z := e8.1
      refine two_rows (i := i) (F := Grow (Cut (Grow (Cut (fun b => w.size ≤ b) u) v4) v5) v7) ⟨hYc2, hYt2⟩ h8 (by unfold cloneP; rw [List.length_take]; have := h.lay.cen; omega) (by unfold cloneP; rw [List.length_take]; have := h.lay.tra; omega) hc kC8 kT (fun b hb hf => ?_) (fun b hb hf => ?_) (fun b hb hb2 => by omega) fun u2 Y' e9 y1 y2 y3 y4 h9 => ?_
      · rcases hf with hf | hf
        · rcases hf.1 with h | h
          · have := h.2; omega
          · omega
        · omega
      · rcases hf with hf | hf
        · have := hf.2; omega
        · omega
      · rw [cloneP_succ hss ht] at h9
        have x9 : Ext (fun b => w.size ≤ b) w u2 := x8.trans (e9.sub fun b hb => show w.size ≤ b from by
          rcases hb with hb | hb
          · rcases hb.1 with h | h
            · exact h.1
            · omega
          · omega)
        refine arN (m := i + 1) (by omega) (by omega) ⟨⟨i + 1, Y', rfl, by omega, y1, y2.trans hYh2, y3, y4, Ext.fresh (Ext.refl _ _) x9 fun b hb => hb, (Sep.loc (ACh.loc fun k => traT.loc k)).mono h9 fun b _ hb => ?_⟩, by omega⟩
        rcases hb with (hb | hb) | hb
        · rcases hb with hb | hb
          · rcases hb.1 with h | h
            · exact h.1
            · omega
          · omega
        · omega
        · omega
    · have hii : i = A.tb.length := by simp only at hge; omega
      subst hii
      rw [cloneP_all h.lay.cen h.lay.tra] at hsep
      obtain ⟨_, hm, _⟩ := hu.runsS
      rw [← hYp]
      refine nilP (hu.hd.rM rfl (rng0 (c := .i .i64) hm (fun todo x => ∃ rs td, todo = runI td ∧ (rs ++ td).Perm A.runs ∧ Ext0 w x ∧ u.size ≤ x.size ∧ Sep (ACh { A with runs := rs } Yn (traT { A with runs := rs } Yn) (hdV Yn)) x (Cut (fun b => w.size ≤ b) u)) (fun x hz ex => ⟨[], A.runs, rfl, List.Perm.refl _, Ext.trans eu ex, ex.1, chs (fun k => traT.loc k) (chcut (fun k => traT.loc k) hsep) ex⟩) (fun x hx => ?_) ?_))
      · obtain ⟨rs, td, htd, hperm, ex, _, hs2⟩ := hx
        have : td = [] := by
          cases td with
          | nil => rfl
          | cons a l => simp [runI] at htd
        subst this
        rw [List.append_nil] at hperm
        rw [ACh_hd] at hs2
        refine h1 x Yn rs ex hYh2 hperm ⟨⟨hYc2, hYt2, h.lay.cen, h.lay.tra, h.lay.tb1, h.lay.tb2, h.lay.n1, h.lay.n2, h.lay.n3, h.lay.st, h.lay.room, h.lay.ok⟩, fun k => traT.loc k, (Sep.loc (AC.loc fun k => traT.loc k)).mono hs2 fun b _ hb => hb.1⟩
      · rintro todo n (m : Int) x x' J ⟨rs, td, rfl, hperm, ex, hux, hs2⟩ hx ho hlt hJ
        obtain ⟨rr, hrr, hre⟩ := List.mem_map.1 hx
        cases hre
        have hs3 := (Sep.loc (ACh.loc (fun k => traT.loc k))).keep hs2 ho.ext fun b _ hb hf => by have := hb.2; omega
        obtain ⟨gr, hmn, hput⟩ := ch_runs (fun k => traT.loc k) hs3
        have hb3 := (hdCh hs3).1
        refine nilP (hb3.rM rfl ⟨Yn.rn, _, rfl, hmn, fun x2 o2 hm2 => ?_⟩)
        have hm2' : MapL x2 Yn.rn .i64 (.i .i64) (mset (runI rs) (rr.1 : Int) (rr.2 : Int)) := hm2
        have hnd : (A.runs.map (·.1)).Nodup := by
          have := hm.nodup
          unfold runI at this
          rw [List.map_map] at this
          exact (List.pairwise_map.1 this |>.imp fun {a b} hab heq => hab (by simp only [Function.comp_def]; omega)) |> List.pairwise_map.2
        have hnd2 : ((rs ++ td).map (·.1)).Nodup := (hperm.map _).nodup_iff.2 hnd
        rw [List.map_append, List.nodup_append] at hnd2
        have hnew : takeAS.mset2 rs rr.1 rr.2 = rs ++ [rr] := by
          unfold takeAS.mset2
          rw [if_neg]
          rw [Bool.not_eq_true, List.any_eq_false]
          intro y hy hyr
          have : y.1 = rr.1 := by simpa using hyr
          exact hnd2.2.2 _ (List.mem_map.2 ⟨y, hy, rfl⟩) _ (List.mem_map.2 ⟨rr, hrr, rfl⟩) this
        rw [runI_set, hnew] at hm2'
        have hs4 := hput x2 _ o2 hm2'
        have gr2 := gr.2
        have gr1 := gr.1
        refine hJ x2 (o2.2 _ (by omega)) (o2.2 _ (by have := h.runsS.2.1.lt; intro e; omega)) ⟨rs ++ [rr], td.filter fun y => !(y.1 == rr.1), runI_filter td rr.1, ?_, Ext.fresh (Ext.fresh ex ho.ext fun b hb => by omega) o2.ext fun b hb => by subst hb; exact gr1, by rw [o2.1, ho.1]; exact hux, hs4⟩
        rw [List.append_assoc]
        exact ((perm_del hnd2.2.1 hrr).symm.append_left rs).trans hperm
  · -- the parts without lists
    refine ⟨fun m => Ext0 w m, Ext.refl _ _, nilP (h.hdH (c := .s) (x := Y.tab) rfl (nilP (h.hdH (c := .p) (x := some ⟨Y.fr, 0, none⟩) rfl (nilP (h.hdH (c := .p) (x := some ⟨Y.tr, 0, none⟩) rfl (nilP (h.hdH (c := .p) (x := some ⟨Y.op, 0, none⟩) rfl ?_)))))))⟩
    have fin : ∀ (u : Hp) (tab : Sl) (fr tp op rn a1 b1 a2 b2 a3 b3 a4 b4 : Nat), Ext0 w u → SlR tab 3 (tabV A.tb) u (fun b => a1 ≤ b ∧ b < b1) → FreeR fr A.n A.S u (fun b => a2 ≤ b ∧ b < b2) → TrkR tp A.st u (fun b => a3 ≤ b ∧ b < b3) → PmH u (fun b => a4 ≤ b ∧ b < b4) op A.ow → MapL u rn .i64 (.i .i64) [] →
        (w.size ≤ a1 ∧ w.size ≤ a2 ∧ w.size ≤ a3 ∧ w.size ≤ a4 ∧ w.size ≤ rn) → (b1 ≤ a2 ∨ b2 ≤ a1) → (b1 ≤ a3 ∨ b3 ≤ a1) → (b1 ≤ a4 ∨ b4 ≤ a1) → (b2 ≤ a3 ∨ b3 ≤ a2) → (b2 ≤ a4 ∨ b4 ≤ a2) → (b3 ≤ a4 ∨ b4 ≤ a3) → (rn < a1 ∨ b1 ≤ rn) → (rn < a2 ∨ b2 ≤ rn) → (rn < a3 ∨ b3 ≤ rn) → (rn < a4 ∨ b4 ≤ rn) → (b1 ≤ u.size ∧ b2 ≤ u.size ∧ b3 ≤ u.size ∧ b4 ≤ u.size) →
        Nw (.cells #[.slice tab.a tab.len tab.cap, .pointer (some ⟨hs2, 0, none⟩), .pointer (some ⟨fr, 0, none⟩), .pointer (some ⟨tp, 0, none⟩), .pointer (some ⟨op, 0, none⟩), .slice none 0 0, .slice none 0 0, .map (some rn)] 76 (0, 0)) u fun n v20 => And (Ext0 w v20) <|
          ∃ Yn : Lay, some n = some ⟨Yn.p, 0, none⟩ ∧ Yn.hs = hs2 ∧ Yn.cps = [] ∧ Yn.tps = [] ∧ Ext0 w v20 ∧ Sep (ACh (cloneP A [] 0) Yn (traT (cloneP A [] 0) Yn) (hdV Yn)) v20 (fun b => w.size ≤ b) := by
      intro u tab fr tp op rn a1 b1 a2 b2 a3 b3 a4 b4 eu p1 p2 p3 p4 p5 hz d12 d13 d14 d23 d24 d34 e1 e2 e3 e4 hu
      refine nw (cs := [.slice tab.a tab.len tab.cap, .pointer (some ⟨hs2, 0, none⟩), .pointer (some ⟨fr, 0, none⟩), .pointer (some ⟨tp, 0, none⟩), .pointer (some ⟨op, 0, none⟩), .slice none 0 0, .slice none 0 0, .map (some rn)]) fun v20 z20 e20 b20 => ⟨Ext.trans eu e20, ?_⟩
      have hrn := p5.lt
      have sw := eu.1
      refine ⟨{ p := u.size, hs := hs2, fr := fr, tr := tp, op := op, rn := rn, tab := tab, crow := ⟨none, 0, 0⟩, trow := ⟨none, 0, 0⟩, cps := [], tps := [] }, rfl, rfl, rfl, rfl, Ext.trans eu e20, ?_⟩
      refine assemble (A := cloneP A [] 0) (Y := { p := u.size, hs := hs2, fr := fr, tr := tp, op := op, rn := rn, tab := tab, crow := ⟨none, 0, 0⟩, trow := ⟨none, 0, 0⟩, cps := [], tps := [] }) (fun k => traT.loc k) (by simp [cloneP]) rfl rfl rfl rfl (fun k σ F => trivial) ((SlR.loc _ _ _).keep0 p1 e20) ((FreeR.loc _ _ _).keep0 p2 e20) ((TrkR.loc _ _).keep0 p3 e20) ((PmH.loc (p := op) (ow := A.ow)).keep0 p4 e20) (e20.mapL p5 id) b20 ⟨hz.1, hz.2.1, hz.2.2.1, hz.2.2.2.1, hz.2.2.2.2, sw⟩ d12 d13 d14 d23 d24 d34 e1 e2 e3 e4 (.inr hu.1) (.inr hu.2.1) (.inr hu.2.2.1) (.inr hu.2.2.2) (by simp only; omega)
    have tabAt : ∀ {m : Hp}, Ext0 w m → ∃ G : Rg, SlR Y.tab 3 (tabV A.tb) m G := fun e => by
      obtain ⟨G, _, hb⟩ := (h.keep0 e).sep.get .tab
      exact ⟨G, hb⟩
    have frAt : ∀ {m : Hp}, Ext0 w m → ∃ sb ms, Go.Bu.BH m Y.fr A.n A.S sb ms := fun e => by
      obtain ⟨sb, ms, hB, _⟩ := (h.keep0 e).free
      exact ⟨sb, ms, hB⟩
    have trAt : ∀ {m : Hp}, Ext0 w m → ∃ q, TrH m Y.tr q A.st := fun e => by
      obtain ⟨_, _, q, hT, _⟩ := (h.keep0 e).trk
      exact ⟨q, hT⟩
    have opAt : ∀ {m : Hp}, Ext0 w m → ∃ G, PmH m G Y.op A.ow := fun e => by
      obtain ⟨G, _, hP⟩ := (h.keep0 e).sep.get .own
      exact ⟨G, hP⟩
    have kS := fun (s : Sl) => SlR.loc s 3 (tabV A.tb)
    have kF := fun (p : Nat) => FreeR.loc p A.n A.S
    have kT := fun (p : Nat) => TrkR.loc p A.st
    have kP := fun (p : Nat) => PmH.loc (p := p) (ow := A.ow)
    refine ⟨?_, ?_⟩
    · obtain ⟨_, ht_⟩ := tabAt (Ext.refl _ _)
      refine tabClS_ok ht_ ht2 fun tab v1 e1 pT => ⟨e1, ?_, ?_⟩
      · obtain ⟨_, _, hB_⟩ := frAt e1
        refine Go.Bu.Clone_ok hB_ fun v2 sb_ ms_ e2 hB2 hf2 => ⟨(Ext.trans e1 e2), ?_, ?_⟩
        · obtain ⟨_, hT_⟩ := trAt (Ext.trans e1 e2)
          refine TClone_ok hT_ fun v3 tp tq e3 hq1 hq2 hT3 => ⟨(Ext.trans (Ext.trans e1 e2) e3), ?_, ?_⟩
          · obtain ⟨_, hP_⟩ := opAt (Ext.trans (Ext.trans e1 e2) e3)
            refine PClone_ok hP_ fun v4 op e4 hop hP4 => ⟨(Ext.trans (Ext.trans (Ext.trans e1 e2) e3) e4), ?_⟩
            refine nwMap fun v5 z5 e5 hm => ⟨(Ext.trans (Ext.trans (Ext.trans (Ext.trans e1 e2) e3) e4) e5), ?_⟩
            have s1 := e1.1
            have s2 := e2.1
            have s3 := e3.1
            have s4 := e4.1
            have s5 := e5.1
            exact fin v5 tab v1.size tp op v4.size w.size v1.size v1.size v2.size v2.size v3.size v3.size v4.size (Ext.trans (Ext.trans (Ext.trans (Ext.trans e1 e2) e3) e4) e5) ((kS tab).keep0 (iv_cut (kS tab) pT) (Ext.trans (Ext.trans (Ext.trans e2 e3) e4) e5)) ((kF _).keep0 (iv_cut (kF _) ⟨_, _, hB2, hf2⟩) (Ext.trans (Ext.trans e3 e4) e5)) ((kT tp).keep0 (iv_cut (kT tp) ⟨_, hT3, hq1, hq2⟩) (Ext.trans e4 e5)) ((kP op).keep0 (iv_cut (kP op) hP4) e5) (hm _ _) (by omega) (by omega) (by omega) (by omega) (by omega) (by omega) (by omega) (by omega) (by omega) (by omega) (by omega) (by omega)
          · refine nwMap fun v4 z4 e4 hm => ⟨(Ext.trans (Ext.trans (Ext.trans e1 e2) e3) e4), ?_⟩
            obtain ⟨_, hP_⟩ := opAt (Ext.trans (Ext.trans (Ext.trans e1 e2) e3) e4)
            refine PClone_ok hP_ fun v5 op e5 hop hP4 => ⟨(Ext.trans (Ext.trans (Ext.trans (Ext.trans e1 e2) e3) e4) e5), ?_⟩
            have s1 := e1.1
            have s2 := e2.1
            have s3 := e3.1
            have s4 := e4.1
            have s5 := e5.1
            exact fin v5 tab v1.size tp op v3.size w.size v1.size v1.size v2.size v2.size v3.size v4.size v5.size (Ext.trans (Ext.trans (Ext.trans (Ext.trans e1 e2) e3) e4) e5) ((kS tab).keep0 (iv_cut (kS tab) pT) (Ext.trans (Ext.trans (Ext.trans e2 e3) e4) e5)) ((kF _).keep0 (iv_cut (kF _) ⟨_, _, hB2, hf2⟩) (Ext.trans (Ext.trans e3 e4) e5)) ((kT tp).keep0 (iv_cut (kT tp) ⟨_, hT3, hq1, hq2⟩) (Ext.trans e4 e5)) (iv_cut (kP op) hP4) (Ext.mapL e5 (hm _ _) id) (by omega) (by omega) (by omega) (by omega) (by omega) (by omega) (by omega) (by omega) (by omega) (by omega) (by omega) (by omega)
        · refine nwMap fun v3 z3 e3 hm => ⟨(Ext.trans (Ext.trans e1 e2) e3), ?_⟩
          obtain ⟨_, hT_⟩ := trAt (Ext.trans (Ext.trans e1 e2) e3)
          refine TClone_ok hT_ fun v4 tp tq e4 hq1 hq2 hT3 => ⟨(Ext.trans (Ext.trans (Ext.trans e1 e2) e3) e4), ?_⟩
          obtain ⟨_, hP_⟩ := opAt (Ext.trans (Ext.trans (Ext.trans e1 e2) e3) e4)
          refine PClone_ok hP_ fun v5 op e5 hop hP4 => ⟨(Ext.trans (Ext.trans (Ext.trans (Ext.trans e1 e2) e3) e4) e5), ?_⟩
          have s1 := e1.1
          have s2 := e2.1
          have s3 := e3.1
          have s4 := e4.1
          have s5 := e5.1
          exact fin v5 tab v1.size tp op v2.size w.size v1.size v1.size v2.size v3.size v4.size v4.size v5.size (Ext.trans (Ext.trans (Ext.trans (Ext.trans e1 e2) e3) e4) e5) ((kS tab).keep0 (iv_cut (kS tab) pT) (Ext.trans (Ext.trans (Ext.trans e2 e3) e4) e5)) ((kF _).keep0 (iv_cut (kF _) ⟨_, _, hB2, hf2⟩) (Ext.trans (Ext.trans e3 e4) e5)) ((kT tp).keep0 (iv_cut (kT tp) ⟨_, hT3, hq1, hq2⟩) e5) (iv_cut (kP op) hP4) (Ext.mapL (Ext.trans e4 e5) (hm _ _) id) (by omega) (by omega) (by omega) (by omega) (by omega) (by omega) (by omega) (by omega) (by omega) (by omega) (by omega) (by omega)
      · refine nwMap fun v2 z2 e2 hm => ⟨(Ext.trans e1 e2), ?_⟩
        obtain ⟨_, _, hB_⟩ := frAt (Ext.trans e1 e2)
        refine Go.Bu.Clone_ok hB_ fun v3 sb_ ms_ e3 hB2 hf2 => ⟨(Ext.trans (Ext.trans e1 e2) e3), ?_⟩
        obtain ⟨_, hT_⟩ := trAt (Ext.trans (Ext.trans e1 e2) e3)
        refine TClone_ok hT_ fun v4 tp tq e4 hq1 hq2 hT3 => ⟨(Ext.trans (Ext.trans (Ext.trans e1 e2) e3) e4), ?_⟩
        obtain ⟨_, hP_⟩ := opAt (Ext.trans (Ext.trans (Ext.trans e1 e2) e3) e4)
        refine PClone_ok hP_ fun v5 op e5 hop hP4 => ⟨(Ext.trans (Ext.trans (Ext.trans (Ext.trans e1 e2) e3) e4) e5), ?_⟩
        have s1 := e1.1
        have s2 := e2.1
        have s3 := e3.1
        have s4 := e4.1
        have s5 := e5.1
        exact fin v5 tab v2.size tp op v1.size w.size v1.size v2.size v3.size v3.size v4.size v4.size v5.size (Ext.trans (Ext.trans (Ext.trans (Ext.trans e1 e2) e3) e4) e5) ((kS tab).keep0 (iv_cut (kS tab) pT) (Ext.trans (Ext.trans (Ext.trans e2 e3) e4) e5)) ((kF _).keep0 (iv_cut (kF _) ⟨_, _, hB2, hf2⟩) (Ext.trans e4 e5)) ((kT tp).keep0 (iv_cut (kT tp) ⟨_, hT3, hq1, hq2⟩) e5) (iv_cut (kP op) hP4) (Ext.mapL (Ext.trans (Ext.trans e3 e4) e5) (hm _ _) id) (by omega) (by omega) (by omega) (by omega) (by omega) (by omega) (by omega) (by omega) (by omega) (by omega) (by omega) (by omega)
    · refine nwMap fun v1 z1 e1 hm => ⟨e1, ?_⟩
      obtain ⟨_, ht_⟩ := tabAt e1
      refine tabClS_ok ht_ ht2 fun tab v2 e2 pT => ⟨(Ext.trans e1 e2), ?_⟩
      obtain ⟨_, _, hB_⟩ := frAt (Ext.trans e1 e2)
      refine Go.Bu.Clone_ok hB_ fun v3 sb_ ms_ e3 hB2 hf2 => ⟨(Ext.trans (Ext.trans e1 e2) e3), ?_⟩
      obtain ⟨_, hT_⟩ := trAt (Ext.trans (Ext.trans e1 e2) e3)
      refine TClone_ok hT_ fun v4 tp tq e4 hq1 hq2 hT3 => ⟨(Ext.trans (Ext.trans (Ext.trans e1 e2) e3) e4), ?_⟩
      obtain ⟨_, hP_⟩ := opAt (Ext.trans (Ext.trans (Ext.trans e1 e2) e3) e4)
      refine PClone_ok hP_ fun v5 op e5 hop hP4 => ⟨(Ext.trans (Ext.trans (Ext.trans (Ext.trans e1 e2) e3) e4) e5), ?_⟩
      have s1 := e1.1
      have s2 := e2.1
      have s3 := e3.1
      have s4 := e4.1
      have s5 := e5.1
      exact fin v5 tab v2.size tp op w.size v1.size v2.size v2.size v3.size v3.size v4.size v4.size v5.size (Ext.trans (Ext.trans (Ext.trans (Ext.trans e1 e2) e3) e4) e5) ((kS tab).keep0 (iv_cut (kS tab) pT) (Ext.trans (Ext.trans e3 e4) e5)) ((kF _).keep0 (iv_cut (kF _) ⟨_, _, hB2, hf2⟩) (Ext.trans e4 e5)) ((kT tp).keep0 (iv_cut (kT tp) ⟨_, hT3, hq1, hq2⟩) e5) (iv_cut (kP op) hP4) (Ext.mapL (Ext.trans (Ext.trans (Ext.trans e2 e3) e4) e5) (hm _ _) id) (by omega) (by omega) (by omega) (by omega) (by omega) (by omega) (by omega) (by omega) (by omega) (by omega) (by omega) (by omega)

end Go.Ar

-- Glaw10
namespace Go.Proofs
open Go.Vc
set_option linter.unusedVariables false
set_option maxRecDepth 100000
def freeholdlaw10_great.hint : Hn := .seq (.o 1) (.seq (.seq (.o 1) (.block (.loop [(3, .one (.i .i64))] (.seq (.seq (.o 4) (.cond (.leaf) (.leaf))) (.seq (.block (.seq (.o 7) (.cond (.seq (.o 1) (.leaf)) (.leaf)))) (.o 3)))))) (.seq (.o 4) (.leaf)))
def freeholdlaw10_great.vc (l : Sl) (σ : Hp) (R : Bool → Hp → Prop) : Prop :=
 LoopK [(.i .i64)] (fun I => I 0 σ) fun J (i : Int) v =>
 If (decide (i < ((l.len : Nat) : Int))) (Ix l.a l.len i 6 fun a12 =>
  LdS (a12.add 5) v fun t14 =>
  If (decide (((t14.len : Nat) : Int) > 40)) (R true v)
   (Ar .i64 (i + 1) fun i1 =>
   J i1 v))
  (R (decide (((l.len : Nat) : Int) > 40)) v)
theorem freeholdlaw10_great.of_vc {l : Sl} {σ : Hp} {R : Bool → Hp → Prop} (hv : freeholdlaw10_great.vc l σ R) : freeholdlaw10_great.call l σ R :=
 fnK_sound Tryz.func14 (x := freeholdlaw10_great.hint) (args := [.slice l.a l.len l.cap]) (rs := [.one .b]) (R := R) (Eq.mpr (by kernel_rfl) hv)
def freeholdlaw10_alive.hint : Hn := .seq (.o 1) (.seq (.o 6) (.seq (.o 9) (.seq (.seq (.reg (.seq [.op, .op, .op, .grd false 2 [.op, .op]])) (.cond (.seq (.o 1) (.leaf)) (.leaf))) (.seq (.o 3) (.seq (.o 7) (.seq (.o 15) (.seq (.o 7) (.seq (.o 3) (.seq (.o 3) (.seq (.o 4) (.seq (.o 3) (.seq (.reg (.seq [.op, .op, .op, .grd true 3 [.op, .op, .op], .op, .grd true 2 [.op, .op], .op, .grd true 2 [.op, .op], .op, .grd true 2 [.op, .op], .op, .grd true 2 [.op, .op], .op, .grd true 2 [.op, .op], .op, .grd true 2 [.op, .op], .op, .grd true 2 [.op, .op], .op, .grd true 2 [.op, .op], .op, .grd true 2 [.op, .op], .op, .grd true 2 [.op, .op], .op, .grd true 2 [.op, .op], .op, .grd true 2 [.op, .op], .op, .grd true 2 [.op, .op], .op, .grd true 3 [.op, .op, .op], .op])) (.leaf)))))))))))))
def freeholdlaw10_alive.vc (σ : Hp) (R : Bool → Hp → Prop) : Prop :=
 space_New.call 64 σ fun t21 t211 v =>
 Nw (.cells #[.int .i64 256, .int .i64 1, .int .i64 2] 51 (0, 0)) v fun n26 v1 =>
 arena_New.call ⟨(some n26), 1, 1⟩ t21 2 v1 fun t28 t281 v2 =>
 JnB (fun r v3 =>
  If r (R false v3)
   (arena_Arena_Grow.call t28 0 v3 fun b v4 =>
   arena_Arena_FromCentral.call t28 0 3 v4 fun t41 t411 v5 =>
   arena_Arena_Counts.call t28 v5 fun t46 t461 t462 t463 t464 t465 v6 =>
   arena_Arena_TakePages.call t28 20 1 v6 fun t55 t551 v7 =>
   arena_Arena_GivePages.call t28 32 v7 fun c v8 =>
   arena_Arena_Trim.call t28 v8 fun t v9 =>
   Nw (.cells #[.int .i64 4096] 3 (0, 0)) v9 fun n63 v10 =>
   arena_Arena_ToCentral.call t28 0 ⟨(some n63), 1, 1⟩ v10 fun d v11 =>
   arena_Arena_Trim.call t28 v11 fun u v12 =>
   JnB (fun r1 v13 =>
    JnB (fun r2 v14 =>
     JnB (fun r3 v15 =>
      JnB (fun r4 v16 =>
       JnB (fun r5 v17 =>
        JnB (fun r6 v18 =>
         JnB (fun r7 v19 =>
          JnB (fun r8 v20 =>
           JnB (fun r9 v21 =>
            JnB (fun r10 v22 =>
 JnB (fun r11 v23 =>
  JnB (fun r12 v24 =>
   JnB (fun r13 v25 =>
    JnB (fun r14 v26 =>
     JnB (fun r15 v27 =>
      R r15 v27) fun J15 =>
     If r14 (arena_Arena_Owns.call t28 16 v26 fun t128 v28 =>
      J15 (!t128) v28)
      (J15 false v26)) fun J14 =>
    If r13 (J14 (u == 1) v25)
     (J14 false v25)) fun J13 =>
   If r12 (J13 (d == 0) v24)
    (J13 false v24)) fun J12 =>
  If r11 (J12 (t == 2) v23)
   (J12 false v23)) fun J11 =>
 If r10 (J11 (c == 0) v22)
  (J11 false v22)) fun J10 =>
            If r9 (J10 (t551 == 0) v21)
 (J10 false v21)) fun J9 =>
           If r8 (J9 (t55 == 32) v20)
            (J9 false v20)) fun J8 =>
          If r7 (J8 (t465 == 15) v19)
           (J8 false v19)) fun J7 =>
         If r6 (J7 (t464 == 0) v18)
          (J7 false v18)) fun J6 =>
        If r5 (J6 (t463 == 1) v17)
         (J6 false v17)) fun J5 =>
       If r4 (J5 (t462 == 0) v16)
        (J5 false v16)) fun J4 =>
      If r3 (J4 (t461 == 0) v15)
       (J4 false v15)) fun J3 =>
     If r2 (J3 (t46 == 0) v14)
      (J3 false v14)) fun J2 =>
    If r1 (J2 (t411 == 0) v13)
     (J2 false v13)) fun J1 =>
   If (b == 0) (Nw (.cells #[.int .i64 4096] 3 (0, 0)) v12 fun n71 v29 =>
    freeholdref01_Ints.call t41 ⟨(some n71), 1, 1⟩ v29 fun t72 v30 =>
    J1 t72 v30)
    (J1 false v12))) fun J =>
 If (t281 != 0) (J true v2)
  (J t28.isNone v2)
theorem freeholdlaw10_alive.of_vc {σ : Hp} {R : Bool → Hp → Prop} (hv : freeholdlaw10_alive.vc σ R) : freeholdlaw10_alive.call σ R :=
 fnK_sound Tryz.func15 (x := freeholdlaw10_alive.hint) (args := []) (rs := [.one .b]) (R := R) (Eq.mpr (by kernel_rfl) hv)
def freeholdlaw10_play.hint : Hn := .seq (.o 2) (.seq (.seq (.o 2) (.block (.seq (.o 2) (.cond (.seq (.reg (.held true [] (.take 0 (.take 1 (.take 2 (.take 4 (.take 5 (.take 6 (.all [(3, .all [(7, .take 8 (.take 9 (.done)))])]))))))))) (.leaf)) (.seq (.o 2) (.cond (.seq (.o 11) (.seq (.o 11) (.seq (.reg (.seq [.op, .op, .op, .op, .grd true 3 [.op, .op, .op], .op])) (.leaf)))) (.seq (.o 2) (.cond (.seq (.reg (.held true [] (.take 0 (.take 1 (.take 2 (.take 3 (.take 4 (.take 6 (.take 7 (.take 8 (.take 9 (.take 10 (.all [(5, .all [(11, .take 12 (.take 13 (.done)))])]))))))))))))) (.leaf)) (.seq (.o 2) (.cond (.seq (.o 9) (.seq (.o 9) (.seq (.reg (.seq [.op, .op, .op, .op, .grd true 3 [.op, .op, .op], .op])) (.leaf)))) (.seq (.o 2) (.cond (.seq (.o 11) (.seq (.o 11) (.seq (.reg (.seq [.op, .op, .op, .op, .grd true 3 [.op, .op, .op], .op])) (.leaf)))) (.seq (.o 2) (.cond (.seq (.o 11) (.seq (.o 11) (.seq (.reg (.seq [.op, .op, .op, .op, .grd true 3 [.op, .op, .op], .op])) (.leaf)))) (.seq (.o 2) (.cond (.seq (.reg (.held true [] (.take 0 (.take 1 (.take 2 (.take 4 (.take 5 (.take 6 (.all [(3, .all [(7, .take 8 (.take 9 (.done)))])]))))))))) (.leaf)) (.leaf))))))))))))))))) (.seq (.o 5) (.leaf)))
def freeholdlaw10_play.vc (a : Option Addr) (t : Option Addr) (vx : Int) (vx1 : Int) (vx2 : Int) (vx3 : Int) (vx4 : Int) (vx5 : Sl) (σ : Hp) (R : Bool → Hp → Prop) : Prop :=
 Nw (.cells #[.int .i64 vx, .int .i64 vx1, .int .i64 vx2, .int .i64 vx3, .int .i64 vx4, .slice vx5.a vx5.len vx5.cap] 44 (0, 0)) σ fun n5 v =>
 LdI .i64 (n5.add 0) v fun t24 =>
 If (t24 == 0) (Held v fun S =>
  LdH S (.i .i64) (n5.add 2) fun (t29 : Int) =>
  LdH S (.i .i64) (n5.add 2) fun (t33 : Int) =>
  arena_Arena_Grow.call a t29 v fun t30 v1 =>
  And (S v1) <|
  freeholdref10_Arena_Grow.call t t33 v1 fun t34 v2 =>
  And (S v2) <|
  R (t30 == t34) v2)
  (If (t24 == 1) (LdI .i64 (n5.add 2) v fun t41 =>
   LdI .i64 (n5.add 3) v fun t43 =>
   arena_Arena_FromCentral.call a t41 t43 v fun t44 t441 v3 =>
   LdI .i64 (n5.add 2) v3 fun t50 =>
   LdI .i64 (n5.add 3) v3 fun t52 =>
   freeholdref10_Arena_FromCentral.call t t50 t52 v3 fun t53 t531 v4 =>
   freeholdref01_Ints.call t44 t53 v4 fun t58 v5 =>
   JnB (fun r v6 =>
    R r v6) fun J =>
   If t58 (J (t441 == t531) v5)
    (J false v5))
   (If (t24 == 2) (Held v fun S1 =>
    LdH S1 (.i .i64) (n5.add 2) fun (t68 : Int) =>
    LdH S1 .s (n5.add 5) fun (t70 : Sl) =>
    LdH S1 (.i .i64) (n5.add 2) fun (t74 : Int) =>
    LdH S1 .s (n5.add 5) fun (t76 : Sl) =>
    arena_Arena_ToCentral.call a t68 t70 v fun t71 v7 =>
    And (S1 v7) <|
    freeholdref10_Arena_ToCentral.call t t74 t76 v7 fun t77 v8 =>
    And (S1 v8) <|
    R (t71 == t77) v8)
    (If (t24 == 3) (LdI .i64 (n5.add 2) v fun t84 =>
     arena_Arena_FromTransfer.call a t84 v fun t85 t851 v9 =>
     LdI .i64 (n5.add 2) v9 fun t91 =>
     freeholdref10_Arena_FromTransfer.call t t91 v9 fun t92 t921 v10 =>
     freeholdref01_Ints.call t85 t92 v10 fun t97 v11 =>
     JnB (fun r1 v12 =>
      R r1 v12) fun J1 =>
     If t97 (J1 (t851 == t921) v11)
      (J1 false v11))
     (If (t24 == 4) (LdI .i64 (n5.add 2) v fun t108 =>
      LdS (n5.add 5) v fun t110 =>
      arena_Arena_ToTransfer.call a t108 t110 v fun t111 t1111 v13 =>
      LdI .i64 (n5.add 2) v13 fun t117 =>
      LdS (n5.add 5) v13 fun t119 =>
      freeholdref10_Arena_ToTransfer.call t t117 t119 v13 fun t120 t1201 v14 =>
      JnB (fun r2 v15 =>
       R r2 v15) fun J2 =>
      If (t111 == t120) (J2 (t1111 == t1201) v14)
       (J2 false v14))
      (If (t24 == 5) (LdI .i64 (n5.add 3) v fun t136 =>
       LdI .i64 (n5.add 4) v fun t138 =>
       arena_Arena_TakePages.call a t136 t138 v fun t139 t1391 v16 =>
       LdI .i64 (n5.add 3) v16 fun t145 =>
       LdI .i64 (n5.add 4) v16 fun t147 =>
       freeholdref10_Arena_TakePages.call t t145 t147 v16 fun t148 t1481 v17 =>
       JnB (fun r3 v18 =>
        R r3 v18) fun J3 =>
       If (t139 == t148) (J3 (t1391 == t1481) v17)
        (J3 false v17))
       (If (t24 == 6) (Held v fun S2 =>
        LdH S2 (.i .i64) (n5.add 3) fun (t163 : Int) =>
        LdH S2 (.i .i64) (n5.add 3) fun (t167 : Int) =>
        arena_Arena_GivePages.call a t163 v fun t164 v19 =>
        And (S2 v19) <|
        freeholdref10_Arena_GivePages.call t t167 v19 fun t168 v20 =>
        And (S2 v20) <|
        R (t164 == t168) v20)
        (LdI .i64 (n5.add 0) v fun t172 =>
        LdI .i64 (n5.add 1) v fun t1721 =>
        LdI .i64 (n5.add 2) v fun t1722 =>
        LdI .i64 (n5.add 3) v fun t1723 =>
        LdI .i64 (n5.add 4) v fun t1724 =>
        LdS (n5.add 5) v fun t1725 =>
        freeholdlaw10_asks.call a t t172 t1721 t1722 t1723 t1724 t1725 v fun t173 v21 =>
        R t173 v21)))))))
theorem freeholdlaw10_play.of_vc {a : Option Addr} {t : Option Addr} {vx : Int} {vx1 : Int} {vx2 : Int} {vx3 : Int} {vx4 : Int} {vx5 : Sl} {σ : Hp} {R : Bool → Hp → Prop} (hv : freeholdlaw10_play.vc a t vx vx1 vx2 vx3 vx4 vx5 σ R) : freeholdlaw10_play.call a t vx vx1 vx2 vx3 vx4 vx5 σ R :=
 fnK_sound Tryz.func38 (x := freeholdlaw10_play.hint) (args := [.pointer a, .pointer t, .agg #[.int .i64 vx, .int .i64 vx1, .int .i64 vx2, .int .i64 vx3, .int .i64 vx4, .slice vx5.a vx5.len vx5.cap]]) (rs := [.one .b]) (R := R) (Eq.mpr (by kernel_rfl) hv)
def freeholdlaw10_Same.hint : Hn := .seq (.o 1) (.seq (.o 15) (.seq (.o 15) (.seq (.seq (.reg (.seq [.op, .op, .op, .op, .grd false 3 [.op, .op, .op], .op, .grd false 3 [.op, .op, .op], .op, .grd false 3 [.op, .op, .op], .op, .grd false 3 [.op, .op, .op], .op, .grd false 3 [.op, .op, .op]])) (.cond (.seq (.o 1) (.leaf)) (.leaf))) (.seq (.seq (.o 1) (.block (.loop [(19, .one (.i .i64))] (.seq (.seq (.o 3) (.cond (.leaf) (.leaf))) (.seq (.block (.seq (.seq (.o 7) (.cond (.seq (.o 1) (.leaf)) (.leaf))) (.seq (.o 1) (.block (.loop [(20, .one (.i .i64))] (.seq (.seq (.o 2) (.cond (.leaf) (.leaf))) (.seq (.block (.seq (.seq (.reg (.seq [.op, .op, .op, .op, .op, .grd true 2 [.op, .op]])) (.cond (.leaf) (.leaf))) (.seq (.o 5) (.seq (.reg (.seq [.op, .op, .op, .op, .op, .op, .op, .grd false 7 [.op, .op, .op, .op, .op, .op, .op]])) (.cond (.seq (.o 1) (.leaf)) (.leaf)))))) (.o 3)))))))) (.o 3)))))) (.seq (.o 1) (.leaf))))))
def freeholdlaw10_Same.vc (a : Option Addr) (t : Option Addr) (pages : Int) (σ : Hp) (R : Bool → Hp → Prop) : Prop :=
 arena_Arena_Counts.call a σ fun t24 t241 t242 t243 t244 t245 v =>
 freeholdref10_Arena_Counts.call t v fun t33 t331 t332 t333 t334 t335 v1 =>
 JnB (fun r v2 =>
  JnB (fun r1 v3 =>
   JnB (fun r2 v4 =>
    JnB (fun r3 v5 =>
     JnB (fun r4 v6 =>
      If r4 (R false v6)
       (LoopK [(.i .i64)] (fun I => I (-1) v6) fun J5 (p : Int) v7 =>
       If (decide (p ≤ pages)) (arena_Arena_Owns.call a p v7 fun t75 v8 =>
        freeholdref10_Arena_Owns.call t p v8 fun t78 v9 =>
        If (!(t75 == t78)) (R false v9)
         (LoopK [(.i .i64)] (fun I1 => I1 0 v9) fun J6 (n : Int) v10 =>
         If (decide (n < 256)) (freeholdref10_Arena_Owns.call t p v10 fun t86 v11 =>
          JnB (fun r5 v12 =>
           If r5 (Ar .i64 (p + 1) fun p1 =>
            J5 p1 v12)
            (Ar .i64 (p * 256) fun t93 =>
            Ar .i64 (t93 + n) fun addr =>
            freeholdlaw10_asks.call a t 7 0 0 addr 0 ⟨none, 0, 0⟩ v12 fun t100 v13 =>
            JnB (fun r6 v14 =>
 If r6 (R false v14)
  (Ar .i64 (n + 24) fun n1 =>
  J6 n1 v14)) fun J8 =>
            If (!t100) (J8 true v13)
 (arena_Arena_IsTaken.call a addr v13 fun t105 v15 =>
 freeholdref10_Arena_IsTaken.call t addr v15 fun t108 v16 =>
 J8 (!(t105 == t108)) v16))) fun J7 =>
          If (!t86) (J7 (decide (n > 0)) v11)
           (J7 false v11))
          (Ar .i64 (p + 1) fun p2 =>
          J5 p2 v10)))
        (R true v7))) fun J4 =>
     If r3 (J4 true v5)
      (J4 (t245 != t335) v5)) fun J3 =>
    If r2 (J3 true v4)
     (J3 (t244 != t334) v4)) fun J2 =>
   If r1 (J2 true v3)
    (J2 (t243 != t333) v3)) fun J1 =>
  If r (J1 true v2)
   (J1 (t242 != t332) v2)) fun J =>
 If (t24 != t33) (J true v1)
  (J (t241 != t331) v1)
theorem freeholdlaw10_Same.of_vc {a : Option Addr} {t : Option Addr} {pages : Int} {σ : Hp} {R : Bool → Hp → Prop} (hv : freeholdlaw10_Same.vc a t pages σ R) : freeholdlaw10_Same.call a t pages σ R :=
 fnK_sound Tryz.func39 (x := freeholdlaw10_Same.hint) (args := [.pointer a, .pointer t, .int .i64 pages]) (rs := [.one .b]) (R := R) (Eq.mpr (by kernel_rfl) hv)
def freeholdlaw10_asks.hint : Hn := .seq (.o 2) (.seq (.seq (.o 2) (.block (.seq (.o 2) (.cond (.seq (.o 11) (.seq (.o 11) (.seq (.reg (.seq [.op, .op, .op, .op, .grd true 3 [.op, .op, .op], .op, .grd true 3 [.op, .op, .op], .op])) (.leaf)))) (.seq (.o 2) (.cond (.seq (.reg (.held true [] (.take 0 (.take 1 (.take 2 (.take 4 (.take 5 (.take 6 (.all [(3, .all [(7, .take 8 (.take 9 (.done)))])]))))))))) (.leaf)) (.seq (.o 2) (.cond (.seq (.reg (.held true [] (.take 0 (.take 1 (.take 2 (.take 4 (.take 5 (.take 6 (.all [(3, .all [(7, .take 8 (.take 9 (.done)))])]))))))))) (.leaf)) (.seq (.o 2) (.cond (.seq (.o 9) (.seq (.o 9) (.seq (.reg (.seq [.op, .op, .op, .op, .grd true 3 [.op, .op, .op], .op])) (.leaf)))) (.seq (.o 2) (.cond (.seq (.o 3) (.seq (.o 3) (.seq (.o 4) (.leaf)))) (.seq (.o 2) (.cond (.seq (.o 2) (.o 2)) (.leaf))))))))))))))) (.seq (.o 1) (.leaf)))
def freeholdlaw10_asks.vc (a : Option Addr) (t : Option Addr) (vx : Int) (vx1 : Int) (vx2 : Int) (vx3 : Int) (vx4 : Int) (vx5 : Sl) (σ : Hp) (R : Bool → Hp → Prop) : Prop :=
 Nw (.cells #[.int .i64 vx, .int .i64 vx1, .int .i64 vx2, .int .i64 vx3, .int .i64 vx4, .slice vx5.a vx5.len vx5.cap] 44 (0, 0)) σ fun n5 v =>
 LdI .i64 (n5.add 0) v fun t20 =>
 If (t20 == 7) (LdI .i64 (n5.add 3) v fun t26 =>
  arena_Arena_Find.call a t26 v fun t27 t271 t272 v1 =>
  LdI .i64 (n5.add 3) v1 fun t34 =>
  freeholdref10_Arena_Find.call t t34 v1 fun t35 t351 t352 v2 =>
  JnB (fun r v3 =>
   JnB (fun r1 v4 =>
    R r1 v4) fun J1 =>
   If r (J1 (t272 == t352) v3)
    (J1 false v3)) fun J =>
  If (t27 == t35) (J (t271 == t351) v2)
   (J false v2))
  (If (t20 == 8) (Held v fun S =>
   LdH S (.i .i64) (n5.add 3) fun (t56 : Int) =>
   LdH S (.i .i64) (n5.add 3) fun (t60 : Int) =>
   arena_Arena_IsTaken.call a t56 v fun t57 v5 =>
   And (S v5) <|
   freeholdref10_Arena_IsTaken.call t t60 v5 fun t61 v6 =>
   And (S v6) <|
   R (t57 == t61) v6)
   (If (t20 == 9) (Held v fun S1 =>
    LdH S1 (.i .i64) (n5.add 3) fun (t67 : Int) =>
    LdH S1 (.i .i64) (n5.add 3) fun (t71 : Int) =>
    arena_Arena_Owns.call a t67 v fun t68 v7 =>
    And (S1 v7) <|
    freeholdref10_Arena_Owns.call t t71 v7 fun t72 v8 =>
    And (S1 v8) <|
    R (t68 == t72) v8)
    (If (t20 == 10) (LdI .i64 (n5.add 3) v fun t79 =>
     arena_Arena_Release.call a t79 v fun t80 t801 v9 =>
     LdI .i64 (n5.add 3) v9 fun t86 =>
     freeholdref10_Arena_Release.call t t86 v9 fun t87 t871 v10 =>
     JnB (fun r2 v11 =>
      R r2 v11) fun J2 =>
     If (t80 == t87) (J2 (t801 == t871) v10)
      (J2 false v10))
     (If (t20 == 11) (arena_Arena_Trim.call a v fun b v12 =>
      freeholdref10_Arena_Trim.call t v12 fun c v13 =>
      R (b == c) v13)
      (If (t20 == 12) (arena_Arena_Tick.call a v fun v14 =>
       freeholdref10_Arena_Tick.call t v14 fun v15 =>
       R true v15)
       (R true v))))))
theorem freeholdlaw10_asks.of_vc {a : Option Addr} {t : Option Addr} {vx : Int} {vx1 : Int} {vx2 : Int} {vx3 : Int} {vx4 : Int} {vx5 : Sl} {σ : Hp} {R : Bool → Hp → Prop} (hv : freeholdlaw10_asks.vc a t vx vx1 vx2 vx3 vx4 vx5 σ R) : freeholdlaw10_asks.call a t vx vx1 vx2 vx3 vx4 vx5 σ R :=
 fnK_sound Tryz.func99 (x := freeholdlaw10_asks.hint) (args := [.pointer a, .pointer t, .agg #[.int .i64 vx, .int .i64 vx1, .int .i64 vx2, .int .i64 vx3, .int .i64 vx4, .slice vx5.a vx5.len vx5.cap]]) (rs := [.one .b]) (R := R) (Eq.mpr (by kernel_rfl) hv)
end Go.Proofs

-- Gref01
namespace Go.Proofs
open Go.Vc
set_option linter.unusedVariables false
set_option maxRecDepth 100000
def freeholdref01_Valid.hint : Hn := .seq (.o 1) (.seq (.seq (.reg (.seq [.op, .op, .op, .op, .grd false 3 [.op, .op, .op]])) (.cond (.seq (.o 1) (.leaf)) (.leaf))) (.seq (.seq (.o 1) (.block (.loop [(3, .one (.i .i64))] (.seq (.seq (.o 4) (.cond (.leaf) (.leaf))) (.seq (.block (.seq (.reg (.heldJ true [4] [(41, .one .b)] (.take 0 (.take 1 (.take 2 (.take 3 (.all [(4, .take 5 (.take 6 (.split 24 (.take 7 (.take 8 (.take 9 (.take 10 (.take 11 (.take 12 (.take 13 (.take 14 (.take 15 (.take 16 (.take 17 (.take 18 (.take 19 (.take 20 (.take 21 (.take 22 (.take 23 (.done)))))))))))))))))) (.take 7 (.take 8 (.take 9 (.split 27 (.take 10 (.take 11 (.take 12 (.take 13 (.take 14 (.take 16 (.take 17 (.take 18 (.take 19 (.all [(15, .all [(20, .take 21 (.take 22 (.take 23 (.done))))]), (20, .all [(15, .take 21 (.take 22 (.take 23 (.done))))])])))))))))) (.take 10 (.take 11 (.take 12 (.take 13 (.take 14 (.take 15 (.take 16 (.take 17 (.take 18 (.take 19 (.take 20 (.take 21 (.take 22 (.take 23 (.done))))))))))))))))))))))]))))))) (.cond (.seq (.o 1) (.leaf)) (.leaf)))) (.o 3)))))) (.seq (.o 1) (.leaf))))
def freeholdref01_Valid.vc (table : Sl) (σ : Hp) (R : Bool → Hp → Prop) : Prop :=
 JnB (fun r v =>
  If r (R false v)
   (LoopK [(.i .i64)] (fun I => I 0 v) fun J1 (i : Int) v1 =>
   If (decide (i < ((table.len : Nat) : Int))) (Jn [.b] (fun (t41 : Bool) v2 =>
     If t41 (R false v2)
      (Ar .i64 (i + 1) fun i1 =>
      J1 i1 v2)) fun J2 =>
    Held v1 fun S =>
    Ix table.a table.len i 3 fun a20 =>
    LdH S (.i .i64) (a20.add 0) fun (t21 : Int) =>
    LdH S (.i .i64) (a20.add 1) fun (t211 : Int) =>
    LdH S (.i .i64) (a20.add 2) fun (t212 : Int) =>
    freeholdref01_Right.call t21 t211 t212 v1 fun t22 v3 =>
    If (!t22) (J2 true v3)
     (If (decide (i > 0)) (Ar .i64 (i - 1) fun t30 =>
      Ix table.a table.len t30 3 fun a31 =>
      Ix table.a table.len i 3 fun a36 =>
       (LdI .i64 (a31.add 0) v3 fun t33 =>
       LdI .i64 (a36.add 0) v3 fun t38 =>
       J2 (decide (t33 ≥ t38)) v3) ∧
       (LdI .i64 (a36.add 0) v3 fun t381 =>
       LdI .i64 (a31.add 0) v3 fun t331 =>
       J2 (decide (t331 ≥ t381)) v3))
      (J2 false v3)))
    (R true v1))) fun J =>
 If (decide (((table.len : Nat) : Int) < 1)) (J true σ)
  (J (decide (((table.len : Nat) : Int) > 40)) σ)
theorem freeholdref01_Valid.of_vc {table : Sl} {σ : Hp} {R : Bool → Hp → Prop} (hv : freeholdref01_Valid.vc table σ R) : freeholdref01_Valid.call table σ R :=
 fnK_sound Tryz.func17 (x := freeholdref01_Valid.hint) (args := [.slice table.a table.len table.cap]) (rs := [.one .b]) (R := R) (Eq.mpr (by kernel_rfl) hv)
def freeholdref01_Ints.hint : Hn := .seq (.o 1) (.seq (.seq (.o 5) (.cond (.seq (.o 1) (.leaf)) (.leaf))) (.seq (.seq (.o 1) (.block (.loop [(5, .one (.i .i64))] (.seq (.seq (.o 4) (.cond (.leaf) (.leaf))) (.seq (.block (.seq (.oq 9) (.cond (.seq (.o 1) (.leaf)) (.leaf)))) (.o 3)))))) (.seq (.o 1) (.leaf))))
def freeholdref01_Ints.vc (a : Sl) (b : Sl) (σ : Hp) (R : Bool → Hp → Prop) : Prop :=
 If (((a.len : Nat) : Int) != ((b.len : Nat) : Int)) (R false σ)
  (LoopK [(.i .i64)] (fun I => I 0 σ) fun J (i : Int) v =>
  If (decide (i < ((a.len : Nat) : Int))) (Ix a.a a.len i 1 fun a19 =>
   LdI .i64 a19 v fun t20 =>
   Ix b.a b.len i 1 fun a23 =>
   LdI .i64 a23 v fun t24 =>
   If (t20 != t24) (R false v)
    (Ar .i64 (i + 1) fun i1 =>
    J i1 v))
   (R true v))
theorem freeholdref01_Ints.of_vc {a : Sl} {b : Sl} {σ : Hp} {R : Bool → Hp → Prop} (hv : freeholdref01_Ints.vc a b σ R) : freeholdref01_Ints.call a b σ R :=
 fnK_sound Tryz.func24 (x := freeholdref01_Ints.hint) (args := [.slice a.a a.len a.cap, .slice b.a b.len b.cap]) (rs := [.one .b]) (R := R) (Eq.mpr (by kernel_rfl) hv)
def freeholdref01_Right.hint : Hn := .seq (.o 2) (.seq (.reg (.seq [.op, .op, .op, .op, .grd true 3 [.op, .op, .op], .op, .grd true 4 [.op, .op, .op, .op], .op, .grd true 3 [.op, .op, .op], .op, .grd true 3 [.op, .op, .op], .op, .grd true 6 [.op, .op, .op, .op, .op, .op], .op, .grd true 3 [.op, .op, .op], .op, .grd true 3 [.op, .op, .op], .op])) (.leaf))
def freeholdref01_Right.vc (c : Int) (c1 : Int) (c2 : Int) (σ : Hp) (R : Bool → Hp → Prop) : Prop :=
 Nw (.cells #[.int .i64 c, .int .i64 c1, .int .i64 c2] 51 (0, 0)) σ fun n1 v =>
 LdI .i64 (n1.add 0) v fun t4 =>
 JnB (fun r v1 =>
  JnB (fun r1 v2 =>
   JnB (fun r2 v3 =>
    JnB (fun r3 v4 =>
     JnB (fun r4 v5 =>
      JnB (fun r5 v6 =>
       JnB (fun r6 v7 =>
        R r6 v7) fun J6 =>
       If r5 (LdI .i64 (n1.add 2) v6 fun t42 =>
        J6 (decide (t42 ≤ 32)) v6)
        (J6 false v6)) fun J5 =>
      If r4 (LdI .i64 (n1.add 2) v5 fun t37 =>
       J5 (decide (t37 ≥ 1)) v5)
       (J5 false v5)) fun J4 =>
     If r3 (LdI .i64 (n1.add 1) v4 fun t29 =>
      Ar .i64 (t29 * 256) fun t30 =>
      LdI .i64 (n1.add 0) v4 fun t32 =>
      J4 (decide (t30 ≥ t32)) v4)
      (J4 false v4)) fun J3 =>
    If r2 (LdI .i64 (n1.add 1) v3 fun t24 =>
     J3 (decide (t24 ≤ 4)) v3)
     (J3 false v3)) fun J2 =>
   If r1 (LdI .i64 (n1.add 1) v2 fun t19 =>
    J2 (decide (t19 ≥ 1)) v2)
    (J2 false v2)) fun J1 =>
  If r (LdI .i64 (n1.add 0) v1 fun t13 =>
   Nz 8 <|
   J1 ((t13.tmod 8) == 0) v1)
   (J1 false v1)) fun J =>
 If (decide (t4 ≥ 8)) (LdI .i64 (n1.add 0) v fun t8 =>
  J (decide (t8 ≤ 512)) v)
  (J false v)
theorem freeholdref01_Right.of_vc {c : Int} {c1 : Int} {c2 : Int} {σ : Hp} {R : Bool → Hp → Prop} (hv : freeholdref01_Right.vc c c1 c2 σ R) : freeholdref01_Right.call c c1 c2 σ R :=
 fnK_sound Tryz.func56 (x := freeholdref01_Right.hint) (args := [.agg #[.int .i64 c, .int .i64 c1, .int .i64 c2]]) (rs := [.one .b]) (R := R) (Eq.mpr (by kernel_rfl) hv)
def freeholdref01_Power.hint : Hn := .seq (.o 1) (.seq (.seq (.o 1) (.block (.loop [(5, .one (.i .i64))] (.seq (.seq (.o 3) (.cond (.leaf) (.leaf))) (.seq (.block (.seq (.o 3) (.cond (.seq (.o 1) (.leaf)) (.leaf)))) (.o 3)))))) (.seq (.o 1) (.leaf)))
def freeholdref01_Power.vc (n : Int) (most : Int) (σ : Hp) (R : Bool → Hp → Prop) : Prop :=
 LoopK [(.i .i64)] (fun I => I 1 σ) fun J (p : Int) v =>
 If (decide (p ≤ most)) (If (p == n) (R true v)
   (Ar .i64 (2 * p) fun p1 =>
   J p1 v))
  (R false v)
theorem freeholdref01_Power.of_vc {n : Int} {most : Int} {σ : Hp} {R : Bool → Hp → Prop} (hv : freeholdref01_Power.vc n most σ R) : freeholdref01_Power.call n most σ R :=
 fnK_sound Tryz.func182 (x := freeholdref01_Power.hint) (args := [.int .i64 n, .int .i64 most]) (rs := [.one .b]) (R := R) (Eq.mpr (by kernel_rfl) hv)
def freeholdref01_Tail.hint : Hn := .seq (.o 2) (.seq (.reg (.held true [] (.take 0 (.take 1 (.take 2 (.take 3 (.take 5 (.take 6 (.all [(4, .take 7 (.take 8 (.take 9 (.done))))]))))))))) (.leaf))
def freeholdref01_Tail.vc (c : Int) (c1 : Int) (c2 : Int) (σ : Hp) (R : Int → Hp → Prop) : Prop :=
 Nw (.cells #[.int .i64 c, .int .i64 c1, .int .i64 c2] 51 (0, 0)) σ fun n1 v =>
 Held v fun S =>
 LdH S (.i .i64) (n1.add 1) fun (t4 : Int) =>
 Ar .i64 (t4 * 256) fun t5 =>
 LdH S (.i .i64) (n1.add 0) fun (t6 : Int) =>
 LdH S (.i .i64) (n1.add 1) fun (t61 : Int) =>
 LdH S (.i .i64) (n1.add 2) fun (t62 : Int) =>
 LdH S (.i .i64) (n1.add 0) fun (t9 : Int) =>
 freeholdref01_Objects.call t6 t61 t62 v fun t7 v1 =>
 And (S v1) <|
 Ar .i64 (t7 * t9) fun t10 =>
 Ar .i64 (t5 - t10) fun t11 =>
 R t11 v1
theorem freeholdref01_Tail.of_vc {c : Int} {c1 : Int} {c2 : Int} {σ : Hp} {R : Int → Hp → Prop} (hv : freeholdref01_Tail.vc c c1 c2 σ R) : freeholdref01_Tail.call c c1 c2 σ R :=
 fnK_sound Tryz.func190 (x := freeholdref01_Tail.hint) (args := [.agg #[.int .i64 c, .int .i64 c1, .int .i64 c2]]) (rs := [.one (.i .i64)]) (R := R) (Eq.mpr (by kernel_rfl) hv)
def freeholdref01_Objects.hint : Hn := .seq (.o 2) (.seq (.o 1) (.seq (.block (.loop [(3, .one (.i .i64))] (.seq (.seq (.o 9) (.cond (.leaf) (.leaf))) (.block (.o 3))))) (.seq (.o 2) (.leaf))))
def freeholdref01_Objects.vc (c : Int) (c1 : Int) (c2 : Int) (σ : Hp) (R : Int → Hp → Prop) : Prop :=
 Nw (.cells #[.int .i64 c, .int .i64 c1, .int .i64 c2] 51 (0, 0)) σ fun n1 v =>
 LoopK [(.i .i64)] (fun I => I 0 v) fun J (n : Int) v1 =>
 Ar .i64 (n + 1) fun t5 =>
 LdI .i64 (n1.add 0) v1 fun t7 =>
 Ar .i64 (t5 * t7) fun t8 =>
 LdI .i64 (n1.add 1) v1 fun t10 =>
 Ar .i64 (t10 * 256) fun t11 =>
 If (decide (t8 ≤ t11)) (Ar .i64 (n + 1) fun n2 =>
  J n2 v1)
  (R n v1)
theorem freeholdref01_Objects.of_vc {c : Int} {c1 : Int} {c2 : Int} {σ : Hp} {R : Int → Hp → Prop} (hv : freeholdref01_Objects.vc c c1 c2 σ R) : freeholdref01_Objects.call c c1 c2 σ R :=
 fnK_sound Tryz.func253 (x := freeholdref01_Objects.hint) (args := [.agg #[.int .i64 c, .int .i64 c1, .int .i64 c2]]) (rs := [.one (.i .i64)]) (R := R) (Eq.mpr (by kernel_rfl) hv)
end Go.Proofs

-- AlB
namespace Go.Ar
open Go Go.Vc Go.Proofs
open Go.Bu (runOk giveS takeAt cnt)
set_option linter.unusedSimpArgs false
set_option linter.unusedVariables false

variable {σ : Hp} {F H : Rg} {A : AR} {sp : Sp} {Y : Lay} {T : Nat → Hp → Rg → Prop}

/-! ## The reference's comparison of lists -/
theorem RInts_ok {a b : Sl} {xs ys : List Int} {G : Rg} (ha : SlR a 1 (intsI xs) σ F) (hb : SlR b 1 (intsI ys) σ G) (hl : xs.length ≤ 1000000000) {R : Bool → Hp → Prop} (hR : R (decide (xs = ys)) σ) : freeholdref01_Ints.call a b σ R := by
  refine freeholdref01_Ints.of_vc ?_
  unfold freeholdref01_Ints.vc
  have la : a.len = xs.length := by have := ha.1; simp [intsI] at this; omega
  have lb : b.len = ys.length := by have := hb.1; simp [intsI] at this; omega
  rw [la, lb, bneN]
  refine iff_ (fun hc => ?_) fun hc => ?_
  · have hne : xs.length ≠ ys.length := by simpa using hc
    rw [decide_eq_false fun e => hne (by rw [e])] at hR; exact hR
  have he : xs.length = ys.length := by simpa using hc
  refine loop1 (a := .i .i64) (fun (t : Int) v => ∃ i : Nat, t = (i : Int) ∧ i ≤ xs.length ∧ v = σ ∧ xs.take i = ys.take i) (fun t _ => xs.length - t.toNat) ⟨0, rfl, by omega, rfl, rfl⟩ ?_
  rintro t v ⟨i, rfl, hi, rfl, htk⟩
  refine ifD (fun hlt => ?_) fun hge => ?_
  · have hi' : i < xs.length := by omega
    have hx : xs[i]? = some xs[i] := List.getElem?_eq_getElem hi'
    have hy : ys[i]? = some (ys[i]'(by omega)) := List.getElem?_eq_getElem _
    generalize xs[i] = x at hx
    generalize ys[i]'(by omega) = y at hy
    rw [← la, ← lb]
    refine ha.ixI hx (hb.ixI hy (iff_ (fun hne => ?_) fun heq => ?_))
    · have hn : x ≠ y := by simpa using hne
      rw [decide_eq_false] at hR
      · exact hR
      · intro e; rw [e, hy] at hx; exact hn (Option.some.inj hx).symm
    · have hxy : x = y := by simpa using heq
      refine arN (m := i + 1) (by omega) (by omega) ⟨⟨i + 1, rfl, by omega, rfl, ?_⟩, by omega⟩
      rw [List.take_add_one, List.take_add_one, htk, hx, hy, hxy]
  · have : i = xs.length := by omega
    subst this
    rw [List.take_length, he, List.take_length] at htk
    rw [decide_eq_true htk] at hR; exact hR

/-- Lies apart from the arena and its space. -/
def Far (F H I : Rg) : Prop := ∀ b, I b → ¬ F b ∧ ¬ H b
theorem Far.fits {I F' H' : Rg} (h : Far F H I) (hf : Fits σ F H F' H') (hI : ∀ b, I b → b < σ.size) : Far F' H' I := fun b hb => ⟨fun hx => by
  rcases hf.1 b hx with h1 | h1
  · exact (h b hb).1 h1
  · have := hI b hb; omega, fun hx => (h b hb).2 (hf.2 b hx)⟩
theorem Far.keep {I : Rg} {s : Sl} {n : Nat} {vs : List Value} (h : Far F H I) {σ' : Hp} (e : Ext (Both F H) σ σ') (hs : SlR s n vs σ I) : SlR s n vs σ' I := (SlR.loc _ _ _).keep hs e fun b _ hb hc => by
  rcases hc with hc | hc
  · exact (h b hb).1 hc
  · exact (h b hb).2 hc
theorem traT_eq {A' : AR} (h1 : A'.tb = A.tb) (h2 : A'.room = A.room) (h3 : A'.tra = A.tra) : traT A' Y = traT A Y := by
  funext k; unfold traT; rw [h1, h2, h3]
theorem al_fr1 : al2.1.tb = al0.1.tb ∧ al2.1.room = al0.1.room ∧ al2.1.tra = al0.1.tra := by decide +kernel

theorem gl_lt (g : Gl σ) : Off fun b => σ.size ≤ b := fun b hb => by
  have h1 := cell_lt' g.c0; have h2 := cell_lt' g.u0
  exact ⟨by omega, by omega⟩
attribute [local irreducible] growS fromCenS takeAS giveAS trimS toCenS newA
theorem alive_ok (g : Gl σ) {R : Bool → Hp → Prop} (hR : ∀ σ', Ext0 σ σ' → R true σ') : freeholdlaw10_alive.call σ R := by
  refine freeholdlaw10_alive.of_vc ?_
  unfold freeholdlaw10_alive.vc
  refine SpcNew_ok (n := 64) (by omega) (by omega) fun v hs e hp hS => ?_
  refine nw (cs := [.int .i64 256, .int .i64 1, .int .i64 2]) fun v1 z1 e1 b1 => ?_
  have hz0 := e.1
  have hz1 := b1.lt
  have hact : Acts v1 ⟨some ⟨v.size, 0, none⟩, 1, 1⟩ [(256, 1, 2)] := by
    refine ⟨rfl, fun i x y z hi => ?_⟩
    match i, hi with
    | 0, hi => cases hi; exact ⟨v.size, 0, rfl, b1.lt, by rw [b1.cell]; rfl, by rw [b1.cell]; rfl, by rw [b1.cell]; rfl⟩
  have hS1 := hS.keep0 e1
  have hne : newE [(256, 1, 2)] (newSp 64).st.length 2 = 0 := by decide +kernel
  refine ANew_ok hact hS1 2 (fun hn => absurd hne hn) fun _ v2 Y e2 hYh hA0 => ?_
  have hA : AHY v2 (fun b => v1.size ≤ b) Y al0.1 (traT al0.1 Y) := hA0
  have g2 := ((g.keep0 e).keep0 e1).keep0 e2
  have hW0 : W2 v2 (fun b => v1.size ≤ b) (Cut (fun b => σ.size ≤ b) v1) Y al0.1 (traT al0.1 Y) al0.2 := by
    refine ⟨hA, ?_, fun b hb hc => by have := hc.2; omega, g2, ?_, ?_⟩
    · rw [hYh]; exact Lcl.keep0 SpH3.loc (Lcl.cut SpH3.loc hS1) e2
    · exact gl_lt ((g.keep0 e).keep0 e1)
    · exact (gl_lt g).sub fun b hb => hb.1
  refine JnB.intro (ifF rfl (ifF rfl ?_))
  have ext0 : ∀ {F H : Rg} {a b : Hp}, Ext0 σ a → (∀ b, F b → σ.size ≤ b) → (∀ b, H b → σ.size ≤ b) → Ext (Both F H) a b → Ext0 σ b := fun ea h1 h2 eb => Ext.fresh ea eb fun b hb => by
    rcases hb with hb | hb
    · exact h1 b hb
    · exact h2 b hb
  have e02 : Ext0 σ v2 := Ext.trans (Ext.trans e e1) e2
  refine AGrow_ok hW0 0 fun v3 F1 H1 hf1 ex1 hW1 => ?_
  have f1 : (∀ b, F1 b → σ.size ≤ b) ∧ ∀ b, H1 b → σ.size ≤ b := ⟨fun b hb => by
    rcases hf1.1 b hb with h | h
    · have h : v1.size ≤ b := h; omega
    · have := e02.1; omega, fun b hb => (hf1.2 b hb).1⟩
  have e03 : Ext0 σ v3 := ext0 e02 (fun b hb => by have hb : v1.size ≤ b := hb; omega) (fun b hb => hb.1) ex1
  have hW1c := hW1.cut
  refine FromCentral_ok hW1c.a 0 3 fun s v4 ex2 hrow hA2 => ?_
  have hW2 : W2 v4 (Cut F1 v3) (Cut H1 v3) Y al2.1 (traT al0.1 Y) al2.2 := hW1c.arena ex2 (hA2.mono fun b _ hb => hb.1)
  have e04 : Ext0 σ v4 := Ext.fresh e03 ex2 fun b hb => f1.1 b hb.1
  have hrow : RowR s 1 (ints (fromCenV al1.1 0 3)) v4 (fun b => v3.size ≤ b) := hrow
  rw [al_e2.2] at hrow
  have hs4 : SlR s 1 (intsI [4096]) v4 (fun b => v3.size ≤ b ∧ b < v4.size) := iv_cut (SlR.loc _ _ _) hrow.slR
  have far2 : Far (Cut F1 v3) (Cut H1 v3) (fun b => v3.size ≤ b ∧ b < v4.size) := fun b hb => ⟨fun h => by have := h.2; omega, fun h => by have := h.2; omega⟩
  have hAT : AHY v4 (Cut F1 v3) Y al2.1 (traT al2.1 Y) := by rw [traT_eq al_fr1.1 al_fr1.2.1 al_fr1.2.2]; exact hW2.a
  refine ACounts_ok hAT (by rw [al_e3.2.2.2.2.1]; omega) fun v5 e5 => ?_
  have hW2' := hW2.keep0 e5
  have e05 := Ext.trans e04 e5
  have hs5 := (SlR.loc _ _ _).keep0 hs4 e5
  have hsz5 := e5.1
  refine ATakePages_ok hW2' 20 1 fun v6 F3 H3 hf3 ex6 hW3 => ?_
  have hW3 : W2 v6 F3 H3 Y al3.1 (traT al0.1 Y) al3.2 := hW3
  have f3 : (∀ b, F3 b → σ.size ≤ b) ∧ ∀ b, H3 b → σ.size ≤ b := ⟨fun b hb => by
    rcases hf3.1 b hb with h | h
    · exact f1.1 b h.1
    · have := e05.1; omega, fun b hb => f1.2 b (hf3.2 b hb).1⟩
  have far3 := far2.fits hf3 fun b hb => by omega
  have hs6 := far2.keep ex6 hs5
  have e06 : Ext0 σ v6 := ext0 e05 (fun b hb => f1.1 b hb.1) (fun b hb => f1.2 b hb.1) ex6
  refine GivePages_ok hW3.a 32 al_e5.2 fun v7 ex7 hA4 => ?_
  have hW4 : W2 v7 (Grow F3 v6) (Cut H3 v6) Y al4.1 (traT al0.1 Y) al4.2 := hW3.arenaG ex7 hA4
  have hs7 := far3.keep (ex7.sub fun b hb => .inl hb) hs6
  have e07 : Ext0 σ v7 := Ext.fresh e06 ex7 fun b hb => f3.1 b hb
  have sz6 := ex6.1
  have f4 : (∀ b, Grow F3 v6 b → σ.size ≤ b) ∧ ∀ b, Cut H3 v6 b → σ.size ≤ b := ⟨fun b hb => by
    rcases hb with h | h
    · exact f3.1 b h
    · have := e06.1; omega, fun b hb => f3.2 b hb.1⟩
  have far4 : Far (Grow F3 v6) (Cut H3 v6) (fun b => v3.size ≤ b ∧ b < v4.size) := fun b hb => ⟨fun h => by
    rcases h with h | h
    · exact (far3 b hb).1 h
    · omega, fun h => (far3 b hb).2 h.1⟩
  refine ATrim_ok hW4 fun v8 ex8 hW5 => ?_
  have hW5 : W2 v8 (Cut (Grow F3 v6) v7) (Cut (Cut H3 v6) v7) Y al5.1 (traT al0.1 Y) al5.2 := hW5
  have hs8 := far4.keep ex8 hs7
  have e08 : Ext0 σ v8 := ext0 e07 f4.1 f4.2 ex8
  have far5 : Far (Cut (Grow F3 v6) v7) (Cut (Cut H3 v6) v7) (fun b => v3.size ≤ b ∧ b < v4.size) := fun b hb => ⟨fun h => (far4 b hb).1 h.1, fun h => (far4 b hb).2 h.1⟩
  refine nw (cs := [.int .i64 4096]) fun v9 z9 e9 b9 => ?_
  have sz8 := ex8.1
  have hW5' := hW5.keep0 e9
  have hs9 := (SlR.loc _ _ _).keep0 hs8 e9
  have e09 := Ext.trans e08 e9
  have hbx : SlR ⟨some ⟨v8.size, 0, none⟩, 1, 1⟩ 1 (intsI [4096]) v9 (· = v8.size) := ⟨rfl, .inr ⟨_, 0, _, rfl, rfl, b9, fun j hj => by rw [Nat.zero_add]; rfl⟩⟩
  refine ToCentral_ok hW5'.a 0 (xs := [4096]) (by intro x hx; simp at hx; subst hx; unfold I63; omega) (by simp) (Nat.le_refl _) (.inl ⟨_, hbx, fun b _ hb hf => by subst hb; have := hf.2; omega⟩) fun v10 ex10 hA6 => ?_
  have hW6 : W2 v10 (Grow (Cut (Grow F3 v6) v7) v9) (Cut (Cut (Cut H3 v6) v7) v9) Y al6.1 (traT al0.1 Y) al6.2 := hW5'.arenaG ex10 hA6
  have hs10 := far5.keep (ex10.sub fun b hb => .inl hb) hs9
  have f5 : (∀ b, Cut (Grow F3 v6) v7 b → σ.size ≤ b) ∧ ∀ b, Cut (Cut H3 v6) v7 b → σ.size ≤ b := ⟨fun b hb => f4.1 b hb.1, fun b hb => f4.2 b hb.1⟩
  have e010 : Ext0 σ v10 := Ext.fresh e09 ex10 f5.1
  have far6 : Far (Grow (Cut (Grow F3 v6) v7) v9) (Cut (Cut (Cut H3 v6) v7) v9) (fun b => v3.size ≤ b ∧ b < v4.size) := fun b hb => ⟨fun h => by
    rcases h with h | h
    · exact (far5 b hb).1 h
    · have := e9.1; have := ex7.1; omega, fun h => (far5 b hb).2 h.1⟩
  refine ATrim_ok hW6 fun v11 ex11 hW7 => ?_
  have hs11 := far6.keep ex11 hs10
  have e011 : Ext0 σ v11 := ext0 e010 (fun b hb => by
    rcases hb with h | h
    · exact f5.1 b h
    · have := e09.1; omega) (fun b hb => f5.2 b hb.1) ex11
  -- what was seen
  have x1 : growE al0.1 al0.2 0 = 0 := al_e1
  refine JnB.intro (ifT (by rw [x1]; rfl) (nw (cs := [.int .i64 4096]) fun v12 z12 e12 b12 => ?_))
  have hbx2 : SlR ⟨some ⟨v11.size, 0, none⟩, 1, 1⟩ 1 (intsI [4096]) v12 (· = v11.size) := ⟨rfl, .inr ⟨_, 0, _, rfl, rfl, b12, fun j hj => by rw [Nat.zero_add]; rfl⟩⟩
  refine RInts_ok ((SlR.loc _ _ _).keep0 hs11 e12) hbx2 (by simp) ?_
  have e012 := Ext.trans e011 e12
  have c1 : fromCenE al1.1 0 3 = 0 := al_e2.1
  refine JnB.intro (ifT rfl (JnB.intro (ifT (by show (fromCenE al1.1 0 3 == 0) = true; rw [c1]; rfl) ?_)))
  refine JnB.intro (ifT (by rw [al_e3.1]; rfl) (JnB.intro (ifT (by rw [al_e3.2.1]; rfl) (JnB.intro (ifT (by rw [al_e3.2.2.1]; rfl) (JnB.intro (ifT (by rw [al_e3.2.2.2.1]; rfl) (JnB.intro (ifT (by rw [al_e3.2.2.2.2.1]; rfl) (JnB.intro (ifT (by rw [al_e3.2.2.2.2.2]; rfl) ?_)))))))))))
  have y1 : takeAV al2.1 al2.2 20 1 = 32 := al_e4.2
  have y2 : takeAE al2.1 al2.2 20 1 = 0 := al_e4.1
  refine JnB.intro (ifT (by rw [y1]; rfl) (JnB.intro (ifT (by rw [y2]; rfl) (JnB.intro (ifT (by rw [al_e5.1]; rfl) (JnB.intro (ifT (by rw [al_e6]; rfl) (JnB.intro (ifT (by show (toCenE al5.1 0 [4096] == 0) = true; rw [al_e7]; rfl) (JnB.intro (ifT (by rw [al_e8.1]; rfl) ?_)))))))))))
  refine Owns_ok (hW7.keep0 e12).a 16 ?_
  have o1 : ownsA (trimS al6.1 al6.2).1 16 = false := al_e8.2
  rw [o1]
  exact hR v12 e012

end Go.Ar
