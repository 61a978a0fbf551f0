/- The laws BuddyPlays and BuddyNone: each returns true. -/
import Derived.Test.YtimoepajidnmjaaBuQ
namespace Go.Bu
open Go Go.Vc Go.Proofs
set_option linter.unusedSimpArgs false
set_option linter.unusedVariables false

variable {σ : Hp} {p n sb t rb : Nat} {S : Nat → Bool} {ms : List Nat}

/-! ## A heap that nobody made -/
def Dead (vh : Option Addr) (h : Hp) : Prop := vh = none ∨ ∃ p, vh = some ⟨p, 0, none⟩ ∧ Blk h p [.int .i64 0, .slice none 0 0]
theorem Dead.keep {vh : Option Addr} {h h' : Hp} (hd : Dead vh h) (e : Ext0 h h') : Dead vh h' := hd.imp id fun ⟨p, h1, h2⟩ => ⟨p, h1, e.blk h2 id⟩
theorem made_dead {vh : Option Addr} (hd : Dead vh σ) {R : Bool → Hp → Prop} (hR : R false σ) : buddy_Heap_made.call vh σ R := by
  rcases hd with rfl | ⟨p, rfl, hb⟩
  · exact made_nil hR
  · refine buddy_Heap_made.of_vc ?_
    unfold buddy_Heap_made.vc
    refine JnB.intro (ifT rfl (nilP (ldI0 (x := 0) (by rw [hb.cell]; rfl) ?_)))
    exact hR
theorem check_dead {vh : Option Addr} (hd : Dead vh σ) (a m : Int) {R : Int → Hp → Prop} (hR : R 5 σ) : buddy_Heap_check.call vh a m σ R := by
  refine buddy_Heap_check.of_vc ?_
  unfold buddy_Heap_check.vc
  exact made_dead hd (ifT rfl hR)
theorem Give_dead {vh : Option Addr} (hd : Dead vh σ) (a m : Int) {R : Int → Hp → Prop} (hR : R 5 σ) : buddy_Heap_Give.call vh a m σ R := by
  refine buddy_Heap_Give.of_vc ?_
  unfold buddy_Heap_Give.vc
  exact check_dead hd _ _ (ifT rfl hR)
theorem TakeRun_dead {vh : Option Addr} (hd : Dead vh σ) (a m : Int) {R : Int → Hp → Prop} (hR : R 5 σ) : buddy_Heap_TakeRun.call vh a m σ R := by
  refine buddy_Heap_TakeRun.of_vc ?_
  unfold buddy_Heap_TakeRun.vc
  exact check_dead hd _ _ (ifT rfl hR)
theorem Take_dead {vh : Option Addr} (hd : Dead vh σ) (a m : Int) {R : Int → Int → Hp → Prop} (hR : R 0 5 σ) : buddy_Heap_Take.call vh a m σ R := by
  refine buddy_Heap_Take.of_vc ?_
  unfold buddy_Heap_Take.vc
  exact made_dead hd (ifT rfl hR)
theorem Free_dead {vh : Option Addr} (hd : Dead vh σ) {R : Int → Hp → Prop} (hR : R 0 σ) : buddy_Heap_Free.call vh σ R := by
  refine buddy_Heap_Free.of_vc ?_
  unfold buddy_Heap_Free.vc
  exact made_dead hd (ifT rfl hR)
theorem Order_dead {vh : Option Addr} (hd : Dead vh σ) {R : Int → Hp → Prop} (hR : R (-1) σ) : buddy_Heap_Order.call vh σ R := by
  refine buddy_Heap_Order.of_vc ?_
  unfold buddy_Heap_Order.vc
  exact made_dead hd (ifT rfl hR)
theorem Runs_dead {vh : Option Addr} (hd : Dead vh σ) {R : Sl → Hp → Prop} (hR : R ⟨none, 0, 0⟩ σ) : buddy_Heap_Runs.call vh σ R := by
  refine buddy_Heap_Runs.of_vc ?_
  unfold buddy_Heap_Runs.vc
  exact made_dead hd (ifT rfl hR)
theorem Blocks_dead {vh : Option Addr} (hd : Dead vh σ) (k : Int) {R : Sl → Hp → Prop} (hR : R ⟨none, 0, 0⟩ σ) : buddy_Heap_Blocks.call vh k σ R := by
  refine buddy_Heap_Blocks.of_vc ?_
  unfold buddy_Heap_Blocks.vc
  exact made_dead hd (JnB.intro (ifT rfl (JnB.intro (ifT rfl hR))))
theorem Clone_dead {vh : Option Addr} (hd : Dead vh σ) {R : Option Addr → Hp → Prop} (hR : R none σ) : buddy_Heap_Clone.call vh σ R := by
  refine buddy_Heap_Clone.of_vc ?_
  unfold buddy_Heap_Clone.vc
  exact made_dead hd (ifT rfl hR)
theorem IsFree_dead {vh : Option Addr} (hd : Dead vh σ) (x : Int) {R : Bool → Hp → Prop} (hR : R false σ) : buddy_Heap_IsFree.call vh x σ R := by
  refine buddy_Heap_IsFree.of_vc ?_
  unfold buddy_Heap_IsFree.vc
  exact made_dead hd (JnB.intro (ifT rfl (JnB.intro (ifT rfl hR))))

theorem RGive_nil (a m : Int) {R : Int → Hp → Prop} (hR : R 5 σ) : freeholdref03_Heap_Give.call none a m σ R := by
  refine freeholdref03_Heap_Give.of_vc ?_
  unfold freeholdref03_Heap_Give.vc
  exact rmade_nil (ifT rfl hR)
theorem RTakeRun_nil (a m : Int) {R : Int → Hp → Prop} (hR : R 5 σ) : freeholdref03_Heap_TakeRun.call none a m σ R := by
  refine freeholdref03_Heap_TakeRun.of_vc ?_
  unfold freeholdref03_Heap_TakeRun.vc
  exact rmade_nil (ifT rfl hR)
theorem RTake_nil (a m : Int) {R : Int → Int → Hp → Prop} (hR : R 0 5 σ) : freeholdref03_Heap_Take.call none a m σ R := by
  refine freeholdref03_Heap_Take.of_vc ?_
  unfold freeholdref03_Heap_Take.vc
  exact rmade_nil (ifT rfl hR)
theorem RFree_nil {R : Int → Hp → Prop} (hR : R 0 σ) : freeholdref03_Heap_Free.call none σ R := by
  refine freeholdref03_Heap_Free.of_vc ?_
  unfold freeholdref03_Heap_Free.vc
  exact rmade_nil (ifT rfl hR)
theorem ROrder_nil {R : Int → Hp → Prop} (hR : R (-1) σ) : freeholdref03_Heap_Order.call none σ R := by
  refine freeholdref03_Heap_Order.of_vc ?_
  unfold freeholdref03_Heap_Order.vc
  exact rmade_nil (ifT rfl hR)
theorem RRuns_nil {R : Sl → Hp → Prop} (hR : R ⟨none, 0, 0⟩ σ) : freeholdref03_Heap_Runs.call none σ R := by
  refine freeholdref03_Heap_Runs.of_vc ?_
  unfold freeholdref03_Heap_Runs.vc
  exact rmade_nil (ifT rfl hR)
theorem RBlocks_nil (k : Int) {R : Sl → Hp → Prop} (hR : R ⟨none, 0, 0⟩ σ) : freeholdref03_Heap_Blocks.call none k σ R := by
  refine freeholdref03_Heap_Blocks.of_vc ?_
  unfold freeholdref03_Heap_Blocks.vc
  exact rmade_nil (JnB.intro (ifT rfl (JnB.intro (ifT rfl hR))))
theorem RClone_nil {R : Option Addr → Hp → Prop} (hR : R none σ) : freeholdref03_Heap_Clone.call none σ R := by
  refine freeholdref03_Heap_Clone.of_vc ?_
  unfold freeholdref03_Heap_Clone.vc
  exact rmade_nil (ifT rfl hR)
theorem RIsFree_nil (x : Int) {R : Bool → Hp → Prop} (hR : R false σ) : freeholdref03_Heap_IsFree.call none x σ R := by
  refine freeholdref03_Heap_IsFree.of_vc ?_
  unfold freeholdref03_Heap_IsFree.vc
  exact rmade_nil (JnB.intro (ifF rfl (JnB.intro (ifF rfl (JnB.intro (ifF rfl hR))))))

theorem slF_nil (B : Nat) (h : Hp) : SlF B h ⟨none, 0, 0⟩ (ints []) := ⟨rfl, .inl ⟨rfl, rfl⟩⟩
theorem slG_nil (B : Nat) (h : Hp) : SlG B h ⟨none, 0, 0⟩ 2 (runsV []) := ⟨rfl, .inl ⟨rfl, rfl⟩⟩

theorem play_dead {vh : Option Addr} (hd : Dead vh σ) (x y z : Int) {R : Bool → Hp → Prop} (hR : ∀ σ', Ext0 σ σ' → R true σ') : freeholdlaw03_play.call vh none x y z σ R := by
  refine freeholdlaw03_play.of_vc ?_
  unfold freeholdlaw03_play.vc Nw
  have hb := Blk.push σ [.int .i64 x, .int .i64 y, .int .i64 z] 44
  have e0 := ext_push σ (.cells #[.int .i64 x, .int .i64 y, .int .i64 z] 44 (0, 0))
  have hd1 := hd.keep e0
  have cc : ∀ h, Blk h σ.size [.int .i64 x, .int .i64 y, .int .i64 z] → cell h (Addr.add ⟨σ.size, 0, none⟩ 1) = some (.int .i64 y) ∧ cell h (Addr.add ⟨σ.size, 0, none⟩ 2) = some (.int .i64 z) := fun h hb => by
    rw [add_lit, add_lit]; exact ⟨by rw [hb.cell]; rfl, by rw [hb.cell]; rfl⟩
  refine ldI0 (hb.cell (o := 0)) (iff_ (fun _ => ?_) fun _ => iff_ (fun _ => ?_) fun _ => iff_ (fun _ => ?_) fun _ => hR _ e0)
  · refine ⟨fun h => Blk h σ.size [.int .i64 x, .int .i64 y, .int .i64 z], hb, y, fun h hb => (cc h hb).1, z, fun h hb => (cc h hb).2, y, fun h hb => (cc h hb).1, z, fun h hb => (cc h hb).2, ?_⟩
    exact Give_dead hd1 _ _ ⟨hb, RGive_nil _ _ ⟨hb, hR _ e0⟩⟩
  · refine ldI (cc _ hb).1 (ldI (cc _ hb).2 (Take_dead hd1 _ _ ?_))
    exact ldI (cc _ hb).1 (ldI (cc _ hb).2 (RTake_nil _ _ (JnB.intro (ifT rfl (hR _ e0)))))
  · refine ⟨fun h => Blk h σ.size [.int .i64 x, .int .i64 y, .int .i64 z], hb, y, fun h hb => (cc h hb).1, z, fun h hb => (cc h hb).2, y, fun h hb => (cc h hb).1, z, fun h hb => (cc h hb).2, ?_⟩
    exact TakeRun_dead hd1 _ _ ⟨hb, RTakeRun_nil _ _ ⟨hb, hR _ e0⟩⟩

theorem Same_dead {vh : Option Addr} (hd : Dead vh σ) {R : Bool → Hp → Prop} (hR : R true σ) : freeholdlaw03_Same.call vh none σ R := by
  refine freeholdlaw03_Same.of_vc ?_
  unfold freeholdlaw03_Same.vc
  refine Free_dead hd (RFree_nil (JnB.intro (ifF rfl (Order_dead hd (ROrder_nil (JnB.intro (ifF rfl ?_)))))))
  refine Runs_dead hd (RRuns_nil (RunsEq_ok (slG_nil 0 σ) (slG_nil 0 σ) (by simp) ?_))
  rw [decide_eq_true rfl]
  refine ifF rfl ?_
  refine loop1 (a := .i .i64) (fun (c : Int) h' => -1 ≤ c ∧ c ≤ 12 ∧ h' = σ) (fun c _ => (12 - c).toNat) ⟨by omega, by omega, rfl⟩ ?_
  rintro c h' ⟨h1, h2, rfl⟩
  refine ifD (fun h3 => ?_) fun _ => hR
  refine Blocks_dead hd _ (RBlocks_nil _ (Ints_ok (slF_nil 0 h') (slF_nil 0 h') (by simp) ?_))
  rw [decide_eq_true rfl]
  exact ifF rfl (ar (by omega) (by omega) ⟨⟨by omega, by omega, rfl⟩, by omega⟩)

/-! ## Both heaps -/
theorem play_ok (h : BH σ p n S sb ms) (r : RH σ t rb n S) (d1 : t ∉ ms) (d2 : rb ∉ ms) (d3 : ¬ fp p sb ms rb) (x y z : Int) {R : Bool → Hp → Prop}
    (hR : ∀ σ', Ext (fun b => b ∈ ms ∨ b = rb) σ σ' → BH σ' p n (doS n S (x, y, z)) sb ms → RH σ' t rb n (doS n S (x, y, z)) → R true σ') : freeholdlaw03_play.call (some ⟨p, 0, none⟩) (some ⟨t, 0, none⟩) x y z σ R := by
  refine freeholdlaw03_play.of_vc ?_
  unfold freeholdlaw03_play.vc Nw
  have hb := Blk.push σ [.int .i64 x, .int .i64 y, .int .i64 z] 44
  have e0 := ext_push σ (.cells #[.int .i64 x, .int .i64 y, .int .i64 z] 44 (0, 0))
  have h1 := h.keep0 e0
  have r1 := r.keep0 e0
  have cc : ∀ h, Blk h σ.size [.int .i64 x, .int .i64 y, .int .i64 z] → cell h (Addr.add ⟨σ.size, 0, none⟩ 1) = some (.int .i64 y) ∧ cell h (Addr.add ⟨σ.size, 0, none⟩ 2) = some (.int .i64 z) := fun h hb => by
    rw [add_lit, add_lit]; exact ⟨by rw [hb.cell]; rfl, by rw [hb.cell]; rfl⟩
  have nms : ¬ σ.size ∈ ms := fun hm => by have := h.ms_lt _ hm; omega
  have nrb : ¬ σ.size = rb := by have := r.rb_lt; omega
  generalize σ.push (.cells #[.int .i64 x, .int .i64 y, .int .i64 z] 44 (0, 0)) = σ1 at *
  have m1 : ∀ {a b : Hp}, Ext (· ∈ ms) a b → Ext (fun b => b ∈ ms ∨ b = rb) a b := fun e => e.mono fun _ _ h => .inl h
  have m2 : ∀ {a b : Hp}, Ext (· = rb) a b → Ext (fun b => b ∈ ms ∨ b = rb) a b := fun e => e.mono fun _ _ h => .inr h
  have kr : ∀ {a b : Hp} {T : Nat → Bool}, Ext (· ∈ ms) a b → RH a t rb n T → RH b t rb n T := fun e hr => hr.keep e d1 d2
  have kb : ∀ {a b : Hp} {T : Nat → Bool}, Ext (· = rb) a b → BH a p n T sb ms → BH b p n T sb ms := fun e hr => hr.keep e fun b hb e2 => by subst e2; exact d3 hb
  refine ldI0 (hb.cell (o := 0)) (iff_ (fun k0 => ?_) fun k0 => iff_ (fun k1 => ?_) fun k1 => iff_ (fun k2 => ?_) fun k2 => ?_)
  · have hx : x = 0 := by simpa using k0
    refine ⟨fun h => Blk h σ.size [.int .i64 x, .int .i64 y, .int .i64 z], hb, y, fun h hb => (cc h hb).1, z, fun h hb => (cc h hb).2, y, fun h hb => (cc h hb).1, z, fun h hb => (cc h hb).2, ?_⟩
    refine Give_ok h1 _ _ fun v1 e1 hB => ⟨e1.blk hb nms, RGive_ok (kr e1 r1) _ _ fun v2 e2 hC => ⟨e2.blk (e1.blk hb nms) nrb, ?_⟩⟩
    have := hR v2 ((e0.to.trans (m1 e1)).trans (m2 e2))
    simp only [doS, hx, if_true] at this
    rw [beq_self_eq_true]
    exact this (kb e2 hB) hC
  · have hx0 : ¬ x = 0 := by simpa using k0
    have hx : x = 1 := by simpa using k1
    refine ldI (cc _ hb).1 (ldI (cc _ hb).2 (Take_ok h1 _ _ fun v1 e1 hB => ?_))
    have hb1 := e1.blk hb nms
    refine ldI (cc _ hb1).1 (ldI (cc _ hb1).2 (RTake_ok (kr e1 r1) _ _ fun v2 e2 hC => JnB.intro ?_))
    have := hR v2 ((e0.to.trans (m1 e1)).trans (m2 e2))
    simp only [doS, if_neg hx0, hx, if_true] at this
    rw [beq_self_eq_true, beq_self_eq_true]
    exact ifT rfl (this (kb e2 hB) hC)
  · have hx0 : ¬ x = 0 := by simpa using k0
    have hx1 : ¬ x = 1 := by simpa using k1
    have hx : x = 2 := by simpa using k2
    refine ⟨fun h => Blk h σ.size [.int .i64 x, .int .i64 y, .int .i64 z], hb, y, fun h hb => (cc h hb).1, z, fun h hb => (cc h hb).2, y, fun h hb => (cc h hb).1, z, fun h hb => (cc h hb).2, ?_⟩
    refine TakeRun_ok h1 _ _ fun v1 e1 hB => ⟨e1.blk hb nms, RTakeRun_ok (kr e1 r1) _ _ fun v2 e2 hC => ⟨e2.blk (e1.blk hb nms) nrb, ?_⟩⟩
    have := hR v2 ((e0.to.trans (m1 e1)).trans (m2 e2))
    simp only [doS, if_neg hx0, if_neg hx1, hx, if_true] at this
    rw [beq_self_eq_true]
    exact this (kb e2 hB) hC
  · have hx0 : ¬ x = 0 := by simpa using k0
    have hx1 : ¬ x = 1 := by simpa using k1
    have hx2 : ¬ x = 2 := by simpa using k2
    have := hR σ1 e0.to
    simp only [doS, if_neg hx0, if_neg hx1, if_neg hx2] at this
    exact this h1 r1

theorem Same_ok (h : BH σ p n S sb ms) (r : RH σ t rb n S) {R : Bool → Hp → Prop} (hR : ∀ σ', Ext0 σ σ' → R true σ') : freeholdlaw03_Same.call (some ⟨p, 0, none⟩) (some ⟨t, 0, none⟩) σ R := by
  refine freeholdlaw03_Same.of_vc ?_
  unfold freeholdlaw03_Same.vc
  have n2 := h.n2
  refine Free_ok h (RFree_ok r (JnB.intro (ifF (by simp) (Order_ok h (ROrder_ok r fun h1 e1 => ?_)))))
  rw [top_up h.bnd h.hi 11 h.len]
  have hl1 := h.keep0 e1
  have rl1 := r.keep0 e1
  refine JnB.intro (ifF (by simp) (Runs_ok hl1 fun s1 h2 e2 hs1 => RRuns_ok (rl1.keep0 e2) fun s2 h3 e3 hs2 => ?_))
  have := runs_len S n
  refine RunsEq_ok (hs1.keep0 e3) hs2 (by omega) ?_
  rw [decide_eq_true rfl]
  have k3 := (e1.trans e2).trans e3
  refine ifF rfl (loop1 (a := .i .i64) (fun (c : Int) h' => -1 ≤ c ∧ c ≤ 12 ∧ Ext0 σ h') (fun c _ => (12 - c).toNat) ⟨by omega, by omega, k3⟩ ?_)
  rintro c h' ⟨h4, h5, hE⟩
  refine ifD (fun h6 => ?_) fun _ => hR _ hE
  refine Blocks_ok (h.keep0 hE) _ fun s3 h7 e7 hs3 => RBlocks_ok ((r.keep0 hE).keep0 e7) _ fun s4 h8 e8 hs4 => ?_
  have := blocks_lt h.bnd c
  refine Ints_ok (hs3.keep0 e8) hs4 (by omega) ?_
  rw [decide_eq_true rfl]
  exact ifF rfl (ar (by omega) (by omega) ⟨⟨by omega, by omega, (hE.trans e7).trans e8⟩, by omega⟩)

/-- Both heaps, alive or not, in memory that is newer than `B`. -/
def Pair (B : Nat) (h : Hp) (vh vt : Option Addr) : Prop :=
  (vh = none ∧ vt = none) ∨ ∃ p n S sb ms t rb, vh = some ⟨p, 0, none⟩ ∧ vt = some ⟨t, 0, none⟩ ∧ BH h p n S sb ms ∧ RH h t rb n S ∧ t ∉ ms ∧ rb ∉ ms ∧ ¬ fp p sb ms rb ∧ (∀ b, b ∈ ms → B ≤ b) ∧ B ≤ rb

theorem Plays_yes {l : Sl} {xs : List (Int × Int × Int)} (ha : Acts σ l xs) (pages page : Int) : freeholdlaw03_BuddyPlays.call pages l page σ (Yes σ) := by
  refine freeholdlaw03_BuddyPlays.of_vc ?_
  unfold freeholdlaw03_BuddyPlays.vc
  refine great_ok (ifD (fun _ => alive_jn (Ext.refl _ _)) fun hg => ?_)
  have hlen := ha.1
  have main : ∀ (vh vt : Option Addr) (h : Hp), Ext0 σ h → Pair σ.size h vh vt →
    LoopK [.p, .p, (.i .i64)] (fun I => I vh vt 0 h) fun J1 (vh : Option Addr) (t : Option Addr) (i : Int) v5 =>
    If (decide (i < ((l.len : Nat) : Int))) (Jn [.p, .p] (fun (vh1 : Option Addr) (t1 : Option Addr) v6 =>
      Ix l.a l.len i 3 fun a55 =>
      LdI .i64 (a55.add 0) v6 fun t56 =>
      LdI .i64 (a55.add 1) v6 fun t561 =>
      LdI .i64 (a55.add 2) v6 fun t562 =>
      freeholdlaw03_play.call vh1 t1 t56 t561 t562 v6 fun t57 v7 =>
      If (!t57) (Yes σ false v7)
       (Ar .i64 (i + 1) fun i1 =>
       J1 vh1 t1 i1 v7)) fun J2 =>
     Ix l.a l.len i 3 fun a43 =>
     LdI .i64 (a43.add 0) v5 fun t45 =>
     If (t45 == 3) (buddy_Heap_Clone.call vh v5 fun vh2 v8 =>
      freeholdref03_Heap_Clone.call t v8 fun t2 v9 =>
      J2 vh2 t2 v9)
      (J2 vh t v5))
     (freeholdlaw03_Same.call vh t v5 fun t61 v10 =>
     JnB (fun r1 v11 =>
      JnB (fun r2 v12 =>
       Yes σ r2 v12) fun J4 =>
      If r1 (freeholdlaw03_alive.call v11 fun t72 v13 =>
       J4 t72 v13)
       (J4 false v11)) fun J3 =>
     If t61 (buddy_Heap_IsFree.call vh page v10 fun t65 v14 =>
      freeholdref03_Heap_IsFree.call t page v14 fun t68 v15 =>
      J3 (t65 == t68) v15)
      (J3 false v10)) := by
    intro vh vt h hE hP
    refine loop3 (a := .p) (bb := .p) (c := .i .i64) (fun (vh : Option Addr) (vt : Option Addr) (c : Int) h' => ∃ i : Nat, c = (i : Int) ∧ i ≤ xs.length ∧ Ext0 σ h' ∧ Pair σ.size h' vh vt) (fun _ _ c _ => xs.length - c.toNat) ⟨0, rfl, by omega, hE, hP⟩ ?_
    rintro vh vt c h' ⟨i, rfl, hi, hE', hP'⟩
    have hA := acts_keep0 ha hE'
    refine ifD (fun hlt => ?_) fun hge => ?_
    · have hi' : i < xs.length := by omega
      obtain ⟨⟨x, y, z⟩, hx⟩ : ∃ u, xs[i] = u := ⟨_, rfl⟩
      have hx' : xs[i]? = some (x, y, z) := by rw [List.getElem?_eq_getElem hi', hx]
      have step : ∀ (vh1 vt1 : Option Addr) (v6 : Hp), Ext0 σ v6 → Pair σ.size v6 vh1 vt1 →
          Ix l.a l.len (i : Int) 3 fun a55 =>
          LdI .i64 (a55.add 0) v6 fun t56 =>
          LdI .i64 (a55.add 1) v6 fun t561 =>
          LdI .i64 (a55.add 2) v6 fun t562 =>
          freeholdlaw03_play.call vh1 vt1 t56 t561 t562 v6 fun t57 v7 =>
          If (!t57) (Yes σ false v7)
           (Ar .i64 ((i : Int) + 1) fun i1 =>
           (∃ i : Nat, i1 = (i : Int) ∧ i ≤ xs.length ∧ Ext0 σ v7 ∧ Pair σ.size v7 vh1 vt1) ∧ xs.length - i1.toNat < xs.length - (i : Int).toNat) := by
        intro vh1 vt1 v6 e6 hP6
        refine acts_rd (acts_keep0 ha e6) hx' ?_
        rcases hP6 with ⟨rfl, rfl⟩ | ⟨p, n, S, sb, ms, t, rb, rfl, rfl, hB, hR, d1, d2, d3, f1, f2⟩
        · exact play_dead (.inl rfl) _ _ _ fun v7 e7 => ifF rfl (arN (m := i + 1) (by omega) (by omega) ⟨⟨i + 1, rfl, by omega, e6.trans e7, .inl ⟨rfl, rfl⟩⟩, by omega⟩)
        · refine play_ok hB hR d1 d2 d3 _ _ _ fun v7 e7 hB7 hR7 => ifF rfl (arN (m := i + 1) (by omega) (by omega) ⟨⟨i + 1, rfl, by omega, Ext.fresh e6 e7 fun b hb => ?_, .inr ⟨p, n, _, sb, ms, t, rb, rfl, rfl, hB7, hR7, d1, d2, d3, f1, f2⟩⟩, by omega⟩)
          rcases hb with hb | rfl
          · exact f1 b hb
          · exact f2
      obtain ⟨b, o, h1, h2, h3, h4, h5⟩ := hA.2 i x y z hx'
      refine Jn.intro ?_
      rw [h1]
      refine ix (by omega) (by omega) ?_
      rw [add_lit]
      refine ldI0 (by simpa using h3) ?_
      rw [← h1]
      refine iff_ (fun h6 => ?_) fun h6 => step _ _ _ hE' hP'
      rcases hP' with ⟨rfl, rfl⟩ | ⟨p, n, S, sb, ms, t, rb, rfl, rfl, hB, hR, d1, d2, d3, f1, f2⟩
      · exact Clone_dead (.inl rfl) (RClone_nil (step _ _ _ hE' (.inl ⟨rfl, rfl⟩)))
      · refine Clone_ok hB fun h7 sb' ms' e7 hC hF => ?_
        refine RClone_ok (hR.keep0 e7) fun h8 t' rb' e8 hR8 g1 g2 => step _ _ _ ((hE'.trans e7).trans e8) ?_
        have z0 := hE'.1
        refine .inr ⟨h'.size, n, S, sb', ms', t', rb', rfl, rfl, hC.keep0 e8, hR8, fun hm => ?_, fun hm => ?_, fun hf => ?_, fun b hb => ?_, ?_⟩
        · have := hC.ms_lt _ hm; omega
        · have := hC.ms_lt _ hm; omega
        · have := hC.fp_lt hf; omega
        · have := hF b (mem_fp hb); omega
        · have := e7.1; omega
    · rcases hP' with ⟨rfl, rfl⟩ | ⟨p, n, S, sb, ms, t, rb, rfl, rfl, hB, hR, d1, d2, d3, f1, f2⟩
      · exact Same_dead (.inl rfl) (JnB.intro (ifT rfl (IsFree_dead (.inl rfl) _ (RIsFree_nil _ (JnB.intro (ifT rfl (alive_jn hE')))))))
      · refine Same_ok hB hR fun h7 e7 => JnB.intro (ifT rfl (isFree_ok (hB.keep0 e7) _ (RIsFree_ok (hR.keep0 e7) _ ?_)))
        rw [beq_self_eq_true]
        exact JnB.intro (ifT rfl (alive_jn (hE'.trans e7)))
  refine New_ok pages (fun hbad => ?_) fun n hn _ _ h1 sb ms e1 hB hF => ?_
  · exact RNew_ok pages (fun _ => JnB.intro (ifF rfl (ifF rfl (main _ _ _ (Ext.refl _ _) (.inl ⟨rfl, rfl⟩))))) fun n hn _ _ _ _ hR _ _ => (hbad (by have := hR.n1; have := hR.n2; omega)).elim
  · refine RNew_ok pages (fun hbad => (hbad (by omega)).elim) fun n' hn' h2 t rb e2 hR g1 g2 => ?_
    have : n' = n := by omega
    subst this
    have z1 := e1.1
    refine JnB.intro (ifF rfl (ifF rfl (main _ _ _ (e1.trans e2) (.inr ⟨σ.size, n', emptyS, sb, ms, t, rb, rfl, rfl, hB.keep0 e2, hR, fun hm => ?_, fun hm => ?_, fun hf => ?_, fun b hb => hF b (mem_fp hb), by omega⟩))))
    · have := hB.ms_lt _ hm; omega
    · have := hB.ms_lt _ hm; omega
    · have := hB.fp_lt hf; omega

theorem None_yes (x y z order : Int) : freeholdlaw03_BuddyNone.call x y z order σ (Yes σ) := by
  refine freeholdlaw03_BuddyNone.of_vc ?_
  unfold freeholdlaw03_BuddyNone.vc Nw
  have hb := Blk.push σ [.int .i64 x, .int .i64 y, .int .i64 z] 44
  have e0 := ext_push σ (.cells #[.int .i64 x, .int .i64 y, .int .i64 z] 44 (0, 0))
  obtain ⟨h0, hh0⟩ : ∃ h0, σ.push (.cells #[.int .i64 x, .int .i64 y, .int .i64 z] 44 (0, 0)) = h0 := ⟨_, rfl⟩
  dsimp only
  rw [hh0]
  have hb0 : Blk h0 σ.size [.int .i64 x, .int .i64 y, .int .i64 z] := by rw [← hh0]; exact hb
  have e0' : Ext0 σ h0 := by rw [← hh0]; exact e0
  have hu := Blk.push h0 [.int .i64 0, .slice none 0 0] 52
  have e1 := ext_push h0 (.cells #[.int .i64 0, .slice none 0 0] 52 (0, 0))
  obtain ⟨h1, hh1⟩ : ∃ h1, h0.push (.cells #[.int .i64 0, .slice none 0 0] 52 (0, 0)) = h1 := ⟨_, rfl⟩
  rw [hh1]
  have hu1 : Blk h1 h0.size [.int .i64 0, .slice none 0 0] := by rw [← hh1]; exact hu
  have e1' : Ext0 h0 h1 := by rw [← hh1]; exact e1
  have k1 : Ext0 σ h1 := e0'.trans e1'
  have hx1 := e1'.blk hb0 id
  have dn : ∀ h, Dead none h := fun h => .inl rfl
  have du : ∀ {h}, Ext0 h1 h → Dead (some ⟨h0.size, 0, none⟩) h := fun e => .inr ⟨h0.size, rfl, e.blk hu1 id⟩
  refine ldI0 (hx1.cell (o := 0)) (ldI0 (hx1.cell (o := 1)) (ldI0 (hx1.cell (o := 2)) ?_))
  refine play_dead (dn _) _ _ _ fun h2 e2 => JnB.intro (ifT rfl ?_)
  have hx2 := e2.blk hx1 id
  refine ldI0 (hx2.cell (o := 0)) (ldI0 (hx2.cell (o := 1)) (ldI0 (hx2.cell (o := 2)) ?_))
  refine play_dead (du e2) _ _ _ fun h3 e3 => ?_
  have e13 := e2.trans e3
  have hx3 := e3.blk hx2 id
  refine JnB.intro (ifT rfl (Same_dead (dn _) ?_))
  refine JnB.intro (ifT rfl (Same_dead (du e13) ?_))
  refine JnB.intro (ifT rfl (Clone_dead (dn _) ?_))
  refine JnB.intro (ifT rfl (Clone_dead (du e13) ?_))
  refine JnB.intro (ifT rfl (Blocks_dead (dn _) _ ?_))
  refine JnB.intro (ifT rfl (Blocks_dead (du e13) _ ?_))
  refine JnB.intro (ifT rfl (ldI0 (hx3.cell (o := 1)) (IsFree_dead (dn _) _ ?_)))
  refine JnB.intro (ifT rfl (ldI0 (hx3.cell (o := 1)) (IsFree_dead (du e13) _ ?_)))
  exact JnB.intro (ifT rfl (alive_jn (k1.trans e13)))

end Go.Bu
