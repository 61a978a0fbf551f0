/- Code: regions, branches, blocks, loops; the calculus and that it is sound. -/
import Derived.Test.YtimoepajidnmjaaVcJ
namespace Go.Vc
open Go
set_option linter.unusedSimpArgs false
set_option linter.unusedVariables false

def isPick : Op → Bool
  | .pick .. => true
  | _ => false
def allQ (os : List Oper) : Bool := os.all fun o => isQ o.op || isPick o.op

theorem opsK_still {P : Program} {N : Nat} {ops : Array Oper} {Q : Act → Prop} {w : World} : ∀ (n : Nat) {hs : List RI} {os : List Oper} {tail : List Oper} {ρ : Env} {a : Act} {K : Env → Hp → Prop},
    opsK P N ops n hs os ρ w.heap K → allQ os = true → Fits N ρ a → (∀ ρ' a', Fits N ρ' a' → Keeps os ρ ρ' → K ρ' w.heap → wpStill P ops w Q tail a') → wpStill P ops w Q (os ++ tail) a
  | 0, _, _, _, _, _, _, h, _, _, _ => (by simp only [opsK] at h)
  | n + 1, [], [], tail, ρ, a, K, h, hq, hf, hK => by
    simp only [opsK] at h
    exact hK ρ a hf (fun _ _ _ h => h) h
  | n + 1, [], o :: os, tail, ρ, a, K, h, hq, hf, hK => (by simp only [opsK] at h)
  | n + 1, .op :: hs, [], tail, ρ, a, K, h, hq, hf, hK => (by simp only [opsK] at h)
  | n + 1, .it ki c :: hs, [], tail, ρ, a, K, h, hq, hf, hK => (by simp only [opsK] at h)
  | n + 1, .it ki c :: hs, o :: os, tail, ρ, a, K, h, hq, hf, hK => by
    simp only [opsK] at h
    rw [chk_iff] at h
    simp only [allQ, List.all_cons, Bool.and_eq_true, Bool.or_eq_true] at hq
    have h2 := h.2
    unfold itK at h2
    split at h2
    · rename_i heq; rw [heq] at hq; simp [isQ, isPick] at hq
    · rename_i heq; rw [heq] at hq; simp [isQ, isPick] at hq
    · exact h2.elim
  | n + 1, .op :: hs, o :: os, tail, ρ, a, K, h, hq, hf, hK => by
    simp only [opsK] at h
    rw [chk_iff] at h
    obtain ⟨hc, h⟩ := h
    simp only [Bool.and_eq_true] at hc
    have hw := grdOk_wanted hf hc.1
    simp only [allQ, List.all_cons, Bool.and_eq_true, Bool.or_eq_true] at hq
    have hqo : isQ o.op = true := by
      rcases hq.1 with h1 | h1
      · exact h1
      · unfold isPick at h1
        split at h1
        · rename_i heq; rw [heq]; rfl
        · cases h1
    unfold opK at h
    rw [hqo] at h
    obtain ⟨v, hr, hk⟩ := qK_sound hf.ev o h
    simp only [List.cons_append, wpStill, hw, if_true, Oper.still, hr, Oper.stillUpon]
    exact ⟨trivial, opsK_still n hk (by simpa [allQ] using hq.2) (hf.put hc.2 v) fun ρ' a' hf' ke hk' => hK ρ' a' hf' ke.cons hk'⟩
  | n + 1, .grd and m inner :: hs, os, tail, ρ, a, K, h, hq, hf, hK => by
    simp only [opsK] at h
    split at h
    case h_2 => exact h.elim
    rename_i pk rest hdrop
    split at h
    case h_2 => exact h.elim
    rename_i c x y d hop hd
    split at h
    case h_2 => exact h.elim
    rename_i b hb
    rw [chk_iff] at h
    obtain ⟨hc, J, hJ, h⟩ := h
    simp only [Bool.and_eq_true] at hc
    obtain ⟨hdN, hcon, hpk, hcc, hskip⟩ := hc
    have hos : os ++ tail = os.take m ++ (pk :: rest ++ tail) := by
      rw [← hdrop, ← List.append_assoc, List.take_append_drop]
    have hqt : allQ (os.take m) = true := by
      rw [allQ, List.all_eq_true] at hq ⊢
      exact fun o ho => hq o (List.mem_of_mem_take ho)
    have hqr : allQ rest = true := by
      rw [allQ, List.all_eq_true] at hq ⊢
      exact fun o ho => hq o (List.mem_of_mem_drop (i := m) (by rw [hdrop]; exact List.mem_cons_of_mem _ ho))
    rw [hos]
    have after : ∀ (r b' : Bool) (z : Operand) a', b = b' → (bif b' then x else y) = z → Fits N (ρ.hide ((os.take m).filterMap (·.dst))) a' → J r w.heap → Region.wanted pk (yielded ops a'.tmps) = true →
        a'.eval (.tmp c) = .bool b' → a'.eval z = .bool r → wpStill P ops w Q (pk :: rest ++ tail) a' := by
      intro r b' z a' e ez hf' hj hw hec hez
      have hrun : (execOp a'.eval pk).run P w = .ok (.value (.bool r)) w := by
        obtain ⟨dst, op, ty, pos, aft, guard⟩ := pk
        simp only at hop
        subst hop
        subst ez
        cases b' <;> simp at hez <;> simp [execOp, hec, asBool, hez]
      simp only [List.cons_append, wpStill, hw, if_true, Oper.still, hrun, Oper.stillUpon]
      have hfp := hf'.put (d := some d) hdN (.bool r)
      rw [hd]
      exact ⟨trivial, opsK_still n (hJ _ _ hj) hqr hfp fun ρ' a'' hf'' ke hk' => hK ρ' a'' hf'' (Keeps.grd hd hdrop ke) hk'⟩
    have run : ∀ (b' : Bool) (z : Operand), b = b' → (bif b' then x else y) = z →
        opsK P N ops n inner (os.take m) (ρ.put c (.bool b')) w.heap (fun ρ' h' => chk (grdOk ops pk ρ' && cIs ρ' c b') (boolAt ρ' z fun r => J r h')) → wpStill P ops w Q (os.take m ++ (pk :: rest ++ tail)) a := by
      intro b' z e ez hseg
      refine opsK_still n hseg hqt (hf.lit hb e) fun ρ' a' hf' ke hk => ?_
      rw [chk_iff] at hk
      simp only [Bool.and_eq_true] at hk
      obtain ⟨⟨hg, hci⟩, hk⟩ := hk
      obtain ⟨r, hr, hj⟩ := boolAt_inv hk
      exact after r b' z a' e ez (hf'.seg hb e ke) hj (grdOk_wanted hf' hg) (hf'.ev _ _ (cIs_spec hci)) (hf'.ev _ _ hr)
    have skip : ∀ (b' : Bool), b = b' → b' = !and → J (!and) w.heap → wpStill P ops w Q (os.take m ++ (pk :: rest ++ tail)) a := by
      intro b' e eb hj
      subst eb
      refine skip_still hskip (hf.lit hb e) fun a' hf' => ?_
      have hfs : Fits N (ρ.hide ((os.take m).filterMap (·.dst))) a' := hf'.seg (ρ' := (ρ.put c (.bool (!and))).hide ((os.take m).filterMap (·.dst))) hb e (fun i hi v hv => by simp only [Env.hide, hi]; exact hv)
      have hec := hf'.ev (.tmp c) _ (cIs_spec hcc)
      refine after (!and) (!and) (bif (!and) then x else y) a' e rfl hfs hj (grdOk_wanted hfs hpk) hec ?_
      refine isC_spec ?_ _ (fun v => rfl)
      cases and <;> exact hcon
    cases and
    · simp only [cond_false] at h
      cases b
      · exact run false y rfl rfl (h.f rfl)
      · exact skip true rfl rfl (h.t rfl)
    · simp only [cond_true] at h
      cases b
      · exact skip false rfl rfl (h.f rfl)
      · exact run true x rfl rfl (h.t rfl)

/-! ## Regions -/
inductive RH where
  | seq (hs : List RI)
  | quiet (hs : List RI)
  | tail (n : Nat) (hs1 hs2 : List RI)
  | held (sm : Bool) (C : List Nat) (sh : SH)
  | heldJ (sm : Bool) (C : List Nat) (js : Js) (sh : SH)

def rdsts (ops : Array Oper) : List Nat := ops.toList.filterMap (·.dst)

def regK (P : Program) (N : Nat) (r : RH) (ops : Array Oper) (draw : Bool) (ρ : Env) (h : Hp) (K : Env → Hp → Prop) : Prop :=
  match r, draw with
  | .seq hs, false => opsK P N ops 400 hs ops.toList ρ h K
  | .quiet hs, true => chk (P.follows .mixedOrders && (Region.lexB .any ops && allQ ops.toList)) (opsK P N ops 400 hs ops.toList ρ h K)
  | .tail n hs1 hs2, true => chk (P.follows .mixedOrders && (Region.lexTailB .any ops n && allQ (ops.toList.take n)))
      (opsK P N ops 400 hs1 (ops.toList.take n) ρ h fun ρ' h' => opsK P N ops 400 hs2 (ops.toList.drop n) ρ' h' K)
  | .held sm C sh, true => chk (P.follows .mixedOrders && Region.noSelect ops) (heldR P N sm C sh ops ρ h K)
  | .heldJ sm C js sh, true => chk (P.follows .mixedOrders && (Region.noSelect ops && js.all fun s => isIn (rdsts ops) s.1))
      (Jn (ksJ js) (lam (ksJ js) fun vs h' => K (putJ (ρ.hide (rdsts ops)) js vs) h') fun J => heldR P N sm C sh ops ρ h fun ρ' h' => apJ js ρ' J h')
  | _, _ => False

theorem regK_sound {P : Program} {N id : Nat} {r : RH} {ops : Array Oper} {draw : Bool} {ρ : Env} {a : Act} {w : World} {K : Env → Hp → Prop} {Q : Exit → Act → World → Prop}
    (h : regK P N r ops draw ρ w.heap K) (hf : Fits N ρ a) (hK : ∀ ρ' a' w', Fits N ρ' a' → IOsame w w' → Keeps ops.toList ρ ρ' → K ρ' w'.heap → Q .normal a' w') : (Code.region id ops draw).wp P Q a w := by
  unfold regK at h
  split at h
  · rename_i hs
    refine wp_region_list ?_
    have := opsK_sound (Q := Q) (tail := []) 400 h hf fun ρ' a' w' hf' io ke hk => hK ρ' a' w' hf' io ke hk
    simpa using this
  · rename_i hs
    rw [chk_iff] at h
    simp only [Bool.and_eq_true] at h
    obtain ⟨⟨hm, hB, hq⟩, h⟩ := h
    refine wp_region_still hm hB ?_
    have := opsK_still (w := { w with drawn := w.drawn + 1 }) (Q := fun a' => Q .normal a' { w with drawn := w.drawn + 1 }) (tail := []) 400 h hq hf fun ρ' a' hf' ke hk => hK ρ' a' _ hf' ⟨rfl, rfl, rfl, Nat.le_refl _⟩ ke hk
    simpa using this
  · rename_i n hs1 hs2
    rw [chk_iff] at h
    simp only [Bool.and_eq_true] at h
    obtain ⟨⟨hm, hB, hq⟩, h⟩ := h
    obtain ⟨l, rfl⟩ : ∃ l : List Oper, ops = l.toArray := ⟨ops.toList, by simp⟩
    refine wp_region_still_tail n hm hB ?_
    have := opsK_still (w := { w with drawn := w.drawn + 1 }) (ops := l.toArray) (Q := fun a' => wpList P l.toArray Q (l.drop n) a' { w with drawn := w.drawn + 1 }) (tail := []) 400 h (by simpa using hq) hf (fun ρ' a' hf' ke hk => by
      have := opsK_sound (Q := Q) (tail := []) (w := { w with drawn := w.drawn + 1 }) 400 hk hf' fun ρ'' a'' w'' hf'' io ke' hk' => hK ρ'' a'' w'' hf'' (IOsame.trans (b := { w with drawn := w.drawn + 1 }) ⟨rfl, rfl, rfl, Nat.le_refl _⟩ io) (fun i hi v hv => ?_) hk'
      · simpa [wpStill] using this
      · rw [show l.toArray.toList = l.take n ++ l.drop n by simp, List.filterMap_append] at hi
        simp only [List.contains_eq_mem, List.mem_append, decide_eq_false_iff_not, not_or] at hi
        exact ke' i (by simpa using hi.2) v (ke i (by simpa using hi.1) v hv))
    simpa using this
  · rename_i sm sh
    rw [chk_iff] at h
    simp only [Bool.and_eq_true] at h
    exact wp_region_heldR h.1.1 h.1.2 h.2 hf hK
  · rename_i sm js sh
    rw [chk_iff] at h
    simp only [Bool.and_eq_true] at h
    obtain ⟨⟨hm, hsel, hjs⟩, J, hJ, h⟩ := h
    refine wp_region_heldR hm hsel h hf fun ρ' a' w' hf' io ke hk => ?_
    obtain ⟨vs, hv, hs⟩ := apJ_inv hk
    have hs' := sat_lam (hs.mono hJ)
    refine hK _ a' w' (putJ_fits js (keeps_fits hf' ke) hf' hv) io ?_ hs'
    exact ((keeps_hide (rdsts ops) ρ).trans (putJ_keeps (rdsts ops) js (ρ.hide (rdsts ops)) vs hjs)).mono fun i hi => by
      simp only [List.mem_append] at hi
      rcases hi with h | h <;> exact h
  · exact h.elim

end Go.Vc
