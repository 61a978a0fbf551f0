/- Regions: a list of operations in the order of the text; regions that draw their order. -/
import Derived.Test.YtimoepajidnmjaaVcE
import Derived.StillTail
namespace Go.Vc
open Go
set_option linter.unusedSimpArgs false
set_option linter.unusedVariables false

structure Fits (N : Nat) (ρ : Env) (a : Act) : Prop where
  defers : a.defers = []
  size : a.tmps.size = N
  at_ : ∀ i v, ρ i = some v → a.tmps[i]? = some v

theorem Fits.ev {N : Nat} {ρ : Env} {a : Act} (h : Fits N ρ a) : ∀ x v, ev ρ x = some v → a.eval x = v := by
  intro x v hx
  cases x with
  | tmp t =>
    have := h.at_ t v hx
    simp [Act.eval, Array.getD_eq_getD_getElem?, this]
  | const u => simp only [Vc.ev, Option.some.injEq] at hx; exact hx
  | global g => simp only [Vc.ev, Option.some.injEq] at hx; exact hx
  | func f => simp only [Vc.ev, Option.some.injEq] at hx; exact hx

def dstOk (N : Nat) : Option Nat → Bool
  | some d => Nat.blt d N
  | none => true

theorem Fits.put {N : Nat} {ρ : Env} {a : Act} (h : Fits N ρ a) {d : Option Nat} (hd : dstOk N d = true) (v : Value) : Fits N (ρ.putO d v) (a.put d v) := by
  cases d with
  | none => exact h
  | some d =>
    have hd' : d < N := Nat.blt_eq.mp hd
    refine ⟨h.defers, by simp [Act.put, h.size], fun i u hu => ?_⟩
    simp only [Env.putO, Env.put] at hu
    cases hi : Nat.beq i d
    · rw [hi] at hu
      have hne : i ≠ d := fun e => by subst e; simp at hi
      simp only [Act.put]
      rw [Array.getElem?_setIfInBounds_ne (Ne.symm hne)]
      exact h.at_ i u hu
    · rw [hi] at hu
      have e : i = d := Nat.eq_of_beq_eq_true hi
      subst e
      simp only [cond_true, Option.some.injEq] at hu
      subst hu
      simp [Act.put, h.size, hd']

theorem Fits.weaken {N : Nat} {ρ ρ' : Env} {a : Act} (h : Fits N ρ a) (hw : ∀ i v, ρ' i = some v → ρ i = some v) : Fits N ρ' a :=
  ⟨h.defers, h.size, fun i v hv => h.at_ i v (hw i v hv)⟩
theorem hide_le (ρ : Env) (ds : List Nat) : ∀ i v, ρ.hide ds i = some v → ρ i = some v := by
  intro i v h
  simp only [Env.hide] at h
  cases hc : ds.contains i <;> rw [hc] at h <;> simp at h
  exact h
/-- A slot that is known to hold a bool may be known by its value. -/
theorem Fits.lit {N : Nat} {ρ : Env} {a : Act} (h : Fits N ρ a) {c : Nat} {b b' : Bool} (hc : ρ c = some (.bool b)) (e : b = b') : Fits N (ρ.put c (.bool b')) a := by
  subst e
  refine h.weaken fun i v hv => ?_
  simp only [Env.put] at hv
  cases hi : Nat.beq i c
  · rw [hi] at hv; exact hv
  · rw [hi] at hv
    have e : i = c := Nat.eq_of_beq_eq_true hi
    subst e
    rw [hc]; exact hv

/-- Does the operation run (its guard's slot holds a literal)? -/
def grdOk (ops : Array Oper) (o : Oper) (ρ : Env) : Bool :=
  match o.guard with
  | none => true
  | some (j, want) => match (ops[j]?).bind (·.dst) with
    | some c => match ρ c with
      | some (.bool b) => b == want
      | _ => false
    | none => false
def grdNo (ops : Array Oper) (o : Oper) (ρ : Env) : Bool :=
  match o.guard with
  | none => false
  | some (j, want) => match (ops[j]?).bind (·.dst) with
    | some c => match ρ c with
      | some (.bool b) => !(b == want)
      | some (.tuple _) => true
      | _ => false
    | none => false

theorem grdOk_wanted {N : Nat} {ops : Array Oper} {o : Oper} {ρ : Env} {a : Act} (hf : Fits N ρ a) (h : grdOk ops o ρ = true) : Region.wanted o (yielded ops a.tmps) = true := by
  unfold grdOk at h
  unfold Region.wanted
  cases hg : o.guard with
  | none => rfl
  | some jw =>
    obtain ⟨j, want⟩ := jw
    rw [hg] at h
    simp only at h ⊢
    cases hc : (ops[j]?).bind (·.dst) with
    | none => rw [hc] at h; cases h
    | some c =>
      rw [hc] at h
      simp only at h
      split at h
      · rename_i b hb
        have := hf.at_ c _ hb
        simp only [yielded, hc, Option.bind_some, this]
        simpa using h
      · cases h

theorem grdNo_wanted {N : Nat} {ops : Array Oper} {o : Oper} {ρ : Env} {a : Act} (hf : Fits N ρ a) (h : grdNo ops o ρ = true) : Region.wanted o (yielded ops a.tmps) = false := by
  unfold grdNo at h
  unfold Region.wanted
  cases hg : o.guard with
  | none => rw [hg] at h; cases h
  | some jw =>
    obtain ⟨j, want⟩ := jw
    rw [hg] at h
    simp only at h ⊢
    cases hc : (ops[j]?).bind (·.dst) with
    | none => rw [hc] at h; cases h
    | some c =>
      rw [hc] at h
      simp only at h
      split at h
      · rename_i b hb
        have := hf.at_ c _ hb
        simp only [yielded, hc, Option.bind_some, this]
        simpa using h
      · rename_i b hb
        have := hf.at_ c _ hb
        simp only [yielded, hc, Option.bind_some, this]
        rfl
      · cases h

def skipRun (N : Nat) (ops : Array Oper) : List Oper → Env → Bool
  | [], _ => true
  | o :: os, ρ => grdNo ops o ρ && (dstOk N o.dst && skipRun N ops os (ρ.putO o.dst undef))

theorem skip_wp {P : Program} {N : Nat} {ops : Array Oper} {Q : Exit → Act → World → Prop} {tail : List Oper} {w : World} : ∀ {os : List Oper} {ρ : Env} {a : Act}, skipRun N ops os ρ = true → Fits N ρ a →
    (∀ a', Fits N (ρ.hide (os.filterMap (·.dst))) a' → wpList P ops Q tail a' w) → wpList P ops Q (os ++ tail) a w
  | [], ρ, a, _, hf, h => h a (hf.weaken (hide_le _ _))
  | o :: os, ρ, a, hs, hf, h => by
    simp only [skipRun, Bool.and_eq_true] at hs
    obtain ⟨h1, h2, h3⟩ := hs
    have hw := grdNo_wanted hf h1
    simp only [List.cons_append, wpList, hw]
    refine skip_wp h3 (hf.put h2 _) fun a' hf' => h a' (hf'.weaken fun i v hv => ?_)
    simp only [Env.hide] at hv ⊢
    cases hc : (List.filterMap (·.dst) (o :: os)).contains i
    · rw [hc] at hv
      simp only [cond_false] at hv
      have hni : (List.filterMap (·.dst) os).contains i = false := by
        cases hd : o.dst <;> simp_all
      have hne : ∀ d, o.dst = some d → i ≠ d := by
        intro d hd
        simp_all
      rw [hni]
      simp only [cond_false]
      cases hd : o.dst with
      | none => exact hv
      | some d =>
        have := hne d hd
        simp only [Env.putO, Env.put]
        have : Nat.beq i d = false := by
          cases hb : Nat.beq i d
          · rfl
          · exact absurd (Nat.eq_of_beq_eq_true hb) this
        rw [this]; exact hv
    · rw [hc] at hv; cases hv

theorem skip_still {P : Program} {N : Nat} {ops : Array Oper} {Q : Act → Prop} {tail : List Oper} {w : World} : ∀ {os : List Oper} {ρ : Env} {a : Act}, skipRun N ops os ρ = true → Fits N ρ a →
    (∀ a', Fits N (ρ.hide (os.filterMap (·.dst))) a' → wpStill P ops w Q tail a') → wpStill P ops w Q (os ++ tail) a
  | [], ρ, a, _, hf, h => h a (hf.weaken (hide_le _ _))
  | o :: os, ρ, a, hs, hf, h => by
    simp only [skipRun, Bool.and_eq_true] at hs
    obtain ⟨h1, h2, h3⟩ := hs
    have hw := grdNo_wanted hf h1
    simp only [List.cons_append, wpStill, hw]
    refine skip_still h3 (hf.put h2 _) fun a' hf' => h a' (hf'.weaken fun i v hv => ?_)
    simp only [Env.hide] at hv ⊢
    cases hc : (List.filterMap (·.dst) (o :: os)).contains i
    · rw [hc] at hv
      simp only [cond_false] at hv
      have hni : (List.filterMap (·.dst) os).contains i = false := by
        cases hd : o.dst <;> simp_all
      have hne : ∀ d, o.dst = some d → i ≠ d := by
        intro d hd
        simp_all
      rw [hni]
      simp only [cond_false]
      cases hd : o.dst with
      | none => exact hv
      | some d =>
        have := hne d hd
        simp only [Env.putO, Env.put]
        have : Nat.beq i d = false := by
          cases hb : Nat.beq i d
          · rfl
          · exact absurd (Nat.eq_of_beq_eq_true hb) this
        rw [this]; exact hv
    · rw [hc] at hv; cases hv

/-- Two ways that meet again with a bool. -/
def JnB (K : Bool → Hp → Prop) (body : (Bool → Hp → Prop) → Prop) : Prop := ∃ J : Bool → Hp → Prop, (∀ r h, J r h → K r h) ∧ body J
theorem JnB.intro {K : Bool → Hp → Prop} {body : (Bool → Hp → Prop) → Prop} (h : body K) : JnB K body := ⟨K, fun _ _ h => h, h⟩

inductive RI where
  | op
  | it (k : IntKind) (c : CK)
  | grd (and : Bool) (n : Nat) (inner : List RI)

def isC (b : Bool) : Operand → Bool
  | .const (.bool b') => b' == b
  | _ => false

def boolAt (ρ : Env) (x : Operand) (K : Bool → Prop) : Prop := match ev ρ x with
  | some (.bool r) => K r
  | _ => False

def cIs (ρ : Env) (c : Nat) (b : Bool) : Bool := match ρ c with
  | some (.bool b') => b' == b
  | _ => false

def opsK (P : Program) (N : Nat) (ops : Array Oper) : Nat → List RI → List Oper → Env → Hp → (Env → Hp → Prop) → Prop
  | 0, _, _, _, _, _ => False
  | _ + 1, [], [], ρ, h, K => K ρ h
  | n + 1, .op :: hs, o :: os, ρ, h, K => chk (grdOk ops o ρ && dstOk N o.dst) (opK P o.op o.type ρ h fun v h' => opsK P N ops n hs os (ρ.putO o.dst v) h' K)
  | n + 1, .it ki c :: hs, o :: os, ρ, h, K => chk (grdOk ops o ρ && dstOk N o.dst) (itK ki c o.op ρ h fun v h' => opsK P N ops n hs os (ρ.putO o.dst v) h' K)
  | n + 1, .grd and m inner :: hs, os, ρ, h, K =>
    match os.drop m with
    | pk :: rest => match pk.op, pk.dst with
      | .pick (.tmp c) x y, some d => match ρ c with
        | some (.bool b) => chk (Nat.blt d N && (isC (!and) (bif and then y else x) && (grdOk ops pk (ρ.hide ((os.take m).filterMap (·.dst))) && (cIs ((ρ.put c (.bool (!and))).hide ((os.take m).filterMap (·.dst))) c (!and) && skipRun N ops (os.take m) (ρ.put c (.bool (!and)))))))
          (JnB (fun r h' => opsK P N ops n hs rest ((ρ.hide ((os.take m).filterMap (·.dst))).put d (.bool r)) h' K) fun J =>
            bif and then If b (opsK P N ops n inner (os.take m) (ρ.put c (.bool true)) h fun ρ' h' => chk (grdOk ops pk ρ' && cIs ρ' c true) (boolAt ρ' x fun r => J r h')) (J false h)
            else If b (J true h) (opsK P N ops n inner (os.take m) (ρ.put c (.bool false)) h fun ρ' h' => chk (grdOk ops pk ρ' && cIs ρ' c false) (boolAt ρ' y fun r => J r h')))
        | _ => False
      | _, _ => False
    | [] => False
  | _, _, _, _, _, _ => False

theorem opK_leaves {P : Program} {ρ : Env} {K : Value → Hp → Prop} {a : Act} {w : World} (hf : ∀ x v, ev ρ x = some v → a.eval x = v) (o : Oper) (hk : opK P o.op o.type ρ w.heap K) :
    Leaves P (execOp a.eval o) w K := by
  unfold opK at hk
  cases hq : isQ o.op
  · rw [hq] at hk; exact eK_sound hf o hk
  · rw [hq] at hk
    obtain ⟨v, hr, hK⟩ := qK_sound hf o hk
    exact .inl ⟨v, w, hr, .refl _, hK⟩

theorem boolAt_inv {ρ : Env} {x : Operand} {K : Bool → Prop} (h : boolAt ρ x K) : ∃ r, ev ρ x = some (.bool r) ∧ K r := by
  unfold boolAt at h
  split at h
  · exact ⟨_, by assumption, h⟩
  · exact h.elim

theorem isC_spec {b : Bool} {x : Operand} (h : isC b x = true) (ρ : Operand → Value) (hc : ∀ v, ρ (.const v) = v) : ρ x = .bool b := by
  unfold isC at h
  split at h
  · rw [hc]; simp at h; rw [h]
  · cases h

theorem pick_leaves {P : Program} {a : Act} {w : World} {o : Oper} {c x y : Operand} {b r : Bool} {K : Value → Hp → Prop} (ho : o.op = .pick c x y) (hc : a.eval c = .bool b) (hr : a.eval (bif b then x else y) = .bool r) (hK : K (.bool r) w.heap) :
    Leaves P (execOp a.eval o) w K := by
  obtain ⟨dst, op, ty, pos, after, guard⟩ := o
  simp only at ho
  subst ho
  refine .inl ⟨_, w, ?_, .refl _, hK⟩
  cases b <;> simp at hr <;> simp [execOp, hc, asBool, hr]

def Keeps (os : List Oper) (ρ ρ' : Env) : Prop := ∀ i, (os.filterMap (·.dst)).contains i = false → ∀ v, ρ i = some v → ρ' i = some v
theorem Keeps.cons {o : Oper} {os : List Oper} {ρ ρ' : Env} {v : Value} (h : Keeps os (ρ.putO o.dst v) ρ') : Keeps (o :: os) ρ ρ' := by
  intro i hi u hu
  cases hd : o.dst with
  | none => rw [hd] at h; exact h i (by simpa [hd] using hi) u hu
  | some d =>
    rw [hd] at h
    simp [hd] at hi
    refine h i (by simpa using hi.2) u ?_
    simp only [Env.putO, Env.put]
    have : Nat.beq i d = false := by
      cases hb : Nat.beq i d
      · rfl
      · exact absurd (Nat.eq_of_beq_eq_true hb) hi.1
    rw [this]; exact hu
theorem Keeps.grd {os rest : List Oper} {pk : Oper} {m d : Nat} {ρ ρ' : Env} {r : Bool} (hd : pk.dst = some d) (hdrop : os.drop m = pk :: rest) (h : Keeps rest ((ρ.hide ((os.take m).filterMap (·.dst))).put d (.bool r)) ρ') : Keeps os ρ ρ' := by
  intro i hi u hu
  rw [← List.take_append_drop m os, hdrop, List.filterMap_append, List.filterMap_cons, hd] at hi
  simp only [List.contains_eq_mem, List.mem_append, List.mem_cons, decide_eq_false_iff_not, not_or] at hi
  refine h i (by simpa using hi.2.2) u ?_
  simp only [Env.put, Env.hide]
  have : Nat.beq i d = false := by
    cases hb : Nat.beq i d
    · rfl
    · exact absurd (Nat.eq_of_beq_eq_true hb) hi.2.1
  rw [this]
  have h2 : ((os.take m).filterMap (·.dst)).contains i = false := by simpa using hi.1
  rw [h2]; exact hu
theorem Fits.seg {N : Nat} {os : List Oper} {ρ ρ' : Env} {a : Act} {c : Nat} {b b' : Bool} (h : Fits N ρ' a) (hc : ρ c = some (.bool b)) (e : b = b') (k : Keeps os (ρ.put c (.bool b')) ρ') : Fits N (ρ.hide (os.filterMap (·.dst))) a := by
  refine h.weaken fun i v hv => ?_
  simp only [Env.hide] at hv
  cases hci : (os.filterMap (·.dst)).contains i
  · rw [hci] at hv
    refine k i hci v ?_
    simp only [Env.put]
    cases hb : Nat.beq i c
    · exact hv
    · have e2 : i = c := Nat.eq_of_beq_eq_true hb
      subst e2
      simp only [cond_false] at hv
      rw [hc] at hv
      simp only [cond_true]
      rw [← e]; exact hv
  · rw [hci] at hv; cases hv

theorem cIs_spec {ρ : Env} {c : Nat} {b : Bool} (h : cIs ρ c b = true) : ρ c = some (.bool b) := by
  unfold cIs at h
  split at h
  · rename_i b' hb; simp at h; rw [hb, h]
  · cases h

theorem opsK_sound {P : Program} {N : Nat} {ops : Array Oper} {Q : Exit → Act → World → Prop} : ∀ (n : Nat) {hs : List RI} {os : List Oper} {tail : List Oper} {ρ : Env} {a : Act} {w : World} {K : Env → Hp → Prop},
    opsK P N ops n hs os ρ w.heap K → Fits N ρ a → (∀ ρ' a' w', Fits N ρ' a' → IOsame w w' → Keeps os ρ ρ' → K ρ' w'.heap → wpList P ops Q tail a' w') → wpList P ops Q (os ++ tail) a w
  | 0, _, _, _, _, _, _, _, h, _, _ => (by simp only [opsK] at h)
  | n + 1, [], [], tail, ρ, a, w, K, h, hf, hK => by
    simp only [opsK] at h
    exact hK ρ a w hf (.refl _) (fun _ _ _ h => h) h
  | n + 1, [], o :: os, tail, ρ, a, w, K, h, hf, hK => (by simp only [opsK] at h)
  | n + 1, .op :: hs, [], tail, ρ, a, w, K, h, hf, hK => (by simp only [opsK] at h)
  | n + 1, .op :: hs, o :: os, tail, ρ, a, w, K, h, hf, hK => by
    simp only [opsK] at h
    rw [chk_iff] at h
    obtain ⟨hc, h⟩ := h
    simp only [Bool.and_eq_true] at hc
    have hw := grdOk_wanted hf hc.1
    simp only [List.cons_append, wpList, hw, if_true]
    refine .inl (Leaves.upon (opK_leaves hf.ev o h) fun v w' io hk => ?_)
    exact opsK_sound n hk (hf.put hc.2 v) fun ρ' a' w'' hf' io' ke hk' => hK ρ' a' w'' hf' (io.trans io') ke.cons hk'
  | n + 1, .it ki c :: hs, [], tail, ρ, a, w, K, h, hf, hK => (by simp only [opsK] at h)
  | n + 1, .it ki c :: hs, o :: os, tail, ρ, a, w, K, h, hf, hK => by
    simp only [opsK] at h
    rw [chk_iff] at h
    obtain ⟨hc, h⟩ := h
    simp only [Bool.and_eq_true] at hc
    have hw := grdOk_wanted hf hc.1
    simp only [List.cons_append, wpList, hw, if_true]
    refine .inl (Leaves.upon (itK_leaves hf.ev o h) fun v w' io hk => ?_)
    exact opsK_sound n hk (hf.put hc.2 v) fun ρ' a' w'' hf' io' ke hk' => hK ρ' a' w'' hf' (io.trans io') ke.cons hk'
  | n + 1, .grd and m inner :: hs, os, tail, ρ, a, w, K, h, hf, hK => by
    simp only [opsK] at h
    split at h
    case h_2 => exact h.elim
    rename_i pk rest hdrop
    split at h
    case h_2 => exact h.elim
    rename_i c x y d hop hd
    split at h
    case h_2 => exact h.elim
    rename_i b hb
    rw [chk_iff] at h
    obtain ⟨hc, J, hJ, h⟩ := h
    simp only [Bool.and_eq_true] at hc
    obtain ⟨hdN, hcon, hpk, hcc, hskip⟩ := hc
    have hdN' : dstOk N pk.dst = true := by rw [hd]; exact hdN
    have hos : os ++ tail = os.take m ++ (pk :: rest ++ tail) := by
      rw [← hdrop, ← List.append_assoc, List.take_append_drop]
    rw [hos]
    -- behind the pick
    have after : ∀ (r b' : Bool) (z : Operand) a' w', b = b' → (bif b' then x else y) = z → Fits N (ρ.hide ((os.take m).filterMap (·.dst))) a' → IOsame w w' → J r w'.heap → Region.wanted pk (yielded ops a'.tmps) = true →
        a'.eval (.tmp c) = .bool b' → a'.eval z = .bool r → wpList P ops Q (pk :: rest ++ tail) a' w' := by
      intro r b' z a' w' e ez hf' io hj hw hec hez
      simp only [List.cons_append, wpList, hw, if_true]
      refine .inl (Leaves.upon (K := fun v h' => v = .bool r ∧ h' = w'.heap) (pick_leaves hop hec (by rw [ez]; exact hez) ⟨rfl, rfl⟩) fun v w'' io' hk => ?_)
      obtain ⟨rfl, hh⟩ := hk
      have hfp := hf'.put (d := some d) hdN (.bool r)
      rw [hd]
      have hj' := hJ _ _ hj
      rw [← hh] at hj'
      exact opsK_sound n hj' hfp fun ρ' a'' w3 hf'' io'' ke hk' => hK ρ' a'' w3 hf'' ((io.trans io').trans io'') (Keeps.grd hd hdrop ke) hk'
    -- the segment is run
    have run : ∀ (b' : Bool) (z : Operand), b = b' → (bif b' then x else y) = z →
        opsK P N ops n inner (os.take m) (ρ.put c (.bool b')) w.heap (fun ρ' h' => chk (grdOk ops pk ρ' && cIs ρ' c b') (boolAt ρ' z fun r => J r h')) → wpList P ops Q (os.take m ++ (pk :: rest ++ tail)) a w := by
      intro b' z e ez hseg
      refine opsK_sound n hseg (hf.lit hb e) fun ρ' a' w' hf' io ke hk => ?_
      rw [chk_iff] at hk
      simp only [Bool.and_eq_true] at hk
      obtain ⟨⟨hg, hci⟩, hk⟩ := hk
      obtain ⟨r, hr, hj⟩ := boolAt_inv hk
      exact after r b' z a' w' e ez (hf'.seg hb e ke) io hj (grdOk_wanted hf' hg) (hf'.ev _ _ (cIs_spec hci)) (hf'.ev _ _ hr)
    -- the segment is passed over
    have skip : ∀ (b' : Bool), b = b' → b' = !and → J (!and) w.heap → wpList P ops Q (os.take m ++ (pk :: rest ++ tail)) a w := by
      intro b' e eb hj
      subst eb
      refine skip_wp hskip (hf.lit hb e) fun a' hf' => ?_
      have hfs : Fits N (ρ.hide ((os.take m).filterMap (·.dst))) a' := hf'.seg (ρ' := (ρ.put c (.bool (!and))).hide ((os.take m).filterMap (·.dst))) hb e (fun i hi v hv => by simp only [Env.hide, hi]; exact hv)
      have hec := hf'.ev (.tmp c) _ (cIs_spec hcc)
      refine after (!and) (!and) (bif (!and) then x else y) a' w e rfl hfs (.refl _) hj (grdOk_wanted hfs hpk) hec ?_
      refine isC_spec ?_ _ (fun v => rfl)
      cases and <;> exact hcon
    cases and
    · simp only [cond_false] at h
      cases b
      · exact run false y rfl rfl (h.f rfl)
      · exact skip true rfl rfl (h.t rfl)
    · simp only [cond_true] at h
      cases b
      · exact skip false rfl rfl (h.f rfl)
      · exact run true x rfl rfl (h.t rfl)

end Go.Vc
