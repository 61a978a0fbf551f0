/- Regions that draw their order and hold calls, allocations or stores: what may be taken first is; what is loaded holds in every world that meets a condition. -/
import Derived.Test.YtimoepajidnmjaaVcR
namespace Go.Vc
open Go
set_option linter.unusedSimpArgs false
set_option linter.unusedVariables false

def isPure (P : Program) : Op → Bool
  | .load _ _ => false
  | .lookup .. => false
  | .call c => match c.callee, c.argTypes.toList with
    | .builtin .len, [t] => match P.underlying t with
      | some (.map _ _) => false
      | some _ => true
      | none => false
    | .builtin .cap, _ => true
    | .builtin .max, _ => true
    | .builtin .min, _ => true
    | _, _ => false
  | o => isQ o

theorem arK_det {op : BinOp} {k : IntKind} {x y : Int} {K : Value → Prop} (h : arK op k x y K) : ∃ v, K v ∧ arK op k x y (· = v) := by
  cases op <;> simp only [arK, Ar, Nz, Nn] at h ⊢
  all_goals first
    | exact ⟨_, h, rfl⟩
    | exact ⟨_, h.2, h.1, rfl⟩
theorem eqK_det {op : BinOp} {b : Bool} {K : Value → Prop} (h : eqK op b K) : ∃ v, K v ∧ eqK op b (· = v) := by
  cases op <;> simp only [eqK] at h ⊢ <;> first | exact h.elim | exact ⟨_, h, rfl⟩
theorem nilK_det {P : Program} {op : BinOp} {t : Nat} {x y : Value} {K : Value → Prop} (h : nilK P op t x y K) : ∃ v, K v ∧ nilK P op t x y (· = v) := by
  unfold nilK at h ⊢
  split at h
  · obtain ⟨v, h1, h2⟩ := eqK_det h; exact ⟨v, h1, by simp only [*]⟩
  · obtain ⟨v, h1, h2⟩ := eqK_det h; exact ⟨v, h1, by simp only [*]⟩
  · obtain ⟨v, h1, h2⟩ := eqK_det h; exact ⟨v, h1, by simp only [*]⟩
  · exact h.elim
theorem binK_det {P : Program} {op : BinOp} {t : Nat} {x y : Value} {K : Value → Prop} (h : binK P op t x y K) : ∃ v, K v ∧ binK P op t x y (· = v) := by
  unfold binK at h ⊢
  split at h
  · split at h
    · obtain ⟨v, h1, h2⟩ := arK_det h; exact ⟨v, h1, by simpa [*] using h2⟩
    · rename_i hne
      cases op <;> simp only at h
      all_goals try exact h.elim
      · obtain ⟨v, h1, h2⟩ := arK_det h; exact ⟨v, h1, by simpa [hne] using h2⟩
      · obtain ⟨v, h1, h2⟩ := arK_det h; exact ⟨v, h1, by simpa [hne] using h2⟩
  · split at h
    · obtain ⟨v, h1, h2⟩ := eqK_det h; exact ⟨v, h1, by simp only [*]⟩
    · exact h.elim
  · cases op <;> simp only at h ⊢ <;> first | exact h.elim | exact ⟨_, h, rfl⟩
  · exact h.elim
theorem aggK_det {P : Program} {op : BinOp} {t : Nat} {xs ys : List Value} {K : Value → Prop} (h : aggK P op t xs ys K) : ∃ v, K v ∧ aggK P op t xs ys (· = v) := by
  unfold aggK at h ⊢
  split at h
  case h_2 => exact h.elim
  rename_i fs hu
  rw [chk_iff] at h
  obtain ⟨hc, h⟩ := h
  split at h
  case h_2 => exact h.elim
  rename_i b hb
  obtain ⟨v, h1, h2⟩ := eqK_det h
  exact ⟨v, h1, by simp only [hu, chk_iff, hb]; exact ⟨hc, h2⟩⟩
theorem bin2K_det {P : Program} {op : BinOp} {t : Nat} {y : Operand} {vx vy : Value} {K : Value → Prop} (h : bin2K P op t y vx vy K) : ∃ v, K v ∧ bin2K P op t y vx vy (· = v) := by
  unfold bin2K at h ⊢
  split at h
  · exact aggK_det h
  · cases hn : isNilC y
    · rw [hn] at h; exact binK_det h
    · rw [hn] at h; exact nilK_det h
theorem wv_det {o : Option Value} {K : Value → Prop} (h : wv o K) : ∃ v, K v ∧ wv o (· = v) := by
  obtain ⟨v, rfl, hK⟩ := wv_sound h
  exact ⟨v, hK, rfl⟩
theorem partK_det {P : Program} {t off : Nat} {cs : List Value} {K : Value → Prop} (h : partK P t cs off K) : ∃ v, K v ∧ partK P t cs off (· = v) := by
  unfold partK at h ⊢
  split at h
  case h_2 => exact h.elim
  rename_i d ti hu hi
  cases hd : isAggD d
  · rw [hd] at h
    obtain ⟨v, h1, h2⟩ := wv_det h
    exact ⟨v, h1, by simpa [hd] using h2⟩
  · rw [hd] at h
    exact ⟨_, h, by simp⟩
theorem bldK_det {P : Program} {t : Nat} {ps : List (Nat × Value)} {K : Value → Prop} (h : bldK P t ps K) : ∃ v, K v ∧ bldK P t ps (· = v) := by
  unfold bldK at h ⊢
  split at h
  · split at h
    · split at h
      · rw [chk_iff] at h
        refine ⟨_, h.2, ?_⟩
        simp only [*, chk_iff]
        first | exact ⟨h.1, trivial⟩ | exact ⟨trivial, trivial⟩
      · exact h.elim
    · exact h.elim
  · split at h
    · split at h
      · refine ⟨_, h, ?_⟩
        simp only [*]
      · exact h.elim
    · exact h.elim
  · exact h.elim
theorem slcK_det {P : Program} {t : Nat} {x : Value} {lo hi mx : Option Value} {K : Value → Prop} (h : slcK P t x lo hi mx K) : ∃ v, K v ∧ slcK P t x lo hi mx (· = v) := by
  unfold slcK at h ⊢
  split at h
  case h_2 => exact h.elim
  rename_i e a n c hu
  split at h
  case h_2 => exact h.elim
  rename_i ti hi'
  simp only at h ⊢
  split at h
  case h_2 => exact h.elim
  rename_i l hh m hlo hhi hmx
  obtain ⟨h0, h1, h2, h3, hK⟩ := h
  refine ⟨_, hK, ?_⟩
  simp only [hu, hi', hlo, hhi, hmx]
  exact ⟨h0, h1, h2, h3, rfl⟩
theorem mmK_det : ∀ {vs : List Value} {v : Value} {b : Bool} {K : Value → Prop}, mmK b v vs K → ∃ z, K z ∧ mmK b v vs (· = z)
  | [], v, b, K, h => ⟨v, by simpa [mmK] using h, by simp [mmK]⟩
  | u :: vs, v, b, K, h => by
    cases v <;> cases u <;> simp only [mmK] at h ⊢ <;> try exact h.elim
    exact mmK_det h

/-- A pure operation asks the same of every memory, and hands on one value. -/
theorem qK_pure {P : Program} {o : Op} (hp : isPure P o = true) {ρ : Env} {h : Hp} {K : Value → Prop} (hk : qK P o ρ h K) : ∃ v, K v ∧ ∀ h', qK P o ρ h' (· = v) := by
  unfold qK at hk
  split at hk
  case h_1 x => obtain ⟨v, h1, h2⟩ := wv_det hk; exact ⟨v, h1, fun _ => h2⟩
  case h_2 x => obtain ⟨v, h1, h2⟩ := wv_det hk; exact ⟨v, h1, fun _ => h2⟩
  case h_3 c x y =>
    obtain ⟨v, hv, hk⟩ := wv_sound hk
    split at hk
    · obtain ⟨u, h1, h2⟩ := wv_det hk; exact ⟨u, h1, fun _ => by simpa only [qK, hv, wv] using h2⟩
    · obtain ⟨u, h1, h2⟩ := wv_det hk; exact ⟨u, h1, fun _ => by simpa only [qK, hv, wv] using h2⟩
    · exact hk.elim
  case h_4 => simp [isPure] at hp
  case h_5 x =>
    obtain ⟨v, hv, hk⟩ := wv_sound hk
    split at hk
    · obtain ⟨ad, rfl, hK⟩ := hk
      exact ⟨_, hK, fun _ => by simp only [qK, hv, wv]; exact ⟨ad, rfl, rfl⟩⟩
    · exact ⟨_, hk, fun _ => by simp only [qK, hv, wv]⟩
    · exact hk.elim
  case h_6 op t x y yt =>
    obtain ⟨vx, hx, hk⟩ := wv_sound hk
    obtain ⟨vy, hy, hk1⟩ := wv_sound hk
    obtain ⟨v, h1, h2⟩ := bin2K_det hk1
    exact ⟨v, h1, fun _ => by simpa only [qK, hx, hy, wv] using h2⟩
  case h_7 op t x =>
    obtain ⟨vx, hx, hk⟩ := wv_sound hk
    split at hk
    · exact ⟨_, hk, fun _ => by simp only [qK, hx, wv]⟩
    · exact ⟨_, hk, fun _ => by simp only [qK, hx, wv, Ar]⟩
    · exact hk.elim
  case h_8 s d x =>
    obtain ⟨vx, hx, hk⟩ := wv_sound hk
    split at hk
    · rename_i h1 h2
      exact ⟨_, hk, fun _ => by simp only [qK, hx, wv, h1, h2, Ar]⟩
    · rename_i h1 h2
      exact ⟨_, hk, fun _ => by simp only [qK, hx, wv, h1, h2]⟩
    · exact hk.elim
  case h_9 s x f =>
    obtain ⟨vx, hx, hk⟩ := wv_sound hk
    obtain ⟨fs, fd, hs, hfd, hk⟩ := fldK_inv hk
    split at hk
    · rw [chk_iff] at hk
      exact ⟨_, hk.2, fun _ => by simp only [qK, hx, wv, fldK, hs, hfd, chk_iff]; exact ⟨hk.1, trivial⟩⟩
    · exact hk.elim
  case h_10 s x f =>
    obtain ⟨vx, hx, hk⟩ := wv_sound hk
    obtain ⟨fs, fd, hs, hfd, hk⟩ := fldK_inv hk
    split at hk
    · obtain ⟨v, h1, h2⟩ := partK_det hk
      exact ⟨v, h1, fun _ => by simpa only [qK, hx, wv, fldK, hs, hfd] using h2⟩
    · exact hk.elim
  case h_11 t x i =>
    obtain ⟨vx, hx, hk⟩ := wv_sound hk
    obtain ⟨vi, hi, hk⟩ := wv_sound hk
    split at hk
    · have hu := (by assumption : P.underlying t = some _)
      rw [chk_iff] at hk
      obtain ⟨h1, ad, rfl, h2, h3, hK⟩ := hk
      exact ⟨_, hK, fun _ => by simp only [qK, hx, hi, wv, hu, chk_iff]; exact ⟨h1, ad, rfl, h2, h3, rfl⟩⟩
    · have hu := (by assumption : P.underlying t = some _)
      rw [chk_iff] at hk
      obtain ⟨h1, h2, h3, hK⟩ := hk
      exact ⟨_, hK, fun _ => by simp only [qK, hx, hi, wv, hu, chk_iff]; exact ⟨h1, h2, h3, rfl⟩⟩
    · exact hk.elim
  case h_12 t x i =>
    obtain ⟨vx, hx, hk⟩ := wv_sound hk
    obtain ⟨vi, hi, hk⟩ := wv_sound hk
    split at hk
    · have hu := (by assumption : P.underlying t = some _)
      obtain ⟨b, h1, h2, hK⟩ := hk
      exact ⟨_, hK, fun _ => by simp only [qK, hx, hi, wv, hu]; exact ⟨b, h1, h2, rfl⟩⟩
    · exact hk.elim
  case h_13 => simp [isPure] at hp
  case h_14 t i =>
    obtain ⟨vx, hx, hk⟩ := wv_sound hk
    split at hk
    · obtain ⟨v, h1, h2⟩ := wv_det hk
      exact ⟨v, h1, fun _ => by simpa only [qK, hx, wv] using h2⟩
    · exact hk.elim
  case h_15 fn x y =>
    split at hk
    · rename_i va vb h1 h2
      exact ⟨_, hk, fun _ => by simp only [qK, h1, h2]⟩
    · exact hk.elim
  case h_16 t ps =>
    split at hk
    · rename_i vs h1
      obtain ⟨v, h2, h3⟩ := bldK_det hk
      exact ⟨v, h2, fun _ => by simpa only [qK, h1] using h3⟩
    · exact hk.elim
  case h_17 t x lo hi mx =>
    obtain ⟨vx, hx, hk⟩ := wv_sound hk
    split at hk
    · rename_i l h m h1 h2 h3
      obtain ⟨v, h4, h5⟩ := slcK_det hk
      exact ⟨v, h4, fun _ => by simpa only [qK, hx, wv, h1, h2, h3] using h5⟩
    · exact hk.elim
  case h_18 t x =>
    obtain ⟨vx, hx, hk⟩ := wv_sound hk
    rw [chk_iff] at hk
    exact ⟨_, hk.2, fun _ => by simp only [qK, hx, wv, chk_iff]; exact ⟨hk.1, trivial⟩⟩
  case h_19 c =>
    split at hk
    · rename_i x t hc ha ht
      unfold lenK at hk
      split at hk
      · exact ⟨_, hk, fun _ => by simp only [qK, hc, ha, ht, lenK, *]⟩
      · exact ⟨_, hk, fun _ => by simp only [qK, hc, ha, ht, lenK, *]⟩
      · exact ⟨_, hk, fun _ => by simp only [qK, hc, ha, ht, lenK, *]⟩
      · rename_i hu
        simp only [isPure, hc, ht, hu] at hp
        cases hp
      · exact hk.elim
    · rename_i hc ha ht
      split at hk
      · exact ⟨_, hk, fun _ => by simp only [qK, hc, ha, ht, *]⟩
      · exact hk.elim
    · rename_i hc ha
      obtain ⟨v, h1, h2⟩ := mmK_det hk
      exact ⟨v, h1, fun _ => by simpa only [qK, hc, ha] using h2⟩
    · rename_i hc ha
      obtain ⟨v, h1, h2⟩ := mmK_det hk
      exact ⟨v, h1, fun _ => by simpa only [qK, hc, ha] using h2⟩
    · exact hk.elim
  · exact hk.elim

/-! ## The walk of a region in whatever order -/
def LdH (S : Hp → Prop) (c : CK) (a : Addr) (K : c.T → Prop) : Prop := ∃ x, (∀ h, S h → cell h a = some (c.v x)) ∧ K x
def LdHN (S : Hp → Prop) : List CK → Addr → Nat → (List Value → Prop) → Prop
  | [], _, _, K => K []
  | c :: cs, a, i, K => LdH S c (a.add i) fun x => LdHN S cs a (i + 1) fun vs => K (c.v x :: vs)
def LkH (S : Hp → Prop) (k : IntKind) (c : CK) (m : Option Nat) (n : Int) (K : Option c.T → Prop) : Prop := ∃ l, (∀ h, S h → MapO h m k c l) ∧ K (mget l n)
def MLenH (S : Hp → Prop) (k : IntKind) (c : CK) (m : Option Nat) (K : Int → Prop) : Prop := ∃ l, (∀ h, S h → MapO h m k c l) ∧ K (l.length : Int)

/-- What a reading operation asks, if it is to be the same in every memory that meets `S`. -/
def qS (P : Program) (S : Hp → Prop) (o : Op) (ρ : Env) (K : Value → Prop) : Prop :=
  match o with
  | .load t a => wv (ev ρ a) fun v => match v, skOf P t with
    | .pointer (some a), some (.one c) => chk (P.info? t).isSome (LdH S c a fun x => K (c.v x))
    | .pointer (some a), some (.agg cs) => chk (P.cellsOf t == cs.length) (chk (P.info? t).isSome (LdHN S cs a 0 fun vs => K (.agg vs.toArray)))
    | _, _ => False
  | .lookup t x i ok => wv (ev ρ x) fun vx => wv (ev ρ i) fun vi => match P.underlying t, vx, vi with
    | some (.map kt et), .map m, .int k n => match P.underlying kt, skOf P et, P.info? et with
      | some (.int k'), some (.one c), some ti => match ti.zero with
        | some z => if k = k' then unv c z fun z => LkH S k c m n fun o => K (bif ok then .tuple #[c.v (o.getD z), .bool o.isSome] else c.v (o.getD z)) else False
        | none => False
      | _, _, _ => False
    | _, _, _ => False
  | .call c => match c.callee, evs ρ c.args.toList, c.argTypes.toList with
    | .builtin .len, some [.map m], [t] => keyKs P t fun k c => MLenH S k c m fun z => K (.int .i64 z)
    | _, _, _ => False
  | _ => False

theorem ldHN_det {S : Hp → Prop} : ∀ {cs : List CK} {a : Addr} {i : Nat} {K : List Value → Prop}, LdHN S cs a i K → ∃ vs, K vs ∧ ∀ h, S h → LdN cs a i h (· = vs)
  | [], a, i, K, hk => ⟨[], hk, fun h _ => rfl⟩
  | c :: cs, a, i, K, ⟨x, hx, hk⟩ => by
    obtain ⟨vs, hK, hall⟩ := ldHN_det hk
    refine ⟨c.v x :: vs, hK, fun h hs => ?_⟩
    have h1 : LdN cs a (i + 1) h fun us => c.v x :: us = c.v x :: vs := by
      have key : ∀ {cs : List CK} {i : Nat} {K K' : List Value → Prop}, (∀ vs, K vs → K' vs) → LdN cs a i h K → LdN cs a i h K' := by
        intro cs
        induction cs with
        | nil => intro i K K' hh hk; exact hh _ hk
        | cons c cs ih =>
          intro i K K' hh hk
          simp only [LdN] at hk ⊢
          cases c <;> (obtain ⟨y, hy, hk⟩ := hk; exact ⟨y, hy, ih (fun vs hv => hh _ hv) hk⟩)
      exact key (fun us hu => by rw [hu]) (hall h hs)
    simp only [LdN]
    have hc := hx h hs
    cases c <;> exact ⟨x, hc, h1⟩

theorem keyKs_inv2 {P : Program} {t : Nat} {K : IntKind → CK → Prop} (h : keyKs P t K) : ∃ kt et k c, P.underlying t = some (.map kt et) ∧ P.underlying kt = some (.int k) ∧ skOf P et = some (.one c) ∧ K k c := by
  unfold keyKs at h
  split at h
  · split at h
    · exact ⟨_, _, _, _, by assumption, by assumption, by assumption, h⟩
    · exact h.elim
  · exact h.elim

theorem qS_sound {P : Program} {S : Hp → Prop} {o : Op} {ρ : Env} {K : Value → Prop} (hk : qS P S o ρ K) : ∃ v, K v ∧ ∀ h, S h → qK P o ρ h (· = v) := by
  unfold qS at hk
  split at hk
  · obtain ⟨va, ha, hk⟩ := wv_sound hk
    split at hk
    · rename_i ad c hs
      rw [chk_iff] at hk
      obtain ⟨h1, x, hx, hK⟩ := hk
      refine ⟨_, hK, fun h hS => ?_⟩
      simp only [qK, ha, wv, hs, chk_iff]
      refine ⟨h1, ?_⟩
      have hc := hx h hS
      cases c <;> exact ⟨x, hc, rfl⟩
    · rename_i ad cs hs
      rw [chk_iff, chk_iff] at hk
      obtain ⟨h1, h2, hk⟩ := hk
      obtain ⟨vs, hK, hall⟩ := ldHN_det hk
      refine ⟨_, hK, fun h hS => ?_⟩
      simp only [qK, ha, wv, hs, chk_iff]
      refine ⟨h1, h2, ?_⟩
      have key : ∀ {cs : List CK} {i : Nat} {K K' : List Value → Prop}, (∀ vs, K vs → K' vs) → LdN cs ad i h K → LdN cs ad i h K' := by
        intro cs
        induction cs with
        | nil => intro i K K' hh hk; exact hh _ hk
        | cons c cs ih =>
          intro i K K' hh hk
          simp only [LdN] at hk ⊢
          cases c <;> (obtain ⟨y, hy, hk⟩ := hk; exact ⟨y, hy, ih (fun vs hv => hh _ hv) hk⟩)
      exact key (fun us hu => by rw [hu]) (hall h hS)
    · exact hk.elim
  · obtain ⟨vx, hx, hk1⟩ := wv_sound hk
    obtain ⟨vi, hi, hk2⟩ := wv_sound hk1
    clear hk hk1
    split at hk2
    case h_2 => exact hk2.elim
    rename_i kt et m k n hu
    split at hk2
    case h_2 => exact hk2.elim
    rename_i k' c ti hkk hs hti
    split at hk2
    case h_2 => exact hk2.elim
    rename_i z hz
    split at hk2
    case isFalse => exact hk2.elim
    rename_i e; subst e
    obtain ⟨zx, rfl, l, hl, hK⟩ := unv_sound hk2
    refine ⟨_, hK, fun h hS => ?_⟩
    simp only [qK, hx, hi, wv, lkK, hu, hkk, hs, hti, hz, if_true]
    have hm := hl h hS
    cases c <;> simp only [unv, CK.v, if_true] <;> exact ⟨l, hm, rfl⟩
  · split at hk
    · rename_i m t hc ha ht
      obtain ⟨kt, et, k, c, hu, hku, hsk, l, hl, hK⟩ := keyKs_inv2 hk
      refine ⟨_, hK, fun h hS => ?_⟩
      simp only [qK, hc, ha, ht, lenK, hu, hku, hsk]
      exact ⟨l, hl h hS, rfl⟩
    · exact hk.elim
  · exact hk.elim

structure DInv (ops : Array Oper) (listed : Array Bool) (D : List Nat) : Prop where
  size : listed.size = ops.size
  at_ : ∀ j, j < ops.size → listed[j]? = some (D.contains j)
  lt : ∀ j ∈ D, j < ops.size

theorem DInv.getD {ops : Array Oper} {listed : Array Bool} {D : List Nat} (h : DInv ops listed D) {j : Nat} (hj : j < ops.size) (b : Bool) : listed.getD j b = D.contains j := by
  rw [Array.getD_eq_getD_getElem?, h.at_ j hj]; rfl
theorem DInv.getD' {ops : Array Oper} {listed : Array Bool} {D : List Nat} (h : DInv ops listed D) (j : Nat) : listed.getD j false = D.contains j := by
  rcases Nat.lt_or_ge j ops.size with hj | hj
  · exact h.getD hj false
  · rw [Array.getD_eq_getD_getElem?, Array.getElem?_eq_none (by rw [h.size]; exact hj)]
    symm
    simp only [Option.getD_none, List.contains_eq_mem, decide_eq_false_iff_not]
    exact fun hm => by have := h.lt j hm; omega
theorem DInv.start (ops : Array Oper) : DInv ops (Array.replicate ops.size false) [] :=
  ⟨by simp, fun j hj => by simp [hj], fun j hj => by simp at hj⟩
theorem DInv.cons {ops : Array Oper} {listed : Array Bool} {D : List Nat} (h : DInv ops listed D) {i : Nat} (hi : i < ops.size) : DInv ops (listed.setIfInBounds i true) (i :: D) := by
  refine ⟨by simp [h.size], fun j hj => ?_, fun j hj => ?_⟩
  · by_cases hij : i = j
    · subst hij
      simp [h.size, hj]
    · rw [Array.getElem?_setIfInBounds_ne hij, h.at_ j hj]
      have : (j == i) = false := by simpa using fun e => hij e.symm
      simp only [List.contains_cons, this, Bool.false_or]
  · rcases List.mem_cons.1 hj with rfl | h'
    · exact hi
    · exact h.lt j h'

def rdyD (ops : Array Oper) (D : List Nat) (i : Nat) : Bool := match ops[i]? with
  | none => false
  | some o => !D.contains i && o.after.toList.all fun e => !Region.binds .any e || D.contains e.on
def freeD (ops : Array Oper) (D : List Nat) (i : Nat) : Bool := match ops[i]? with
  | none => false
  | some oi => (List.range ops.size).all fun j => Nat.beq j i || (D.contains j || match ops[j]? with
    | some oj => oj.after.toList.any (fun e => Region.binds .any e && Nat.beq e.on i) || oi.apart ops oj
    | none => true)

theorem rdyD_lt {ops : Array Oper} {D : List Nat} {i : Nat} (h : rdyD ops D i = true) : i < ops.size := by
  unfold rdyD at h
  split at h
  · cases h
  · rename_i o ho; exact (Array.getElem?_eq_some_iff.1 ho).1
theorem rdyD_iff {ops : Array Oper} {listed : Array Bool} {D : List Nat} (h : DInv ops listed D) (i : Nat) : i ∈ Region.ready .any ops listed ↔ rdyD ops D i = true := by
  rw [mem_ready]
  unfold rdyD
  cases ho : ops[i]? with
  | none => simp
  | some o =>
    have hi : i < ops.size := (Array.getElem?_eq_some_iff.1 ho).1
    simp only [h.getD hi, Option.some.injEq, exists_eq_left', Bool.and_eq_true, Bool.not_eq_true', List.all_eq_true, Bool.or_eq_true]
    constructor
    · rintro ⟨h1, h2⟩
      refine ⟨h1, fun e he => ?_⟩
      cases hb : Region.binds .any e
      · exact .inl rfl
      · right
        have := h2 e (by simpa using he) hb
        rwa [h.getD'] at this
    · rintro ⟨h1, h2⟩
      refine ⟨h1, fun e he hb => ?_⟩
      have := h2 e (by simpa using he)
      rw [hb] at this
      rw [h.getD']
      simpa using this
theorem freeD_free {ops : Array Oper} {listed : Array Bool} {D : List Nat} (h : DInv ops listed D) {i : Nat} (hf : freeD ops D i = true) : Region.free .any ops listed i = true := by
  unfold freeD at hf
  unfold Region.free
  cases ho : ops[i]? with
  | none => rw [ho] at hf; cases hf
  | some oi =>
    rw [ho] at hf
    simp only [List.all_eq_true, List.mem_range] at hf ⊢
    intro j hj
    have := hf j hj
    rw [h.getD hj]
    simp only [Bool.or_eq_true] at this ⊢
    rcases this with h1 | h1 | h1
    · exact .inl (.inl (by simpa using Nat.eq_of_beq_eq_true h1))
    · exact .inl (.inr h1)
    · right
      split at h1
      · rename_i oj hoj
        simp only [hoj, Bool.or_eq_true] at h1 ⊢
        rcases h1 with h1 | h1
        · left
          rw [List.any_eq_true] at h1
          obtain ⟨e, he, hb⟩ := h1
          simp only [Bool.and_eq_true] at hb
          rw [Array.any_eq_true']
          exact ⟨e, by simpa using he, by simp [hb.1, Nat.eq_of_beq_eq_true hb.2]⟩
        · exact .inr h1
      · rename_i hoj
        simp [hoj]

inductive SH where
  | done
  | take (i : Nat) (r : SH)
  | split (c : Nat) (t f : SH)
  | all (l : List (Nat × SH))

def Sx (sm : Bool) (S : Hp → Prop) (h : Hp) (X : Prop) : Prop := match sm with
  | true => S h ∧ X
  | false => X
/-- Has a closing operation come? -/
def shut (C D : List Nat) : Bool := C.any fun k => D.contains k

def allB (f : Nat → SH → Prop) : List (Nat × SH) → Prop
  | [] => True
  | [x] => f x.1 x.2
  | x :: y :: l => f x.1 x.2 ∧ allB f (y :: l)

def heldK (P : Program) (N : Nat) (ops : Array Oper) (sm : Bool) (C : List Nat) (S : Hp → Prop) (K : Env → Hp → Prop) : Nat → Nat → SH → List Nat → Env → Hp → Prop
  | 0, _, _, _, _, _ => False
  | n + 1, _, .done, D, ρ, h => chk ((List.range ops.size).all fun j => D.contains j) (K ρ h)
  | n + 1, m + 1, .take i r, D, ρ, h => match ops[i]? with
    | some o => chk (rdyD ops D i && (freeD ops D i && (dstOk N o.dst && !C.contains i)))
        (bif grdNo ops o ρ then heldK P N ops sm C S K n m r (i :: D) (ρ.putO o.dst undef) h
         else chk (grdOk ops o ρ) (bif isPure P o.op then qK P o.op ρ h fun v => heldK P N ops sm C S K n m r (i :: D) (ρ.putO o.dst v) h
           else chk (sm && ((C.all fun k => waits ops k i) && !shut C D)) (qS P S o.op ρ fun v => heldK P N ops sm C S K n m r (i :: D) (ρ.putO o.dst v) h)))
    | none => False
  | n + 1, m, .split c t f, D, ρ, h => boolAt ρ (.tmp c) fun b => If b (heldK P N ops sm C S K n m t D (ρ.put c (.bool true)) h) (heldK P N ops sm C S K n m f D (ρ.put c (.bool false)) h)
  | n + 1, m + 1, .all l, D, ρ, h => chk ((!l.isEmpty && l.all fun x => Nat.blt x.1 ops.size) && ((List.range ops.size).all fun j => rdyD ops D j == l.any fun x => Nat.beq x.1 j))
      (allB (fun i r => match ops[i]? with
        | some o => chk (dstOk N o.dst) (bif grdNo ops o ρ then Sx (sm && !shut C (i :: D)) S h (heldK P N ops sm C S K n m r (i :: D) (ρ.putO o.dst undef) h)
            else chk (grdOk ops o ρ) (opK P o.op o.type ρ h fun v h' => Sx (sm && !shut C (i :: D)) S h' (heldK P N ops sm C S K n m r (i :: D) (ρ.putO o.dst v) h')))
        | none => False) l)
  | _, _, _, _, _, _ => False

/-- A condition that holds through a region. -/
def Held (h : Hp) (body : (Hp → Prop) → Prop) : Prop := ∃ S : Hp → Prop, S h ∧ body S

theorem Sx_inv {sm : Bool} {S : Hp → Prop} {h : Hp} {X : Prop} (hs : sm = false → S h) (hx : Sx sm S h X) : S h ∧ X := by
  cases sm
  · exact ⟨hs rfl, hx⟩
  · exact hx

theorem allB_mem {f : Nat → SH → Prop} : ∀ {l : List (Nat × SH)}, allB f l → ∀ x ∈ l, f x.1 x.2
  | [], _, x, hx => by simp at hx
  | [y], h, x, hx => by simp at hx; subst hx; exact h
  | y :: z :: l, h, x, hx => by
    rcases List.mem_cons.1 hx with rfl | hx
    · exact h.1
    · exact allB_mem h.2 x hx

theorem keepsO {ds : List Nat} {ρ ρ' : Env} {ops : Array Oper} {i : Nat} {o : Oper} (ho : ops[i]? = some o) {v : Value}
    (k : ∀ j, (ops.toList.filterMap (·.dst)).contains j = false → ∀ u, (ρ.putO o.dst v) j = some u → ρ' j = some u) : ∀ j, (ops.toList.filterMap (·.dst)).contains j = false → ∀ u, ρ j = some u → ρ' j = some u := by
  intro j hj u hu
  refine k j hj u ?_
  cases hd : o.dst with
  | none => exact hu
  | some d =>
    simp only [Env.putO, Env.put]
    cases hb : Nat.beq j d
    · exact hu
    · have e : j = d := Nat.eq_of_beq_eq_true hb
      subst e
      exfalso
      simp only [List.contains_eq_mem, decide_eq_false_iff_not, List.mem_filterMap, not_exists, not_and] at hj
      refine hj o ?_ hd
      have := Array.mem_of_getElem? ho
      simpa using this

/-- The condition holds, or a closing operation has come. -/
def TD (S : Hp → Prop) (C D : List Nat) (h : Hp) : Prop := S h ∨ shut C D = true
theorem TD.ts {S : Hp → Prop} {C D : List Nat} {ops : Array Oper} {listed : Array Bool} {w : World} (hD : DInv ops listed D) (h : TD S C D w.heap) : TS (fun w => S w.heap) C listed w := by
  refine h.imp id fun hs => ?_
  unfold shut at hs
  rw [List.any_eq_true] at hs
  obtain ⟨k, hk, hc⟩ := hs
  exact ⟨k, hk, by rw [hD.getD']; exact hc⟩
theorem shut_not {C D : List Nat} {ops : Array Oper} {listed : Array Bool} (hD : DInv ops listed D) (h : shut C D = false) : ∀ k ∈ C, listed.getD k false = false := by
  intro k hk
  unfold shut at h
  rw [List.any_eq_false] at h
  rw [hD.getD']
  simpa using h k hk
theorem shut_cons {C D : List Nat} {i : Nat} (h : shut C D = true) : shut C (i :: D) = true := by
  unfold shut at *
  rw [List.any_eq_true] at *
  obtain ⟨k, hk, hc⟩ := h
  refine ⟨k, hk, ?_⟩
  rw [List.contains_iff_mem] at *
  exact List.mem_cons_of_mem _ hc
theorem Sx_td {sm : Bool} {S : Hp → Prop} {C D : List Nat} {h : Hp} {X : Prop} (hs : sm = false → ∀ h, S h) (hx : Sx (sm && !shut C D) S h X) : TD S C D h ∧ X := by
  cases hc : shut C D
  · rw [hc] at hx
    simp only [Bool.not_false, Bool.and_true] at hx
    cases sm
    · exact ⟨.inl (hs rfl h), hx⟩
    · exact ⟨.inl hx.1, hx.2⟩
  · rw [hc] at hx
    simp only [Bool.not_true, Bool.and_false] at hx
    exact ⟨.inr hc, hx⟩

theorem heldK_sound {P : Program} {N : Nat} {ops : Array Oper} {sm : Bool} {C : List Nat} {S : Hp → Prop} {K : Env → Hp → Prop} {Qn : Act → World → Prop} (hsel : Region.noSelect ops = true) (hsm : sm = false → ∀ h, S h) : ∀ (n m : Nat) {sh : SH} {D : List Nat} {ρ : Env} {a : Act} {w : World} {listed : Array Bool},
    heldK P N ops sm C S K n m sh D ρ w.heap → Fits N ρ a → DInv ops listed D → TD S C D w.heap → (∀ ρ' a' w', Fits N ρ' a' → IOsame w w' → Keeps ops.toList ρ ρ' → K ρ' w'.heap → Qn a' w') →
    anyS P ops (fun e a w => match e with | .normal => Qn a w | _ => False) (fun w => S w.heap) C m listed a w
  | 0, m, sh, D, ρ, a, w, listed, h, hf, hD, hS, hK => (by simp only [heldK] at h)
  | n + 1, m, .done, D, ρ, a, w, listed, h, hf, hD, hS, hK => by
    have h' : chk ((List.range ops.size).all fun j => D.contains j) (K ρ w.heap) := by cases m <;> exact h
    rw [chk_iff] at h'
    refine anyS_done ?_ (hK ρ a w hf (.refl _) (fun _ _ _ h => h) h'.2) m
    rw [List.eq_nil_iff_forall_not_mem]
    intro j hj
    have hr := (rdyD_iff hD j).1 hj
    have := List.all_eq_true.1 h'.1 j (List.mem_range.2 (rdyD_lt hr))
    unfold rdyD at hr
    split at hr
    · cases hr
    · rw [this] at hr; simp at hr
  | n + 1, 0, .take i r, D, ρ, a, w, listed, h, hf, hD, hS, hK => (by simp only [heldK] at h)
  | n + 1, m + 1, .take i r, D, ρ, a, w, listed, h, hf, hD, hS, hK => by
    simp only [heldK] at h
    split at h
    case h_2 => exact h.elim
    rename_i o ho
    rw [chk_iff] at h
    obtain ⟨hc, h⟩ := h
    simp only [Bool.and_eq_true, Bool.not_eq_true'] at hc
    obtain ⟨hrd, hfr, hdst, hiC⟩ := hc
    have hi := rdyD_lt hrd
    have hready : i ∈ Region.ready .any ops listed := (rdyD_iff hD i).2 hrd
    have hS' : TD S C (i :: D) w.heap := hS.imp id shut_cons
    cases hg : grdNo ops o ρ
    · rw [hg] at h
      simp only [cond_false] at h
      rw [chk_iff] at h
      obtain ⟨hgo, h⟩ := h
      have hw := grdOk_wanted hf hgo
      cases hp : isPure P o.op
      · rw [hp] at h
        simp only [cond_false] at h
        rw [chk_iff] at h
        obtain ⟨hc2, h⟩ := h
        simp only [Bool.and_eq_true, Bool.not_eq_true', List.all_eq_true] at hc2
        obtain ⟨v, hk, hall⟩ := qS_sound h
        refine anyS_take (T := fun w => S w.heap) ho hsel (freeD_free hD hfr) hready (fun _ _ _ h => h) hiC (.inr ⟨fun _ h => h, hc2.2.1⟩) (.inr (shut_not hD hc2.2.2)) (v := v) (.inl ⟨hw, fun w' hS' => ?_⟩) (hS.ts hD) ?_
        · obtain ⟨u, hr, rfl⟩ := qK_sound hf.ev o (hall w'.heap hS')
          exact hr
        · exact heldK_sound hsel hsm n m hk (hf.put hdst v) (hD.cons hi) hS' fun ρ' a' w' hf' io ke hk' => hK ρ' a' w' hf' io (keepsO (ds := []) ho ke) hk'
      · rw [hp] at h
        simp only [cond_true] at h
        obtain ⟨v, hk, hall⟩ := qK_pure hp h
        refine anyS_take (T := fun _ => True) ho hsel (freeD_free hD hfr) hready (fun _ _ _ h => h) hiC (.inl fun _ => trivial) (.inl fun _ => trivial) (v := v) (.inl ⟨hw, fun w' _ => ?_⟩) (hS.ts hD) ?_
        · obtain ⟨u, hr, rfl⟩ := qK_sound hf.ev o (hall w'.heap)
          exact hr
        · exact heldK_sound hsel hsm n m hk (hf.put hdst v) (hD.cons hi) hS' fun ρ' a' w' hf' io ke hk' => hK ρ' a' w' hf' io (keepsO (ds := []) ho ke) hk'
    · rw [hg] at h
      simp only [cond_true] at h
      refine anyS_take (T := fun _ => True) ho hsel (freeD_free hD hfr) hready (fun _ _ _ h => h) hiC (.inl fun _ => trivial) (.inl fun _ => trivial) (v := undef) (.inr ⟨grdNo_wanted hf hg, rfl⟩) (hS.ts hD) ?_
      exact heldK_sound hsel hsm n m h (hf.put hdst undef) (hD.cons hi) hS' fun ρ' a' w' hf' io ke hk' => hK ρ' a' w' hf' io (keepsO (ds := []) ho ke) hk'
  | n + 1, m, .split c t f, D, ρ, a, w, listed, h, hf, hD, hS, hK => by
    have h' : boolAt ρ (.tmp c) fun b => If b (heldK P N ops sm C S K n m t D (ρ.put c (.bool true)) w.heap) (heldK P N ops sm C S K n m f D (ρ.put c (.bool false)) w.heap) := by cases m <;> exact h
    obtain ⟨b, hb, h12⟩ := boolAt_inv h'
    have h1 := fun e => h12.t e
    have h2 := fun e => h12.f e
    have hbc : ρ c = some (.bool b) := hb
    have kk : ∀ (b' : Bool), b = b' → ∀ ρ', Keeps ops.toList (ρ.put c (.bool b')) ρ' → Keeps ops.toList ρ ρ' := by
      intro b' e ρ' k i hi u hu
      refine k i hi u ?_
      simp only [Env.put]
      cases hic : Nat.beq i c
      · exact hu
      · have e2 : i = c := Nat.eq_of_beq_eq_true hic
        subst e2
        rw [hbc] at hu
        simp only [cond_true]
        rw [← e]; exact hu
    cases b
    · exact heldK_sound hsel hsm n m (h2 rfl) (hf.lit hbc rfl) hD hS fun ρ' a' w' hf' io ke hk' => hK ρ' a' w' hf' io (kk false rfl ρ' ke) hk'
    · exact heldK_sound hsel hsm n m (h1 rfl) (hf.lit hbc rfl) hD hS fun ρ' a' w' hf' io ke hk' => hK ρ' a' w' hf' io (kk true rfl ρ' ke) hk'
  | n + 1, 0, .all l, D, ρ, a, w, listed, h, hf, hD, hS, hK => (by simp only [heldK] at h)
  | n + 1, m + 1, .all l, D, ρ, a, w, listed, h, hf, hD, hS, hK => by
    simp only [heldK] at h
    rw [chk_iff] at h
    obtain ⟨hc, h⟩ := h
    simp only [Bool.and_eq_true, Bool.not_eq_true', List.all_eq_true, List.mem_range, beq_iff_eq] at hc
    obtain ⟨⟨hne, hlt⟩, heq⟩ := hc
    have hmem : ∀ j, j ∈ Region.ready .any ops listed → ∃ r, (j, r) ∈ l := by
      intro j hj
      have hr := (rdyD_iff hD j).1 hj
      have := heq j (rdyD_lt hr)
      rw [hr] at this
      have := List.any_eq_true.1 this.symm
      obtain ⟨x, hx, hb⟩ := this
      have e : x.1 = j := Nat.eq_of_beq_eq_true hb
      exact ⟨x.2, by rw [← e]; exact hx⟩
    refine anyS_all (rs := Region.ready .any ops listed) rfl ?_ fun j hj => ?_
    · intro hnil
      match l, hne with
      | x :: l', _ =>
        have hx := Nat.blt_eq.mp (hlt x (by simp))
        have := heq x.1 hx
        have hany : (x :: l').any (fun y => Nat.beq y.1 x.1) = true := List.any_eq_true.2 ⟨x, by simp, by simp⟩
        rw [hany] at this
        have := (rdyD_iff hD x.1).2 this
        rw [hnil] at this
        simp at this
    · obtain ⟨r, hr⟩ := hmem j hj
      have h1 := allB_mem h (j, r) hr
      simp only at h1
      split at h1
      case h_2 => exact h1.elim
      rename_i o ho
      have hi : j < ops.size := (Array.getElem?_eq_some_iff.1 ho).1
      rw [chk_iff] at h1
      obtain ⟨hdst, h1⟩ := h1
      unfold wpOp
      simp only [ho]
      cases hg : grdNo ops o ρ
      · rw [hg] at h1
        simp only [cond_false] at h1
        rw [chk_iff] at h1
        obtain ⟨hgo, h1⟩ := h1
        rw [if_pos (grdOk_wanted hf hgo)]
        refine .inl (Leaves.upon (opK_leaves hf.ev o h1) fun v w' io hk => ?_)
        obtain ⟨hS', hk⟩ := Sx_td hsm hk
        exact ⟨hS'.ts (hD.cons hi), heldK_sound hsel hsm n m hk (hf.put hdst v) (hD.cons hi) hS' fun ρ' a' w'' hf' io' ke hk' => hK ρ' a' w'' hf' (io.trans io') (keepsO (ds := []) ho ke) hk'⟩
      · rw [hg] at h1
        simp only [cond_true] at h1
        rw [grdNo_wanted hf hg]
        simp only [Bool.false_eq_true, if_false]
        obtain ⟨hS', hk⟩ := Sx_td hsm h1
        exact ⟨hS'.ts (hD.cons hi), heldK_sound hsel hsm n m hk (hf.put hdst undef) (hD.cons hi) hS' fun ρ' a' w'' hf' io' ke hk' => hK ρ' a' w'' hf' io' (keepsO (ds := []) ho ke) hk'⟩

def heldR (P : Program) (N : Nat) (sm : Bool) (C : List Nat) (sh : SH) (ops : Array Oper) (ρ : Env) (h : Hp) (K : Env → Hp → Prop) : Prop :=
  match sm with
  | true => Held h fun S => heldK P N ops true C S K 400 ops.size sh [] ρ h
  | false => heldK P N ops false C (fun _ => True) K 400 ops.size sh [] ρ h

theorem wp_region_heldR {P : Program} {N id : Nat} {ops : Array Oper} {sm : Bool} {C : List Nat} {sh : SH} {K : Env → Hp → Prop} {ρ : Env} {a : Act} {w : World} {Q : Exit → Act → World → Prop}
    (hm : P.follows .mixedOrders = true) (hsel : Region.noSelect ops = true) (h : heldR P N sm C sh ops ρ w.heap K)
    (hf : Fits N ρ a) (hK : ∀ ρ' a' w', Fits N ρ' a' → IOsame w w' → Keeps ops.toList ρ ρ' → K ρ' w'.heap → Q .normal a' w') : (Code.region id ops true).wp P Q a w := by
  refine wp_mono (Q := fun e a w => match e with | .normal => Q .normal a w | _ => False) ?_ (fun e a w hq => by cases e <;> first | exact hq | exact hq.elim)
  have hd : IOsame w { w with drawn := w.drawn + 1 } := ⟨rfl, rfl, rfl, Nat.le_refl _⟩
  cases sm
  · exact wp_region_anyS (S := fun w => True) hm (heldK_sound (S := fun _ => True) (w := { w with drawn := w.drawn + 1 }) (Qn := Q .normal) hsel (fun _ _ => trivial) 400 ops.size h hf (DInv.start ops) (.inl trivial) fun ρ' a' w' hf' io ke hk => hK ρ' a' w' hf' (hd.trans io) ke hk)
  · obtain ⟨S, hS, h⟩ := h
    exact wp_region_anyS hm (heldK_sound (S := S) (w := { w with drawn := w.drawn + 1 }) (Qn := Q .normal) hsel (fun e => by cases e) 400 ops.size h hf (DInv.start ops) (.inl hS) fun ρ' a' w' hf' io ke hk => hK ρ' a' w' hf' (hd.trans io) ke hk)

end Go.Vc
