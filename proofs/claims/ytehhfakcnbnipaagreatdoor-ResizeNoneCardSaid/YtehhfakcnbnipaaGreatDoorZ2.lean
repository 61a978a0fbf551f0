/- Texts joined. -/
import Derived.Test.YtehhfakcnbnipaaGreatDoorProg
import Derived.KernelRfl
import Derived.Shelf.SlIterI.Nil
import Derived.Shelf.SortM.Plain
import Derived.Shelf.SortM.SortNone
import Derived.Ground.GgzProg
import Derived.Ground.SlgmProg
import Derived.Shelf.SlMaps.Clone
import Derived.Ground.SlmcProg
import Derived.Test.YtehhfakcnbnipaaGreatDoorZ1
set_option linter.unusedVariables false
set_option linter.unusedSimpArgs false
namespace Go.Vc
open Go


theorem ldI0 {k : IntKind} {b o i : Nat} {h : Hp} {x : Int} {K : Int -> Prop} (hc : cell h ⟨b, o + i, none⟩ = some (.int k x)) (hK : K x) : LdI k (Addr.add ⟨b, o, none⟩ i) h K := by
 rw [add_lit]; exact ldI hc hK
theorem arN {e : Int} {m : Nat} {K : Int -> Prop} (he : e = (m : Int)) (hm : m <= 4611686018427387904) (hK : K (m : Int)) : Ar .i64 e K := by
 rw [he]; exact ar (by omega) (by omega) hK
theorem min_bits {k : Nat} (h : k <= 62) : min ((k : Int).toNat) IntKind.i64.bits = k := by
 have : IntKind.i64.bits = 64 := rfl
 rw [this]; omega
theorem arW {k : IntKind} {e : Int} {K : Int -> Prop} (hK : K (k.wrap e)) : Ar k e K := hK
variable {σ : Hp} {b o i j : Nat} {cs : List Value}
theorem Blk.rI (hb : Blk σ b cs) {k : IntKind} {x : Int} {K : Int -> Prop} (hc : cs[o + i]? = some (.int k x)) (hK : K x) : LdI k (Addr.add ⟨b, o, none⟩ i) σ K := by
 rw [add_lit]; exact ldI (hb.cell.trans hc) hK
theorem Blk.rB (hb : Blk σ b cs) {x : Bool} {K : Bool -> Prop} (hc : cs[o + i]? = some (.bool x)) (hK : K x) : LdB (Addr.add ⟨b, o, none⟩ i) σ K := by
 rw [add_lit]; exact ldB (hb.cell.trans hc) hK
theorem Blk.rP (hb : Blk σ b cs) {x : Option Addr} {K : Option Addr -> Prop} (hc : cs[o + i]? = some (.pointer x)) (hK : K x) : LdP (Addr.add ⟨b, o, none⟩ i) σ K := by
 rw [add_lit]; exact ldP (hb.cell.trans hc) hK
theorem Blk.rM (hb : Blk σ b cs) {x : Option Nat} {K : Option Nat -> Prop} (hc : cs[o + i]? = some (.map x)) (hK : K x) : LdM (Addr.add ⟨b, o, none⟩ i) σ K := by
 rw [add_lit]; exact ldM (hb.cell.trans hc) hK
theorem Blk.rS (hb : Blk σ b cs) {a : Option Addr} {n c : Nat} {K : Sl -> Prop} (hc : cs[o + i]? = some (.slice a n c)) (hK : K ⟨a, n, c⟩) : LdS (Addr.add ⟨b, o, none⟩ i) σ K := by
 rw [add_lit]; exact ldS (hb.cell.trans hc) hK
theorem Blk.rI2 (hb : Blk σ b cs) {k : IntKind} {x : Int} {K : Int -> Prop} (hc : cs[o + i + j]? = some (.int k x)) (hK : K x) : LdI k (Addr.add (Addr.add ⟨b, o, none⟩ i) j) σ K := by
 rw [add_lit, add_lit]; exact ldI (hb.cell.trans hc) hK
theorem Blk.rI0 (hb : Blk σ b cs) {k : IntKind} {x : Int} {K : Int -> Prop} (hc : cs[o]? = some (.int k x)) (hK : K x) : LdI k ⟨b, o, none⟩ σ K := ldI (hb.cell.trans hc) hK
theorem Blk.rP0 (hb : Blk σ b cs) {x : Option Addr} {K : Option Addr -> Prop} (hc : cs[o]? = some (.pointer x)) (hK : K x) : LdP ⟨b, o, none⟩ σ K := ldP (hb.cell.trans hc) hK
theorem Blk.rS0 (hb : Blk σ b cs) {a : Option Addr} {n c : Nat} {K : Sl -> Prop} (hc : cs[o]? = some (.slice a n c)) (hK : K ⟨a, n, c⟩) : LdS ⟨b, o, none⟩ σ K := ldS (hb.cell.trans hc) hK
theorem Blk.s1 (hb : Blk σ b cs) {v : Value} (ho : o + i < cs.length) {K : Hp -> Prop} (hK : ∀ h', OnlyB σ h' b -> Blk h' b (cs.set (o + i) v) -> K h') : St1 (Addr.add ⟨b, o, none⟩ i) v σ K := by
 rw [add_lit]
 refine ⟨?_, hb.frz, hK _ ⟨size_setc _ _ _, fun c hc => setc_other hc⟩ (hb.set v)⟩
 rw [hb.cell, List.getElem?_eq_getElem ho]; rfl
theorem Blk.s0 (hb : Blk σ b cs) {v : Value} (ho : o < cs.length) {K : Hp -> Prop} (hK : ∀ h', OnlyB σ h' b -> Blk h' b (cs.set o v) -> K h') : St1 ⟨b, o, none⟩ v σ K := by
 refine ⟨?_, hb.frz, hK _ ⟨size_setc _ _ _, fun c hc => setc_other hc⟩ (hb.set v)⟩
 rw [hb.cell, List.getElem?_eq_getElem ho]; rfl
theorem nw {e : Nat} {K : Addr -> Hp -> Prop} (hK : ∀ h', h'.size = σ.size + 1 -> Ext0 σ h' -> Blk h' σ.size cs -> K ⟨σ.size, 0, none⟩ h') : Nw (.cells cs.toArray e (0, 0)) σ K :=
 hK _ (by simp) (Ext.push _ _ _) (Blk.push _ _ _)
theorem nwMap {K : Addr -> Hp -> Prop} (hK : ∀ h', h'.size = σ.size + 1 -> Ext0 σ h' -> (∀ (k : IntKind) (c : CK), MapL h' σ.size k c []) -> K ⟨σ.size, 0, none⟩ h') : Nw (.map #[] 0) σ K :=
 hK _ (by simp) (Ext.push _ _ _) fun k c => MapL.push _ _ _
theorem mk {n bytes e : Nat} {zs : List Value} {K : Sl -> Hp -> Prop} (h1 : bytes * n <= 1073741824) (h2 : n <= 1073741824)
 (hK : ∀ h', h'.size = σ.size + 1 -> Ext0 σ h' -> Blk h' σ.size (List.replicate n zs).flatten -> K ⟨some ⟨σ.size, 0, none⟩, n, n⟩ h') : Mk (n : Int) (n : Int) bytes e zs σ K := by
 refine ⟨by omega, Int.le_refl _, ?_, by omega, ?_⟩
 ·have : ((bytes : Int) * (n : Int)) = ((bytes * n : Nat) : Int) := by simp
  rw [this]; omega
 ·simp only [Int.toNat_natCast]
  exact nw hK
theorem slc {s : Sl} {sz lo hi mx : Nat} {K : Sl -> Prop} (h1 : lo <= hi) (h2 : hi <= mx) (h3 : mx <= s.cap) (hK : K ⟨if mx = lo then s.a else s.a.map (·.add (lo * sz)), hi - lo, mx - lo⟩) : SlcL s sz (lo : Int) (hi : Int) (mx : Int) K :=
 ⟨by omega, by omega, by omega, by omega, by simpa using hK⟩
theorem beqN (a b : Nat) : (((a : Nat) : Int) == ((b : Nat) : Int)) = (a == b) := by rw [Bool.eq_iff_iff]; simp; omega
theorem bneN (a b : Nat) : (((a : Nat) : Int) != ((b : Nat) : Int)) = (a != b) := by rw [bne, bne, beqN]
theorem beqN0 (a : Nat) : (((a : Nat) : Int) == 0) = (a == 0) := beqN a 0
theorem bneN0 (a : Nat) : (((a : Nat) : Int) != 0) = (a != 0) := bneN a 0
def ints (l : List Nat) : List Value := l.map fun (x : Nat) => Value.int .i64 (x : Int)
theorem ints_len (l : List Nat) : (ints l).length = l.length := by simp [ints]
theorem ints_get {l : List Nat} {i x : Nat} (h : l[i]? = some x) : (ints l)[i]? = some (.int .i64 (x : Int)) := by simp [ints, h]
theorem ints_append (l m : List Nat) : ints (l ++ m) = ints l ++ ints m := by simp [ints]
theorem SlR.ixN {s : Sl} {F : Rg} {xs : List Nat} (h : SlR s 1 (ints xs) σ F) {i x : Nat} (hx : xs[i]? = some x) {K : Int -> Prop} (hK : K (x : Int)) : Ix s.a s.len (i : Int) 1 fun a => LdI .i64 a σ K := by
 have hi := (List.getElem?_eq_some_iff.1 hx).1
 obtain ⟨b, o, ha, hc⟩ := h.cell (ints_get hx)
 have hl := h.1
 rw [ints_len] at hl
 rw [ha]
 refine ix (by omega) (by omega) ?_
 rw [add_lit]
 exact ldI (by simpa using hc) hK
theorem SlR.lenN {s : Sl} {F : Rg} {xs : List Nat} (h : SlR s 1 (ints xs) σ F) : s.len = xs.length := by
 have := h.1; rw [ints_len] at this; omega
theorem SlR.nil (F : Rg) (a : Option Addr) (c sz : Nat) : SlR ⟨a, 0, c⟩ sz [] σ F := ⟨by simp, .inl rfl⟩
theorem Blk.slR {s : Sl} {sz : Nat} {xs : List Value} (hb : Blk σ b cs) (ha : s.a = some ⟨b, o, none⟩) (hl : xs.length = s.len * sz) (hc : ∀ j, j < xs.length -> cs[o + j]? = xs[j]?) : SlR s sz xs σ (· = b) :=
 ⟨hl, .inr ⟨b, o, cs, rfl, ha, hb.q, hc⟩⟩
theorem app_nil {a xa : Option Addr} {xc sz bytes e : Nat} {zs : List Value} {K : Sl -> Hp -> Prop} (hK : K ⟨a, 0, 0⟩ σ) : App ⟨a, 0, 0⟩ sz bytes e zs ⟨xa, 0, xc⟩ σ K := by
 refine ⟨[], [], by simp, by simp, by cases a <;> simp [Rd], by cases xa <;> simp [Rd], by simp, by simp, by simp, fun _ => ?_, fun h => absurd (Nat.le_refl 0) h⟩
 cases a
 ·exact hK
 ·exact hK
theorem RowR.push {F : Rg} {s : Sl} {sz bytes e t : Nat} {zs xs vs : List Value} {K : Sl -> Hp -> Prop} (ho : RowR s sz xs σ F) (hF : ∀ b, σ.size <= b -> F b) (hz : zs.length = sz) (hv : vs.length = sz) (h1 : ∀ v ∈ vs, one1 v = true)
 (hb : bytes <= 1000) (hl : s.len <= 1000000) (hK : ∀ s' h', s'.len = s.len + 1 -> Ext F σ h' -> RowR s' sz (xs ++ vs) h' F -> K s' h') :
 Nw (.cells vs.toArray t (0, 0)) σ fun n v => App s sz bytes e zs ⟨some n, 1, 1⟩ v K := by
 refine nw fun v hvz e1 hb1 => ?_
 have ho1 := (RowR.loc s sz xs).keep0 ho e1
 refine ho1.app (ys := vs) hz (by simp [hv]) ?_ h1 ?_ ?_ Nat.zero_lt_one fun s' h' hl' e' ho' => hK s' h' hl' (e1.to.trans e') ?_
 ·intro j u hu
  rw [add_lit, Nat.zero_add, hb1.cell]; exact hu
 ·simp only
  have : (s.len + 1) * bytes <= 1000001 * 1000 := Nat.mul_le_mul (by omega) hb
  omega
 ·simp only; omega
 ·exact (RowR.loc _ _ _).mono ho' fun b _ hg => by
   rcases hg with h | h
   ·exact h
   ·exact hF b (by omega)
theorem RowR.lenN {F : Rg} {s : Sl} {xs : List Nat} (h : RowR s 1 (ints xs) σ F) : s.len = xs.length := by
 have := h.1; rw [ints_len] at this; omega
theorem clone_vc {F : Rg} {s : Sl} {sz bytes e : Nat} {zs vs : List Value} {R : Sl -> Hp -> Prop} (h : SlR s sz vs σ F) (hpos : 0 < sz) (hz : zs.length = sz) (h1 : ∀ v ∈ vs, one1 v = true) (hb : bytes <= 1000) (hl : s.len <= 1000000)
 (hR : ∀ s' σ', s'.len = s.len -> Ext0 σ σ' -> RowR s' sz vs σ' (fun b => σ.size <= b) -> R s' σ') :
 If s.a.isNone (R ⟨none, 0, 0⟩ σ) (Nw (.cells #[] e (0, 0)) σ fun n v => App ⟨(some n), 0, 0⟩ sz bytes e zs s v fun t v1 => R t v1) := by
 have hlen := h.1
 refine iff_ (fun hn => ?_) fun hn => ?_
 ·have hv : vs = [] := by
   rcases h.2 with h0 | ⟨b, o, cs, _, ha, _⟩
   ·exact h0
   ·rw [ha] at hn; cases hn
  subst hv
  have h0 : s.len = 0 := by
   have h2 : s.len * sz = 0 := by simpa using hlen.symm
   rcases Nat.mul_eq_zero.1 h2 with h | h
   ·exact h
   ·omega
  exact hR _ _ (by simp [h0]) (Ext.refl _ _) (RowR.nil _ _ _ _)
 ·refine nw (cs := []) fun v hvz e1 hb1 => ?_
  have hs := (SlR.loc s sz vs).keep0 h e1
  rcases Nat.eq_zero_or_pos s.len with h0 | h0
  ·obtain ⟨a, n, c⟩ := s
   simp only at h0; subst h0
   have : vs = [] := by simpa using hlen
   subst this
   exact app_nil (hR _ _ rfl e1 (RowR.nil _ _ _ _))
  ·refine (RowR.nil v (fun b => σ.size <= b) sz (some ⟨σ.size, 0, none⟩)).app (ys := vs) hz hlen hs.rd h1 ?_ ?_ h0 fun s' h' hl' e' ho' => hR s' h' (by simpa using hl') ?_ ?_
   ·simp only [Nat.zero_add]
    have : s.len * bytes <= 1000000 * 1000 := Nat.mul_le_mul hl hb
    omega
   ·simp only; omega
   ·exact Ext.fresh e1 e' fun i hi => hi
   ·rw [List.nil_append] at ho'
    exact (RowR.loc _ _ _).mono ho' fun b _ hg => by
     rcases hg with h | h
     ·exact h
     ·omega
def Cut (F : Rg) (σ : Hp) : Rg := fun b => F b /\ b < σ.size
theorem Lcl.cut {P : Hp -> Rg -> Prop} (hl : Lcl P) {F : Rg} (h : P σ F) : P σ (Cut F σ) := hl.mono h fun b hb hf => ⟨hf, hb⟩
theorem Ext.cut {F : Rg} {σ' : Hp} (e : Ext (Cut F σ) σ σ') : Ext F σ σ' := ⟨e.1, fun b hb hf => e.2 b hb fun hc => hf hc.1⟩
theorem Ext.sub {F G : Rg} {a b : Hp} (e : Ext F a b) (h : ∀ i, F i -> G i) : Ext G a b := e.mono fun i _ hf => h i hf
theorem OnlyB.ext {h h' : Hp} {r : Nat} (ho : OnlyB h h' r) : Ext (· = r) h h' := Ext.of_only ho rfl
theorem Ext.growT {F : Rg} {a b c : Hp} (e : Ext F a b) (k : Ext (Grow F a) b c) : Ext F a c :=
 ⟨Nat.le_trans e.1 k.1, fun i hi hf => (k.2 i (Nat.lt_of_lt_of_le hi e.1) fun hg => by rcases hg with h | h; exact hf h; omega).trans (e.2 i hi hf)⟩
theorem Ext.newT {F G : Rg} {a b c : Hp} (e : Ext F a b) (k : Ext G b c) (h : ∀ i, G i -> F i ∨ a.size <= i) : Ext F a c := e.growT (k.sub h)
theorem callF {P : Program} {f : Nat} {first caps : Array Value} {args : List Value} {all : Array Value} {rs : List SK} {R : Fam (ksOf rs)} (hok : callable P f = true) (he : first ++ args.toArray ++ caps = all)
 (hc : CallK P f all rs σ R) : CallF P ⟨f, first, caps⟩ args rs σ R := ⟨hok, by unfold CallV; simp only; rw [he]; exact hc⟩
theorem cell_ext {h h' : Hp} {F : Nat -> Prop} (e : Ext F h h') {b o : Nat} (hb : b < h.size) (hF : ¬ F b) : cell h' ⟨b, o, none⟩ = cell h ⟨b, o, none⟩ := by
 unfold cell
 rw [e.2 b hb hF]
theorem acts_keep {h h' : Hp} {l : Sl} {xs : List (Int × Int × Int)} {F : Nat -> Prop} (ha : Acts h l xs) (e : Ext F h h') (hF : ∀ b, F b -> ∀ o, l.a ≠ some ⟨b, o, none⟩) : Acts h' l xs := by
 refine ⟨ha.1, fun i x y z hx => ?_⟩
 obtain ⟨b, o, h1, h2, h3, h4, h5⟩ := ha.2 i x y z hx
 have hn : ¬ F b := fun hf => hF b hf o h1
 exact ⟨b, o, h1, Nat.lt_of_lt_of_le h2 e.1, by rw [cell_ext e h2 hn]; exact h3, by rw [cell_ext e h2 hn]; exact h4, by rw [cell_ext e h2 hn]; exact h5⟩
theorem acts_keep0 {h h' : Hp} {l : Sl} {xs : List (Int × Int × Int)} (ha : Acts h l xs) (e : Ext0 h h') : Acts h' l xs := acts_keep ha e fun _ h => h.elim
theorem acts_rd {h : Hp} {l : Sl} {xs : List (Int × Int × Int)} (ha : Acts h l xs) {i : Nat} {x y z : Int} (hx : xs[i]? = some (x, y, z)) {K : Int -> Int -> Int -> Prop} (hK : K x y z) :
 Ix l.a l.len (i : Int) 3 fun a => LdI .i64 (a.add 0) h fun u => LdI .i64 (a.add 1) h fun v => LdI .i64 (a.add 2) h fun w => K u v w := by
 obtain ⟨b, o, h1, h2, h3, h4, h5⟩ := ha.2 i x y z hx
 have hi := (List.getElem?_eq_some_iff.1 hx).1
 rw [h1]
 refine ix (by omega) (by rw [ha.1]; omega) ?_
 rw [add_lit]
 refine ldI0 (by simpa using h3) (ldI0 (by simpa using h4) (ldI0 (by simpa using h5) hK))
end Go.Vc
namespace Go.Proofs
open Go.Vc
def freeholdlaw16_ResizeNone.call (thread : Int) (a : Int) (b : Int) (l : Sl) (s : ByteArray) (vnone : Bool) (σ : Hp) (R : Bool -> Hp -> Prop) : Prop := CallK Tryz.prog 3 #[.int .i64 thread, .int .i64 a, .int .i64 b, .slice l.a l.len l.cap, .string s, .bool vnone] [.one .b] σ R
def resize_Good.call (vh : Option Addr) (size : Int) (align : Int) (σ : Hp) (R : Int -> Int -> Hp -> Prop) : Prop := CallK Tryz.prog 11 #[.pointer vh, .int .i64 size, .int .i64 align] [.one (.i .i64), .one (.i .i64)] σ R
def resize_Realloc.call (vh : Option Addr) (thread : Int) (addr : Int) (size : Int) (σ : Hp) (R : Int -> Int -> Hp -> Prop) : Prop := CallK Tryz.prog 12 #[.pointer vh, .int .i64 thread, .int .i64 addr, .int .i64 size] [.one (.i .i64), .one (.i .i64)] σ R
def resize_Calloc.call (vh : Option Addr) (thread : Int) (count : Int) (size : Int) (σ : Hp) (R : Int -> Int -> Hp -> Prop) : Prop := CallK Tryz.prog 13 #[.pointer vh, .int .i64 thread, .int .i64 count, .int .i64 size] [.one (.i .i64), .one (.i .i64)] σ R
def resize_Many.call (vh : Option Addr) (thread : Int) (list : Sl) (σ : Hp) (R : Sl -> Int -> Hp -> Prop) : Prop := CallK Tryz.prog 14 #[.pointer vh, .int .i64 thread, .slice list.a list.len list.cap] [.one .s, .one (.i .i64)] σ R
def resize_Put.call (vh : Option Addr) (thread : Int) (s : ByteArray) (σ : Hp) (R : Int -> Int -> Hp -> Prop) : Prop := CallK Tryz.prog 15 #[.pointer vh, .int .i64 thread, .string s] [.one (.i .i64), .one (.i .i64)] σ R
def resize_Get.call (vh : Option Addr) (addr : Int) (σ : Hp) (R : ByteArray -> Int -> Hp -> Prop) : Prop := CallK Tryz.prog 16 #[.pointer vh, .int .i64 addr] [.one .str, .one (.i .i64)] σ R
def resize_Move.call (vh : Option Addr) (to : Int) (vfrom : Int) (n : Int) (σ : Hp) (R : Int -> Hp -> Prop) : Prop := CallK Tryz.prog 17 #[.pointer vh, .int .i64 to, .int .i64 vfrom, .int .i64 n] [.one (.i .i64)] σ R
def freeholdlaw16_awake.call (σ : Hp) (R : Bool -> Hp -> Prop) : Prop := CallK Tryz.prog 18 #[] [.one .b] σ R
def heap_Heap_Usable.call (vh : Option Addr) (addr : Int) (σ : Hp) (R : Int -> Int -> Hp -> Prop) : Prop := CallK Tryz.prog 23 #[.pointer vh, .int .i64 addr] [.one (.i .i64), .one (.i .i64)] σ R
def heap_Heap_Malloc.call (vh : Option Addr) (thread : Int) (size : Int) (align : Int) (σ : Hp) (R : Int -> Int -> Hp -> Prop) : Prop := CallK Tryz.prog 25 #[.pointer vh, .int .i64 thread, .int .i64 size, .int .i64 align] [.one (.i .i64), .one (.i .i64)] σ R
def heap_Heap_Read.call (vh : Option Addr) (addr : Int) (σ : Hp) (R : Int -> Int -> Hp -> Prop) : Prop := CallK Tryz.prog 35 #[.pointer vh, .int .i64 addr] [.one (.i .i64), .one (.i .i64)] σ R
def resize_ready.call (vh : Option Addr) (thread : Sl) (σ : Hp) (R : Int -> Hp -> Prop) : Prop := CallK Tryz.prog 36 #[.pointer vh, .slice thread.a thread.len thread.cap] [.one (.i .i64)] σ R
def heap_Heap_Table.call (vh : Option Addr) (σ : Hp) (R : Sl -> Hp -> Prop) : Prop := CallK Tryz.prog 37 #[.pointer vh] [.one .s] σ R
def sizes_Class.call (table : Sl) (size : Int) (align : Int) (σ : Hp) (R : Int -> Int -> Hp -> Prop) : Prop := CallK Tryz.prog 38 #[.slice table.a table.len table.cap, .int .i64 size, .int .i64 align] [.one (.i .i64), .one (.i .i64)] σ R
def heap_Heap_Free.call (vh : Option Addr) (thread : Int) (addr : Int) (σ : Hp) (R : Int -> Hp -> Prop) : Prop := CallK Tryz.prog 39 #[.pointer vh, .int .i64 thread, .int .i64 addr] [.one (.i .i64)] σ R
def resize_shift.call (vh : Option Addr) (to : Int) (vfrom : Int) (n : Int) (σ : Hp) (R : Hp -> Prop) : Prop := CallK Tryz.prog 40 #[.pointer vh, .int .i64 to, .int .i64 vfrom, .int .i64 n] [] σ R
def resize_words.call (bytes : Int) (σ : Hp) (R : Int -> Hp -> Prop) : Prop := CallK Tryz.prog 41 #[.int .i64 bytes] [.one (.i .i64)] σ R
def heap_Heap_Write.call (vh : Option Addr) (addr : Int) (value : Int) (σ : Hp) (R : Int -> Hp -> Prop) : Prop := CallK Tryz.prog 42 #[.pointer vh, .int .i64 addr, .int .i64 value] [.one (.i .i64)] σ R
def slices_Backward_int_int.call (s : Sl) (σ : Hp) (R : Fv -> Hp -> Prop) : Prop := CallK Tryz.prog 43 #[.slice s.a s.len s.cap] [.one .fn] σ R
def resize_inside.call (vh : Option Addr) (addr : Int) (n : Int) (σ : Hp) (R : Bool -> Hp -> Prop) : Prop := CallK Tryz.prog 44 #[.pointer vh, .int .i64 addr, .int .i64 n] [.one .b] σ R
def freeholdlaw12_Small.call (σ : Hp) (R : Option Addr -> Hp -> Prop) : Prop := CallK Tryz.prog 45 #[] [.one .p] σ R
def freeholdlaw12_Begin_Own.call (b : Int) (b1 : Int) (b2 : Int) (b3 : Int) (b4 : Int) (b5 : Int) (σ : Hp) (R : Option Addr -> Hp -> Prop) : Prop := CallK Tryz.prog 47 #[.agg #[.int .i64 b, .int .i64 b1, .int .i64 b2, .int .i64 b3, .int .i64 b4, .int .i64 b5]] [.one .p] σ R
def heap_Heap_Config.call (vh : Option Addr) (σ : Hp) (R : Int -> Int -> Int -> Int -> Int -> Hp -> Prop) : Prop := CallK Tryz.prog 48 #[.pointer vh] [.agg [(.i .i64), (.i .i64), (.i .i64), (.i .i64), (.i .i64)]] σ R
def heap_Heap_Phase.call (vh : Option Addr) (thread : Int) (σ : Hp) (R : ByteArray -> Hp -> Prop) : Prop := CallK Tryz.prog 49 #[.pointer vh, .int .i64 thread] [.one .str] σ R
def heap_Heap_made.call (vh : Option Addr) (σ : Hp) (R : Bool -> Hp -> Prop) : Prop := CallK Tryz.prog 50 #[.pointer vh] [.one .b] σ R
def heap_Heap_Start.call (vh : Option Addr) (thread : Int) (op : Int) (op1 : Int) (op2 : Int) (op3 : Int) (σ : Hp) (R : Int -> Hp -> Prop) : Prop := CallK Tryz.prog 52 #[.pointer vh, .int .i64 thread, .agg #[.int .i64 op, .int .i64 op1, .int .i64 op2, .int .i64 op3]] [.one (.i .i64)] σ R
def heap_Heap_Step.call (vh : Option Addr) (thread : Int) (σ : Hp) (R : Bool -> Int -> Int -> Int -> Hp -> Prop) : Prop := CallK Tryz.prog 53 #[.pointer vh, .int .i64 thread] [.one .b, .agg [(.i .i64), (.i .i64)], .one (.i .i64)] σ R
def heap_Heap_whole.call (vh : Option Addr) (thread : Int) (op : Int) (op1 : Int) (op2 : Int) (op3 : Int) (σ : Hp) (R : Int -> Int -> Hp -> Prop) : Prop := CallK Tryz.prog 57 #[.pointer vh, .int .i64 thread, .agg #[.int .i64 op, .int .i64 op1, .int .i64 op2, .int .i64 op3]] [.one (.i .i64), .one (.i .i64)] σ R
def slices_Clone_api_Class_api_Class.call (s : Sl) (σ : Hp) (R : Sl -> Hp -> Prop) : Prop := CallK Tryz.prog 60 #[.slice s.a s.len s.cap] [.one .s] σ R
def slices_Clone_int_int.call (s : Sl) (σ : Hp) (R : Sl -> Hp -> Prop) : Prop := CallK Tryz.prog 65 #[.slice s.a s.len s.cap] [.one .s] σ R
def heap_Heap_Space.call (vh : Option Addr) (σ : Hp) (R : Option Addr -> Hp -> Prop) : Prop := CallK Tryz.prog 66 #[.pointer vh] [.one .p] σ R
def space_Space_Read.call (s : Option Addr) (addr : Int) (σ : Hp) (R : Int -> Int -> Hp -> Prop) : Prop := CallK Tryz.prog 67 #[.pointer s, .int .i64 addr] [.one (.i .i64), .one (.i .i64)] σ R
def sizes_Valid.call (table : Sl) (σ : Hp) (R : Bool -> Hp -> Prop) : Prop := CallK Tryz.prog 68 #[.slice table.a table.len table.cap] [.one .b] σ R
def sizes_power.call (n : Int) (σ : Hp) (R : Int -> Hp -> Prop) : Prop := CallK Tryz.prog 69 #[.int .i64 n] [.one (.i .i64)] σ R
def slices_IndexFunc_api_Class_api_Class.call (s : Sl) (f : Fv) (σ : Hp) (R : Int -> Hp -> Prop) : Prop := CallK Tryz.prog 70 #[.slice s.a s.len s.cap, .func (.func f.f) f.first f.captured] [.one (.i .i64)] σ R
def sizes_Class_L1.call (c : Int) (c1 : Int) (c2 : Int) (cap0 : Addr) (cap1 : Addr) (σ : Hp) (R : Bool -> Hp -> Prop) : Prop := CallK Tryz.prog 71 #[.agg #[.int .i64 c, .int .i64 c1, .int .i64 c2], .pointer (some cap0), .pointer (some cap1)] [.one .b] σ R
def space_Space_Write.call (s : Option Addr) (addr : Int) (value : Int) (σ : Hp) (R : Int -> Hp -> Prop) : Prop := CallK Tryz.prog 72 #[.pointer s, .int .i64 addr, .int .i64 value] [.one (.i .i64)] σ R
def freeholdref01_Make.call (waste : Int) (σ : Hp) (R : Sl -> Int -> Hp -> Prop) : Prop := CallK Tryz.prog 75 #[.int .i64 waste] [.one .s, .one (.i .i64)] σ R
def heap_New.call (table : Sl) (cfg : Int) (cfg1 : Int) (cfg2 : Int) (cfg3 : Int) (cfg4 : Int) (σ : Hp) (R : Option Addr -> Int -> Hp -> Prop) : Prop := CallK Tryz.prog 76 #[.slice table.a table.len table.cap, .agg #[.int .i64 cfg, .int .i64 cfg1, .int .i64 cfg2, .int .i64 cfg3, .int .i64 cfg4]] [.one .p, .one (.i .i64)] σ R
def heap_Heap_there.call (vh : Option Addr) (thread : Int) (σ : Hp) (R : Bool -> Hp -> Prop) : Prop := CallK Tryz.prog 77 #[.pointer vh, .int .i64 thread] [.one .b] σ R
def heap_Heap_request.call (vh : Option Addr) (op : Int) (op1 : Int) (op2 : Int) (op3 : Int) (σ : Hp) (R : Value -> Hp -> Prop) : Prop := CallK Tryz.prog 78 #[.pointer vh, .agg #[.int .i64 op, .int .i64 op1, .int .i64 op2, .int .i64 op3]] [.one .raw] σ R
def heap_Heap_step.call (vh : Option Addr) (thread : Int) (p : Value) (σ : Hp) (R : Value -> Int -> Int -> Hp -> Prop) : Prop := CallK Tryz.prog 79 #[.pointer vh, .int .i64 thread, p] [.one .raw, .agg [(.i .i64), (.i .i64)]] σ R
def slices_Collect_int.call (seq : Fv) (σ : Hp) (R : Sl -> Hp -> Prop) : Prop := CallK Tryz.prog 83 #[.func (.func seq.f) seq.first seq.captured] [.one .s] σ R
def space_Space_made.call (s : Option Addr) (σ : Hp) (R : Bool -> Hp -> Prop) : Prop := CallK Tryz.prog 86 #[.pointer s] [.one .b] σ R
def arena_Arena_made.call (a : Option Addr) (σ : Hp) (R : Bool -> Hp -> Prop) : Prop := CallK Tryz.prog 88 #[.pointer a] [.one .b] σ R
def space_Space_Pages.call (s : Option Addr) (σ : Hp) (R : Int -> Hp -> Prop) : Prop := CallK Tryz.prog 89 #[.pointer s] [.one (.i .i64)] σ R
def cache_Cache_made.call (c : Option Addr) (σ : Hp) (R : Bool -> Hp -> Prop) : Prop := CallK Tryz.prog 95 #[.pointer c] [.one .b] σ R
def space_Space_access.call (s : Option Addr) (addr : Int) (words : Int) (σ : Hp) (R : Int -> Hp -> Prop) : Prop := CallK Tryz.prog 96 #[.pointer s, .int .i64 addr, .int .i64 words] [.one (.i .i64)] σ R
def space_Space_get.call (s : Option Addr) (word : Int) (σ : Hp) (R : Int -> Hp -> Prop) : Prop := CallK Tryz.prog 97 #[.pointer s, .int .i64 word] [.one (.i .i64)] σ R
def sizes_one.call (c : Int) (c1 : Int) (c2 : Int) (σ : Hp) (R : Bool -> Hp -> Prop) : Prop := CallK Tryz.prog 98 #[.agg #[.int .i64 c, .int .i64 c1, .int .i64 c2]] [.one .b] σ R
def space_Space_put.call (s : Option Addr) (word : Int) (value : Int) (σ : Hp) (R : Hp -> Prop) : Prop := CallK Tryz.prog 99 #[.pointer s, .int .i64 word, .int .i64 value] [] σ R
def heap_Heap_owner.call (vh : Option Addr) (addr : Int) (σ : Hp) (R : Int -> Hp -> Prop) : Prop := CallK Tryz.prog 100 #[.pointer vh, .int .i64 addr] [.one (.i .i64)] σ R
def arena_Arena_Find.call (a : Option Addr) (addr : Int) (σ : Hp) (R : Int -> Int -> Int -> Hp -> Prop) : Prop := CallK Tryz.prog 101 #[.pointer a, .int .i64 addr] [.one (.i .i64), .one (.i .i64), .one (.i .i64)] σ R
def freeholdref01_class.call (s : Int) (waste : Int) (σ : Hp) (R : Int -> Int -> Int -> Hp -> Prop) : Prop := CallK Tryz.prog 102 #[.int .i64 s, .int .i64 waste] [.agg [(.i .i64), (.i .i64), (.i .i64)]] σ R
def freeholdref01_step.call (s : Int) (waste : Int) (σ : Hp) (R : Int -> Hp -> Prop) : Prop := CallK Tryz.prog 103 #[.int .i64 s, .int .i64 waste] [.one (.i .i64)] σ R
def freeholdref01_Objects.call (c : Int) (c1 : Int) (c2 : Int) (σ : Hp) (R : Int -> Hp -> Prop) : Prop := CallK Tryz.prog 104 #[.agg #[.int .i64 c, .int .i64 c1, .int .i64 c2]] [.one (.i .i64)] σ R
def heap_valid.call (c : Int) (c1 : Int) (c2 : Int) (c3 : Int) (c4 : Int) (σ : Hp) (R : Bool -> Hp -> Prop) : Prop := CallK Tryz.prog 105 #[.agg #[.int .i64 c, .int .i64 c1, .int .i64 c2, .int .i64 c3, .int .i64 c4]] [.one .b] σ R
def space_New.call (pages : Int) (σ : Hp) (R : Option Addr -> Int -> Hp -> Prop) : Prop := CallK Tryz.prog 106 #[.int .i64 pages] [.one .p, .one (.i .i64)] σ R
def arena_New.call (table : Sl) (s : Option Addr) (room : Int) (σ : Hp) (R : Option Addr -> Int -> Hp -> Prop) : Prop := CallK Tryz.prog 107 #[.slice table.a table.len table.cap, .pointer s, .int .i64 room] [.one .p, .one (.i .i64)] σ R
def cache_New.call (table : Sl) (budget : Int) (σ : Hp) (R : Option Addr -> Int -> Hp -> Prop) : Prop := CallK Tryz.prog 108 #[.slice table.a table.len table.cap, .int .i64 budget] [.one .p, .one (.i .i64)] σ R
def heap_Heap_own.call (vh : Option Addr) (thread : Int) (σ : Hp) (R : Int -> Hp -> Prop) : Prop := CallK Tryz.prog 109 #[.pointer vh, .int .i64 thread] [.one (.i .i64)] σ R
def cache_Cache_Take.call (c : Option Addr) (vclass : Int) (σ : Hp) (R : Int -> Int -> Hp -> Prop) : Prop := CallK Tryz.prog 110 #[.pointer c, .int .i64 vclass] [.one (.i .i64), .one (.i .i64)] σ R
def heap_Heap_born.call (vh : Option Addr) (addr : Int) (size : Int) (vclass : Int) (σ : Hp) (R : Value -> Int -> Int -> Hp -> Prop) : Prop := CallK Tryz.prog 111 #[.pointer vh, .int .i64 addr, .int .i64 size, .int .i64 vclass] [.one .raw, .agg [(.i .i64), (.i .i64)]] σ R
def cache_Cache_Want.call (c : Option Addr) (vclass : Int) (σ : Hp) (R : Int -> Int -> Hp -> Prop) : Prop := CallK Tryz.prog 112 #[.pointer c, .int .i64 vclass] [.one (.i .i64), .one (.i .i64)] σ R
def arena_Arena_FromTransfer.call (a : Option Addr) (vclass : Int) (σ : Hp) (R : Sl -> Int -> Hp -> Prop) : Prop := CallK Tryz.prog 113 #[.pointer a, .int .i64 vclass] [.one .s, .one (.i .i64)] σ R
def heap_Heap_hold.call (vh : Option Addr) (thread : Int) (vclass : Int) (objects : Sl) (σ : Hp) (R : Hp -> Prop) : Prop := CallK Tryz.prog 114 #[.pointer vh, .int .i64 thread, .int .i64 vclass, .slice objects.a objects.len objects.cap] [] σ R
def arena_Arena_FromCentral.call (a : Option Addr) (vclass : Int) (many : Int) (σ : Hp) (R : Sl -> Int -> Hp -> Prop) : Prop := CallK Tryz.prog 115 #[.pointer a, .int .i64 vclass, .int .i64 many] [.one .s, .one (.i .i64)] σ R
def arena_Arena_Grow.call (a : Option Addr) (vclass : Int) (σ : Hp) (R : Int -> Hp -> Prop) : Prop := CallK Tryz.prog 116 #[.pointer a, .int .i64 vclass] [.one (.i .i64)] σ R
def cache_Cache_Fill.call (c : Option Addr) (vclass : Int) (objects : Sl) (σ : Hp) (R : Int -> Hp -> Prop) : Prop := CallK Tryz.prog 117 #[.pointer c, .int .i64 vclass, .slice objects.a objects.len objects.cap] [.one (.i .i64)] σ R
def arena_Arena_TakePages.call (a : Option Addr) (pages : Int) (align : Int) (σ : Hp) (R : Int -> Int -> Hp -> Prop) : Prop := CallK Tryz.prog 118 #[.pointer a, .int .i64 pages, .int .i64 align] [.one (.i .i64), .one (.i .i64)] σ R
def heap_Heap_find.call (vh : Option Addr) (thread : Int) (addr : Int) (σ : Hp) (R : Value -> Int -> Int -> Hp -> Prop) : Prop := CallK Tryz.prog 119 #[.pointer vh, .int .i64 thread, .int .i64 addr] [.one .raw, .agg [(.i .i64), (.i .i64)]] σ R
def cache_Cache_Put.call (c : Option Addr) (vclass : Int) (object : Int) (σ : Hp) (R : Sl -> Int -> Hp -> Prop) : Prop := CallK Tryz.prog 120 #[.pointer c, .int .i64 vclass, .int .i64 object] [.one .s, .one (.i .i64)] σ R
def cache_Cache_Over.call (c : Option Addr) (σ : Hp) (R : Bool -> Hp -> Prop) : Prop := CallK Tryz.prog 121 #[.pointer c] [.one .b] σ R
def cache_Cache_Scavenge.call (c : Option Addr) (σ : Hp) (R : Sl -> Hp -> Prop) : Prop := CallK Tryz.prog 122 #[.pointer c] [.one .s] σ R
def heap_Heap_returning.call (vh : Option Addr) (thread : Int) (σ : Hp) (R : Value -> Hp -> Prop) : Prop := CallK Tryz.prog 123 #[.pointer vh, .int .i64 thread] [.one .raw] σ R
def slices_Clone_api_Batch_api_Batch.call (s : Sl) (σ : Hp) (R : Sl -> Hp -> Prop) : Prop := CallK Tryz.prog 124 #[.slice s.a s.len s.cap] [.one .s] σ R
def heap_Heap_back.call (vh : Option Addr) (own : Int) (b : Int) (b1 : Sl) (σ : Hp) (R : Hp -> Prop) : Prop := CallK Tryz.prog 125 #[.pointer vh, .int .i64 own, .agg #[.int .i64 b, .slice b1.a b1.len b1.cap]] [] σ R
def arena_Arena_GivePages.call (a : Option Addr) (start : Int) (σ : Hp) (R : Int -> Hp -> Prop) : Prop := CallK Tryz.prog 126 #[.pointer a, .int .i64 start] [.one (.i .i64)] σ R
def cache_Cache_Drain.call (c : Option Addr) (σ : Hp) (R : Sl -> Hp -> Prop) : Prop := CallK Tryz.prog 127 #[.pointer c] [.one .s] σ R
def arena_Arena_back.call (a : Option Addr) (runs : Sl) (σ : Hp) (R : Hp -> Prop) : Prop := CallK Tryz.prog 128 #[.pointer a, .slice runs.a runs.len runs.cap] [] σ R
def central_List_Sweep.call (l : Option Addr) (σ : Hp) (R : Sl -> Hp -> Prop) : Prop := CallK Tryz.prog 129 #[.pointer l] [.one .s] σ R
def arena_Arena_ToCentral.call (a : Option Addr) (vclass : Int) (objects : Sl) (σ : Hp) (R : Int -> Hp -> Prop) : Prop := CallK Tryz.prog 138 #[.pointer a, .int .i64 vclass, .slice objects.a objects.len objects.cap] [.one (.i .i64)] σ R
def buddy_Heap_made.call (vh : Option Addr) (σ : Hp) (R : Bool -> Hp -> Prop) : Prop := CallK Tryz.prog 142 #[.pointer vh] [.one .b] σ R
def huge_Tracker_made.call (t : Option Addr) (σ : Hp) (R : Bool -> Hp -> Prop) : Prop := CallK Tryz.prog 144 #[.pointer t] [.one .b] σ R
def pagemap_Map_good.call (m : Option Addr) (σ : Hp) (R : Bool -> Hp -> Prop) : Prop := CallK Tryz.prog 145 #[.pointer m] [.one .b] σ R
def pagemap_New.call (σ : Hp) (R : Option Addr -> Hp -> Prop) : Prop := CallK Tryz.prog 146 #[] [.one .p] σ R
def pagemap_Map_set.call (m : Option Addr) (start : Int) (pages : Int) (no : Int) (σ : Hp) (R : Int -> Hp -> Prop) : Prop := CallK Tryz.prog 148 #[.pointer m, .int .i64 start, .int .i64 pages, .int .i64 no] [.one (.i .i64)] σ R
def central_List_made.call (l : Option Addr) (σ : Hp) (R : Bool -> Hp -> Prop) : Prop := CallK Tryz.prog 149 #[.pointer l] [.one .b] σ R
def transfer_Cache_made.call (c : Option Addr) (σ : Hp) (R : Bool -> Hp -> Prop) : Prop := CallK Tryz.prog 151 #[.pointer c] [.one .b] σ R
def slices_Contains_space_page_space_page.call (s : Sl) (v : Bool) (v1 : Bool) (σ : Hp) (R : Bool -> Hp -> Prop) : Prop := CallK Tryz.prog 152 #[.slice s.a s.len s.cap, .agg #[.bool v, .bool v1]] [.one .b] σ R
def slices_IndexFunc_arena_Arena_arena_Arena.call (s : Sl) (f : Fv) (σ : Hp) (R : Int -> Hp -> Prop) : Prop := CallK Tryz.prog 153 #[.slice s.a s.len s.cap, .func (.func f.f) f.first f.captured] [.one (.i .i64)] σ R
def heap_Heap_owner_L1.call (a : Option Addr) (cap0 : Addr) (σ : Hp) (R : Bool -> Hp -> Prop) : Prop := CallK Tryz.prog 154 #[.pointer a, .pointer (some cap0)] [.one .b] σ R
def arena_Arena_Owns.call (a : Option Addr) (page : Int) (σ : Hp) (R : Bool -> Hp -> Prop) : Prop := CallK Tryz.prog 155 #[.pointer a, .int .i64 page] [.one .b] σ R
def pagemap_Map_Get.call (m : Option Addr) (page : Int) (σ : Hp) (R : Int -> Hp -> Prop) : Prop := CallK Tryz.prog 156 #[.pointer m, .int .i64 page] [.one (.i .i64)] σ R
def central_List_Find.call (l : Option Addr) (addr : Int) (σ : Hp) (R : Int -> Int -> Hp -> Prop) : Prop := CallK Tryz.prog 157 #[.pointer l, .int .i64 addr] [.one (.i .i64), .one (.i .i64)] σ R
def buddy_New.call (pages : Int) (σ : Hp) (R : Option Addr -> Int -> Hp -> Prop) : Prop := CallK Tryz.prog 158 #[.int .i64 pages] [.one .p, .one (.i .i64)] σ R
def huge_New.call (pages : Int) (σ : Hp) (R : Option Addr -> Int -> Hp -> Prop) : Prop := CallK Tryz.prog 159 #[.int .i64 pages] [.one .p, .one (.i .i64)] σ R
def central_New.call (vclass : Int) (vclass1 : Int) (vclass2 : Int) (σ : Hp) (R : Option Addr -> Int -> Hp -> Prop) : Prop := CallK Tryz.prog 160 #[.agg #[.int .i64 vclass, .int .i64 vclass1, .int .i64 vclass2]] [.one .p, .one (.i .i64)] σ R
def transfer_New.call (batch : Int) (room : Int) (σ : Hp) (R : Option Addr -> Int -> Hp -> Prop) : Prop := CallK Tryz.prog 161 #[.int .i64 batch, .int .i64 room] [.one .p, .one (.i .i64)] σ R
def cache_Cache_find.call (c : Option Addr) (vclass : Int) (σ : Hp) (R : Option Addr -> Int -> Hp -> Prop) : Prop := CallK Tryz.prog 162 #[.pointer c, .int .i64 vclass] [.one .p, .one (.i .i64)] σ R
def arena_Arena_check.call (a : Option Addr) (vclass : Int) (σ : Hp) (R : Int -> Hp -> Prop) : Prop := CallK Tryz.prog 163 #[.pointer a, .int .i64 vclass] [.one (.i .i64)] σ R
def transfer_Cache_Remove.call (c : Option Addr) (σ : Hp) (R : Sl -> Int -> Hp -> Prop) : Prop := CallK Tryz.prog 164 #[.pointer c] [.one .s, .one (.i .i64)] σ R
def central_List_Take.call (l : Option Addr) (many : Int) (σ : Hp) (R : Sl -> Int -> Hp -> Prop) : Prop := CallK Tryz.prog 165 #[.pointer l, .int .i64 many] [.one .s, .one (.i .i64)] σ R
def arena_Arena_get.call (a : Option Addr) (pages : Int) (align : Int) (no : Int) (σ : Hp) (R : Int -> Int -> Hp -> Prop) : Prop := CallK Tryz.prog 166 #[.pointer a, .int .i64 pages, .int .i64 align, .int .i64 no] [.one (.i .i64), .one (.i .i64)] σ R
def central_List_Add.call (l : Option Addr) (start : Int) (σ : Hp) (R : Int -> Hp -> Prop) : Prop := CallK Tryz.prog 167 #[.pointer l, .int .i64 start] [.one (.i .i64)] σ R
def slices_Reverse_int_int.call (s : Sl) (σ : Hp) (R : Hp -> Prop) : Prop := CallK Tryz.prog 168 #[.slice s.a s.len s.cap] [] σ R
def cache_list_add.call (l : Option Addr) (objects : Sl) (σ : Hp) (R : Int -> Hp -> Prop) : Prop := CallK Tryz.prog 169 #[.pointer l, .slice objects.a objects.len objects.cap] [.one (.i .i64)] σ R
def cache_list_oldest.call (l : Option Addr) (many : Int) (σ : Hp) (R : Sl -> Hp -> Prop) : Prop := CallK Tryz.prog 170 #[.pointer l, .int .i64 many] [.one .s] σ R
def cache_Cache_Bytes.call (c : Option Addr) (σ : Hp) (R : Int -> Hp -> Prop) : Prop := CallK Tryz.prog 171 #[.pointer c] [.one (.i .i64)] σ R
def cache_Cache_batches.call (c : Option Addr) (remove : Fv) (σ : Hp) (R : Sl -> Hp -> Prop) : Prop := CallK Tryz.prog 172 #[.pointer c, .func (.func remove.f) remove.first remove.captured] [.one .s] σ R
def cache_Cache_Scavenge_L1.call (l : Option Addr) (batch : Int) (σ : Hp) (R : Sl -> Hp -> Prop) : Prop := CallK Tryz.prog 173 #[.pointer l, .int .i64 batch] [.one .s] σ R
def arena_Arena_ToTransfer.call (a : Option Addr) (vclass : Int) (objects : Sl) (σ : Hp) (R : Bool -> Int -> Hp -> Prop) : Prop := CallK Tryz.prog 174 #[.pointer a, .int .i64 vclass, .slice objects.a objects.len objects.cap] [.one .b, .one (.i .i64)] σ R
def cache_Cache_Drain_L1.call (l : Option Addr) (v : Int) (σ : Hp) (R : Sl -> Hp -> Prop) : Prop := CallK Tryz.prog 175 #[.pointer l, .int .i64 v] [.one .s] σ R
def pagemap_Map_Clear.call (m : Option Addr) (start : Int) (pages : Int) (σ : Hp) (R : Int -> Hp -> Prop) : Prop := CallK Tryz.prog 176 #[.pointer m, .int .i64 start, .int .i64 pages] [.one (.i .i64)] σ R
def huge_Tracker_Unuse.call (t : Option Addr) (start : Int) (pages : Int) (σ : Hp) (R : Int -> Hp -> Prop) : Prop := CallK Tryz.prog 177 #[.pointer t, .int .i64 start, .int .i64 pages] [.one (.i .i64)] σ R
def buddy_Heap_Give.call (vh : Option Addr) (start : Int) (pages : Int) (σ : Hp) (R : Int -> Hp -> Prop) : Prop := CallK Tryz.prog 178 #[.pointer vh, .int .i64 start, .int .i64 pages] [.one (.i .i64)] σ R
def slices_DeleteFunc_central_entry_central_entry.call (s : Sl) (del : Fv) (σ : Hp) (R : Sl -> Hp -> Prop) : Prop := CallK Tryz.prog 179 #[.slice s.a s.len s.cap, .func (.func del.f) del.first del.captured] [.one .s] σ R
def central_List_Sweep_L1.call (vx : Int) (vx1 : Int) (vx2 : Option Addr) (cap0 : Addr) (σ : Hp) (R : Bool -> Hp -> Prop) : Prop := CallK Tryz.prog 180 #[.agg #[.int .i64 vx, .int .i64 vx1, .pointer vx2], .pointer (some cap0)] [.one .b] σ R
def span_Span_Run.call (s : Option Addr) (σ : Hp) (R : Int -> Int -> Hp -> Prop) : Prop := CallK Tryz.prog 181 #[.pointer s] [.agg [(.i .i64), (.i .i64)]] σ R
def huge_Tracker_all.call (t : Option Addr) (σ : Hp) (R : Int -> Hp -> Prop) : Prop := CallK Tryz.prog 182 #[.pointer t] [.one (.i .i64)] σ R
def huge_Tracker_of.call (t : Option Addr) (huge : Int) (σ : Hp) (R : Sl -> Hp -> Prop) : Prop := CallK Tryz.prog 184 #[.pointer t, .int .i64 huge] [.one .s] σ R
def huge_Tracker_turn.call (t : Option Addr) (start : Int) (pages : Int) (to : Int) (vfrom : Sl) (σ : Hp) (R : Int -> Hp -> Prop) : Prop := CallK Tryz.prog 188 #[.pointer t, .int .i64 start, .int .i64 pages, .int .i64 to, .slice vfrom.a vfrom.len vfrom.cap] [.one (.i .i64)] σ R
def huge_Tracker_huge.call (t : Option Addr) (huge : Int) (σ : Hp) (R : Sl -> Int -> Hp -> Prop) : Prop := CallK Tryz.prog 191 #[.pointer t, .int .i64 huge] [.one .s, .one (.i .i64)] σ R
def huge_fill.call (l : Sl) (state : Int) (σ : Hp) (R : Hp -> Prop) : Prop := CallK Tryz.prog 193 #[.slice l.a l.len l.cap, .int .i64 state] [] σ R
def buddy_Heap_check.call (vh : Option Addr) (start : Int) (pages : Int) (σ : Hp) (R : Int -> Hp -> Prop) : Prop := CallK Tryz.prog 194 #[.pointer vh, .int .i64 start, .int .i64 pages] [.one (.i .i64)] σ R
def buddy_Heap_IsFree.call (vh : Option Addr) (page : Int) (σ : Hp) (R : Bool -> Hp -> Prop) : Prop := CallK Tryz.prog 195 #[.pointer vh, .int .i64 page] [.one .b] σ R
def buddy_Heap_cut.call (vh : Option Addr) (start : Int) (pages : Int) (σ : Hp) (R : Hp -> Prop) : Prop := CallK Tryz.prog 196 #[.pointer vh, .int .i64 start, .int .i64 pages] [] σ R
def central_List_Put.call (l : Option Addr) (objects : Sl) (σ : Hp) (R : Sl -> Int -> Hp -> Prop) : Prop := CallK Tryz.prog 199 #[.pointer l, .slice objects.a objects.len objects.cap] [.one .s, .one (.i .i64)] σ R
def pagemap_Map_put.call (m : Option Addr) (page : Int) (no : Int) (σ : Hp) (R : Hp -> Prop) : Prop := CallK Tryz.prog 211 #[.pointer m, .int .i64 page, .int .i64 no] [] σ R
def span_Span_made.call (s : Option Addr) (σ : Hp) (R : Bool -> Hp -> Prop) : Prop := CallK Tryz.prog 212 #[.pointer s] [.one .b] σ R
def slices_Index_space_page_space_page.call (s : Sl) (v : Bool) (v1 : Bool) (σ : Hp) (R : Int -> Hp -> Prop) : Prop := CallK Tryz.prog 213 #[.slice s.a s.len s.cap, .agg #[.bool v, .bool v1]] [.one (.i .i64)] σ R
def huge_Tracker_State.call (t : Option Addr) (page : Int) (σ : Hp) (R : Int -> Hp -> Prop) : Prop := CallK Tryz.prog 214 #[.pointer t, .int .i64 page] [.one (.i .i64)] σ R
def central_List_of.call (l : Option Addr) (addr : Int) (σ : Hp) (R : Option Addr -> Hp -> Prop) : Prop := CallK Tryz.prog 215 #[.pointer l, .int .i64 addr] [.one .p] σ R
def span_Span_Index.call (s : Option Addr) (addr : Int) (σ : Hp) (R : Int -> Int -> Hp -> Prop) : Prop := CallK Tryz.prog 216 #[.pointer s, .int .i64 addr] [.one (.i .i64), .one (.i .i64)] σ R
def sizes_Objects.call (c : Int) (c1 : Int) (c2 : Int) (σ : Hp) (R : Int -> Int -> Hp -> Prop) : Prop := CallK Tryz.prog 217 #[.agg #[.int .i64 c, .int .i64 c1, .int .i64 c2]] [.one (.i .i64), .one (.i .i64)] σ R
def cache_Cache_of.call (c : Option Addr) (vclass : Int) (σ : Hp) (R : Option Addr -> Hp -> Prop) : Prop := CallK Tryz.prog 218 #[.pointer c, .int .i64 vclass] [.one .p] σ R
def central_List_one.call (l : Option Addr) (σ : Hp) (R : Int -> Bool -> Hp -> Prop) : Prop := CallK Tryz.prog 219 #[.pointer l] [.one (.i .i64), .one .b] σ R
def buddy_Heap_Take.call (vh : Option Addr) (pages : Int) (align : Int) (σ : Hp) (R : Int -> Int -> Hp -> Prop) : Prop := CallK Tryz.prog 220 #[.pointer vh, .int .i64 pages, .int .i64 align] [.one (.i .i64), .one (.i .i64)] σ R
def arena_Arena_grow.call (a : Option Addr) (pages : Int) (σ : Hp) (R : Bool -> Hp -> Prop) : Prop := CallK Tryz.prog 221 #[.pointer a, .int .i64 pages] [.one .b] σ R
def huge_Tracker_Use.call (t : Option Addr) (start : Int) (pages : Int) (σ : Hp) (R : Int -> Hp -> Prop) : Prop := CallK Tryz.prog 222 #[.pointer t, .int .i64 start, .int .i64 pages] [.one (.i .i64)] σ R
def pagemap_Map_Set.call (m : Option Addr) (start : Int) (pages : Int) (no : Int) (σ : Hp) (R : Int -> Hp -> Prop) : Prop := CallK Tryz.prog 223 #[.pointer m, .int .i64 start, .int .i64 pages, .int .i64 no] [.one (.i .i64)] σ R
def span_New.call (start : Int) (vclass : Int) (vclass1 : Int) (vclass2 : Int) (σ : Hp) (R : Option Addr -> Int -> Hp -> Prop) : Prop := CallK Tryz.prog 224 #[.int .i64 start, .agg #[.int .i64 vclass, .int .i64 vclass1, .int .i64 vclass2]] [.one .p, .one (.i .i64)] σ R
def slices_BinarySearchFunc_central_entry_central_entry_int.call (vx : Sl) (target : Int) (cmp : Fv) (σ : Hp) (R : Int -> Bool -> Hp -> Prop) : Prop := CallK Tryz.prog 225 #[.slice vx.a vx.len vx.cap, .int .i64 target, .func (.func cmp.f) cmp.first cmp.captured] [.one (.i .i64), .one .b] σ R
def central_List_Add_L1.call (vx : Int) (vx1 : Int) (vx2 : Option Addr) (start : Int) (σ : Hp) (R : Int -> Hp -> Prop) : Prop := CallK Tryz.prog 226 #[.agg #[.int .i64 vx, .int .i64 vx1, .pointer vx2], .int .i64 start] [.one (.i .i64)] σ R
def slices_Insert_central_entry_central_entry.call (s : Sl) (i : Int) (v : Sl) (σ : Hp) (R : Sl -> Hp -> Prop) : Prop := CallK Tryz.prog 227 #[.slice s.a s.len s.cap, .int .i64 i, .slice v.a v.len v.cap] [.one .s] σ R
def slices_Clip_int_int.call (s : Sl) (σ : Hp) (R : Sl -> Hp -> Prop) : Prop := CallK Tryz.prog 228 #[.slice s.a s.len s.cap] [.one .s] σ R
def slices_SortFunc_api_Batch_api_Batch.call (vx : Sl) (cmp : Fv) (σ : Hp) (R : Hp -> Prop) : Prop := CallK Tryz.prog 229 #[.slice vx.a vx.len vx.cap, .func (.func cmp.f) cmp.first cmp.captured] [] σ R
def central_List_IsTaken.call (l : Option Addr) (addr : Int) (σ : Hp) (R : Bool -> Int -> Hp -> Prop) : Prop := CallK Tryz.prog 231 #[.pointer l, .int .i64 addr] [.one .b, .one (.i .i64)] σ R
def transfer_Cache_Insert.call (c : Option Addr) (objects : Sl) (σ : Hp) (R : Bool -> Int -> Hp -> Prop) : Prop := CallK Tryz.prog 232 #[.pointer c, .slice objects.a objects.len objects.cap] [.one .b, .one (.i .i64)] σ R
def buddy_Heap_free.call (vh : Option Addr) (start : Int) (pages : Int) (σ : Hp) (R : Hp -> Prop) : Prop := CallK Tryz.prog 233 #[.pointer vh, .int .i64 start, .int .i64 pages] [] σ R
def slices_IndexFunc_central_entry_central_entry.call (s : Sl) (f : Fv) (σ : Hp) (R : Int -> Hp -> Prop) : Prop := CallK Tryz.prog 234 #[.slice s.a s.len s.cap, .func (.func f.f) f.first f.captured] [.one (.i .i64)] σ R
def slices_ContainsFunc_int_int.call (s : Sl) (f : Fv) (σ : Hp) (R : Bool -> Hp -> Prop) : Prop := CallK Tryz.prog 236 #[.slice s.a s.len s.cap, .func (.func f.f) f.first f.captured] [.one .b] σ R
def huge_Tracker_turn_L1.call (s : Int) (cap0 : Addr) (σ : Hp) (R : Bool -> Hp -> Prop) : Prop := CallK Tryz.prog 237 #[.int .i64 s, .pointer (some cap0)] [.one .b] σ R
def slices_Contains_int_int.call (s : Sl) (v : Int) (σ : Hp) (R : Bool -> Hp -> Prop) : Prop := CallK Tryz.prog 238 #[.slice s.a s.len s.cap, .int .i64 v] [.one .b] σ R
def space_Space_run.call (s : Option Addr) (start : Int) (pages : Int) (σ : Hp) (R : Sl -> Int -> Hp -> Prop) : Prop := CallK Tryz.prog 239 #[.pointer s, .int .i64 start, .int .i64 pages] [.one .s, .one (.i .i64)] σ R
def space_Space_set.call (s : Option Addr) (start : Int) (pages : Int) (to : Bool) (to1 : Bool) (σ : Hp) (R : Hp -> Prop) : Prop := CallK Tryz.prog 240 #[.pointer s, .int .i64 start, .int .i64 pages, .agg #[.bool to, .bool to1]] [] σ R
def buddy_Heap_covered.call (vh : Option Addr) (page : Int) (σ : Hp) (R : Int -> Int -> Bool -> Hp -> Prop) : Prop := CallK Tryz.prog 241 #[.pointer vh, .int .i64 page] [.one (.i .i64), .one (.i .i64), .one .b] σ R
def span_Span_Put.call (s : Option Addr) (addr : Int) (σ : Hp) (R : Int -> Hp -> Prop) : Prop := CallK Tryz.prog 243 #[.pointer s, .int .i64 addr] [.one (.i .i64)] σ R
def pagemap_there_pagemap_middle.call (node : Option Addr) (σ : Hp) (R : Option Addr -> Hp -> Prop) : Prop := CallK Tryz.prog 250 #[.pointer node] [.one .p] σ R
def pagemap_there_pagemap_leaf.call (node : Option Addr) (σ : Hp) (R : Option Addr -> Hp -> Prop) : Prop := CallK Tryz.prog 251 #[.pointer node] [.one .p] σ R
def span_Span_addr.call (s : Option Addr) (object : Int) (σ : Hp) (R : Int -> Hp -> Prop) : Prop := CallK Tryz.prog 252 #[.pointer s, .int .i64 object] [.one (.i .i64)] σ R
def sizes_objects.call (c : Int) (c1 : Int) (c2 : Int) (σ : Hp) (R : Int -> Hp -> Prop) : Prop := CallK Tryz.prog 253 #[.agg #[.int .i64 c, .int .i64 c1, .int .i64 c2]] [.one (.i .i64)] σ R
def span_Span_Objects.call (s : Option Addr) (σ : Hp) (R : Int -> Hp -> Prop) : Prop := CallK Tryz.prog 254 #[.pointer s] [.one (.i .i64)] σ R
def central_rank_before.call (r : Int) (r1 : Int) (q : Int) (q1 : Int) (σ : Hp) (R : Bool -> Hp -> Prop) : Prop := CallK Tryz.prog 255 #[.agg #[.int .i64 r, .int .i64 r1], .agg #[.int .i64 q, .int .i64 q1]] [.one .b] σ R
def span_Span_Take.call (s : Option Addr) (σ : Hp) (R : Int -> Int -> Hp -> Prop) : Prop := CallK Tryz.prog 256 #[.pointer s] [.one (.i .i64), .one (.i .i64)] σ R
def slices_Min_int_int.call (vx : Sl) (σ : Hp) (R : Int -> Hp -> Prop) : Prop := CallK Tryz.prog 257 #[.slice vx.a vx.len vx.cap] [.one (.i .i64)] σ R
def maps_Keys_map_int_bool_int_bool.call (m : Option Nat) (σ : Hp) (R : Fv -> Hp -> Prop) : Prop := CallK Tryz.prog 258 #[.map m] [.one .fn] σ R
def space_Space_Map.call (s : Option Addr) (start : Int) (pages : Int) (σ : Hp) (R : Int -> Hp -> Prop) : Prop := CallK Tryz.prog 259 #[.pointer s, .int .i64 start, .int .i64 pages] [.one (.i .i64)] σ R
def huge_Tracker_Add.call (t : Option Addr) (huge : Int) (σ : Hp) (R : Int -> Hp -> Prop) : Prop := CallK Tryz.prog 260 #[.pointer t, .int .i64 huge] [.one (.i .i64)] σ R
def slices_rotateRight_central_entry.call (s : Sl) (r : Int) (σ : Hp) (R : Hp -> Prop) : Prop := CallK Tryz.prog 262 #[.slice s.a s.len s.cap, .int .i64 r] [] σ R
def span_Span_IsTaken.call (s : Option Addr) (addr : Int) (σ : Hp) (R : Bool -> Int -> Hp -> Prop) : Prop := CallK Tryz.prog 264 #[.pointer s, .int .i64 addr] [.one .b, .one (.i .i64)] σ R
def buddy_Heap_add.call (vh : Option Addr) (order : Int) (start : Int) (σ : Hp) (R : Hp -> Prop) : Prop := CallK Tryz.prog 265 #[.pointer vh, .int .i64 order, .int .i64 start] [] σ R
def slices_IndexFunc_int_int.call (s : Sl) (f : Fv) (σ : Hp) (R : Int -> Hp -> Prop) : Prop := CallK Tryz.prog 274 #[.slice s.a s.len s.cap, .func (.func f.f) f.first f.captured] [.one (.i .i64)] σ R
def slices_Index_int_int.call (s : Sl) (v : Int) (σ : Hp) (R : Int -> Hp -> Prop) : Prop := CallK Tryz.prog 275 #[.slice s.a s.len s.cap, .int .i64 v] [.one (.i .i64)] σ R
def span_Span_object.call (s : Option Addr) (addr : Int) (σ : Hp) (R : Int -> Int -> Hp -> Prop) : Prop := CallK Tryz.prog 276 #[.pointer s, .int .i64 addr] [.one (.i .i64), .one (.i .i64)] σ R
def span_Span_mark.call (s : Option Addr) (state : Int) (objects : Sl) (σ : Hp) (R : Hp -> Prop) : Prop := CallK Tryz.prog 277 #[.pointer s, .int .i64 state, .slice objects.a objects.len objects.cap] [] σ R
def slices_ContainsFunc_space_page_space_page.call (s : Sl) (f : Fv) (σ : Hp) (R : Bool -> Hp -> Prop) : Prop := CallK Tryz.prog 280 #[.slice s.a s.len s.cap, .func (.func f.f) f.first f.captured] [.one .b] σ R
def space_Space_Map_L1.call (p : Bool) (p1 : Bool) (σ : Hp) (R : Bool -> Hp -> Prop) : Prop := CallK Tryz.prog 281 #[.agg #[.bool p, .bool p1]] [.one .b] σ R
def slices_IndexFunc_space_page_space_page.call (s : Sl) (f : Fv) (σ : Hp) (R : Int -> Hp -> Prop) : Prop := CallK Tryz.prog 294 #[.slice s.a s.len s.cap, .func (.func f.f) f.first f.captured] [.one (.i .i64)] σ R
def heap_take_name.call (p0 : Int) (σ : Hp) (R : ByteArray -> Hp -> Prop) : Prop := CallK Tryz.prog 320 #[.agg #[.int .i64 p0]] [.one .str] σ R
def heap_large_name.call (p0 : Int) (σ : Hp) (R : ByteArray -> Hp -> Prop) : Prop := CallK Tryz.prog 321 #[.agg #[.int .i64 p0]] [.one .str] σ R
def heap_find_name.call (p0 : Int) (σ : Hp) (R : ByteArray -> Hp -> Prop) : Prop := CallK Tryz.prog 322 #[.agg #[.int .i64 p0]] [.one .str] σ R
def heap_drain_name.call (σ : Hp) (R : ByteArray -> Hp -> Prop) : Prop := CallK Tryz.prog 323 #[.agg #[]] [.one .str] σ R
def heap_transfer_name.call (p0 : Int) (p01 : Int) (σ : Hp) (R : ByteArray -> Hp -> Prop) : Prop := CallK Tryz.prog 324 #[.agg #[.int .i64 p0, .int .i64 p01]] [.one .str] σ R
def heap_fill_name.call (σ : Hp) (R : ByteArray -> Hp -> Prop) : Prop := CallK Tryz.prog 325 #[.agg #[]] [.one .str] σ R
def heap_central_name.call (p0 : Int) (p01 : Int) (σ : Hp) (R : ByteArray -> Hp -> Prop) : Prop := CallK Tryz.prog 326 #[.agg #[.int .i64 p0, .int .i64 p01]] [.one .str] σ R
def heap_grow_name.call (p0 : Int) (p01 : Int) (σ : Hp) (R : ByteArray -> Hp -> Prop) : Prop := CallK Tryz.prog 327 #[.agg #[.int .i64 p0, .int .i64 p01]] [.one .str] σ R
def heap_put_name.call (p0 : Int) (p01 : Int) (σ : Hp) (R : ByteArray -> Hp -> Prop) : Prop := CallK Tryz.prog 328 #[.agg #[.int .i64 p0, .int .i64 p01]] [.one .str] σ R
def heap_back_name.call (σ : Hp) (R : ByteArray -> Hp -> Prop) : Prop := CallK Tryz.prog 329 #[.agg #[]] [.one .str] σ R
def heap_give_name.call (p0 : Int) (p01 : Int) (σ : Hp) (R : ByteArray -> Hp -> Prop) : Prop := CallK Tryz.prog 330 #[.agg #[.int .i64 p0, .int .i64 p01]] [.one .str] σ R
end Go.Proofs
namespace Go.Proofs
open Go.Vc

set_option maxRecDepth 100000
def buddy_Heap_made.hint : Hn := .seq (.o 1) (.seq (.reg (.seq [.op, .op, .op, .grd true 5 [.op, .op, .op, .op, .op], .op])) (.leaf))
def buddy_Heap_made.vc (vh : Option Addr) (σ : Hp) (R : Bool -> Hp -> Prop) : Prop :=
 JnB (fun r v =>
 R r v) fun J =>
 If (!vh.isNone) (NilP vh fun a7 =>
 LdI .i64 (a7.add 0) σ fun t9 =>
 J (decide (t9 > 0)) σ)
 (J false σ)
theorem buddy_Heap_made.of_vc {vh : Option Addr} {σ : Hp} {R : Bool -> Hp -> Prop} (hv : buddy_Heap_made.vc vh σ R) : buddy_Heap_made.call vh σ R :=
 fnK_sound Tryz.func142 (x := buddy_Heap_made.hint) (args := [.pointer vh]) (rs := [.one .b]) (R := R) (Eq.mpr (by kernel_rfl) hv)
def buddy_New.hint : Hn := .seq (.o 2) (.seq (.seq (.reg (.seq [.op, .op, .op, .grd false 2 [.op, .op]])) (.cond (.seq (.o 2) (.leaf)) (.leaf))) (.seq (.o 4) (.seq (.seq (.o 1) (.block (.loop [(5, .one (.i .i64))] (.seq (.seq (.o 3) (.cond (.leaf) (.leaf))) (.seq (.block (.o 11)) (.o 3)))))) (.seq (.o 3) (.leaf)))))
def buddy_New.vc (pages : Int) (σ : Hp) (R : Option Addr -> Int -> Hp -> Prop) : Prop :=
 JnB (fun r v =>
 If r (R none 1 v)
 (Nw (.cells #[.int .i64 pages, .slice none 0 0] 222 (0, 0)) v fun n14 v1 =>
 LoopK [(.i .i64)] (fun I => I 1 v1) fun J1 (size : Int) v2 =>
 If (decide (size <= pages)) (NilP (some n14) fun a22 =>
 LdS (a22.add 1) v2 fun t24 =>
 Nw (.map #[] 0) v2 fun n25 v3 =>
 Nw (.cells #[.map (some n25.block)] 223 (0, 0)) v3 fun n26 v4 =>
 App t24 1 8 223 [.map none] ⟨(some n26), 1, 1⟩ v4 fun t27 v5 =>
 NilP (some n14) fun a28 =>
 St1 (a28.add 1) (.slice t27.a t27.len t27.cap) v5 fun v6 =>
 Ar .i64 (size * 2) fun size1 =>
 J1 size1 v6)
 (R (some n14) 0 v2))) fun J =>
 If (decide (pages < 1)) (J true σ)
 (J (decide (pages > 1024)) σ)
theorem buddy_New.of_vc {pages : Int} {σ : Hp} {R : Option Addr -> Int -> Hp -> Prop} (hv : buddy_New.vc pages σ R) : buddy_New.call pages σ R :=
 fnK_sound Tryz.func158 (x := buddy_New.hint) (args := [.int .i64 pages]) (rs := [.one .p, .one (.i .i64)]) (R := R) (Eq.mpr (by kernel_rfl) hv)
def buddy_Heap_Give.hint : Hn := .seq (.o 1) (.seq (.seq (.o 5) (.seq (.o 2) (.cond (.seq (.o 2) (.leaf)) (.leaf)))) (.seq (.seq (.o 2) (.block (.loop [(8, .one (.i .i64))] (.seq (.seq (.o 5) (.cond (.leaf) (.leaf))) (.seq (.block (.seq (.o 3) (.cond (.seq (.o 1) (.leaf)) (.leaf)))) (.o 3)))))) (.seq (.o 4) (.seq (.o 1) (.leaf)))))
def buddy_Heap_Give.vc (vh : Option Addr) (start : Int) (pages : Int) (σ : Hp) (R : Int -> Hp -> Prop) : Prop :=
 buddy_Heap_check.call vh start pages σ fun ve v =>
 If (ve != 0) (R ve v)
 (LoopK [(.i .i64)] (fun I => I start v) fun J (p : Int) v1 =>
 Ar .i64 (start + pages) fun t20 =>
 If (decide (p < t20)) (buddy_Heap_IsFree.call vh p v1 fun t26 v2 =>
 If t26 (R 9 v2)
 (Ar .i64 (p + 1) fun p1 =>
 J p1 v2))
 (buddy_Heap_free.call vh start pages v1 fun v3 =>
 R 0 v3))
theorem buddy_Heap_Give.of_vc {vh : Option Addr} {start : Int} {pages : Int} {σ : Hp} {R : Int -> Hp -> Prop} (hv : buddy_Heap_Give.vc vh start pages σ R) : buddy_Heap_Give.call vh start pages σ R :=
 fnK_sound Tryz.func178 (x := buddy_Heap_Give.hint) (args := [.pointer vh, .int .i64 start, .int .i64 pages]) (rs := [.one (.i .i64)]) (R := R) (Eq.mpr (by kernel_rfl) hv)
def buddy_Heap_check.hint : Hn := .seq (.o 1) (.seq (.block (.seq (.o 4) (.cond (.seq (.o 1) (.leaf)) (.seq (.reg (.seq [.op, .op, .op, .grd false 2 [.op, .op], .op, .grd false 6 [.op, .op, .op, .op, .op, .op], .op, .grd false 8 [.op, .op, .op, .op, .op, .op, .op, .op], .op])) (.cond (.seq (.o 1) (.leaf)) (.leaf)))))) (.seq (.o 1) (.leaf)))
def buddy_Heap_check.vc (vh : Option Addr) (start : Int) (pages : Int) (σ : Hp) (R : Int -> Hp -> Prop) : Prop :=
 buddy_Heap_made.call vh σ fun t9 v =>
 If (!t9) (R 5 v)
 (JnB (fun r v1 =>
 JnB (fun r1 v2 =>
 JnB (fun r2 v3 =>
 If r2 (R 1 v3)
 (R 0 v3)) fun J2 =>
 If r1 (J2 true v2)
 (NilP vh fun a29 =>
 LdI .i64 (a29.add 0) v2 fun t31 =>
 Ar .i64 (t31 - start) fun t33 =>
 J2 (decide (pages > t33)) v2)) fun J1 =>
 If r (J1 true v1)
 (NilP vh fun a21 =>
 LdI .i64 (a21.add 0) v1 fun t23 =>
 J1 (decide (start > t23)) v1)) fun J =>
 If (decide (start < 0)) (J true v)
 (J (decide (pages < 1)) v))
theorem buddy_Heap_check.of_vc {vh : Option Addr} {start : Int} {pages : Int} {σ : Hp} {R : Int -> Hp -> Prop} (hv : buddy_Heap_check.vc vh start pages σ R) : buddy_Heap_check.call vh start pages σ R :=
 fnK_sound Tryz.func194 (x := buddy_Heap_check.hint) (args := [.pointer vh, .int .i64 start, .int .i64 pages]) (rs := [.one (.i .i64)]) (R := R) (Eq.mpr (by kernel_rfl) hv)
def buddy_Heap_IsFree.hint : Hn := .seq (.o 1) (.seq (.seq (.reg (.seq [.op, .op, .op, .op, .grd false 2 [.op, .op], .op, .grd false 6 [.op, .op, .op, .op, .op, .op]])) (.cond (.seq (.o 1) (.leaf)) (.leaf))) (.seq (.o 10) (.seq (.o 2) (.leaf))))
def buddy_Heap_IsFree.vc (vh : Option Addr) (page : Int) (σ : Hp) (R : Bool -> Hp -> Prop) : Prop :=
 buddy_Heap_made.call vh σ fun t9 v =>
 JnB (fun r v1 =>
 JnB (fun r1 v2 =>
 If r1 (R false v2)
 (buddy_Heap_covered.call vh page v2 fun t26 t261 t262 v3 =>
 R t262 v3)) fun J1 =>
 If r (J1 true v1)
 (NilP vh fun a18 =>
 LdI .i64 (a18.add 0) v1 fun t20 =>
 J1 (decide (page ≥ t20)) v1)) fun J =>
 If (!t9) (J true v)
 (J (decide (page < 0)) v)
theorem buddy_Heap_IsFree.of_vc {vh : Option Addr} {page : Int} {σ : Hp} {R : Bool -> Hp -> Prop} (hv : buddy_Heap_IsFree.vc vh page σ R) : buddy_Heap_IsFree.call vh page σ R :=
 fnK_sound Tryz.func195 (x := buddy_Heap_IsFree.hint) (args := [.pointer vh, .int .i64 page]) (rs := [.one .b]) (R := R) (Eq.mpr (by kernel_rfl) hv)
def buddy_Heap_cut.hint : Hn := .seq (.o 2) (.block (.loop [(6, .one (.i .i64))] (.seq (.seq (.o 5) (.cond (.leaf) (.leaf))) (.block (.seq (.o 10) (.seq (.o 9) (.seq (.o 5) (.seq (.o 6) (.seq (.seq (.o 4) (.seq (.o 3) (.cond (.o 6) (.leaf)))) (.o 2))))))))))
def buddy_Heap_cut.vc (vh : Option Addr) (start : Int) (pages : Int) (σ : Hp) (R : Hp -> Prop) : Prop :=
 LoopK [(.i .i64)] (fun I => I start σ) fun J (p : Int) v =>
 Ar .i64 (start + pages) fun t16 =>
 If (decide (p < t16)) (buddy_Heap_covered.call vh p v fun t21 t211 t212 v1 =>
 NilP vh fun a26 =>
 LdS (a26.add 1) v1 fun t28 =>
 Ix t28.a t28.len t21 1 fun a30 =>
 LdM a30 v1 fun t31 =>
 MDel .i64 .b t31 t211 v1 fun v2 =>
 Nn t21 <| Ar .i64 ((1 : Int) * 2 ^ (min t21.toNat IntKind.i64.bits)) fun t35 =>
 Ar .i64 (t211 + t35) fun vend =>
 Ar .i64 (p - t211) fun t41 =>
 buddy_Heap_free.call vh t211 t41 v2 fun v3 =>
 Ar .i64 (start + pages) fun last =>
 If (decide (vend > last)) (Ar .i64 (vend - last) fun t53 =>
 buddy_Heap_free.call vh last t53 v3 fun v4 =>
 J vend v4)
 (J vend v3))
 (R v)
theorem buddy_Heap_cut.of_vc {vh : Option Addr} {start : Int} {pages : Int} {σ : Hp} {R : Hp -> Prop} (hv : buddy_Heap_cut.vc vh start pages σ R) : buddy_Heap_cut.call vh start pages σ R :=
 fnK_sound Tryz.func196 (x := buddy_Heap_cut.hint) (args := [.pointer vh, .int .i64 start, .int .i64 pages]) (rs := []) (R := R) (Eq.mpr (by kernel_rfl) hv)
def buddy_Heap_Take.hint : Hn := .seq (.o 2) (.seq (.block (.seq (.o 4) (.cond (.seq (.o 2) (.leaf)) (.seq (.reg (.seq [.op, .op, .op, .grd false 2 [.op, .op], .op, .grd false 2 [.op, .op], .op, .grd false 2 [.op, .op], .op, .grd false 5 [.op, .op, .op, .op, .op], .op])) (.cond (.seq (.o 2) (.leaf)) (.leaf)))))) (.seq (.seq (.o 6) (.block (.loop [(42, .one (.i .i64))] (.seq (.o 1) (.seq (.cond (.leaf) (.leaf)) (.seq (.block (.seq (.o 5) (.seq (.reg (.seq [.op, .op, .op, .op, .op, .op, .op, .grd true 3 [.op, .op, .op]])) (.cond (.seq (.o 5) (.seq (.o 4) (.seq (.o 3) (.leaf)))) (.leaf))))) (.o 2))))))) (.seq (.o 2) (.leaf))))
def buddy_Heap_Take.vc (vh : Option Addr) (pages : Int) (align : Int) (σ : Hp) (R : Int -> Int -> Hp -> Prop) : Prop :=
 buddy_Heap_made.call vh σ fun t13 v =>
 If (!t13) (R 0 5 v)
 (JnB (fun r v1 =>
 JnB (fun r1 v2 =>
 JnB (fun r2 v3 =>
 JnB (fun r3 v4 =>
 If r3 (R 0 1 v4)
 (NilP vh fun a38 =>
 LdS (a38.add 1) v4 fun t40 =>
 LoopK [(.i .i64)] (fun I => I 0 v4) fun J4 (t42 : Int) v5 =>
 If (decide (t42 < ((t40.len : Nat) : Int))) (Ix t40.a t40.len t42 1 fun a45 =>
 LdM a45 v5 fun l =>
 Nn t42 <| Ar .i64 ((1 : Int) * 2 ^ (min t42.toNat IntKind.i64.bits)) fun t48 =>
 JnB (fun r4 v6 =>
 If r4 (maps_Keys_map_int_bool_int_bool.call l v6 fun t59 v7 =>
 slices_Collect_int.call t59 v7 fun t60 v8 =>
 slices_Min_int_int.call t60 v8 fun start v9 =>
 buddy_Heap_cut.call vh start pages v9 fun v10 =>
 R start 0 v10)
 (Ar .i64 (t42 + 1) fun t67 =>
 J4 t67 v6)) fun J5 =>
 If (decide (t48 ≥ (if align > pages then align else pages))) (MLen .i64 .b l v5 fun t55 =>
 J5 (decide (t55 > 0)) v5)
 (J5 false v5))
 (R 0 6 v5))) fun J3 =>
 If r2 (J3 true v3)
 (Ar .i64 (align - 1) fun t33 =>
 J3 ((bits .and .i64 align t33) != 0) v3)) fun J2 =>
 If r1 (J2 true v2)
 (J2 (decide (align > 1024)) v2)) fun J1 =>
 If r (J1 true v1)
 (J1 (decide (align < 1)) v1)) fun J =>
 If (decide (pages < 1)) (J true v)
 (J (decide (pages > 1024)) v))
theorem buddy_Heap_Take.of_vc {vh : Option Addr} {pages : Int} {align : Int} {σ : Hp} {R : Int -> Int -> Hp -> Prop} (hv : buddy_Heap_Take.vc vh pages align σ R) : buddy_Heap_Take.call vh pages align σ R :=
 fnK_sound Tryz.func220 (x := buddy_Heap_Take.hint) (args := [.pointer vh, .int .i64 pages, .int .i64 align]) (rs := [.one (.i .i64), .one (.i .i64)]) (R := R) (Eq.mpr (by kernel_rfl) hv)
def buddy_Heap_free.hint : Hn := .block (.loop [(1, .one (.i .i64)), (2, .one (.i .i64))] (.seq (.seq (.o 2) (.cond (.leaf) (.leaf))) (.block (.seq (.o 1) (.seq (.block (.loop [(6, .one (.i .i64))] (.seq (.seq (.reg (.seq [.op, .op, .op, .op, .op, .op, .op, .op, .op, .op, .grd true 5 [.op, .op, .op, .op, .op]])) (.cond (.leaf) (.leaf))) (.block (.o 3))))) (.seq (.o 4) (.oq 10)))))))
def buddy_Heap_free.vc (vh : Option Addr) (start : Int) (pages : Int) (σ : Hp) (R : Hp -> Prop) : Prop :=
 LoopK [(.i .i64), (.i .i64)] (fun I => I start pages σ) fun J (start1 : Int) (pages1 : Int) v =>
 If (decide (pages1 > 0)) (LoopK [(.i .i64)] (fun I1 => I1 0 v) fun J1 (k : Int) v1 =>
 Ar .i64 (k + 1) fun t11 =>
 Nn t11 <|
 Ar .i64 (k + 1) fun t14 =>
 Nn t14 <| Ar .i64 ((start1.fdiv (2 ^ (min t11.toNat IntKind.i64.bits))) * 2 ^ (min t14.toNat IntKind.i64.bits)) fun t15 =>
 JnB (fun r v2 =>
 If r (Ar .i64 (k + 1) fun k1 =>
 J1 k1 v2)
 (buddy_Heap_add.call vh k start1 v2 fun v3 =>
 Nn k <| Ar .i64 ((1 : Int) * 2 ^ (min k.toNat IntKind.i64.bits)) fun t33 =>
 Ar .i64 (start1 + t33) fun start2 =>
 Nn k <| Ar .i64 ((1 : Int) * 2 ^ (min k.toNat IntKind.i64.bits)) fun t37 =>
 Ar .i64 (pages1 - t37) fun pages2 =>
 J start2 pages2 v3)) fun J2 =>
 If (t15 == start1) (Ar .i64 (k + 1) fun t20 =>
 Nn t20 <| Ar .i64 ((1 : Int) * 2 ^ (min t20.toNat IntKind.i64.bits)) fun t21 =>
 J2 (decide (t21 <= pages1)) v1)
 (J2 false v1))
 (R v)
theorem buddy_Heap_free.of_vc {vh : Option Addr} {start : Int} {pages : Int} {σ : Hp} {R : Hp -> Prop} (hv : buddy_Heap_free.vc vh start pages σ R) : buddy_Heap_free.call vh start pages σ R :=
 fnK_sound Tryz.func233 (x := buddy_Heap_free.hint) (args := [.pointer vh, .int .i64 start, .int .i64 pages]) (rs := []) (R := R) (Eq.mpr (by kernel_rfl) hv)
def buddy_Heap_covered.hint : Hn := .seq (.o 3) (.seq (.seq (.o 6) (.block (.loop [(15, .one (.i .i64))] (.seq (.o 1) (.seq (.cond (.leaf) (.leaf)) (.seq (.block (.seq (.o 5) (.seq (.o 6) (.seq (.o 3) (.cond (.seq (.o 5) (.leaf)) (.leaf)))))) (.o 2))))))) (.seq (.o 3) (.leaf)))
def buddy_Heap_covered.vc (vh : Option Addr) (page : Int) (σ : Hp) (R : Int -> Int -> Bool -> Hp -> Prop) : Prop :=
 NilP vh fun a11 =>
 LdS (a11.add 1) σ fun t13 =>
 LoopK [(.i .i64)] (fun I => I 0 σ) fun J (t15 : Int) v =>
 If (decide (t15 < ((t13.len : Nat) : Int))) (Ix t13.a t13.len t15 1 fun a18 =>
 LdM a18 v fun l =>
 Nn t15 <|
 Nn t15 <| Ar .i64 ((page.fdiv (2 ^ (min t15.toNat IntKind.i64.bits))) * 2 ^ (min t15.toNat IntKind.i64.bits)) fun start =>
 Lk .i64 .b l start v fun t27 =>
 If (t27.getD false) (R t15 start true v)
 (Ar .i64 (t15 + 1) fun t30 =>
 J t30 v))
 (R 0 0 false v)
theorem buddy_Heap_covered.of_vc {vh : Option Addr} {page : Int} {σ : Hp} {R : Int -> Int -> Bool -> Hp -> Prop} (hv : buddy_Heap_covered.vc vh page σ R) : buddy_Heap_covered.call vh page σ R :=
 fnK_sound Tryz.func241 (x := buddy_Heap_covered.hint) (args := [.pointer vh, .int .i64 page]) (rs := [.one (.i .i64), .one (.i .i64), .one .b]) (R := R) (Eq.mpr (by kernel_rfl) hv)
def buddy_Heap_add.hint : Hn := .seq (.block (.loop [(1, .one (.i .i64)), (2, .one (.i .i64))] (.seq (.seq (.reg (.quiet [.op, .op, .op, .op, .op, .op, .op, .op, .op, .grd true 12 [.op, .op, .op, .op, .op, .op, .op, .op, .op, .op, .op, .op]])) (.cond (.leaf) (.leaf))) (.block (.seq (.reg (.tail 11 [.op, .op, .op, .op, .op, .op, .op, .op, .op, .op, .op] [.op])) (.seq (.o 8) (.o 3))))))) (.o 9)
def buddy_Heap_add.vc (vh : Option Addr) (order : Int) (start : Int) (σ : Hp) (R : Hp -> Prop) : Prop :=
 LoopK [(.i .i64), (.i .i64)] (fun I => I order start σ) fun J (order1 : Int) (start1 : Int) v =>
 Ar .i64 (order1 + 1) fun t7 =>
 NilP vh fun a9 =>
 LdS (a9.add 1) v fun t11 =>
 JnB (fun r v1 =>
 If r (NilP vh fun a29 =>
 LdS (a29.add 1) v1 fun t31 =>
 Ix t31.a t31.len order1 1 fun a33 =>
 LdM a33 v1 fun t34 =>
 Nn order1 <| Ar .i64 ((1 : Int) * 2 ^ (min order1.toNat IntKind.i64.bits)) fun t37 =>
 MDel .i64 .b t34 (bits .xor .i64 start1 t37) v1 fun v2 =>
 Ar .i64 (order1 + 1) fun t41 =>
 Nn t41 <|
 Ar .i64 (order1 + 1) fun t44 =>
 Nn t44 <| Ar .i64 ((start1.fdiv (2 ^ (min t41.toNat IntKind.i64.bits))) * 2 ^ (min t44.toNat IntKind.i64.bits)) fun start2 =>
 Ar .i64 (order1 + 1) fun order2 =>
 J order2 start2 v2)
 (NilP vh fun a49 =>
 LdS (a49.add 1) v1 fun t51 =>
 Ix t51.a t51.len order1 1 fun a53 =>
 LdM a53 v1 fun t54 =>
 MSet .i64 .b t54 start1 true v1 fun v3 =>
 R v3)) fun J1 =>
 If (decide (t7 < ((t11.len : Nat) : Int))) (NilP vh fun a16 =>
 LdS (a16.add 1) v fun t18 =>
 Ix t18.a t18.len order1 1 fun a20 =>
 LdM a20 v fun t21 =>
 Nn order1 <| Ar .i64 ((1 : Int) * 2 ^ (min order1.toNat IntKind.i64.bits)) fun t24 =>
 Lk .i64 .b t21 (bits .xor .i64 start1 t24) v fun t26 =>
 J1 (t26.getD false) v)
 (J1 false v)
theorem buddy_Heap_add.of_vc {vh : Option Addr} {order : Int} {start : Int} {σ : Hp} {R : Hp -> Prop} (hv : buddy_Heap_add.vc vh order start σ R) : buddy_Heap_add.call vh order start σ R :=
 fnK_sound Tryz.func265 (x := buddy_Heap_add.hint) (args := [.pointer vh, .int .i64 order, .int .i64 start]) (rs := []) (R := R) (Eq.mpr (by kernel_rfl) hv)
end Go.Proofs
namespace Go.Proofs
open Go.Vc

set_option maxRecDepth 100000
def slices_Clone_api_Class_api_Class.hint : Hn := .seq (.o 1) (.seq (.seq (.o 2) (.cond (.seq (.o 1) (.leaf)) (.leaf))) (.seq (.o 4) (.leaf)))
def slices_Clone_api_Class_api_Class.vc (s : Sl) (σ : Hp) (R : Sl -> Hp -> Prop) : Prop :=
 If s.a.isNone (R ⟨none, 0, 0⟩ σ)
 (Nw (.cells #[] 79 (0, 0)) σ fun n5 v =>
 App ⟨(some n5), 0, 0⟩ 3 24 79 [.int .i64 0, .int .i64 0, .int .i64 0] s v fun t7 v1 =>
 R t7 v1)
theorem slices_Clone_api_Class_api_Class.of_vc {s : Sl} {σ : Hp} {R : Sl -> Hp -> Prop} (hv : slices_Clone_api_Class_api_Class.vc s σ R) : slices_Clone_api_Class_api_Class.call s σ R :=
 fnK_sound Tryz.func60 (x := slices_Clone_api_Class_api_Class.hint) (args := [.slice s.a s.len s.cap]) (rs := [.one .s]) (R := R) (Eq.mpr (by kernel_rfl) hv)
def slices_Clone_int_int.hint : Hn := .seq (.o 1) (.seq (.seq (.o 2) (.cond (.seq (.o 1) (.leaf)) (.leaf))) (.seq (.o 4) (.leaf)))
def slices_Clone_int_int.vc (s : Sl) (σ : Hp) (R : Sl -> Hp -> Prop) : Prop :=
 If s.a.isNone (R ⟨none, 0, 0⟩ σ)
 (Nw (.cells #[] 3 (0, 0)) σ fun n5 v =>
 App ⟨(some n5), 0, 0⟩ 1 8 3 [.int .i64 0] s v fun t7 v1 =>
 R t7 v1)
theorem slices_Clone_int_int.of_vc {s : Sl} {σ : Hp} {R : Sl -> Hp -> Prop} (hv : slices_Clone_int_int.vc s σ R) : slices_Clone_int_int.call s σ R :=
 fnK_sound Tryz.func65 (x := slices_Clone_int_int.hint) (args := [.slice s.a s.len s.cap]) (rs := [.one .s]) (R := R) (Eq.mpr (by kernel_rfl) hv)
def slices_IndexFunc_api_Class_api_Class.hint : Hn := .seq (.o 1) (.seq (.seq (.o 3) (.block (.loop [(8, .one (.i .i64))] (.seq (.o 1) (.seq (.cond (.leaf) (.leaf)) (.seq (.block (.seq (.o 2) (.seq (.o 6) (.cond (.seq (.o 2) (.leaf)) (.leaf))))) (.o 2))))))) (.seq (.o 1) (.leaf)))
def slices_IndexFunc_api_Class_api_Class.vc (s : Sl) (f : Fv) (σ : Hp) (R : Int -> Hp -> Prop) : Prop :=
 LoopK [(.i .i64)] (fun I => I 0 σ) fun J (t8 : Int) v =>
 If (decide (t8 < ((s.len : Nat) : Int))) (Ix s.a s.len t8 3 fun a14 =>
 LdI .i64 (a14.add 0) v fun t15 =>
 LdI .i64 (a14.add 1) v fun t151 =>
 LdI .i64 (a14.add 2) v fun t152 =>
 CallF Tryz.prog f [.agg #[.int .i64 t15, .int .i64 t151, .int .i64 t152]] [.one .b] v fun t16 v1 =>
 If t16 (R t8 v1)
 (Ar .i64 (t8 + 1) fun t18 =>
 J t18 v1))
 (R (-1) v)
theorem slices_IndexFunc_api_Class_api_Class.of_vc {s : Sl} {f : Fv} {σ : Hp} {R : Int -> Hp -> Prop} (hv : slices_IndexFunc_api_Class_api_Class.vc s f σ R) : slices_IndexFunc_api_Class_api_Class.call s f σ R :=
 fnK_sound Tryz.func70 (x := slices_IndexFunc_api_Class_api_Class.hint) (args := [.slice s.a s.len s.cap, .func (.func f.f) f.first f.captured]) (rs := [.one (.i .i64)]) (R := R) (Eq.mpr (by kernel_rfl) hv)
def slices_Clone_api_Batch_api_Batch.hint : Hn := .seq (.o 1) (.seq (.seq (.o 2) (.cond (.seq (.o 1) (.leaf)) (.leaf))) (.seq (.o 4) (.leaf)))
def slices_Clone_api_Batch_api_Batch.vc (s : Sl) (σ : Hp) (R : Sl -> Hp -> Prop) : Prop :=
 If s.a.isNone (R ⟨none, 0, 0⟩ σ)
 (Nw (.cells #[] 119 (0, 0)) σ fun n5 v =>
 App ⟨(some n5), 0, 0⟩ 2 32 119 [.int .i64 0, .slice none 0 0] s v fun t7 v1 =>
 R t7 v1)
theorem slices_Clone_api_Batch_api_Batch.of_vc {s : Sl} {σ : Hp} {R : Sl -> Hp -> Prop} (hv : slices_Clone_api_Batch_api_Batch.vc s σ R) : slices_Clone_api_Batch_api_Batch.call s σ R :=
 fnK_sound Tryz.func124 (x := slices_Clone_api_Batch_api_Batch.hint) (args := [.slice s.a s.len s.cap]) (rs := [.one .s]) (R := R) (Eq.mpr (by kernel_rfl) hv)
def slices_Contains_space_page_space_page.hint : Hn := .seq (.o 2) (.seq (.o 5) (.leaf))
def slices_Contains_space_page_space_page.vc (s : Sl) (v : Bool) (v1 : Bool) (σ : Hp) (R : Bool -> Hp -> Prop) : Prop :=
 Nw (.cells #[.bool v, .bool v1] 245 (0, 0)) σ fun n3 v2 =>
 LdB (n3.add 0) v2 fun t6 =>
 LdB (n3.add 1) v2 fun t61 =>
 slices_Index_space_page_space_page.call s t6 t61 v2 fun t7 v3 =>
 R (decide (t7 ≥ 0)) v3
theorem slices_Contains_space_page_space_page.of_vc {s : Sl} {v : Bool} {v1 : Bool} {σ : Hp} {R : Bool -> Hp -> Prop} (hv : slices_Contains_space_page_space_page.vc s v v1 σ R) : slices_Contains_space_page_space_page.call s v v1 σ R :=
 fnK_sound Tryz.func152 (x := slices_Contains_space_page_space_page.hint) (args := [.slice s.a s.len s.cap, .agg #[.bool v, .bool v1]]) (rs := [.one .b]) (R := R) (Eq.mpr (by kernel_rfl) hv)
def slices_IndexFunc_arena_Arena_arena_Arena.hint : Hn := .seq (.o 1) (.seq (.seq (.o 3) (.block (.loop [(8, .one (.i .i64))] (.seq (.o 1) (.seq (.cond (.leaf) (.leaf)) (.seq (.block (.seq (.o 2) (.seq (.o 6) (.cond (.seq (.o 2) (.leaf)) (.leaf))))) (.o 2))))))) (.seq (.o 1) (.leaf)))
def slices_IndexFunc_arena_Arena_arena_Arena.vc (s : Sl) (f : Fv) (σ : Hp) (R : Int -> Hp -> Prop) : Prop :=
 LoopK [(.i .i64)] (fun I => I 0 σ) fun J (t8 : Int) v =>
 If (decide (t8 < ((s.len : Nat) : Int))) (Ix s.a s.len t8 1 fun a14 =>
 LdP a14 v fun t15 =>
 CallF Tryz.prog f [.pointer t15] [.one .b] v fun t16 v1 =>
 If t16 (R t8 v1)
 (Ar .i64 (t8 + 1) fun t18 =>
 J t18 v1))
 (R (-1) v)
theorem slices_IndexFunc_arena_Arena_arena_Arena.of_vc {s : Sl} {f : Fv} {σ : Hp} {R : Int -> Hp -> Prop} (hv : slices_IndexFunc_arena_Arena_arena_Arena.vc s f σ R) : slices_IndexFunc_arena_Arena_arena_Arena.call s f σ R :=
 fnK_sound Tryz.func153 (x := slices_IndexFunc_arena_Arena_arena_Arena.hint) (args := [.slice s.a s.len s.cap, .func (.func f.f) f.first f.captured]) (rs := [.one (.i .i64)]) (R := R) (Eq.mpr (by kernel_rfl) hv)
def slices_Reverse_int_int.hint : Hn := .seq (.o 5) (.block (.loop [(2, .one (.i .i64)), (3, .one (.i .i64))] (.seq (.seq (.o 3) (.cond (.leaf) (.leaf))) (.seq (.block (.reg (.held true [13, 15] (.take 0 (.take 1 (.take 2 (.take 3 (.take 4 (.take 5 (.take 6 (.take 7 (.take 8 (.take 9 (.take 10 (.take 11 (.take 12 (.all [(13, .take 14 (.all [(15, .done)]))]))))))))))))))))) (.o 6)))))
def slices_Reverse_int_int.vc (s : Sl) (σ : Hp) (R : Hp -> Prop) : Prop :=
 Ar .i64 (((s.len : Nat) : Int) - 1) fun j =>
 LoopK [(.i .i64), (.i .i64)] (fun I => I 0 j σ) fun J (i : Int) (j1 : Int) v =>
 If (decide (i < j1)) (Held v fun S =>
 Ix s.a s.len j1 1 fun a20 =>
 LdH S (.i .i64) a20 fun (t21 : Int) =>
 Ix s.a s.len i 1 fun a24 =>
 LdH S (.i .i64) a24 fun (t25 : Int) =>
 Ix s.a s.len i 1 fun a26 =>
 St1 a26 (.int .i64 t21) v fun v1 =>
 Ix s.a s.len j1 1 fun a27 =>
 St1 a27 (.int .i64 t25) v1 fun v2 =>
 Ar .i64 (i + 1) fun i1 =>
 Ar .i64 (j1 - 1) fun j2 =>
 J i1 j2 v2)
 (R v)
theorem slices_Reverse_int_int.of_vc {s : Sl} {σ : Hp} {R : Hp -> Prop} (hv : slices_Reverse_int_int.vc s σ R) : slices_Reverse_int_int.call s σ R :=
 fnK_sound Tryz.func168 (x := slices_Reverse_int_int.hint) (args := [.slice s.a s.len s.cap]) (rs := []) (R := R) (Eq.mpr (by kernel_rfl) hv)
def slices_DeleteFunc_central_entry_central_entry.hint : Hn := .seq (.o 1) (.seq (.o 4) (.seq (.seq (.o 2) (.cond (.seq (.o 2) (.leaf)) (.leaf))) (.seq (.seq (.o 3) (.block (.loop [(5, .one (.i .i64)), (6, .one (.i .i64))] (.seq (.seq (.o 4) (.cond (.leaf) (.leaf))) (.seq (.block (.seq (.o 6) (.seq (.o 4) (.cond (.seq (.o 5) (.o 3)) (.leaf))))) (.o 3)))))) (.seq (.o 4) (.seq (.o 4) (.leaf))))))
def slices_DeleteFunc_central_entry_central_entry.vc (s : Sl) (del : Fv) (σ : Hp) (R : Sl -> Hp -> Prop) : Prop :=
 slices_IndexFunc_central_entry_central_entry.call s del σ fun i v =>
 If (i == (-1)) (R s v)
 (Ar .i64 (i + 1) fun j =>
 LoopK [(.i .i64), (.i .i64)] (fun I => I i j v) fun J (i1 : Int) (j1 : Int) v1 =>
 If (decide (j1 < ((s.len : Nat) : Int))) (Ix s.a s.len j1 3 fun a24 =>
 LdI .i64 (a24.add 0) v1 fun t25 =>
 LdI .i64 (a24.add 1) v1 fun t251 =>
 LdP (a24.add 2) v1 fun t252 =>
 Nw (.cells #[.int .i64 0, .int .i64 0, .pointer none] 239 (0, 0)) v1 fun n7 v2 =>
 St1 (n7.add 0) (.int .i64 t25) v2 fun v3 =>
 St1 (n7.add 1) (.int .i64 t251) v3 fun v4 =>
 St1 (n7.add 2) (.pointer t252) v4 fun v5 =>
 LdI .i64 (n7.add 0) v5 fun t27 =>
 LdI .i64 (n7.add 1) v5 fun t271 =>
 LdP (n7.add 2) v5 fun t272 =>
 CallF Tryz.prog del [.agg #[.int .i64 t27, .int .i64 t271, .pointer t272]] [.one .b] v5 fun t28 v6 =>
 If (!t28) (LdI .i64 (n7.add 0) v6 fun t32 =>
 LdI .i64 (n7.add 1) v6 fun t321 =>
 LdP (n7.add 2) v6 fun t322 =>
 Ix s.a s.len i1 3 fun a33 =>
 St1 (a33.add 0) (.int .i64 t32) v6 fun v7 =>
 St1 (a33.add 1) (.int .i64 t321) v7 fun v8 =>
 St1 (a33.add 2) (.pointer t322) v8 fun v9 =>
 Ar .i64 (i1 + 1) fun i2 =>
 Ar .i64 (j1 + 1) fun j2 =>
 J i2 j2 v9)
 (Ar .i64 (j1 + 1) fun j3 =>
 J i1 j3 v6))
 (SlcL s 3 i1 (s.len : Nat) (s.cap : Nat) fun t38 =>
 Clr t38 [.int .i64 0, .int .i64 0, .pointer none] v1 fun v10 =>
 SlcL s 3 0 i1 (s.cap : Nat) fun t41 =>
 R t41 v10))
theorem slices_DeleteFunc_central_entry_central_entry.of_vc {s : Sl} {del : Fv} {σ : Hp} {R : Sl -> Hp -> Prop} (hv : slices_DeleteFunc_central_entry_central_entry.vc s del σ R) : slices_DeleteFunc_central_entry_central_entry.call s del σ R :=
 fnK_sound Tryz.func179 (x := slices_DeleteFunc_central_entry_central_entry.hint) (args := [.slice s.a s.len s.cap, .func (.func del.f) del.first del.captured]) (rs := [.one .s]) (R := R) (Eq.mpr (by kernel_rfl) hv)
def slices_Index_space_page_space_page.hint : Hn := .seq (.o 2) (.seq (.seq (.o 3) (.block (.loop [(8, .one (.i .i64))] (.seq (.o 1) (.seq (.cond (.leaf) (.leaf)) (.seq (.block (.seq (.o 2) (.seq (.oq 6) (.cond (.seq (.o 2) (.leaf)) (.leaf))))) (.o 2))))))) (.seq (.o 1) (.leaf)))
def slices_Index_space_page_space_page.vc (s : Sl) (v : Bool) (v1 : Bool) (σ : Hp) (R : Int -> Hp -> Prop) : Prop :=
 Nw (.cells #[.bool v, .bool v1] 245 (0, 0)) σ fun n3 v2 =>
 LoopK [(.i .i64)] (fun I => I 0 v2) fun J (t8 : Int) v3 =>
 If (decide (t8 < ((s.len : Nat) : Int))) (LdB (n3.add 0) v3 fun t11 =>
 LdB (n3.add 1) v3 fun t111 =>
 Ix s.a s.len t8 2 fun a14 =>
 LdB (a14.add 0) v3 fun t15 =>
 LdB (a14.add 1) v3 fun t151 =>
 If ((t11 == t15) && ((t111 == t151) && true)) (R t8 v3)
 (Ar .i64 (t8 + 1) fun t18 =>
 J t18 v3))
 (R (-1) v3)
theorem slices_Index_space_page_space_page.of_vc {s : Sl} {v : Bool} {v1 : Bool} {σ : Hp} {R : Int -> Hp -> Prop} (hv : slices_Index_space_page_space_page.vc s v v1 σ R) : slices_Index_space_page_space_page.call s v v1 σ R :=
 fnK_sound Tryz.func213 (x := slices_Index_space_page_space_page.hint) (args := [.slice s.a s.len s.cap, .agg #[.bool v, .bool v1]]) (rs := [.one (.i .i64)]) (R := R) (Eq.mpr (by kernel_rfl) hv)
def slices_BinarySearchFunc_central_entry_central_entry_int.hint : Hn := .seq (.o 2) (.seq (.o 3) (.seq (.o 3) (.seq (.block (.loop [(9, .one (.i .i64)), (10, .one (.i .i64))] (.seq (.seq (.o 3) (.cond (.leaf) (.leaf))) (.block (.seq (.o 7) (.seq (.o 8) (.cond (.o 3) (.o 2)))))))) (.seq (.reg (.seq [.op, .op, .op, .op, .op, .grd true 8 [.op, .op, .op, .op, .op, .op, .op, .op], .op, .op])) (.leaf)))))
def slices_BinarySearchFunc_central_entry_central_entry_int.vc (vx : Sl) (target : Int) (cmp : Fv) (σ : Hp) (R : Int -> Bool -> Hp -> Prop) : Prop :=
 LoopK [(.i .i64), (.i .i64)] (fun I => I 0 ((vx.len : Nat) : Int) σ) fun J (i : Int) (j : Int) v =>
 If (decide (i < j)) (Ar .i64 (i + j) fun t20 =>
 Ar .u64 t20 fun t21 =>
 Nn (1 : Int) <|
 Ar .i64 (t21.fdiv (2 ^ (min (1 : Int).toNat IntKind.u64.bits))) fun vh =>
 Ix vx.a vx.len vh 3 fun a27 =>
 LdI .i64 (a27.add 0) v fun t28 =>
 LdI .i64 (a27.add 1) v fun t281 =>
 LdP (a27.add 2) v fun t282 =>
 CallF Tryz.prog cmp [.agg #[.int .i64 t28, .int .i64 t281, .pointer t282], .int .i64 target] [.one (.i .i64)] v fun t30 v1 =>
 If (decide (t30 < 0)) (Ar .i64 (vh + 1) fun i1 =>
 J i1 j v1)
 (J i vh v1))
 (JnB (fun r v2 =>
 R i r v2) fun J1 =>
 If (decide (i < ((vx.len : Nat) : Int))) (Ix vx.a vx.len i 3 fun a43 =>
 LdI .i64 (a43.add 0) v fun t44 =>
 LdI .i64 (a43.add 1) v fun t441 =>
 LdP (a43.add 2) v fun t442 =>
 CallF Tryz.prog cmp [.agg #[.int .i64 t44, .int .i64 t441, .pointer t442], .int .i64 target] [.one (.i .i64)] v fun t46 v3 =>
 J1 (t46 == 0) v3)
 (J1 false v))
theorem slices_BinarySearchFunc_central_entry_central_entry_int.of_vc {vx : Sl} {target : Int} {cmp : Fv} {σ : Hp} {R : Int -> Bool -> Hp -> Prop} (hv : slices_BinarySearchFunc_central_entry_central_entry_int.vc vx target cmp σ R) : slices_BinarySearchFunc_central_entry_central_entry_int.call vx target cmp σ R :=
 fnK_sound Tryz.func225 (x := slices_BinarySearchFunc_central_entry_central_entry_int.hint) (args := [.slice vx.a vx.len vx.cap, .int .i64 target, .func (.func cmp.f) cmp.first cmp.captured]) (rs := [.one (.i .i64), .one .b]) (R := R) (Eq.mpr (by kernel_rfl) hv)
def slices_Insert_central_entry_central_entry.hint : Hn := .seq (.o 1) (.seq (.o 3) (.seq (.o 3) (.seq (.seq (.o 2) (.cond (.seq (.o 2) (.leaf)) (.leaf))) (.seq (.o 3) (.seq (.seq (.o 3) (.cond (.seq (.o 4) (.leaf)) (.leaf))) (.seq (.seq (.o 6) (.cond (.seq (.o 10) (.seq (.o 5) (.seq (.reg (.tail 8 [.op, .op, .op, .op, .op, .op, .op, .op] [.op])) (.seq (.o 2) (.leaf))))) (.leaf))) (.seq (.o 6) (.seq (.seq (.o 8) (.cond (.seq (.reg (.tail 8 [.op, .op, .op, .op, .op, .op, .op, .op] [.op])) (.seq (.o 5) (.seq (.o 2) (.leaf)))) (.leaf))) (.seq (.o 5) (.seq (.o 5) (.seq (.o 2) (.leaf))))))))))))
def slices_Insert_central_entry_central_entry.vc (s : Sl) (i : Int) (v : Sl) (σ : Hp) (R : Sl -> Hp -> Prop) : Prop :=
 SlcL s 3 i (s.len : Nat) (s.cap : Nat) fun t12 =>
 If (((v.len : Nat) : Int) == 0) (R s σ)
 (If (i == ((s.len : Nat) : Int)) (App s 3 24 239 [.int .i64 0, .int .i64 0, .pointer none] v σ fun t25 v1 =>
 R t25 v1)
 (Ar .i64 (((s.len : Nat) : Int) + ((v.len : Nat) : Int)) fun t28 =>
 If (decide (t28 > ((s.cap : Nat) : Int))) (SlcL s 3 0 i (s.cap : Nat) fun t34 =>
 Ar .i64 (((s.len : Nat) : Int) + ((v.len : Nat) : Int)) fun t37 =>
 Ar .i64 (t37 - i) fun t39 =>
 AppZ t34 3 24 239 [.int .i64 0, .int .i64 0, .pointer none] t39 σ fun s2 v2 =>
 SlcL s2 3 i (s2.len : Nat) (s2.cap : Nat) fun t43 =>
 Cpy t43 3 v v2 fun t45 v3 =>
 Ar .i64 (i + ((v.len : Nat) : Int)) fun t49 =>
 SlcL s2 3 t49 (s2.len : Nat) (s2.cap : Nat) fun t50 =>
 SlcL s 3 i (s.len : Nat) (s.cap : Nat) fun t53 =>
 Cpy t50 3 t53 v3 fun t54 v4 =>
 R s2 v4)
 (Ar .i64 (((s.len : Nat) : Int) + ((v.len : Nat) : Int)) fun t59 =>
 SlcL s 3 0 t59 (s.cap : Nat) fun s1 =>
 Ar .i64 (i + ((v.len : Nat) : Int)) fun t65 =>
 SlcL s1 3 t65 (s1.len : Nat) (s1.cap : Nat) fun t66 =>
 ExtB Tryz.prog 261 [.slice v.a v.len v.cap, .slice t66.a t66.len t66.cap] σ fun t67 v5 =>
 If (!t67) (Ar .i64 (i + ((v.len : Nat) : Int)) fun t72 =>
 SlcL s1 3 t72 (s1.len : Nat) (s1.cap : Nat) fun t73 =>
 SlcL s1 3 i (s1.len : Nat) (s1.cap : Nat) fun t76 =>
 Cpy t73 3 t76 v5 fun t77 v6 =>
 SlcL s1 3 i (s1.len : Nat) (s1.cap : Nat) fun t80 =>
 Cpy t80 3 v v6 fun t82 v7 =>
 R s1 v7)
 (SlcL s1 3 ((s.len : Nat) : Int) (s1.len : Nat) (s1.cap : Nat) fun t86 =>
 Cpy t86 3 v v5 fun t88 v8 =>
 SlcL s1 3 i (s1.len : Nat) (s1.cap : Nat) fun t91 =>
 slices_rotateRight_central_entry.call t91 ((v.len : Nat) : Int) v8 fun v9 =>
 R s1 v9))))
theorem slices_Insert_central_entry_central_entry.of_vc {s : Sl} {i : Int} {v : Sl} {σ : Hp} {R : Sl -> Hp -> Prop} (hv : slices_Insert_central_entry_central_entry.vc s i v σ R) : slices_Insert_central_entry_central_entry.call s i v σ R :=
 fnK_sound Tryz.func227 (x := slices_Insert_central_entry_central_entry.hint) (args := [.slice s.a s.len s.cap, .int .i64 i, .slice v.a v.len v.cap]) (rs := [.one .s]) (R := R) (Eq.mpr (by kernel_rfl) hv)
def slices_Clip_int_int.hint : Hn := .seq (.o 1) (.seq (.o 7) (.leaf))
def slices_Clip_int_int.vc (s : Sl) (σ : Hp) (R : Sl -> Hp -> Prop) : Prop :=
 SlcL s 1 0 ((s.len : Nat) : Int) ((s.len : Nat) : Int) fun t8 =>
 R t8 σ
theorem slices_Clip_int_int.of_vc {s : Sl} {σ : Hp} {R : Sl -> Hp -> Prop} (hv : slices_Clip_int_int.vc s σ R) : slices_Clip_int_int.call s σ R :=
 fnK_sound Tryz.func228 (x := slices_Clip_int_int.hint) (args := [.slice s.a s.len s.cap]) (rs := [.one .s]) (R := R) (Eq.mpr (by kernel_rfl) hv)
def slices_IndexFunc_central_entry_central_entry.hint : Hn := .seq (.o 1) (.seq (.seq (.o 3) (.block (.loop [(8, .one (.i .i64))] (.seq (.o 1) (.seq (.cond (.leaf) (.leaf)) (.seq (.block (.seq (.o 2) (.seq (.o 6) (.cond (.seq (.o 2) (.leaf)) (.leaf))))) (.o 2))))))) (.seq (.o 1) (.leaf)))
def slices_IndexFunc_central_entry_central_entry.vc (s : Sl) (f : Fv) (σ : Hp) (R : Int -> Hp -> Prop) : Prop :=
 LoopK [(.i .i64)] (fun I => I 0 σ) fun J (t8 : Int) v =>
 If (decide (t8 < ((s.len : Nat) : Int))) (Ix s.a s.len t8 3 fun a14 =>
 LdI .i64 (a14.add 0) v fun t15 =>
 LdI .i64 (a14.add 1) v fun t151 =>
 LdP (a14.add 2) v fun t152 =>
 CallF Tryz.prog f [.agg #[.int .i64 t15, .int .i64 t151, .pointer t152]] [.one .b] v fun t16 v1 =>
 If t16 (R t8 v1)
 (Ar .i64 (t8 + 1) fun t18 =>
 J t18 v1))
 (R (-1) v)
theorem slices_IndexFunc_central_entry_central_entry.of_vc {s : Sl} {f : Fv} {σ : Hp} {R : Int -> Hp -> Prop} (hv : slices_IndexFunc_central_entry_central_entry.vc s f σ R) : slices_IndexFunc_central_entry_central_entry.call s f σ R :=
 fnK_sound Tryz.func234 (x := slices_IndexFunc_central_entry_central_entry.hint) (args := [.slice s.a s.len s.cap, .func (.func f.f) f.first f.captured]) (rs := [.one (.i .i64)]) (R := R) (Eq.mpr (by kernel_rfl) hv)
def slices_ContainsFunc_int_int.hint : Hn := .seq (.o 1) (.seq (.o 5) (.leaf))
def slices_ContainsFunc_int_int.vc (s : Sl) (f : Fv) (σ : Hp) (R : Bool -> Hp -> Prop) : Prop :=
 slices_IndexFunc_int_int.call s f σ fun t7 v =>
 R (decide (t7 ≥ 0)) v
theorem slices_ContainsFunc_int_int.of_vc {s : Sl} {f : Fv} {σ : Hp} {R : Bool -> Hp -> Prop} (hv : slices_ContainsFunc_int_int.vc s f σ R) : slices_ContainsFunc_int_int.call s f σ R :=
 fnK_sound Tryz.func236 (x := slices_ContainsFunc_int_int.hint) (args := [.slice s.a s.len s.cap, .func (.func f.f) f.first f.captured]) (rs := [.one .b]) (R := R) (Eq.mpr (by kernel_rfl) hv)
def slices_Contains_int_int.hint : Hn := .seq (.o 1) (.seq (.o 5) (.leaf))
def slices_Contains_int_int.vc (s : Sl) (v : Int) (σ : Hp) (R : Bool -> Hp -> Prop) : Prop :=
 slices_Index_int_int.call s v σ fun t7 v1 =>
 R (decide (t7 ≥ 0)) v1
theorem slices_Contains_int_int.of_vc {s : Sl} {v : Int} {σ : Hp} {R : Bool -> Hp -> Prop} (hv : slices_Contains_int_int.vc s v σ R) : slices_Contains_int_int.call s v σ R :=
 fnK_sound Tryz.func238 (x := slices_Contains_int_int.hint) (args := [.slice s.a s.len s.cap, .int .i64 v]) (rs := [.one .b]) (R := R) (Eq.mpr (by kernel_rfl) hv)
def slices_Min_int_int.hint : Hn := .seq (.o 1) (.sjn [] (.seq (.o 3) (.cond (.o 2) (.leaf))) (.seq (.o 4) (.seq (.seq (.o 1) (.block (.loop [(3, .one (.i .i64)), (4, .one (.i .i64))] (.seq (.seq (.o 4) (.cond (.leaf) (.leaf))) (.seq (.block (.o 7)) (.o 3)))))) (.seq (.o 2) (.leaf)))))
def slices_Min_int_int.vc (vx : Sl) (σ : Hp) (R : Int -> Hp -> Prop) : Prop :=
 Jn [] (fun v =>
 Ix vx.a vx.len 0 1 fun a10 =>
 LdI .i64 a10 v fun m =>
 LoopK [(.i .i64), (.i .i64)] (fun I => I m 1 v) fun J1 (m1 : Int) (i : Int) v1 =>
 If (decide (i < ((vx.len : Nat) : Int))) (Ix vx.a vx.len i 1 fun a21 =>
 LdI .i64 a21 v1 fun t22 =>
 Ar .i64 (i + 1) fun i1 =>
 J1 (if t22 < m1 then t22 else m1) i1 v1)
 (R m1 v1)) fun J =>
 If (decide (((vx.len : Nat) : Int) < 1)) (False)
 (J σ)
theorem slices_Min_int_int.of_vc {vx : Sl} {σ : Hp} {R : Int -> Hp -> Prop} (hv : slices_Min_int_int.vc vx σ R) : slices_Min_int_int.call vx σ R :=
 fnK_sound Tryz.func257 (x := slices_Min_int_int.hint) (args := [.slice vx.a vx.len vx.cap]) (rs := [.one (.i .i64)]) (R := R) (Eq.mpr (by kernel_rfl) hv)
def slices_IndexFunc_int_int.hint : Hn := .seq (.o 1) (.seq (.seq (.o 3) (.block (.loop [(8, .one (.i .i64))] (.seq (.o 1) (.seq (.cond (.leaf) (.leaf)) (.seq (.block (.seq (.o 2) (.seq (.o 6) (.cond (.seq (.o 2) (.leaf)) (.leaf))))) (.o 2))))))) (.seq (.o 1) (.leaf)))
def slices_IndexFunc_int_int.vc (s : Sl) (f : Fv) (σ : Hp) (R : Int -> Hp -> Prop) : Prop :=
 LoopK [(.i .i64)] (fun I => I 0 σ) fun J (t8 : Int) v =>
 If (decide (t8 < ((s.len : Nat) : Int))) (Ix s.a s.len t8 1 fun a14 =>
 LdI .i64 a14 v fun t15 =>
 CallF Tryz.prog f [.int .i64 t15] [.one .b] v fun t16 v1 =>
 If t16 (R t8 v1)
 (Ar .i64 (t8 + 1) fun t18 =>
 J t18 v1))
 (R (-1) v)
theorem slices_IndexFunc_int_int.of_vc {s : Sl} {f : Fv} {σ : Hp} {R : Int -> Hp -> Prop} (hv : slices_IndexFunc_int_int.vc s f σ R) : slices_IndexFunc_int_int.call s f σ R :=
 fnK_sound Tryz.func274 (x := slices_IndexFunc_int_int.hint) (args := [.slice s.a s.len s.cap, .func (.func f.f) f.first f.captured]) (rs := [.one (.i .i64)]) (R := R) (Eq.mpr (by kernel_rfl) hv)
def slices_Index_int_int.hint : Hn := .seq (.o 1) (.seq (.seq (.o 3) (.block (.loop [(8, .one (.i .i64))] (.seq (.o 1) (.seq (.cond (.leaf) (.leaf)) (.seq (.block (.seq (.o 2) (.seq (.o 6) (.cond (.seq (.o 2) (.leaf)) (.leaf))))) (.o 2))))))) (.seq (.o 1) (.leaf)))
def slices_Index_int_int.vc (s : Sl) (v : Int) (σ : Hp) (R : Int -> Hp -> Prop) : Prop :=
 LoopK [(.i .i64)] (fun I => I 0 σ) fun J (t8 : Int) v1 =>
 If (decide (t8 < ((s.len : Nat) : Int))) (Ix s.a s.len t8 1 fun a14 =>
 LdI .i64 a14 v1 fun t15 =>
 If (v == t15) (R t8 v1)
 (Ar .i64 (t8 + 1) fun t18 =>
 J t18 v1))
 (R (-1) v1)
theorem slices_Index_int_int.of_vc {s : Sl} {v : Int} {σ : Hp} {R : Int -> Hp -> Prop} (hv : slices_Index_int_int.vc s v σ R) : slices_Index_int_int.call s v σ R :=
 fnK_sound Tryz.func275 (x := slices_Index_int_int.hint) (args := [.slice s.a s.len s.cap, .int .i64 v]) (rs := [.one (.i .i64)]) (R := R) (Eq.mpr (by kernel_rfl) hv)
def slices_ContainsFunc_space_page_space_page.hint : Hn := .seq (.o 1) (.seq (.o 5) (.leaf))
def slices_ContainsFunc_space_page_space_page.vc (s : Sl) (f : Fv) (σ : Hp) (R : Bool -> Hp -> Prop) : Prop :=
 slices_IndexFunc_space_page_space_page.call s f σ fun t7 v =>
 R (decide (t7 ≥ 0)) v
theorem slices_ContainsFunc_space_page_space_page.of_vc {s : Sl} {f : Fv} {σ : Hp} {R : Bool -> Hp -> Prop} (hv : slices_ContainsFunc_space_page_space_page.vc s f σ R) : slices_ContainsFunc_space_page_space_page.call s f σ R :=
 fnK_sound Tryz.func280 (x := slices_ContainsFunc_space_page_space_page.hint) (args := [.slice s.a s.len s.cap, .func (.func f.f) f.first f.captured]) (rs := [.one .b]) (R := R) (Eq.mpr (by kernel_rfl) hv)
def slices_IndexFunc_space_page_space_page.hint : Hn := .seq (.o 1) (.seq (.seq (.o 3) (.block (.loop [(8, .one (.i .i64))] (.seq (.o 1) (.seq (.cond (.leaf) (.leaf)) (.seq (.block (.seq (.o 2) (.seq (.o 6) (.cond (.seq (.o 2) (.leaf)) (.leaf))))) (.o 2))))))) (.seq (.o 1) (.leaf)))
def slices_IndexFunc_space_page_space_page.vc (s : Sl) (f : Fv) (σ : Hp) (R : Int -> Hp -> Prop) : Prop :=
 LoopK [(.i .i64)] (fun I => I 0 σ) fun J (t8 : Int) v =>
 If (decide (t8 < ((s.len : Nat) : Int))) (Ix s.a s.len t8 2 fun a14 =>
 LdB (a14.add 0) v fun t15 =>
 LdB (a14.add 1) v fun t151 =>
 CallF Tryz.prog f [.agg #[.bool t15, .bool t151]] [.one .b] v fun t16 v1 =>
 If t16 (R t8 v1)
 (Ar .i64 (t8 + 1) fun t18 =>
 J t18 v1))
 (R (-1) v)
theorem slices_IndexFunc_space_page_space_page.of_vc {s : Sl} {f : Fv} {σ : Hp} {R : Int -> Hp -> Prop} (hv : slices_IndexFunc_space_page_space_page.vc s f σ R) : slices_IndexFunc_space_page_space_page.call s f σ R :=
 fnK_sound Tryz.func294 (x := slices_IndexFunc_space_page_space_page.hint) (args := [.slice s.a s.len s.cap, .func (.func f.f) f.first f.captured]) (rs := [.one (.i .i64)]) (R := R) (Eq.mpr (by kernel_rfl) hv)
end Go.Proofs
namespace Go.Bu
open Go Go.Vc Go.Proofs


variable {σ : Hp} {p n sb : Nat} {S : Nat -> Bool} {ms : List Nat}
theorem shl1 {k : Nat} {K : Int -> Prop} (hk : k <= 62) (hK : K ((2 ^ k : Nat) : Int)) : Nn (k : Int) (Ar .i64 (1 * 2 ^ (min (k : Int).toNat IntKind.i64.bits)) K) := by
 refine nn (by omega) ?_
 rw [min_bits hk]
 exact arN (by simp) (pow_small hk) hK
theorem shrl {x k j : Nat} {K : Int -> Prop} (hj : j = k) (hk : k <= 62) (hx : x <= 4611686018427387904) (hK : K ((x / 2 ^ k * 2 ^ k : Nat) : Int)) :
 Ar .i64 (((x : Int).fdiv (2 ^ (min (k : Int).toNat IntKind.i64.bits))) * 2 ^ (min (j : Int).toNat IntKind.i64.bits)) K := by
 subst hj
 rw [min_bits hk, fdiv_nat]
 refine arN (by simp) ?_ hK
 exact Nat.le_trans (Nat.div_mul_le_self _ _) hx
theorem BH.rN (h : BH σ p n S sb ms) {K : Int -> Prop} (hK : K (n : Int)) : LdI .i64 (Addr.add ⟨p, 0, none⟩ 0) σ K := ldI0 h.ldN hK
theorem BH.rB (h : BH σ p n S sb ms) {K : Sl -> Prop} (hK : ∀ cap, K ⟨some ⟨sb, 0, none⟩, ms.length, cap⟩) : LdS (Addr.add ⟨p, 0, none⟩ 1) σ K := by
 obtain ⟨cap, hc⟩ := h.ldB
 rw [add_lit]; exact ldS hc (hK cap)
theorem BH.rM (h : BH σ p n S sb ms) {k m : Nat} (hm : ms[k]? = some m) {K : Option Nat -> Prop} (hK : K (some m)) : Ix (some ⟨sb, 0, none⟩) ms.length (k : Int) 1 fun a => LdM a σ K := by
 refine ix (by omega) (by have := (List.getElem?_eq_some_iff.1 hm).1; omega) ?_
 rw [add_lit]
 refine ldM ?_ hK
 have := h.ldR hm
 simpa using this
theorem made_ok (h : BH σ p n S sb ms) {R : Bool -> Hp -> Prop} (hR : R true σ) : buddy_Heap_made.call (some ⟨p, 0, none⟩) σ R := by
 refine buddy_Heap_made.of_vc ?_
 unfold buddy_Heap_made.vc
 refine JnB.intro (ifT rfl (nilP (h.rN ?_)))
 have := h.n1
 rw [decide_eq_true (by omega)]
 exact hR
def runOk (n : Nat) (start pages : Int) : Bool := decide (0 <= start) && (decide (1 <= pages) && decide (pages <= n - start))
theorem check_ok (h : BH σ p n S sb ms) (start pages : Int) {R : Int -> Hp -> Prop} (h0 : runOk n start pages = true -> R 0 σ) (h1 : runOk n start pages = false -> R 1 σ) : buddy_Heap_check.call (some ⟨p, 0, none⟩) start pages σ R := by
 refine buddy_Heap_check.of_vc ?_
 unfold buddy_Heap_check.vc
 have bad : ¬ (0 <= start /\ 1 <= pages /\ pages <= n - start) -> R 1 σ := fun hn => h1 (by simp only [runOk, ← Bool.decide_and]; exact decide_eq_false hn)
 have n1 := h.n1
 have n2 := h.n2
 refine made_ok h (ifF rfl (JnB.intro ?_))
 refine ifD (fun h1 => JnB.intro (ifT rfl (JnB.intro (ifT rfl (ifT rfl (bad (by omega))))))) fun h1 => ?_
 refine JnB.intro (ifD (fun h2 => JnB.intro (ifT rfl (ifT rfl (bad (by omega))))) fun h2 => ?_)
 refine nilP (h.rN ?_)
 refine JnB.intro (ifD (fun h3 => ifT rfl (bad (by omega))) fun h3 => ?_)
 refine nilP (h.rN (ar (by omega) (by omega) ?_))
 refine ifD (fun h4 => bad (by omega)) fun h4 => h0 ?_
 simp only [runOk, Bool.and_eq_true, decide_eq_true_eq]
 omega
theorem covered_ok (h : BH σ p n S sb ms) (x : Nat) (hx : x <= 4611686018427387904) {R : Int -> Int -> Bool -> Hp -> Prop}
 (h1 : ∀ k q, can S k q = true -> x / 2 ^ k = q -> R (k : Int) ((q * 2 ^ k : Nat) : Int) true σ) (h0 : S x = false -> R 0 0 false σ) : buddy_Heap_covered.call (some ⟨p, 0, none⟩) (x : Int) σ R := by
 refine buddy_Heap_covered.of_vc ?_
 unfold buddy_Heap_covered.vc
 refine nilP (h.rB fun cap => ?_)
 refine loop1 (a := .i .i64) (fun t h' => ∃ k : Nat, t = (k : Int) /\ k <= ms.length /\ h' = σ /\ ∀ j, j < k -> can S j (x / 2 ^ j) = false) (fun t _ => ms.length - t.toNat) ⟨0, rfl, by omega, rfl, fun j hj => by omega⟩ ?_
 rintro t h' ⟨k, rfl, hk, rfl, hall⟩
 have hl := h.len
 refine ifD (fun hlt => ?_) (fun hge => ?_)
 ·simp only at hlt
  obtain ⟨m, hm⟩ := h.get (k := k) (by omega)
  refine h.rM hm (nn (by omega) (nn (by omega) (shrl rfl (by omega) hx (h.lk hm rfl ?_))))
  cases hc : can S k (x / 2 ^ k)
  ·refine ifF (by simp) (arN (m := k + 1) (by omega) (by omega) ?_)
   refine ⟨⟨k + 1, rfl, by omega, rfl, fun j hj => ?_⟩, by omega⟩
   by_cases e : j = k
   ·rw [e]; exact hc
   ·exact hall j (by omega)
  ·exact ifT (by simp) (h1 k _ hc rfl)
 ·simp only at hge
  refine h0 ?_
  cases hs : S x
  ·rfl
  ·obtain ⟨j, hj⟩ := can_exists h.bnd hs
   have := h.fits (full_bound h.bnd (can_iff.1 hj).1)
   rw [hall j (by omega)] at hj
   cases hj
def isF (S : Nat -> Bool) (x : Int) : Bool := decide (0 <= x) && S x.toNat
theorem isFree_ok (h : BH σ p n S sb ms) (x : Int) {R : Bool -> Hp -> Prop} (hR : R (isF S x) σ) : buddy_Heap_IsFree.call (some ⟨p, 0, none⟩) x σ R := by
 refine buddy_Heap_IsFree.of_vc ?_
 unfold buddy_Heap_IsFree.vc
 have n2 := h.n2
 refine made_ok h (JnB.intro (ifF rfl ?_))
 refine JnB.intro (ifD (fun h1 => ifT rfl ?_) fun h1 => nilP (h.rN ?_))
 ·have : isF S x = false := by simp [isF]; intro; omega
  rw [this] at hR; exact hR
 ·refine ifD (fun h2 => ?_) fun h2 => ?_
  ·have : isF S x = false := by
    simp only [isF]
    cases hs : S x.toNat
    ·simp
    ·have := h.bnd _ hs; omega
   rw [this] at hR; exact hR
  ·obtain ⟨y, rfl⟩ := Int.eq_ofNat_of_zero_le (show 0 <= x by omega)
   have e : isF S (y : Int) = S y := by simp [isF]
   rw [e] at hR
   refine covered_ok h y (by omega) (fun k q hc hq => ?_) fun hs => ?_
   ·rw [can_free hc hq] at hR; exact hR
   ·rw [hs] at hR; exact hR
theorem add_ok {k q : Nat} (h : BH σ p n S sb ms) (hf : q * 2 ^ k + 2 ^ k <= n) (hd : ∀ x, x / 2 ^ k = q -> S x = false) {R : Hp -> Prop}
 (hR : ∀ σ', Ext (· ∈ ms) σ σ' -> BH σ' p n (ins S k q) sb ms -> R σ') : buddy_Heap_add.call (some ⟨p, 0, none⟩) (k : Int) ((q * 2 ^ k : Nat) : Int) σ R := by
 refine buddy_Heap_add.of_vc ?_
 unfold buddy_Heap_add.vc
 refine loop2 (a := .i .i64) (bb := .i .i64)
  (fun o s h' => ∃ (j r : Nat) (T : Nat -> Bool), o = (j : Int) /\ s = ((r * 2 ^ j : Nat) : Int) /\ r * 2 ^ j + 2 ^ j <= n /\ BH h' p n T sb ms /\ Ext (· ∈ ms) σ h' /\ (∀ x, x / 2 ^ j = r -> T x = false) /\ ins T j r = ins S k q)
  (fun o _ _ => ms.length - o.toNat) ⟨k, q, S, rfl, rfl, hf, h, Ext.refl _ _, hd, rfl⟩ ?_
 rintro o s h' ⟨j, r, T, rfl, rfl, hjf, hT, hE, hdT, hins⟩
 have hl := hT.len
 have hj := hT.fits hjf
 have hn2 := hT.n2
 have hpj := Nat.two_pow_pos j
 obtain ⟨m, hm⟩ := hT.get hj
 have last : ¬ full (ins T j r) (j + 1) (r / 2) = true -> (NilP (some ⟨p, 0, none⟩) fun a49 => LdS (a49.add 1) h' fun t51 => Ix t51.a t51.len (j : Int) 1 fun a53 => LdM a53 h' fun t54 => MSet .i64 .b t54 ((r * 2 ^ j : Nat) : Int) true h' fun v3 => R v3) := by
  intro hup
  refine nilP (hT.rB fun cap => hT.rM hm ?_)
  refine hT.msetR hm hdT hup hjf rfl fun h'' e hB => hR h'' (hE.trans e) ?_
  rw [← hins]; exact hB
 refine arN (m := j + 1) (by omega) (by omega) (nilP (hT.rB fun cap => JnB.intro ?_))
 refine ifD (fun hlt => ?_) (fun hge => ?_)
 ·simp only at hlt
  refine nilP (hT.rB fun cap => hT.rM hm (shl1 (by omega) ?_))
  have hp62 := pow_small (show j <= 62 by omega)
  have hx : bits .xor .i64 ((r * 2 ^ j : Nat) : Int) ((2 ^ j : Nat) : Int) = ((mate r * 2 ^ j : Nat) : Int) := by
   rw [bits_xor_i64 (by omega) (by omega), xor_mate]
  rw [hx]
  refine hT.lk hm rfl ?_
  cases hc : can T j (mate r)
  ·refine ifF (by simp) (last (no_mate hdT (by simp [hc])))
  ·refine ifT (by simp) ?_
   refine nilP (hT.rB fun cap => hT.rM hm (shl1 (by omega) ?_))
   rw [hx]
   refine hT.mdelR hm hc rfl fun h'' e hB => ?_
   refine arN (m := j + 1) (by omega) (by omega) (nn (by omega) (arN (m := j + 1) (by omega) (by omega) (nn (by omega) ?_)))
   refine shrl rfl (by omega) (by omega) ?_
   refine arN (m := j + 1) (by omega) (by omega) ⟨⟨j + 1, r / 2, del T j (mate r), rfl, ?_, ?_, hB, hE.trans e, ?_, ?_⟩, by omega⟩
   ·rw [Nat.pow_succ, ← Nat.div_div_eq_div_mul, first_in]
   ·-- both halves lie within
    have h1 := full_bound hT.bnd (can_iff.1 hc).1
    have e2 : r / 2 * 2 ^ (j + 1) = (r / 2 * 2) * 2 ^ j := by rw [Nat.pow_succ, Nat.mul_comm (2 ^ j) 2, ← Nat.mul_assoc]
    rw [e2, Nat.pow_succ]
    have hup : (r / 2 * 2) + 1 = r ∨ (r / 2 * 2) + 1 = mate r := by unfold mate; split <;> omega
    have e3 : (r / 2 * 2) * 2 ^ j + 2 ^ j * 2 = ((r / 2 * 2) + 1) * 2 ^ j + 2 ^ j := by rw [Nat.add_mul]; omega
    rw [e3]
    rcases hup with e4 | e4 <;> rw [e4] <;> assumption
   ·intro x hx
    rcases in_parent.1 hx with h1 | h1
    ·simp [del, hdT x h1]
    ·simp [del, h1]
   ·rw [← hins]
    refine fun_eq fun x => ?_
    rw [ins_iff, ins_iff, del_iff, in_parent]
    by_cases h1 : x / 2 ^ j = mate r
    ·simp [h1, can_free hc h1]
    ·simp [h1]
 ·simp only at hge
  refine ifF rfl (last fun hup => ?_)
  have := full_bound (bnd_ins hT.bnd hjf) hup
  have h1 : 2 ^ ms.length <= 2 ^ (j + 1) := Nat.pow_le_pow_right (by decide) (by omega)
  have := hT.hi
  omega
theorem free_ok {a m : Nat} (h : BH σ p n S sb ms) (hf : a + m <= n) (hd : ∀ x, a <= x -> x < a + m -> S x = false) {R : Hp -> Prop}
 (hR : ∀ σ', Ext (· ∈ ms) σ σ' -> BH σ' p n (give S a (a + m)) sb ms -> R σ') : buddy_Heap_free.call (some ⟨p, 0, none⟩) (a : Int) (m : Int) σ R := by
 refine buddy_Heap_free.of_vc ?_
 unfold buddy_Heap_free.vc
 have hn2 := h.n2
 refine loop2 (a := .i .i64) (bb := .i .i64)
  (fun s c h' => ∃ (a' m' : Nat), s = (a' : Int) /\ c = (m' : Int) /\ a <= a' /\ a' + m' = a + m /\ BH h' p n (give S a a') sb ms /\ Ext (· ∈ ms) σ h')
  (fun _ c _ => c.toNat) ⟨a, m, rfl, rfl, by omega, rfl, by rw [give_nil]; exact h, Ext.refl _ _⟩ ?_
 rintro s c h' ⟨a', m', rfl, rfl, haa, ham, hB, hE⟩
 refine ifD (fun hpos => ?_) (fun hz => ?_)
 ·refine loop1 (a := .i .i64) (fun k h'' => ∃ j q : Nat, k = (j : Int) /\ a' = q * 2 ^ j /\ 2 ^ j <= m' /\ h'' = h') (fun k _ => 12 - k.toNat) ⟨0, a', rfl, by simp, by simp; omega, rfl⟩ ?_
  rintro k h'' ⟨j, q, rfl, hq, hjm, rfl⟩
  have hj : j <= 10 := by
   apply Classical.byContradiction
   intro hc
   have : 2 ^ 11 <= 2 ^ j := Nat.pow_le_pow_right (by decide) (by omega)
   omega
  refine arN (m := j + 1) (by omega) (by omega) (nn (by omega) (arN (m := j + 1) (by omega) (by omega) (nn (by omega) ?_)))
  refine shrl rfl (by omega) (by omega) (JnB.intro ?_)
  have stop : (buddy_Heap_add.call (some ⟨p, 0, none⟩) (j : Int) (a' : Int) h'' fun v3 =>
   Nn (j : Int) <| Ar .i64 (1 * 2 ^ (min (j : Int).toNat IntKind.i64.bits)) fun t33 => Ar .i64 ((a' : Int) + t33) fun start2 =>
   Nn (j : Int) <| Ar .i64 (1 * 2 ^ (min (j : Int).toNat IntKind.i64.bits)) fun t37 => Ar .i64 ((m' : Int) - t37) fun pages2 =>
   (∃ (a'' m'' : Nat), start2 = (a'' : Int) /\ pages2 = (m'' : Int) /\ a <= a'' /\ a'' + m'' = a + m /\ BH v3 p n (give S a a'') sb ms /\ Ext (· ∈ ms) σ v3) /\ pages2.toNat < (m' : Int).toNat) := by
   subst hq
   refine add_ok hB (by omega) (fun x hx => ?_) fun v3 e hB' => ?_
   ·have := place_iff.1 hx
    have h1 := hd x (by omega) (by omega)
    simp only [give, h1, Bool.false_or]
    rw [decide_eq_false (show ¬ x < q * 2 ^ j by omega), Bool.and_false]
   ·have hpos2 := Nat.two_pow_pos j
    refine shl1 (by omega) (arN (m := q * 2 ^ j + 2 ^ j) (by omega) (by omega) (shl1 (by omega) (arN (m := m' - 2 ^ j) (by omega) (by omega) ?_)))
    refine ⟨⟨_, _, rfl, rfl, by omega, by omega, ?_, hE.trans e⟩, by omega⟩
    rw [ins_give, give_give haa (by omega)] at hB'
    exact hB'
  refine iff_ (fun he => ?_) (fun he => ifF rfl stop)
  have he' : a' / 2 ^ (j + 1) * 2 ^ (j + 1) = a' := by
   have := beq_iff_eq.1 he
   exact_mod_cast this
  refine arN (m := j + 1) (by omega) (by omega) (shl1 (by omega) ?_)
  refine ifD (fun hle => ?_) fun _ => stop
  refine arN (m := j + 1) (by omega) (by omega) ⟨⟨j + 1, a' / 2 ^ (j + 1), rfl, he'.symm, by omega, rfl⟩, by omega⟩
 ·have : m' = 0 := by omega
  subst this
  have : a' = a + m := by omega
  subst this
  exact hR h' hE hB
theorem cut_ok {a m : Nat} (h : BH σ p n S sb ms) (hf : a + m <= n) (hd : ∀ x, a <= x -> x < a + m -> S x = true) {R : Hp -> Prop}
 (hR : ∀ σ', Ext (· ∈ ms) σ σ' -> BH σ' p n (take S a (a + m)) sb ms -> R σ') : buddy_Heap_cut.call (some ⟨p, 0, none⟩) (a : Int) (m : Int) σ R := by
 refine buddy_Heap_cut.of_vc ?_
 unfold buddy_Heap_cut.vc
 have hn2 := h.n2
 refine loop1 (a := .i .i64) (fun s h' => ∃ x : Nat, s = (x : Int) /\ a <= x /\ BH h' p n (take S a (min x (a + m))) sb ms /\ Ext (· ∈ ms) σ h')
  (fun s _ => a + m - s.toNat) ⟨a, rfl, by omega, by rw [Nat.min_eq_left (by omega), take_nil]; exact h, Ext.refl _ _⟩ ?_
 rintro s h' ⟨x, rfl, hax, hB, hE⟩
 refine arN (m := a + m) (by omega) (by omega) ?_
 refine ifD (fun hlt => ?_) (fun hge => ?_)
 ·rw [Nat.min_eq_left (by omega)] at hB
  have hx : take S a x x = true := take_iff.2 ⟨hd x hax (by omega), by omega⟩
  refine covered_ok hB x (by omega) (fun k q hc hq => ?_) (fun hs => by rw [hx] at hs; cases hs)
  have hfb := full_bound hB.bnd (can_iff.1 hc).1
  have hk := hB.fits hfb
  have hl := hB.len
  obtain ⟨mm, hm⟩ := hB.get hk
  have hin := place_iff.1 hq
  refine nilP (hB.rB fun cap => hB.rM hm ?_)
  refine hB.mdelR hm hc rfl fun h1 e1 hB1 => ?_
  refine shl1 (by omega) (arN (m := q * 2 ^ k + 2 ^ k) (by omega) (by omega) (arN (m := x - q * 2 ^ k) (by omega) (by omega) ?_))
  refine free_ok hB1 (by omega) (fun y hy1 hy2 => ?_) fun h2 e2 hB2 => ?_
  ·have : y / 2 ^ k = q := place_iff.2 (by omega)
   simp [del, this]
  ·have hE2 := (hE.trans e1).trans e2
   rw [show q * 2 ^ k + (x - q * 2 ^ k) = x by omega] at hB2
   have hblk : ∀ y, q * 2 ^ k <= y /\ y < q * 2 ^ k + 2 ^ k -> S y = true /\ ¬ (a <= y /\ y < x) := fun y hy => take_iff.1 (can_free hc (place_iff.2 hy))
   refine arN (m := a + m) (by omega) (by omega) (ifD (fun hgt => ?_) fun hle => ?_)
   ·refine arN (m := q * 2 ^ k + 2 ^ k - (a + m)) (by omega) (by omega) ?_
    refine free_ok hB2 (by omega) (fun y hy1 hy2 => ?_) fun h3 e3 hB3 => ?_
    ·have : y / 2 ^ k = q := place_iff.2 (by omega)
     have hxy : ¬ y < x := by omega
     simp [give, del, this, hxy]
    ·refine ⟨⟨_, rfl, by omega, ?_, hE2.trans e3⟩, by omega⟩
     rw [Nat.min_eq_right (by omega)]
     have : give (give (del (take S a x) k q) (q * 2 ^ k) x) (a + m) (a + m + (q * 2 ^ k + 2 ^ k - (a + m))) = take S a (a + m) := by
      refine fun_eq fun y => ?_
      have hy := hblk y
      simp only [give_iff, del_iff, take_iff, Ne, place_iff]
      generalize q * 2 ^ k = A at *
      generalize 2 ^ k = E at *
      cases hs : S y
      ·rw [hs] at hy
       simp only [Bool.false_eq_true, false_and, false_or, iff_false, imp_false] at hy ⊢
       omega
      ·rw [hs] at hy
       simp only [true_and] at hy ⊢
       omega
     rw [this] at hB3
     exact hB3
   ·refine ⟨⟨_, rfl, by omega, ?_, hE2⟩, by omega⟩
    rw [Nat.min_eq_left (by omega)]
    have : give (del (take S a x) k q) (q * 2 ^ k) x = take S a (q * 2 ^ k + 2 ^ k) := by
     refine fun_eq fun y => ?_
     have hy := hblk y
     simp only [give_iff, del_iff, take_iff, Ne, place_iff]
     generalize q * 2 ^ k = A at *
     generalize 2 ^ k = E at *
     cases hs : S y
     ·rw [hs] at hy
      simp only [Bool.false_eq_true, false_and, false_or, iff_false, imp_false] at hy ⊢
      omega
     ·rw [hs] at hy
      simp only [true_and] at hy ⊢
      omega
    rw [this] at hB2
    exact hB2
 ·rw [Nat.min_eq_right (by omega)] at hB
  exact hR h' hE hB
end Go.Bu
namespace Go.Bu
open Go Go.Vc Go.Proofs


variable {σ : Hp} {p n sb : Nat} {S : Nat -> Bool} {ms : List Nat}
def noneF (S : Nat -> Bool) (a m : Nat) : Bool := (List.range m).all fun i => !S (a + i)
theorem noneF_iff {S : Nat -> Bool} {a m : Nat} : noneF S a m = true ↔ ∀ x, a <= x -> x < a + m -> S x = false := by
 simp only [noneF, List.all_eq_true, List.mem_range, Bool.not_eq_true']
 exact ⟨fun h x h1 h2 => by have := h (x - a) (by omega); rwa [show a + (x - a) = x by omega] at this, fun h i hi => h _ (by omega) (by omega)⟩
theorem noneF_no {S : Nat -> Bool} {a m x : Nat} (h1 : a <= x) (h2 : x < a + m) (h : S x = true) : noneF S a m = false := by
 cases e : noneF S a m
 ·rfl
 ·rw [noneF_iff.1 e x h1 h2] at h; cases h
def giveE (n : Nat) (S : Nat -> Bool) (a m : Int) : Int := if runOk n a m then (if noneF S a.toNat m.toNat then 0 else 9) else 1
def giveS (n : Nat) (S : Nat -> Bool) (a m : Int) : Nat -> Bool := if runOk n a m && noneF S a.toNat m.toNat then give S a.toNat (a.toNat + m.toNat) else S
theorem runOk_nat {n : Nat} {a m : Int} (h : runOk n a m = true) : ∃ x y : Nat, a = (x : Int) /\ m = (y : Int) /\ 1 <= y /\ x + y <= n := by
 simp only [runOk, Bool.and_eq_true, decide_eq_true_eq] at h
 exact ⟨a.toNat, m.toNat, by omega, by omega, by omega, by omega⟩
theorem Give_ok (h : BH σ p n S sb ms) (a m : Int) {R : Int -> Hp -> Prop}
 (hR : ∀ σ', Ext (· ∈ ms) σ σ' -> BH σ' p n (giveS n S a m) sb ms -> R (giveE n S a m) σ') : buddy_Heap_Give.call (some ⟨p, 0, none⟩) a m σ R := by
 refine buddy_Heap_Give.of_vc ?_
 unfold buddy_Heap_Give.vc
 have hn2 := h.n2
 refine check_ok h a m (fun hok => ifF rfl ?_) (fun hok => ifT rfl ?_)
 ·obtain ⟨x, y, rfl, rfl, hy, hxy⟩ := runOk_nat hok
  refine loop1 (a := .i .i64) (fun t h' => ∃ z : Nat, t = (z : Int) /\ x <= z /\ h' = σ /\ ∀ u, x <= u -> u < z -> S u = false) (fun t _ => x + y - t.toNat) ⟨x, rfl, by omega, rfl, fun u _ _ => by omega⟩ ?_
  rintro t h' ⟨z, rfl, hz, rfl, hall⟩
  refine arN (m := x + y) (by omega) (by omega) ?_
  refine ifD (fun hlt => isFree_ok h _ ?_) (fun hge => ?_)
  ·have e : isF S (z : Int) = S z := by simp [isF]
   rw [e]
   cases hs : S z
   ·refine ifF rfl (arN (m := z + 1) (by omega) (by omega) ⟨⟨z + 1, rfl, by omega, rfl, fun u h1 h2 => ?_⟩, by omega⟩)
    by_cases e : u = z
    ·rw [e]; exact hs
    ·exact hall u h1 (by omega)
   ·refine ifT rfl ?_
    have hno := noneF_no (m := y) hz (by omega) hs
    have := hR h' (Ext.refl _ _)
    simp only [giveE, giveS, hok, Int.toNat_natCast, hno, Bool.and_false, if_true, Bool.false_eq_true, if_false] at this
    exact this h
  ·have hall' : ∀ u, x <= u -> u < x + y -> S u = false := fun u h1 h2 => hall u h1 (by omega)
   have hno := noneF_iff.2 hall'
   refine free_ok h hxy hall' fun h1 e1 hB => ?_
   have := hR h1 e1
   simp only [giveE, giveS, hok, Int.toNat_natCast, hno, Bool.and_true, if_true] at this
   exact this hB
 ·have := hR σ (Ext.refl _ _)
  simp only [giveE, giveS, hok, Bool.false_and, Bool.false_eq_true, if_false] at this
  exact this h
end Go.Bu
namespace Go.Ar
open Go.Bu


def hugeOk (n : Nat) (h : Int) : Bool := decide (0 <= h) && decide (h < ((n / 16 : Nat) : Int))
def addE (st : List Nat) (h : Int) : Int := if hugeOk st.length h then (if st.getD (16 * h.toNat) 0 = 0 then 0 else 5) else 1
def addT (st : List Nat) (h : Int) : List Nat := if addE st h = 0 then setR st (16 * h.toNat) (16 * h.toNat + 16) 3 else st
def allIn (st : List Nat) (a m : Nat) (fr : List Nat) : Bool := ((st.drop a).take m).all fr.contains
def turnE (st : List Nat) (a m : Int) (fr : List Nat) : Int := if runOk st.length a m then (if allIn st a.toNat m.toNat fr then 0 else 5) else 1
def turnT (st : List Nat) (a m : Int) (v : Nat) (fr : List Nat) : List Nat := if turnE st a m fr = 0 then setR st a.toNat (a.toNat + m.toNat) v else st
structure Sp where
 st : List Nat
 wd : Nat -> Int
 pk : Nat
def Sp.set (s : Sp) (a m v : Nat) : Sp := { s with st := setR s.st a (a + m) v, wd := fun w => if a * 32 <= w /\ w < (a + m) * 32 then 0 else s.wd w }
def mapE (s : Sp) (a m : Int) : Int := if runOk s.st.length a m then (if ((s.st.drop a.toNat).take m.toNat).any (· != 0) then 5 else 0) else 1
def mapS (s : Sp) (a m : Int) : Sp := if mapE s a m = 0 then s.set a.toNat m.toNat 1 else s
def accE (s : Sp) (x : Int) : Int := if x < 0 ∨ x % 8 ≠ 0 then 7 else if s.st.getD (x.toNat / 256) 0 = 0 then 7 else 0
def putW (s : Sp) (w : Nat) (v : Int) : Sp :=
 { st := s.st.set (w / 32) 2, wd := fun u => if u = w then v else s.wd u, pk := if s.st.getD (w / 32) 0 = 2 then s.pk else max s.pk ((s.st.set (w / 32) 2).count 2) }
def writeS (s : Sp) (x v : Int) : Sp := if accE s x = 0 then putW s (x.toNat / 8) v else s
end Go.Ar
namespace Go.Ar


structure Li where
 os : List Int
 lim : Nat
 low : Nat
 deriving DecidableEq
def liN : Li := ⟨[], 1, 0⟩
structure LiOk (l : Li) : Prop where
 low : l.low <= l.os.length
 many : l.os.length <= 256
 lim : l.lim <= 128
 lim1 : 1 <= l.lim
def oldL (m : Nat) (l : Li) : List Int × Li := (l.os.take m, { l with os := l.os.drop m, low := min l.low (l.os.length - m) })
def upL (c : Cls) (l : Li) : Li := if l.lim < c.batch then { l with lim := l.lim + 1 } else l
def takeL (c : Cls) (l : Li) : Option Int × Li := match l.os.getLast? with
 | none => (none, if l.lim < c.batch then { l with lim := l.lim + 1 } else { l with lim := min (l.lim + c.batch) 128 })
 | some x => (some x, { l with os := l.os.dropLast, low := min l.low (l.os.length - 1) })
def wantL (c : Cls) (l : Li) : Nat := min l.lim c.batch
def addL (xs : List Int) (l : Li) : Li := if l.os.length + xs.length > 256 then l else { l with os := l.os ++ xs }
def putL (c : Cls) (x : Int) (l : Li) : List Int × Li :=
 if l.os.length + 1 > 256 then ([], l)
 else if l.os.length + 1 <= l.lim then ([], addL [x] l)
 else oldL (min c.batch (l.os.length + 1)) (upL c (addL [x] l))
def scavL (c : Cls) (l : Li) : List Int × Li :=
 ((oldL ((l.low + 1) / 2) l).1, { os := (oldL ((l.low + 1) / 2) l).2.os, lim := if l.lim > c.batch then max (l.lim - c.batch) c.batch else l.lim, low := (oldL ((l.low + 1) / 2) l).2.os.length })
def drainL (_ : Cls) (l : Li) : List Int × Li := oldL l.os.length l
abbrev Bt := Nat × List Int
def outsF (f : Cls -> Li -> List Int × Li) (tb : List Cls) (ls : List Li) : List Bt := (List.range tb.length).filterMap fun k => match tb[k]?, ls[k]? with
 | some c, some l => if (f c l).1 = [] then none else some (k, (f c l).1)
 | _, _ => none
def leftF (f : Cls -> Li -> List Int × Li) (tb : List Cls) (ls : List Li) : List Li := List.zipWith (fun c l => (f c l).2) tb ls
def bytesF (tb : List Cls) (ls : List Li) : Nat := ((tb.zip ls).map fun x => x.1.size * x.2.os.length).sum
theorem LiOk.nil : LiOk liN := ⟨Nat.le_refl _, by decide, by decide, by decide⟩
theorem oldL_ok {m : Nat} {l : Li} (h : LiOk l) : LiOk (oldL m l).2 := by
 have h1 := h.low; have h2 := h.many
 refine ⟨?_, ?_, h.lim, h.lim1⟩
 ·simp only [oldL, List.length_drop]; omega
 ·simp only [oldL, List.length_drop]; omega
theorem takeL_ok {c : Cls} {l : Li} (hc : c.ok) (h : LiOk l) : LiOk (takeL c l).2 := by
 have h1 := h.low; have h2 := h.many; have h3 := h.lim; have h4 := h.lim1
 unfold Cls.ok at hc
 unfold takeL
 split
 ·split
  ·exact ⟨h1, h2, by simp only; omega, by simp only; omega⟩
  ·exact ⟨h1, h2, by simp only; omega, by simp only; omega⟩
 ·exact ⟨by simp only [List.length_dropLast]; omega, by simp only [List.length_dropLast]; omega, h3, h4⟩
theorem addL_ok {xs : List Int} {l : Li} (h : LiOk l) : LiOk (addL xs l) := by
 have h1 := h.low; have h2 := h.many
 unfold addL
 split
 ·exact h
 ·exact ⟨by simp only [List.length_append]; omega, by simp only [List.length_append]; omega, h.lim, h.lim1⟩
theorem upL_ok {c : Cls} {l : Li} (hc : c.ok) (h : LiOk l) : LiOk (upL c l) := by
 have h3 := h.lim
 unfold Cls.ok at hc
 unfold upL
 split
 ·exact ⟨h.low, h.many, by simp only; omega, by simp only; omega⟩
 ·exact h
theorem scavL_ok {c : Cls} {l : Li} (hc : c.ok) (h : LiOk l) : LiOk (scavL c l).2 := by
 have h2 := (oldL_ok (m := (l.low + 1) / 2) h).many
 have h3 := h.lim; have h4 := h.lim1
 unfold Cls.ok at hc
 refine ⟨Nat.le_refl _, h2, ?_, ?_⟩ <;> simp only [scavL] <;> split <;> omega
theorem scavL_nil (c : Cls) (hc : c.ok) : scavL c liN = ([], liN) := by
 unfold Cls.ok at hc
 simp [scavL, liN, oldL]; omega
theorem drainL_nil (c : Cls) : drainL c liN = ([], liN) := by simp [drainL, liN, oldL]
end Go.Ar
namespace Go.Ar

def TrA.rem (t : TrA) : TrA := { low := min t.low (t.bs.length - 1), bs := t.bs.dropLast }
def TrA.tick (t : TrA) : TrA := { low := (t.bs.drop ((t.low + 1) / 2)).length, bs := t.bs.drop ((t.low + 1) / 2) }
def TrA.out (t : TrA) : List (List Int) := t.bs.take ((t.low + 1) / 2)
end Go.Ar
namespace Go.Proofs
open Go.Vc

set_option maxRecDepth 100000
def pagemap_Map_good.hint : Hn := .seq (.o 1) (.seq (.reg (.seq [.op, .op, .op, .grd true 4 [.op, .op, .op, .op], .op])) (.leaf))
def pagemap_Map_good.vc (m : Option Addr) (σ : Hp) (R : Bool -> Hp -> Prop) : Prop :=
 JnB (fun r v =>
 R r v) fun J =>
 If (!m.isNone) (NilP m fun a7 =>
 LdB (a7.add 0) σ fun t9 =>
 J t9 σ)
 (J false σ)
theorem pagemap_Map_good.of_vc {m : Option Addr} {σ : Hp} {R : Bool -> Hp -> Prop} (hv : pagemap_Map_good.vc m σ R) : pagemap_Map_good.call m σ R :=
 fnK_sound Tryz.func145 (x := pagemap_Map_good.hint) (args := [.pointer m]) (rs := [.one .b]) (R := R) (Eq.mpr (by kernel_rfl) hv)
def pagemap_New.hint : Hn := .seq (.o 1) (.seq (.o 3) (.leaf))
def pagemap_New.vc (σ : Hp) (R : Option Addr -> Hp -> Prop) : Prop :=
 Nw (.cells #[.bool true, .pointer none, .pointer none, .pointer none, .pointer none, .pointer none, .pointer none, .pointer none, .pointer none, .pointer none, .pointer none, .pointer none, .pointer none, .pointer none, .pointer none, .pointer none, .pointer none] 295 (0, 0)) σ fun n2 v =>
 R (some n2) v
theorem pagemap_New.of_vc {σ : Hp} {R : Option Addr -> Hp -> Prop} (hv : pagemap_New.vc σ R) : pagemap_New.call σ R :=
 fnK_sound Tryz.func146 (x := pagemap_New.hint) (args := []) (rs := [.one .p]) (R := R) (Eq.mpr (by kernel_rfl) hv)
def pagemap_Map_set.hint : Hn := .seq (.o 1) (.seq (.block (.seq (.o 4) (.cond (.seq (.o 1) (.leaf)) (.seq (.reg (.seq [.op, .op, .op, .grd false 2 [.op, .op], .op, .grd false 2 [.op, .op], .op, .grd false 4 [.op, .op, .op, .op], .op])) (.cond (.seq (.o 1) (.leaf)) (.leaf)))))) (.seq (.seq (.o 2) (.block (.loop [(9, .one (.i .i64))] (.seq (.seq (.o 5) (.cond (.leaf) (.leaf))) (.seq (.block (.o 4)) (.o 3)))))) (.seq (.o 1) (.leaf))))
def pagemap_Map_set.vc (m : Option Addr) (start : Int) (pages : Int) (no : Int) (σ : Hp) (R : Int -> Hp -> Prop) : Prop :=
 pagemap_Map_good.call m σ fun t12 v =>
 If (!t12) (R 5 v)
 (JnB (fun r v1 =>
 JnB (fun r1 v2 =>
 JnB (fun r2 v3 =>
 If r2 (R 1 v3)
 (LoopK [(.i .i64)] (fun I => I start v3) fun J3 (p : Int) v4 =>
 Ar .i64 (start + pages) fun t35 =>
 If (decide (p < t35)) (pagemap_Map_put.call m p no v4 fun v5 =>
 Ar .i64 (p + 1) fun p1 =>
 J3 p1 v5)
 (R 0 v4))) fun J2 =>
 If r1 (J2 true v2)
 (Ar .i64 (1024 - start) fun t28 =>
 J2 (decide (pages > t28)) v2)) fun J1 =>
 If r (J1 true v1)
 (J1 (decide (start > 1024)) v1)) fun J =>
 If (decide (start < 0)) (J true v)
 (J (decide (pages < 1)) v))
theorem pagemap_Map_set.of_vc {m : Option Addr} {start : Int} {pages : Int} {no : Int} {σ : Hp} {R : Int -> Hp -> Prop} (hv : pagemap_Map_set.vc m start pages no σ R) : pagemap_Map_set.call m start pages no σ R :=
 fnK_sound Tryz.func148 (x := pagemap_Map_set.hint) (args := [.pointer m, .int .i64 start, .int .i64 pages, .int .i64 no]) (rs := [.one (.i .i64)]) (R := R) (Eq.mpr (by kernel_rfl) hv)
def pagemap_Map_Get.hint : Hn := .seq (.o 1) (.seq (.seq (.reg (.seq [.op, .op, .op, .op, .grd false 2 [.op, .op], .op, .grd false 2 [.op, .op]])) (.cond (.seq (.o 1) (.leaf)) (.leaf))) (.seq (.o 9) (.seq (.seq (.reg (.seq [.op, .op, .op, .grd false 8 [.op, .op, .op, .op, .op, .op, .op, .op]])) (.cond (.seq (.o 1) (.leaf)) (.leaf))) (.seq (.o 13) (.leaf)))))
def pagemap_Map_Get.vc (m : Option Addr) (page : Int) (σ : Hp) (R : Int -> Hp -> Prop) : Prop :=
 pagemap_Map_good.call m σ fun t7 v =>
 JnB (fun r v1 =>
 JnB (fun r1 v2 =>
 If r1 (R 0 v2)
 (Nz 8 <| Ar .i64 (page.tdiv 8) fun t19 =>
 Nz 8 <| Ar .i64 (t19.tdiv 8) fun t20 =>
 NilP m fun a21 =>
 IxA (a21.add 1) 16 t20 1 fun a23 =>
 LdP a23 v2 fun vx =>
 JnB (fun r2 v3 =>
 If r2 (R 0 v3)
 (Nz 8 <| Ar .i64 (page.tdiv 8) fun t39 =>
 Nz 8 <|
 NilP vx fun a41 =>
 IxA a41 8 (t39.tmod 8) 1 fun a42 =>
 LdP a42 v3 fun t43 =>
 Nz 8 <|
 NilP t43 fun a46 =>
 IxA a46 8 (page.tmod 8) 1 fun a47 =>
 LdI .i64 a47 v3 fun t48 =>
 R t48 v3)) fun J2 =>
 If vx.isNone (J2 true v2)
 (Nz 8 <| Ar .i64 (page.tdiv 8) fun t30 =>
 Nz 8 <|
 NilP vx fun a32 =>
 IxA a32 8 (t30.tmod 8) 1 fun a33 =>
 LdP a33 v2 fun t34 =>
 J2 t34.isNone v2))) fun J1 =>
 If r (J1 true v1)
 (J1 (decide (page ≥ 1024)) v1)) fun J =>
 If (!t7) (J true v)
 (J (decide (page < 0)) v)
theorem pagemap_Map_Get.of_vc {m : Option Addr} {page : Int} {σ : Hp} {R : Int -> Hp -> Prop} (hv : pagemap_Map_Get.vc m page σ R) : pagemap_Map_Get.call m page σ R :=
 fnK_sound Tryz.func156 (x := pagemap_Map_Get.hint) (args := [.pointer m, .int .i64 page]) (rs := [.one (.i .i64)]) (R := R) (Eq.mpr (by kernel_rfl) hv)
def pagemap_Map_Clear.hint : Hn := .seq (.o 1) (.seq (.o 5) (.leaf))
def pagemap_Map_Clear.vc (m : Option Addr) (start : Int) (pages : Int) (σ : Hp) (R : Int -> Hp -> Prop) : Prop :=
 pagemap_Map_set.call m start pages 0 σ fun t10 v =>
 R t10 v
theorem pagemap_Map_Clear.of_vc {m : Option Addr} {start : Int} {pages : Int} {σ : Hp} {R : Int -> Hp -> Prop} (hv : pagemap_Map_Clear.vc m start pages σ R) : pagemap_Map_Clear.call m start pages σ R :=
 fnK_sound Tryz.func176 (x := pagemap_Map_Clear.hint) (args := [.pointer m, .int .i64 start, .int .i64 pages]) (rs := [.one (.i .i64)]) (R := R) (Eq.mpr (by kernel_rfl) hv)
def pagemap_Map_put.hint : Hn := .seq (.o 9) (.seq (.o 8) (.seq (.o 7) (.sjn [] (.seq (.o 5) (.cond (.o 7) (.leaf))) (.seq (.o 5) (.cond (.o 8) (.leaf))))))
def pagemap_Map_put.vc (m : Option Addr) (page : Int) (no : Int) (σ : Hp) (R : Hp -> Prop) : Prop :=
 Nz 8 <| Ar .i64 (page.tdiv 8) fun t10 =>
 Nz 8 <| Ar .i64 (t10.tdiv 8) fun t11 =>
 NilP m fun a12 =>
 IxA (a12.add 1) 16 t11 1 fun a14 =>
 pagemap_there_pagemap_middle.call (some a14) σ fun vx v =>
 Nz 8 <| Ar .i64 (page.tdiv 8) fun t18 =>
 Nz 8 <|
 NilP vx fun a20 =>
 IxA a20 8 (t18.tmod 8) 1 fun a21 =>
 pagemap_there_pagemap_leaf.call (some a21) v fun l v1 =>
 Nz 8 <|
 NilP l fun a27 =>
 IxA a27 8 (page.tmod 8) 1 fun a28 =>
 St1 a28 (.int .i64 no) v1 fun v2 =>
 Jn [] (fun v3 =>
 NilP vx fun a41 =>
 LdP (a41.add 0) v3 fun t42 =>
 LdP (a41.add 1) v3 fun t421 =>
 LdP (a41.add 2) v3 fun t422 =>
 LdP (a41.add 3) v3 fun t423 =>
 LdP (a41.add 4) v3 fun t424 =>
 LdP (a41.add 5) v3 fun t425 =>
 LdP (a41.add 6) v3 fun t426 =>
 LdP (a41.add 7) v3 fun t427 =>
 If (t42.isNone && (t421.isNone && (t422.isNone && (t423.isNone && (t424.isNone && (t425.isNone && (t426.isNone && (t427.isNone && true)))))))) (Nz 8 <| Ar .i64 (page.tdiv 8) fun t47 =>
 Nz 8 <| Ar .i64 (t47.tdiv 8) fun t48 =>
 NilP m fun a49 =>
 IxA (a49.add 1) 16 t48 1 fun a51 =>
 St1 a51 (.pointer none) v3 fun v4 =>
 R v4)
 (R v3)) fun J =>
 NilP l fun a30 =>
 LdI .i64 (a30.add 0) v2 fun t31 =>
 LdI .i64 (a30.add 1) v2 fun t311 =>
 LdI .i64 (a30.add 2) v2 fun t312 =>
 LdI .i64 (a30.add 3) v2 fun t313 =>
 LdI .i64 (a30.add 4) v2 fun t314 =>
 LdI .i64 (a30.add 5) v2 fun t315 =>
 LdI .i64 (a30.add 6) v2 fun t316 =>
 LdI .i64 (a30.add 7) v2 fun t317 =>
 If ((t31 == 0) && ((t311 == 0) && ((t312 == 0) && ((t313 == 0) && ((t314 == 0) && ((t315 == 0) && ((t316 == 0) && ((t317 == 0) && true)))))))) (Nz 8 <| Ar .i64 (page.tdiv 8) fun t36 =>
 Nz 8 <|
 NilP vx fun a38 =>
 IxA a38 8 (t36.tmod 8) 1 fun a39 =>
 St1 a39 (.pointer none) v2 fun v5 =>
 J v5)
 (J v2)
theorem pagemap_Map_put.of_vc {m : Option Addr} {page : Int} {no : Int} {σ : Hp} {R : Hp -> Prop} (hv : pagemap_Map_put.vc m page no σ R) : pagemap_Map_put.call m page no σ R :=
 fnK_sound Tryz.func211 (x := pagemap_Map_put.hint) (args := [.pointer m, .int .i64 page, .int .i64 no]) (rs := []) (R := R) (Eq.mpr (by kernel_rfl) hv)
def pagemap_Map_Set.hint : Hn := .seq (.o 1) (.seq (.seq (.reg (.seq [.op, .op, .op, .grd true 6 [.op, .op, .op, .grd false 2 [.op, .op]]])) (.cond (.seq (.o 1) (.leaf)) (.leaf))) (.seq (.o 6) (.leaf)))
def pagemap_Map_Set.vc (m : Option Addr) (start : Int) (pages : Int) (no : Int) (σ : Hp) (R : Int -> Hp -> Prop) : Prop :=
 pagemap_Map_good.call m σ fun t10 v =>
 JnB (fun r v1 =>
 If r (R 1 v1)
 (pagemap_Map_set.call m start pages no v1 fun t23 v2 =>
 R t23 v2)) fun J =>
 If t10 (JnB (fun r1 v3 =>
 J r1 v3) fun J1 =>
 If (decide (no < 1)) (J1 true v)
 (J1 (decide (no > 1073741824)) v))
 (J false v)
theorem pagemap_Map_Set.of_vc {m : Option Addr} {start : Int} {pages : Int} {no : Int} {σ : Hp} {R : Int -> Hp -> Prop} (hv : pagemap_Map_Set.vc m start pages no σ R) : pagemap_Map_Set.call m start pages no σ R :=
 fnK_sound Tryz.func223 (x := pagemap_Map_Set.hint) (args := [.pointer m, .int .i64 start, .int .i64 pages, .int .i64 no]) (rs := [.one (.i .i64)]) (R := R) (Eq.mpr (by kernel_rfl) hv)
def pagemap_there_pagemap_middle.hint : Hn := .seq (.o 1) (.sjn [] (.seq (.o 4) (.cond (.o 4) (.leaf))) (.seq (.o 4) (.leaf)))
def pagemap_there_pagemap_middle.vc (node : Option Addr) (σ : Hp) (R : Option Addr -> Hp -> Prop) : Prop :=
 Jn [] (fun v =>
 NilP node fun a11 =>
 LdP a11 v fun t12 =>
 R t12 v) fun J =>
 NilP node fun a4 =>
 LdP a4 σ fun t5 =>
 If t5.isNone (Nw (.cells #[.pointer none, .pointer none, .pointer none, .pointer none, .pointer none, .pointer none, .pointer none, .pointer none] 332 (0, 0)) σ fun n8 v1 =>
 NilP node fun a9 =>
 St1 a9 (.pointer (some n8)) v1 fun v2 =>
 J v2)
 (J σ)
theorem pagemap_there_pagemap_middle.of_vc {node : Option Addr} {σ : Hp} {R : Option Addr -> Hp -> Prop} (hv : pagemap_there_pagemap_middle.vc node σ R) : pagemap_there_pagemap_middle.call node σ R :=
 fnK_sound Tryz.func250 (x := pagemap_there_pagemap_middle.hint) (args := [.pointer node]) (rs := [.one .p]) (R := R) (Eq.mpr (by kernel_rfl) hv)
def pagemap_there_pagemap_leaf.hint : Hn := .seq (.o 1) (.sjn [] (.seq (.o 4) (.cond (.o 4) (.leaf))) (.seq (.o 4) (.leaf)))
def pagemap_there_pagemap_leaf.vc (node : Option Addr) (σ : Hp) (R : Option Addr -> Hp -> Prop) : Prop :=
 Jn [] (fun v =>
 NilP node fun a11 =>
 LdP a11 v fun t12 =>
 R t12 v) fun J =>
 NilP node fun a4 =>
 LdP a4 σ fun t5 =>
 If t5.isNone (Nw (.cells #[.int .i64 0, .int .i64 0, .int .i64 0, .int .i64 0, .int .i64 0, .int .i64 0, .int .i64 0, .int .i64 0] 336 (0, 0)) σ fun n8 v1 =>
 NilP node fun a9 =>
 St1 a9 (.pointer (some n8)) v1 fun v2 =>
 J v2)
 (J σ)
theorem pagemap_there_pagemap_leaf.of_vc {node : Option Addr} {σ : Hp} {R : Option Addr -> Hp -> Prop} (hv : pagemap_there_pagemap_leaf.vc node σ R) : pagemap_there_pagemap_leaf.call node σ R :=
 fnK_sound Tryz.func251 (x := pagemap_there_pagemap_leaf.hint) (args := [.pointer node]) (rs := [.one .p]) (R := R) (Eq.mpr (by kernel_rfl) hv)
end Go.Proofs
namespace Go.Ar
open Go Go.Vc Go.Proofs
open Go.Bu (runOk)


variable {σ : Hp} {F : Rg} {p : Nat} {M Lf : Nat -> Option Nat} {ow : Nat -> Nat}
def upd {α : Type} (f : Nat -> α) (k : Nat) (v : α) : Nat -> α := fun i => if i = k then v else f i
theorem upd_self {α : Type} (f : Nat -> α) (k : Nat) (v : α) : upd f k v k = v := by simp [upd]
theorem upd_ne {α : Type} (f : Nat -> α) {k i : Nat} (v : α) (h : i ≠ k) : upd f k v i = f i := by simp [upd, h]
theorem map_range_set {α : Type} (f : Nat -> α) (n k : Nat) (v : α) : ((List.range n).map f).set k v = (List.range n).map (upd f k v) := by
 apply List.ext_getElem?
 intro i
 by_cases hik : i = k
 ·subst hik
  rcases Nat.lt_or_ge i n with h | h
  ·rw [List.getElem?_set_self (by simpa using h)]; simp [List.getElem?_range h, upd]
  ·rw [List.getElem?_eq_none (by simpa using h), List.getElem?_eq_none (by simpa using h)]
 ·rw [List.getElem?_set_ne (Ne.symm hik)]
  simp only [List.getElem?_map]
  rcases Nat.lt_or_ge i n with h | h
  ·simp [List.getElem?_range h, upd, hik]
  ·simp [List.getElem?_eq_none (show (List.range n).length <= i by simpa using h)]
theorem map_range_get {α : Type} (f : Nat -> α) {n k : Nat} (h : k < n) : ((List.range n).map f)[k]? = some (f k) := by simp [List.getElem?_range h]
def ptr (o : Option Nat) : Value := .pointer (o.map fun q => ⟨q, 0, none⟩)
structure PmS (σ : Hp) (F : Rg) (p : Nat) (M Lf : Nat -> Option Nat) (ow : Nat -> Nat) : Prop where
 hd : Blk σ p (.bool true :: (List.range 16).map fun i => ptr (M i))
 mid : ∀ i q, i < 16 -> M i = some q -> Blk σ q ((List.range 8).map fun j => ptr (Lf (8 * i + j)))
 midN : ∀ i, i < 16 -> M i = none -> ∀ j, j < 8 -> Lf (8 * i + j) = none
 leaf : ∀ k q, k < 128 -> Lf k = some q -> Blk σ q ((List.range 8).map fun j => .int .i64 ((ow (8 * k + j) : Nat) : Int))
 leafN : ∀ k, k < 128 -> Lf k = none -> ∀ j, j < 8 -> ow (8 * k + j) = 0
 fp : F p
 fm : ∀ i q, i < 16 -> M i = some q -> F q /\ q ≠ p
 fl : ∀ k q, k < 128 -> Lf k = some q -> F q /\ q ≠ p
 mm : ∀ i j q, i < 16 -> j < 16 -> M i = some q -> M j = some q -> i = j
 ll : ∀ i j q, i < 128 -> j < 128 -> Lf i = some q -> Lf j = some q -> i = j
 ml : ∀ i k q, i < 16 -> k < 128 -> M i = some q -> Lf k ≠ some q
def PmH (σ : Hp) (F : Rg) (p : Nat) (ow : Nat -> Nat) : Prop := ∃ M Lf, PmS σ F p M Lf ow
theorem PmS.move {σ' : Hp} {G : Rg} (h : PmS σ F p M Lf ow) (hb : ∀ b, b < σ.size -> F b -> σ'[b]? = σ[b]?) (hg : ∀ b, b < σ.size -> F b -> G b) : PmS σ' G p M Lf ow := by
 have kb : ∀ {b : Nat} {cs : List Value}, Blk σ b cs -> F b -> Blk σ' b cs := by
  rintro b cs ⟨e, he⟩ hf
  exact ⟨e, (hb b (Blk.lt ⟨e, he⟩) hf).trans he⟩
 exact ⟨kb h.hd h.fp, fun i q hi hq => kb (h.mid i q hi hq) (h.fm i q hi hq).1, h.midN, fun k q hk hq => kb (h.leaf k q hk hq) (h.fl k q hk hq).1, h.leafN, hg p h.hd.lt h.fp,
  fun i q hi hq => ⟨hg q (h.mid i q hi hq).lt (h.fm i q hi hq).1, (h.fm i q hi hq).2⟩, fun k q hk hq => ⟨hg q (h.leaf k q hk hq).lt (h.fl k q hk hq).1, (h.fl k q hk hq).2⟩, h.mm, h.ll, h.ml⟩
theorem PmH.loc : Lcl fun σ F => PmH σ F p ow := fun σ σ' F G ⟨M, Lf, h⟩ hz hs => ⟨M, Lf, h.move (fun b hb hf => (hs b hb hf).2) fun b hb hf => (hs b hb hf).1⟩
theorem PmH.congr {ow' : Nat -> Nat} (h : PmH σ F p ow) (he : ∀ x, x < 1024 -> ow x = ow' x) : PmH σ F p ow' := by
 obtain ⟨M, Lf, h⟩ := h
 refine ⟨M, Lf, h.hd, h.mid, h.midN, fun k q hk hq => ?_, fun k hk hq j hj => ?_, h.fp, h.fm, h.fl, h.mm, h.ll, h.ml⟩
 ·have := h.leaf k q hk hq
  have e : ((List.range 8).map fun j => Value.int .i64 ((ow (8 * k + j) : Nat) : Int)) = (List.range 8).map fun j => Value.int .i64 ((ow' (8 * k + j) : Nat) : Int) := by
   apply List.map_congr_left
   intro j hj
   rw [List.mem_range] at hj
   rw [he _ (by omega)]
  rw [← e]; exact this
 ·rw [← he _ (by omega)]; exact h.leafN k hk hq j hj
theorem good_ok (h : PmH σ F p ow) {R : Bool -> Hp -> Prop} (hR : R true σ) : pagemap_Map_good.call (some ⟨p, 0, none⟩) σ R := by
 refine pagemap_Map_good.of_vc ?_
 unfold pagemap_Map_good.vc
 obtain ⟨M, Lf, h⟩ := h
 exact JnB.intro (ifT rfl (nilP (h.hd.rB rfl hR)))
theorem ixA {a : Addr} {n i sz : Nat} {K : Addr -> Prop} (hi : i < n) (hK : K (a.add (i * sz))) : IxA a n (i : Int) sz K := ⟨by omega, by omega, by simpa using hK⟩
theorem PmS.rM (h : PmS σ F p M Lf ow) {i : Nat} (hi : i < 16) {K : Option Addr -> Prop} (hK : K ((M i).map fun q => ⟨q, 0, none⟩)) : LdP ⟨p, 1 + i, none⟩ σ K := by
 refine h.hd.rP0 ?_ hK
 rw [Nat.add_comm, List.getElem?_cons_succ, map_range_get _ hi]; rfl
theorem PmS.rL (h : PmS σ F p M Lf ow) {i j q : Nat} (hi : i < 16) (hq : M i = some q) (hj : j < 8) {K : Option Addr -> Prop} (hK : K ((Lf (8 * i + j)).map fun q => ⟨q, 0, none⟩)) : LdP ⟨q, j, none⟩ σ K :=
 (h.mid i q hi hq).rP0 (map_range_get _ hj) hK
theorem PmS.rN (h : PmS σ F p M Lf ow) {k j q : Nat} (hk : k < 128) (hq : Lf k = some q) (hj : j < 8) {K : Int -> Prop} (hK : K ((ow (8 * k + j) : Nat) : Int)) : LdI .i64 ⟨q, j, none⟩ σ K :=
 (h.leaf k q hk hq).rI0 (map_range_get _ hj) hK
def owI (ow : Nat -> Nat) (x : Int) : Nat := if 0 <= x /\ x < 1024 then ow x.toNat else 0
theorem Get_ok (h : PmH σ F p ow) (x : Int) {R : Int -> Hp -> Prop} (hR : R ((owI ow x : Nat) : Int) σ) : pagemap_Map_Get.call (some ⟨p, 0, none⟩) x σ R := by
 refine pagemap_Map_Get.of_vc ?_
 unfold pagemap_Map_Get.vc
 have hg := h
 obtain ⟨M, Lf, h⟩ := h
 refine good_ok hg (JnB.intro (ifF rfl (JnB.intro (ifD (fun hn => ifT rfl ?_) fun hn => ?_))))
 ·have : owI ow x = 0 := by unfold owI; rw [if_neg (by omega)]
  rw [this] at hR; exact hR
 refine ifD (fun hge => ?_) fun hlt => ?_
 ·have : owI ow x = 0 := by unfold owI; rw [if_neg (by omega)]
  rw [this] at hR; exact hR
 obtain ⟨y, rfl⟩ := Int.eq_ofNat_of_zero_le (show 0 <= x by omega)
 have hy : y < 1024 := by omega
 have hv : owI ow (y : Int) = ow y := by unfold owI; rw [if_pos (by omega)]; rfl
 rw [hv] at hR
 have t1 : ((y : Int).tdiv 8) = ((y / 8 : Nat) : Int) := by rw [tdiv_nn (by omega)]; simp
 have t2 : (((y / 8 : Nat) : Int).tdiv 8) = ((y / 8 / 8 : Nat) : Int) := by rw [tdiv_nn (by omega)]; simp
 have t3 : (((y / 8 : Nat) : Int).tmod 8) = ((y / 8 % 8 : Nat) : Int) := by rw [tmod_nn (by omega)]; simp
 have t4 : ((y : Int).tmod 8) = ((y % 8 : Nat) : Int) := by rw [tmod_nn (by omega)]; simp
 have hk : 8 * (y / 8 / 8) + y / 8 % 8 = y / 8 := by omega
 have hk2 : 8 * (y / 8) + y % 8 = y := by omega
 refine nz (by decide) (arN t1 (by omega) (nz (by decide) (arN t2 (by omega) (nilP ?_))))
 refine ixA (by omega) ?_
 rw [add_lit, add_lit, Nat.zero_add, Nat.mul_one]
 refine h.rM (by omega) (JnB.intro ?_)
 cases hM : M (y / 8 / 8) with
 | none =>
  refine ifT rfl (ifT rfl ?_)
  have hN := h.midN _ (by omega) hM (y / 8 % 8) (by omega)
  rw [hk] at hN
  have := h.leafN _ (by omega) hN (y % 8) (by omega)
  rw [hk2] at this
  rw [this] at hR; exact hR
 | some q =>
  refine ifF rfl (nz (by decide) (arN t1 (by omega) (nz (by decide) (nilP ?_))))
  rw [t3]
  refine ixA (by omega) ?_
  rw [add_lit, Nat.zero_add, Nat.mul_one]
  refine h.rL (by omega) hM (by omega) ?_
  rw [hk]
  cases hL : Lf (y / 8) with
  | none =>
   refine ifT rfl ?_
   have := h.leafN _ (by omega) hL (y % 8) (by omega)
   rw [hk2] at this
   rw [this] at hR; exact hR
  | some r =>
   refine ifF rfl (nz (by decide) (arN t1 (by omega) (nz (by decide) (nilP ?_))))
   rw [t3]
   refine ixA (by omega) ?_
   rw [add_lit, Nat.zero_add, Nat.mul_one]
   refine h.rL (by omega) hM (by omega) ?_
   rw [hk, hL]
   refine nz (by decide) (nilP ?_)
   rw [t4]
   refine ixA (by omega) ?_
   rw [add_lit, Nat.zero_add, Nat.mul_one]
   refine h.rN (by omega) hL (by omega) ?_
   rw [hk2]; exact hR
theorem PNew_ok {R : Option Addr -> Hp -> Prop} (hR : ∀ σ' p, Ext0 σ σ' -> σ.size <= p -> PmH σ' (fun b => σ.size <= b) p (fun _ => 0) -> R (some ⟨p, 0, none⟩) σ') : pagemap_New.call σ R := by
 refine pagemap_New.of_vc ?_
 unfold pagemap_New.vc
 refine nw (cs := [.bool true, .pointer none, .pointer none, .pointer none, .pointer none, .pointer none, .pointer none, .pointer none, .pointer none, .pointer none, .pointer none, .pointer none, .pointer none, .pointer none, .pointer none, .pointer none, .pointer none]) fun v hz e hb => ?_
 refine hR v _ e (Nat.le_refl _) ⟨fun _ => none, fun _ => none, hb, ?_, ?_, ?_, ?_, Nat.le_refl _, ?_, ?_, ?_, ?_, ?_⟩ <;> intros <;> simp_all
theorem mid_there (h : PmS σ F p M Lf ow) {i : Nat} (hi : i < 16) {R : Option Addr -> Hp -> Prop}
 (hR : ∀ σ' M' q, Ext F σ σ' -> M' i = some q -> PmS σ' (Grow F σ) p M' Lf ow -> R (some ⟨q, 0, none⟩) σ') : pagemap_there_pagemap_middle.call (some ⟨p, 1 + i, none⟩) σ R := by
 refine pagemap_there_pagemap_middle.of_vc ?_
 unfold pagemap_there_pagemap_middle.vc
 refine Jn.intro (nilP (h.rM hi ?_))
 cases hM : M i with
 | some q => exact ifF rfl (nilP (h.rM hi (by rw [hM]; exact hR σ M q (Ext.refl _ _) hM (h.move (fun _ _ _ => rfl) fun _ _ hf => .inl hf))))
 | none =>
  refine ifT rfl (nw (cs := [.pointer none, .pointer none, .pointer none, .pointer none, .pointer none, .pointer none, .pointer none, .pointer none]) fun v1 hz e1 hb1 => nilP ?_)
  have hp := h.hd.lt
  refine (e1.blk h.hd id).s0 (by simp; omega) fun v2 o2 hb2 => ?_
  have hset : (Value.bool true :: (List.range 16).map fun i => ptr (M i)).set (1 + i) (.pointer (some ⟨σ.size, 0, none⟩)) = .bool true :: (List.range 16).map fun j => ptr (upd M i (some σ.size) j) := by
   rw [Nat.add_comm, List.set_cons_succ, map_range_set]
   congr 1
   apply List.map_congr_left
   intro j _
   simp only [upd]
   split <;> rfl
  rw [hset] at hb2
  have old : ∀ {b : Nat} {cs : List Value}, Blk σ b cs -> b ≠ p -> Blk v2 b cs := fun hb hn => only_blk o2 (e1.blk hb id) hn
  have h2 : PmS v2 (Grow F σ) p (upd M i (some σ.size)) Lf ow := by
   refine ⟨hb2, fun j q hj hq => ?_, fun j hj hq => ?_, fun k q hk hq => old (h.leaf k q hk hq) (h.fl k q hk hq).2, h.leafN, .inl h.fp, fun j q hj hq => ?_, fun k q hk hq => ⟨.inl (h.fl k q hk hq).1, (h.fl k q hk hq).2⟩, fun j k q hj hk hq1 hq2 => ?_, h.ll, fun j k q hj hk hq => ?_⟩
   ·by_cases hji : j = i
    ·subst hji
     rw [upd_self] at hq; cases hq
     have hn := h.midN j hj hM
     have : ((List.range 8).map fun k => ptr (Lf (8 * j + k))) = [.pointer none, .pointer none, .pointer none, .pointer none, .pointer none, .pointer none, .pointer none, .pointer none] := by
      have : ((List.range 8).map fun k => ptr (Lf (8 * j + k))) = (List.range 8).map fun _ => Value.pointer none := by
       apply List.map_congr_left
       intro k hk
       rw [List.mem_range] at hk
       rw [hn k hk]; rfl
      rw [this]; rfl
     rw [this]
     exact only_blk o2 hb1 (by omega)
    ·rw [upd_ne _ _ hji] at hq
     exact old (h.mid j q hj hq) (h.fm j q hj hq).2
   ·by_cases hji : j = i
    ·subst hji; rw [upd_self] at hq; cases hq
    ·rw [upd_ne _ _ hji] at hq; exact h.midN j hj hq
   ·by_cases hji : j = i
    ·subst hji; rw [upd_self] at hq; cases hq; exact ⟨.inr (Nat.le_refl _), by omega⟩
    ·rw [upd_ne _ _ hji] at hq; exact ⟨.inl (h.fm j q hj hq).1, (h.fm j q hj hq).2⟩
   ·by_cases hji : j = i
    ·by_cases hki : k = i
     ·omega
     ·subst hji; rw [upd_self] at hq1; cases hq1
      rw [upd_ne _ _ hki] at hq2
      have := (h.mid k _ hk hq2).lt; omega
    ·rw [upd_ne _ _ hji] at hq1
     by_cases hki : k = i
     ·subst hki; rw [upd_self] at hq2; cases hq2
      have := (h.mid j _ hj hq1).lt; omega
     ·rw [upd_ne _ _ hki] at hq2; exact h.mm j k q hj hk hq1 hq2
   ·by_cases hji : j = i
    ·subst hji; rw [upd_self] at hq; cases hq
     intro hl; have := (h.leaf k _ hk hl).lt; omega
    ·rw [upd_ne _ _ hji] at hq; exact h.ml j k q hj hk hq
  refine nilP (h2.rM hi ?_)
  rw [upd_self]
  exact hR v2 _ σ.size (e1.to.trans (o2.ext.sub fun b hb => hb ▸ h.fp)) (upd_self _ _ _) h2
theorem leaf_there (h : PmS σ F p M Lf ow) {i j q : Nat} (hi : i < 16) (hj : j < 8) (hq : M i = some q) {R : Option Addr -> Hp -> Prop}
 (hR : ∀ σ' L' r, Ext F σ σ' -> L' (8 * i + j) = some r -> PmS σ' (Grow F σ) p M L' ow -> R (some ⟨r, 0, none⟩) σ') : pagemap_there_pagemap_leaf.call (some ⟨q, j, none⟩) σ R := by
 refine pagemap_there_pagemap_leaf.of_vc ?_
 unfold pagemap_there_pagemap_leaf.vc
 have hk : 8 * i + j < 128 := by omega
 refine Jn.intro (nilP (h.rL hi hq hj ?_))
 cases hL : Lf (8 * i + j) with
 | some r => exact ifF rfl (nilP (h.rL hi hq hj (by rw [hL]; exact hR σ Lf r (Ext.refl _ _) hL (h.move (fun _ _ _ => rfl) fun _ _ hf => .inl hf))))
 | none =>
  refine ifT rfl (nw (cs := [.int .i64 0, .int .i64 0, .int .i64 0, .int .i64 0, .int .i64 0, .int .i64 0, .int .i64 0, .int .i64 0]) fun v1 hz e1 hb1 => nilP ?_)
  have hm := h.mid i q hi hq
  have hql := hm.lt
  have hf := h.fm i q hi hq
  refine (e1.blk hm id).s0 (by simp; omega) fun v2 o2 hb2 => ?_
  have old : ∀ {b : Nat} {cs : List Value}, Blk σ b cs -> b ≠ q -> Blk v2 b cs := fun hb hn => only_blk o2 (e1.blk hb id) hn
  have h2 : PmS v2 (Grow F σ) p M (upd Lf (8 * i + j) (some σ.size)) ow := by
   refine ⟨old h.hd (Ne.symm hf.2), fun i' q' hi' hq' => ?_, fun i' hi' hq' j' hj' => ?_, fun k r hk' hr => ?_, fun k hk' hr => ?_, .inl h.fp, fun i' q' hi' hq' => ⟨.inl (h.fm i' q' hi' hq').1, (h.fm i' q' hi' hq').2⟩, fun k r hk' hr => ?_, h.mm, fun k k' r hk1 hk2 hr1 hr2 => ?_, fun i' k q' hi' hk' hq' => ?_⟩
   ·by_cases hii : i' = i
    ·subst hii
     rw [hq] at hq'; cases hq'
     rw [map_range_set] at hb2
     have : ((List.range 8).map (upd (fun j => ptr (Lf (8 * i' + j))) j (.pointer (some ⟨σ.size, 0, none⟩)))) = (List.range 8).map fun k => ptr (upd Lf (8 * i' + j) (some σ.size) (8 * i' + k)) := by
      apply List.map_congr_left
      intro k _
      simp only [upd]
      by_cases hkj : k = j
      ·subst hkj; simp [ptr]
      ·have : ¬ 8 * i' + k = 8 * i' + j := by omega
       simp [hkj, this]
     rw [this] at hb2; exact hb2
    ·have hne : q' ≠ q := fun e => by subst e; exact hii (h.mm i' i q' hi' hi hq' hq)
     have := old (h.mid i' q' hi' hq') hne
     have e : ((List.range 8).map fun k => ptr (upd Lf (8 * i + j) (some σ.size) (8 * i' + k))) = (List.range 8).map fun k => ptr (Lf (8 * i' + k)) := by
      apply List.map_congr_left
      intro k hk'
      rw [List.mem_range] at hk'
      rw [upd_ne _ _ (by omega)]
     rw [e]; exact this
   ·have hne : i' ≠ i := fun e => by subst e; rw [hq] at hq'; cases hq'
    rw [upd_ne _ _ (by omega)]
    exact h.midN i' hi' hq' j' hj'
   ·by_cases hkk : k = 8 * i + j
    ·subst hkk
     rw [upd_self] at hr; cases hr
     have hn := h.leafN _ hk hL
     have : ((List.range 8).map fun j' => Value.int .i64 ((ow (8 * (8 * i + j) + j') : Nat) : Int)) = [.int .i64 0, .int .i64 0, .int .i64 0, .int .i64 0, .int .i64 0, .int .i64 0, .int .i64 0, .int .i64 0] := by
      have : ((List.range 8).map fun j' => Value.int .i64 ((ow (8 * (8 * i + j) + j') : Nat) : Int)) = (List.range 8).map fun _ => Value.int .i64 0 := by
       apply List.map_congr_left
       intro k hk'
       rw [List.mem_range] at hk'
       rw [hn k hk']; rfl
      rw [this]; rfl
     rw [this]
     exact only_blk o2 hb1 (by omega)
    ·rw [upd_ne _ _ hkk] at hr
     exact old (h.leaf k r hk' hr) fun e => by subst e; exact h.ml i k r hi hk' hq hr
   ·by_cases hkk : k = 8 * i + j
    ·subst hkk; rw [upd_self] at hr; cases hr
    ·rw [upd_ne _ _ hkk] at hr; exact h.leafN k hk' hr
   ·by_cases hkk : k = 8 * i + j
    ·subst hkk; rw [upd_self] at hr; cases hr
     have := h.hd.lt
     exact ⟨.inr (Nat.le_refl _), by omega⟩
    ·rw [upd_ne _ _ hkk] at hr; exact ⟨.inl (h.fl k r hk' hr).1, (h.fl k r hk' hr).2⟩
   ·by_cases e1' : k = 8 * i + j
    ·by_cases e2' : k' = 8 * i + j
     ·omega
     ·subst e1'; rw [upd_self] at hr1; cases hr1
      rw [upd_ne _ _ e2'] at hr2
      have := (h.leaf k' _ hk2 hr2).lt; omega
    ·rw [upd_ne _ _ e1'] at hr1
     by_cases e2' : k' = 8 * i + j
     ·subst e2'; rw [upd_self] at hr2; cases hr2
      have := (h.leaf k _ hk1 hr1).lt; omega
     ·rw [upd_ne _ _ e2'] at hr2; exact h.ll k k' r hk1 hk2 hr1 hr2
   ·by_cases hkk : k = 8 * i + j
    ·subst hkk; rw [upd_self]
     intro e; cases e
     have := (h.mid i' _ hi' hq').lt; omega
    ·rw [upd_ne _ _ hkk]; exact h.ml i' k q' hi' hk' hq'
  refine nilP (h2.rL hi hq hj ?_)
  rw [upd_self]
  exact hR v2 _ σ.size (e1.to.trans (o2.ext.sub fun b hb => hb ▸ hf.1)) (upd_self _ _ _) h2
end Go.Ar
namespace Go.Ar
open Go Go.Vc Go.Proofs
open Go.Bu (runOk)


variable {σ : Hp} {F : Rg} {p : Nat} {M Lf : Nat -> Option Nat} {ow : Nat -> Nat}
theorem leaf_set (h : PmS σ F p M Lf ow) {k r j no : Nat} (hk : k < 128) (hr : Lf k = some r) (hj : j < 8) {σ' : Hp} (ho : OnlyB σ σ' r) (hb : Blk σ' r (((List.range 8).map fun j => Value.int .i64 ((ow (8 * k + j) : Nat) : Int)).set j (.int .i64 (no : Int)))) :
 PmS σ' F p M Lf (upd ow (8 * k + j) no) := by
 refine ⟨only_blk ho h.hd (Ne.symm (h.fl k r hk hr).2), fun i q hi hq => only_blk ho (h.mid i q hi hq) fun e => by subst e; exact h.ml i k q hi hk hq hr, h.midN, fun k' r' hk' hr' => ?_, fun k' hk' hr' j' hj' => ?_, h.fp, h.fm, h.fl, h.mm, h.ll, h.ml⟩
 ·by_cases hkk : k' = k
  ·subst hkk
   rw [hr] at hr'; cases hr'
   rw [map_range_set] at hb
   have : ((List.range 8).map (upd (fun j => Value.int .i64 ((ow (8 * k' + j) : Nat) : Int)) j (.int .i64 (no : Int)))) = (List.range 8).map fun j' => Value.int .i64 ((upd ow (8 * k' + j) no (8 * k' + j') : Nat) : Int) := by
    apply List.map_congr_left
    intro a _
    simp only [upd]
    by_cases haj : a = j
    ·subst haj; simp
    ·have : ¬ 8 * k' + a = 8 * k' + j := by omega
     simp [haj, this]
   rw [this] at hb; exact hb
  ·have hne : r' ≠ r := fun e => by subst e; exact hkk (h.ll k' k r' hk' hk hr' hr)
   have := only_blk ho (h.leaf k' r' hk' hr') hne
   have e : ((List.range 8).map fun a => Value.int .i64 ((upd ow (8 * k + j) no (8 * k' + a) : Nat) : Int)) = (List.range 8).map fun a => Value.int .i64 ((ow (8 * k' + a) : Nat) : Int) := by
    apply List.map_congr_left
    intro a ha
    rw [List.mem_range] at ha
    rw [upd_ne _ _ (by omega)]
   rw [e]; exact this
 ·have hne : k' ≠ k := fun e => by subst e; rw [hr] at hr'; cases hr'
  rw [upd_ne _ _ (by omega)]
  exact h.leafN k' hk' hr' j' hj'
theorem leaf_drop (h : PmS σ F p M Lf ow) {i j q : Nat} (hi : i < 16) (hj : j < 8) (hq : M i = some q) (hz : ∀ a, a < 8 -> ow (8 * (8 * i + j) + a) = 0) {σ' : Hp} (ho : OnlyB σ σ' q) (hb : Blk σ' q (((List.range 8).map fun j => ptr (Lf (8 * i + j))).set j (.pointer none))) :
 PmS σ' F p M (upd Lf (8 * i + j) none) ow := by
 have hf := h.fm i q hi hq
 refine ⟨only_blk ho h.hd (Ne.symm hf.2), fun i' q' hi' hq' => ?_, fun i' hi' hq' j' hj' => ?_, fun k r hk hr => ?_, fun k hk hr => ?_, h.fp, h.fm, fun k r hk hr => ?_, h.mm, fun k k' r hk1 hk2 hr1 hr2 => ?_, fun i' k q' hi' hk' hq' => ?_⟩
 ·by_cases hii : i' = i
  ·subst hii
   rw [hq] at hq'; cases hq'
   rw [map_range_set] at hb
   have : ((List.range 8).map (upd (fun j => ptr (Lf (8 * i' + j))) j (.pointer none))) = (List.range 8).map fun k => ptr (upd Lf (8 * i' + j) none (8 * i' + k)) := by
    apply List.map_congr_left
    intro k _
    simp only [upd]
    by_cases hkj : k = j
    ·subst hkj; simp [ptr]
    ·have : ¬ 8 * i' + k = 8 * i' + j := by omega
     simp [hkj, this]
   rw [this] at hb; exact hb
  ·have hne : q' ≠ q := fun e => by subst e; exact hii (h.mm i' i q' hi' hi hq' hq)
   have := only_blk ho (h.mid i' q' hi' hq') hne
   have e : ((List.range 8).map fun k => ptr (upd Lf (8 * i + j) none (8 * i' + k))) = (List.range 8).map fun k => ptr (Lf (8 * i' + k)) := by
    apply List.map_congr_left
    intro k hk'
    rw [List.mem_range] at hk'
    rw [upd_ne _ _ (by omega)]
   rw [e]; exact this
 ·simp only [upd]
  split
  ·rfl
  ·exact h.midN i' hi' hq' j' hj'
 ·by_cases hkk : k = 8 * i + j
  ·subst hkk; rw [upd_self] at hr; cases hr
  ·rw [upd_ne _ _ hkk] at hr
   exact only_blk ho (h.leaf k r hk hr) fun e => by subst e; exact h.ml i k r hi hk hq hr
 ·by_cases hkk : k = 8 * i + j
  ·subst hkk; exact hz
  ·rw [upd_ne _ _ hkk] at hr; exact h.leafN k hk hr
 ·by_cases hkk : k = 8 * i + j
  ·subst hkk; rw [upd_self] at hr; cases hr
  ·rw [upd_ne _ _ hkk] at hr; exact h.fl k r hk hr
 ·by_cases e1' : k = 8 * i + j
  ·subst e1'; rw [upd_self] at hr1; cases hr1
  ·rw [upd_ne _ _ e1'] at hr1
   by_cases e2' : k' = 8 * i + j
   ·subst e2'; rw [upd_self] at hr2; cases hr2
   ·rw [upd_ne _ _ e2'] at hr2; exact h.ll k k' r hk1 hk2 hr1 hr2
 ·by_cases hkk : k = 8 * i + j
  ·subst hkk; rw [upd_self]; intro e; cases e
  ·rw [upd_ne _ _ hkk]; exact h.ml i' k q' hi' hk' hq'
theorem mid_drop (h : PmS σ F p M Lf ow) {i : Nat} (hi : i < 16) (hz : ∀ j, j < 8 -> Lf (8 * i + j) = none) {σ' : Hp} (ho : OnlyB σ σ' p) (hb : Blk σ' p ((Value.bool true :: (List.range 16).map fun i => ptr (M i)).set (1 + i) (.pointer none))) :
 PmS σ' F p (upd M i none) Lf ow := by
 have hset : (Value.bool true :: (List.range 16).map fun i => ptr (M i)).set (1 + i) (.pointer none) = .bool true :: (List.range 16).map fun j => ptr (upd M i none j) := by
  rw [Nat.add_comm, List.set_cons_succ, map_range_set]
  congr 1
  apply List.map_congr_left
  intro j _
  simp only [upd]
  split <;> rfl
 rw [hset] at hb
 have un : ∀ {j q}, upd M i none j = some q -> M j = some q := fun {j q} hq => by
  by_cases hji : j = i
  ·subst hji; rw [upd_self] at hq; cases hq
  ·rwa [upd_ne _ _ hji] at hq
 refine ⟨hb, fun j q hj hq => only_blk ho (h.mid j q hj (un hq)) (h.fm j q hj (un hq)).2, fun j hj hq => ?_, fun k q hk hq => only_blk ho (h.leaf k q hk hq) (h.fl k q hk hq).2, h.leafN, h.fp, fun j q hj hq => h.fm j q hj (un hq), h.fl, fun a b q ha hb h1 h2 => h.mm a b q ha hb (un h1) (un h2), h.ll, fun a k q ha hk hq => h.ml a k q ha hk (un hq)⟩
 by_cases hji : j = i
 ·subst hji; exact hz
 ·rw [upd_ne _ _ hji] at hq; exact h.midN j hj hq
theorem put_ok (h : PmH σ F p ow) {x no : Nat} (hx : x < 1024) {R : Hp -> Prop} (hR : ∀ σ', Ext F σ σ' -> PmH σ' (Grow F σ) p (upd ow x no) -> R σ') : pagemap_Map_put.call (some ⟨p, 0, none⟩) (x : Int) (no : Int) σ R := by
 refine pagemap_Map_put.of_vc ?_
 unfold pagemap_Map_put.vc
 obtain ⟨M, Lf, h⟩ := h
 have t1 : ((x : Int).tdiv 8) = ((x / 8 : Nat) : Int) := by rw [tdiv_nn (by omega)]; simp
 have t2 : (((x / 8 : Nat) : Int).tdiv 8) = ((x / 8 / 8 : Nat) : Int) := by rw [tdiv_nn (by omega)]; simp
 have t3 : (((x / 8 : Nat) : Int).tmod 8) = ((x / 8 % 8 : Nat) : Int) := by rw [tmod_nn (by omega)]; simp
 have t4 : ((x : Int).tmod 8) = ((x % 8 : Nat) : Int) := by rw [tmod_nn (by omega)]; simp
 have hk : 8 * (x / 8 / 8) + x / 8 % 8 = x / 8 := by omega
 have hk2 : 8 * (x / 8) + x % 8 = x := by omega
 refine nz (by decide) (arN t1 (by omega) (nz (by decide) (arN t2 (by omega) (nilP ?_))))
 refine ixA (by omega) ?_
 rw [add_lit, add_lit, Nat.zero_add, Nat.mul_one]
 refine mid_there h (by omega) fun v1 M1 q e1 hq h1 => ?_
 refine nz (by decide) (arN t1 (by omega) (nz (by decide) (nilP ?_)))
 rw [t3]
 refine ixA (by omega) ?_
 rw [add_lit, Nat.zero_add, Nat.mul_one]
 refine leaf_there h1 (by omega) (by omega) hq fun v2 L2 r e2 hr h2 => ?_
 rw [hk] at hr
 have e02 : Ext F σ v2 := e1.growT e2
 refine nz (by decide) (nilP ?_)
 rw [t4]
 refine ixA (by omega) ?_
 rw [add_lit, Nat.zero_add, Nat.mul_one]
 have hkl : x / 8 < 128 := by omega
 refine (h2.leaf _ r hkl hr).s0 (by simp; omega) fun v3 o3 b3 => ?_
 have h3 := leaf_set h2 hkl hr (by omega) o3 b3
 rw [hk2] at h3
 have grow2 : ∀ b, Grow (Grow F σ) v1 b -> Grow F σ b := fun b hb => by
  rcases hb with h | h
  ·exact h
  ·exact .inr (Nat.le_trans e1.1 h)
 have e03 : Ext F σ v3 := e02.newT o3.ext fun b hb => by subst hb; exact grow2 _ (h2.fl _ _ hkl hr).1
 have tail : ∀ v L4, Ext F σ v -> PmS v (Grow (Grow F σ) v1) p M1 L4 (upd ow x no) →
  (NilP (some ⟨q, 0, none⟩) fun a41 => LdP (a41.add 0) v fun t42 => LdP (a41.add 1) v fun t421 => LdP (a41.add 2) v fun t422 => LdP (a41.add 3) v fun t423 => LdP (a41.add 4) v fun t424 => LdP (a41.add 5) v fun t425 => LdP (a41.add 6) v fun t426 => LdP (a41.add 7) v fun t427 =>
   If (t42.isNone && (t421.isNone && (t422.isNone && (t423.isNone && (t424.isNone && (t425.isNone && (t426.isNone && (t427.isNone && true)))))))) (Nz 8 <| Ar .i64 ((x : Int).tdiv 8) fun t47 => Nz 8 <| Ar .i64 (t47.tdiv 8) fun t48 => NilP (some ⟨p, 0, none⟩) fun a49 => IxA (a49.add 1) 16 t48 1 fun a51 => St1 a51 (.pointer none) v fun v4 => R v4) (R v)) := by
  intro v L4 ev h4
  have hm := h4.mid _ q (by omega) hq
  have g : ∀ j, j < 8 -> ((List.range 8).map fun j => ptr (L4 (8 * (x / 8 / 8) + j)))[0 + j]? = some (.pointer ((L4 (8 * (x / 8 / 8) + j)).map fun q => ⟨q, 0, none⟩)) := fun j hj => by rw [Nat.zero_add, map_range_get _ hj]; rfl
  refine nilP (hm.rP (g 0 (by omega)) (hm.rP (g 1 (by omega)) (hm.rP (g 2 (by omega)) (hm.rP (g 3 (by omega)) (hm.rP (g 4 (by omega)) (hm.rP (g 5 (by omega)) (hm.rP (g 6 (by omega)) (hm.rP (g 7 (by omega)) ?_))))))))
  have fin : ∀ w, Ext F σ w -> PmH w (Grow (Grow F σ) v1) p (upd ow x no) -> R w := fun w ew hw => hR w ew (PmH.loc.mono hw fun b _ hb => grow2 b hb)
  refine iff_ (fun hall => ?_) fun _ => fin v ev ⟨_, _, h4⟩
  have hz : ∀ j, j < 8 -> L4 (8 * (x / 8 / 8) + j) = none := by
   simp only [Option.isNone_map, Bool.and_true, Bool.and_eq_true, Option.isNone_iff_eq_none] at hall
   intro j hj
   obtain ⟨a0, a1, a2, a3, a4, a5, a6, a7⟩ := hall
   match j, hj with
   | 0, _ => exact a0
   | 1, _ => exact a1
   | 2, _ => exact a2
   | 3, _ => exact a3
   | 4, _ => exact a4
   | 5, _ => exact a5
   | 6, _ => exact a6
   | 7, _ => exact a7
  refine nz (by decide) (arN t1 (by omega) (nz (by decide) (arN t2 (by omega) (nilP ?_))))
  refine ixA (by omega) ?_
  rw [add_lit, add_lit, Nat.zero_add, Nat.mul_one]
  refine h4.hd.s0 (by simp; omega) fun v4 o4 b4 => fin v4 (ev.newT o4.ext fun b hb => by subst hb; exact grow2 _ h4.fp) ⟨_, _, mid_drop h4 (by omega) hz o4 b4⟩
 refine Jn.intro (nilP ?_)
 have hlf := h3.leaf _ r hkl hr
 have g : ∀ j, j < 8 -> ((List.range 8).map fun j => Value.int .i64 ((upd ow x no (8 * (x / 8) + j) : Nat) : Int))[0 + j]? = some (.int .i64 ((upd ow x no (8 * (x / 8) + j) : Nat) : Int)) := fun j hj => by rw [Nat.zero_add, map_range_get _ hj]
 refine hlf.rI (g 0 (by omega)) (hlf.rI (g 1 (by omega)) (hlf.rI (g 2 (by omega)) (hlf.rI (g 3 (by omega)) (hlf.rI (g 4 (by omega)) (hlf.rI (g 5 (by omega)) (hlf.rI (g 6 (by omega)) (hlf.rI (g 7 (by omega)) ?_)))))))
 refine iff_ (fun hall => ?_) fun _ => tail v3 L2 e03 h3
 have hz : ∀ j, j < 8 -> upd ow x no (8 * (8 * (x / 8 / 8) + x / 8 % 8) + j) = 0 := by
  rw [hk]
  simp only [beqN0, Bool.and_true, Bool.and_eq_true, beq_iff_eq] at hall
  intro j hj
  obtain ⟨a0, a1, a2, a3, a4, a5, a6, a7⟩ := hall
  match j, hj with
  | 0, _ => exact a0
  | 1, _ => exact a1
  | 2, _ => exact a2
  | 3, _ => exact a3
  | 4, _ => exact a4
  | 5, _ => exact a5
  | 6, _ => exact a6
  | 7, _ => exact a7
 refine nz (by decide) (arN t1 (by omega) (nz (by decide) (nilP ?_)))
 rw [t3]
 refine ixA (by omega) ?_
 rw [add_lit, Nat.zero_add, Nat.mul_one]
 have hm := h3.mid _ q (by omega) hq
 refine hm.s0 (by simp; omega) fun v5 o5 b5 => ?_
 exact tail v5 _ (e03.newT o5.ext fun b hb => by subst hb; exact grow2 _ (h3.fm _ _ (by omega) hq).1) (leaf_drop h3 (by omega) (by omega) hq hz o5 b5)
def setO (ow : Nat -> Nat) (a m no : Nat) : Nat -> Nat := if runOk 1024 a m then fun p => if a <= p /\ p < a + m then no else ow p else ow
def pmE (a m : Int) : Int := if runOk 1024 a m then 0 else 1
theorem pset_ok (h : PmH σ F p ow) (a m : Int) (ha : -1000000000000 <= a) (ha2 : a <= 1000000000000) (no : Nat) {R : Int -> Hp -> Prop} (h1 : runOk 1024 a m = false -> R 1 σ)
 (hR : ∀ x y : Nat, a = x -> m = y -> 1 <= y -> x + y <= 1024 -> ∀ σ', Ext F σ σ' -> PmH σ' (Grow F σ) p (setO ow x y no) -> R 0 σ') : pagemap_Map_set.call (some ⟨p, 0, none⟩) a m (no : Int) σ R := by
 refine pagemap_Map_set.of_vc ?_
 unfold pagemap_Map_set.vc
 have bad : ¬ (0 <= a /\ 1 <= m /\ m <= 1024 - a) -> R 1 σ := fun hn => h1 (by simp only [runOk, ← Bool.decide_and]; exact decide_eq_false hn)
 refine good_ok h (ifF rfl (JnB.intro (ifD (fun c1 => JnB.intro (ifT rfl (JnB.intro (ifT rfl (ifT rfl (bad (by omega))))))) fun c1 => ?_)))
 refine JnB.intro (ifD (fun c2 => JnB.intro (ifT rfl (ifT rfl (bad (by omega))))) fun c2 => ?_)
 refine JnB.intro (ifD (fun c3 => ifT rfl (bad (by omega))) fun c3 => ar (by omega) (by omega) (ifD (fun c4 => bad (by omega)) fun c4 => ?_))
 obtain ⟨x, rfl⟩ := Int.eq_ofNat_of_zero_le (show 0 <= a by omega)
 obtain ⟨y, rfl⟩ := Int.eq_ofNat_of_zero_le (show 0 <= m by omega)
 have hok : runOk 1024 (x : Int) (y : Int) = true := by simp only [runOk, Bool.and_eq_true, decide_eq_true_eq]; omega
 refine loop1 (a := .i .i64) (fun (t : Int) v => ∃ i : Nat, t = ((x + i : Nat) : Int) /\ i <= y /\ Ext F σ v /\ PmH v (Grow F σ) p (fun z => if x <= z /\ z < x + i then no else ow z)) (fun t _ => x + y - t.toNat) ⟨0, rfl, by omega, Ext.refl _ _, ?_⟩ ?_
 ·have : (fun z => if x <= z /\ z < x + 0 then no else ow z) = ow := by
   funext z; rw [if_neg (by omega)]
  rw [this]; exact PmH.loc.mono h fun b _ hb => .inl hb
 rintro t v ⟨i, rfl, hi, e, hP⟩
 refine arN (m := x + y) (by omega) (by omega) (ifD (fun hlt => ?_) fun hge => ?_)
 ·refine put_ok hP (by omega) fun v5 e5 h5 => arN (m := x + (i + 1)) (by omega) (by omega) ⟨⟨i + 1, rfl, by omega, e.growT e5, ?_⟩, by omega⟩
  refine PmH.congr (PmH.loc.mono h5 fun b _ hb => ?_) fun z hz => ?_
  ·rcases hb with h | h
   ·exact h
   ·exact .inr (Nat.le_trans e.1 h)
  ·simp only [upd]
   by_cases hzi : z = x + i
   ·subst hzi; rw [if_pos rfl, if_pos (by omega)]
   ·rw [if_neg hzi]
    by_cases hin : x <= z /\ z < x + i
    ·rw [if_pos hin, if_pos (by omega)]
    ·rw [if_neg hin, if_neg (by omega)]
 ·have : i = y := by omega
  subst this
  refine hR x i rfl rfl (by omega) (by omega) v e ?_
  unfold setO; rw [hok]; exact hP
theorem PSet_ok (h : PmH σ F p ow) (a m : Nat) (ha : a <= 1000000) {no : Nat} (hno : 1 <= no) (hno2 : no <= 1000) {R : Int -> Hp -> Prop} (hR : ∀ σ', Ext F σ σ' -> PmH σ' (Grow F σ) p (setO ow a m no) -> R (pmE a m) σ') : pagemap_Map_Set.call (some ⟨p, 0, none⟩) a m (no : Int) σ R := by
 refine pagemap_Map_Set.of_vc ?_
 unfold pagemap_Map_Set.vc
 refine good_ok h (JnB.intro (ifT rfl (JnB.intro (ifDF (by omega) (ifDF (by omega) ?_)))))
 refine pset_ok h a m (by omega) (by omega) no (fun hk => ?_) fun x y hx hy h1 h2 σ' e hP => ?_
 ·have := hR σ (Ext.refl _ _) (by unfold setO; rw [hk]; exact PmH.loc.mono h fun b _ hb => .inl hb)
  unfold pmE at this; rw [hk] at this; exact this
 ·have hx' : a = x := by omega
  have hy' : m = y := by omega
  subst hx'; subst hy'
  have hok : runOk 1024 (a : Int) (m : Int) = true := by simp only [runOk, Bool.and_eq_true, decide_eq_true_eq]; omega
  have := hR σ' e hP
  unfold pmE at this; rw [hok] at this; exact this
theorem PClear_ok (h : PmH σ F p ow) (a m : Nat) (ha : a <= 1000000) {R : Int -> Hp -> Prop} (hR : ∀ σ', Ext F σ σ' -> PmH σ' (Grow F σ) p (setO ow a m 0) -> R (pmE a m) σ') : pagemap_Map_Clear.call (some ⟨p, 0, none⟩) a m σ R := by
 refine pagemap_Map_Clear.of_vc ?_
 unfold pagemap_Map_Clear.vc
 refine pset_ok h a m (by omega) (by omega) 0 (fun hk => ?_) fun x y hx hy h1 h2 σ' e hP => ?_
 ·have := hR σ (Ext.refl _ _) (by unfold setO; rw [hk]; exact PmH.loc.mono h fun b _ hb => .inl hb)
  unfold pmE at this; rw [hk] at this; exact this
 ·have hx' : a = x := by omega
  have hy' : m = y := by omega
  subst hx'; subst hy'
  have hok : runOk 1024 (a : Int) (m : Int) = true := by simp only [runOk, Bool.and_eq_true, decide_eq_true_eq]; omega
  have := hR σ' e hP
  unfold pmE at this; rw [hok] at this; exact this
end Go.Ar
namespace Go.Proofs
open Go.Shelf
def Tryz.keysL_ren : Go.Shelf.Ren := ⟨fun | 7 => 258 | 10 => 279 | n => n, fun | 23 => 223 | 26 => 3 | 3 => 4 | 28 => 104 | 0 => 0 | 27 => 103 | 33 => 130 | 4 => 4 | n => n, fun | n => n⟩
theorem Tryz.keysL : Go.Proofs.SlLaysZI.n7 Tryz.prog Tryz.keysL_ren := {
 mixed := by kernel_rfl
 f7 := ⟨Tryz.f258.name, by decide, Tryz.func258.trans (congrArg some (by kernel_rfl))⟩
 f10 := ⟨Tryz.f279.name, by decide, Tryz.func279.trans (congrArg some (by kernel_rfl))⟩
 t0 := Tryz.underlying0
 a0 := Tryz.isAgg0
 z0 := Tryz.sizeOf0
 v0 := Tryz.zeroValue0
 t4 := Tryz.underlying4
 a4 := Tryz.isAgg4
 z4 := Tryz.sizeOf4
 v4 := Tryz.zeroValue4
 t23 := Tryz.underlying223
 a23 := Tryz.isAgg223
 z23 := Tryz.sizeOf223
 v23 := Tryz.zeroValue223
 t26 := Tryz.underlying3
 a26 := Tryz.isAgg3
 z26 := Tryz.sizeOf3
 v26 := Tryz.zeroValue3
 t27 := Tryz.underlying103
 a27 := Tryz.isAgg103
 z27 := Tryz.sizeOf103
 v27 := Tryz.zeroValue103
 t28 := Tryz.underlying104
 a28 := Tryz.isAgg104
 z28 := Tryz.sizeOf104
 v28 := Tryz.zeroValue104
 t33 := Tryz.underlying130
 a33 := Tryz.isAgg130
 z33 := Tryz.sizeOf130
 v33 := Tryz.zeroValue130 }
def Tryz.collL_ren : Go.Shelf.Ren := ⟨fun | 8 => 83 | 11 => 139 | n => n, fun | 26 => 3 | 28 => 104 | 24 => 22 | 0 => 0 | 33 => 130 | 4 => 4 | n => n, fun | n => n⟩
theorem Tryz.collL : Go.Proofs.SlLaysZI.n8 Tryz.prog Tryz.collL_ren := {
 mixed := by kernel_rfl
 f8 := ⟨Tryz.f83.name, by decide, Tryz.func83.trans (congrArg some (by kernel_rfl))⟩
 f11 := ⟨Tryz.f139.name, by decide, Tryz.func139.trans (congrArg some (by kernel_rfl))⟩
 t0 := Tryz.underlying0
 a0 := Tryz.isAgg0
 z0 := Tryz.sizeOf0
 v0 := Tryz.zeroValue0
 t24 := Tryz.underlying22
 a24 := Tryz.isAgg22
 z24 := Tryz.sizeOf22
 v24 := Tryz.zeroValue22
 t26 := Tryz.underlying3
 a26 := Tryz.isAgg3
 z26 := Tryz.sizeOf3
 v26 := Tryz.zeroValue3
 t28 := Tryz.underlying104
 a28 := Tryz.isAgg104
 z28 := Tryz.sizeOf104
 v28 := Tryz.zeroValue104
 i26 := by kernel_rfl }
end Go.Proofs
namespace Go.Bu
open Go Go.Vc Go.Proofs Go.RowKit Go.Maps Go.Sort Go.Shelf


variable {σ : Hp}
def SlF (B : Nat) (h : Hp) (s : Sl) (xs : List Value) : Prop :=
 s.len = xs.length /\ (xs = [] /\ s.a = none ∨ ∃ b cs, B <= b /\ s.a = some ⟨b, 0, none⟩ /\ Blk h b cs /\ ∀ j, j < xs.length -> cs[j]? = xs[j]?)
theorem SlF.ixI {B : Nat} {h : Hp} {s : Sl} {xs : List Int} (hs : SlF B h s (xs.map (Value.int .i64))) {i : Nat} {x : Int} (hx : xs[i]? = some x) {K : Int -> Prop} (hK : K x) :
 Ix s.a s.len (i : Int) 1 fun a => LdI .i64 a h K := by
 have hi : i < xs.length := (List.getElem?_eq_some_iff.1 hx).1
 rcases hs.2 with ⟨h0, _⟩ | ⟨b, cs, _, ha, hb, hc⟩
 ·simp at h0; subst h0; simp at hi
 ·rw [ha]
  refine ix (by omega) (by rw [hs.1]; simp; omega) ?_
  rw [add_lit]
  refine ldI ?_ hK
  rw [hb.cell]
  have := hc i (by simpa using hi)
  simpa [hx] using this
theorem ext0_below {w w' : World} (h : Below w.heap.size w w') : Ext0 w.heap w'.heap := ⟨h.size, fun b hb _ => h.block b hb⟩
theorem io_below {n : Nat} {w w' : World} (h : Below n w w') : IOsame w w' := ⟨h.os, h.tape, h.output, h.size⟩
def keysFn : Nat := Tryz.keysL_ren.f 10
def keysTy : Nat := Tryz.keysL_ren.t 23
theorem keys_ok (m : Option Nat) {R : Fv -> Hp -> Prop} (hR : R ⟨keysFn, #[], #[.pointer (some ⟨σ.size, 0, none⟩)]⟩ (σ.push (.cells #[.map m] keysTy (0, 0)))) :
 maps_Keys_map_int_bool_int_bool.call m σ R := by
 rintro w rfl
 refine (callsIn_wide.1 (AnyZI.keys_in Tryz.keysL Fence.wide 5 trivial rfl m w)).mono ?_
 rintro e w' ⟨rfl, rfl⟩
 exact ⟨⟨rfl, rfl, rfl, Nat.le_of_lt (by show _ < (w.heap.push _).size; simp)⟩, [.func (.func keysFn) #[] #[.pointer (some ⟨w.heap.size, 0, none⟩)]], rfl, ⟨keysFn, #[], #[.pointer (some ⟨w.heap.size, 0, none⟩)]⟩, rfl, hR⟩
def I64 (x : Int) : Prop := -9223372036854775808 <= x /\ x <= 9223372036854775807
theorem owns_of_map {P : Program} {kt : Nat} (hk : P.underlying kt = some (.int .i64)) {w : World} {m : Nat} {c : CK} {B : List (Int × c.T)} (h : MapL w.heap m .i64 c B) (hb : ∀ x ∈ B, I64 x.1) (hs : B.length <= 1000000) :
 ∃ D : DataW Unit, w.ownsMap P kt (fun _ => some (.nil, [])) m B.length D /\ (intKeys D).Perm (B.map (·.1)) /\ Maps.size D = B.length := by
 obtain ⟨es, clk, hr, he, hn, hp, hlt⟩ := h
 have hlen : es.size = B.length := by simpa using congrArg List.length he
 have hkey : ∀ e ∈ es.toList, ∃ x : Int, e.key = .int .i64 x /\ I64 x := by
  intro e hme
  have : (e.key, e.val) ∈ es.toList.map (fun e => (e.key, e.val)) := List.mem_map_of_mem hme
  rw [he] at this
  obtain ⟨y, hy, e2⟩ := List.mem_map.1 this
  simp only [Prod.mk.injEq] at e2
  exact ⟨y.1, e2.1.symm, hb y hy⟩
 have wf : ∀ x : Int, I64 x -> (Lit.int .i64 x).wf = true := by
  rintro x ⟨h1, h2⟩
  simp [Lit.wf, IntKind.min, IntKind.max, IntKind.bits, IntKind.signed]
  omega
 have hrd : ∀ e ∈ es.toList, ∃ x : Int, e.key = .int .i64 x /\ Go.WideElems.rd P kt (fun _ => some ((.nil : DataW Unit), [])) e = some (.int .i64 x, .nil) := by
  intro e hme
  obtain ⟨x, hx, hi⟩ := hkey e hme
  refine ⟨x, hx, ?_⟩
  simp [Go.WideElems.rd, keyOf, hk, hx, mapKey, wf x hi]
 refine ⟨.map ((es.toList.map (Go.WideElems.rg P kt (fun _ => some (.nil, [])))).foldr DataW.insert []), ⟨es, clk, hr, ⟨?_, ⟨fun x hx => hlt x hx, ?_, ?_⟩, fun x hx => ?_⟩, by omega, rfl⟩, ?_, ?_⟩
 ·have : 1000000 <= maxLen := by unfold maxLen; omega
  omega
 ·exact hp.imp (fun h => Nat.ne_of_lt h)
 ·have e3 : es.toList.map (·.key) = (B.map (·.1)).map (Value.int .i64) := by
   have := congrArg (List.map Prod.fst) he
   simpa [List.map_map, Function.comp_def] using this
  rw [e3]
  exact List.Pairwise.map _ (fun a b (hne : a ≠ b) hab => hne (by simpa using hab)) hn
 ·obtain ⟨x1, _, h1⟩ := hrd x hx
  exact ⟨_, h1⟩
 ·simp only [intKeys]
  refine ((Go.WideShapes.sorted_perm _).map _).trans ?_
  rw [List.map_map]
  have : es.toList.map ((fun p => Go.intOf p.1) ∘ Go.WideElems.rg P kt (fun _ => some ((.nil : DataW Unit), []))) = B.map (·.1) := by
   have e3 : es.toList.map (·.key) = (B.map (·.1)).map (Value.int .i64) := by
    have := congrArg (List.map Prod.fst) he
    simpa [List.map_map, Function.comp_def] using this
   have e4 : es.toList.map ((fun p => Go.intOf p.1) ∘ Go.WideElems.rg P kt (fun _ => some ((.nil : DataW Unit), []))) = (es.toList.map (·.key)).map (fun v => match v with | .int _ x => x | _ => 0) := by
    rw [List.map_map]
    apply List.map_congr_left
    intro e hme
    obtain ⟨x, hx, h1⟩ := hrd e hme
    simp [Function.comp, Go.WideElems.rg, h1, hx, Go.intOf]
   rw [e4, e3, List.map_map]
   conv => rhs; rw [← List.map_id (B.map (·.1))]
   rfl
  rw [this]
 ·simp only [Maps.size]
  rw [(Go.WideShapes.sorted_perm _).length_eq]
  simp [hlen]
theorem slF_owns {w : World} {B e n : Nat} {v : Value} {xs : List Value} (h : w.ownsRow B e 1 v n xs) : ∃ s : Sl, v = .slice s.a s.len s.cap /\ SlF B w.heap s xs := by
 obtain ⟨hl, h⟩ := h
 rcases h with ⟨rfl, rfl⟩ | ⟨g, cap, cur, rfl, hb, hg, _, _, hcs, ht⟩
 ·exact ⟨⟨none, 0, 0⟩, rfl, by simp at hl; simp [hl], .inl ⟨by simpa using hl, rfl⟩⟩
 ·refine ⟨⟨some ⟨g, 0, none⟩, n, cap⟩, rfl, by simp at hl; simp [hl], .inr ⟨g, cur.toList, hb, rfl, ⟨e, by simpa using hg⟩, fun j hj => ?_⟩⟩
  rw [← ht, List.getElem?_take, if_pos (by omega)]
theorem keys_seq {w : World} {c m : Nat} {B : List (Int × Bool)} (hc : cell w.heap ⟨c, 0, none⟩ = some (.map (some m))) (hm : MapL w.heap m .i64 .b B) (hb : ∀ x ∈ B, I64 x.1) (hs : B.length <= 1000000) (n : Nat) (hn : 1 <= n) :
 SeqGives Fence.wide n Tryz.prog keysFn #[.pointer (some ⟨c, 0, none⟩)] encZ (fun ss => ss.Perm (B.map (·.1))) B.length w := by
 obtain ⟨D, hD, hp, hsz⟩ := owns_of_map (P := Tryz.prog) Tryz.keysL.t26 hm hb hs
 have hcl : c < w.heap.size := by
  unfold cell at hc
  split at hc
  ·rename_i h; exact (Array.getElem?_eq_some_iff.1 h).1
  ·cases hc
 have := AnyZI.keys_gives (ρ := Tryz.keysL_ren) { Tryz.keysL with } Fence.wide n trivial rfl hn c m B.length D w hcl hc hD
 intro l J W hW hJ hY h0
 rw [hsz] at this
 refine (this l J W hW hJ hY h0).mono ?_
 rintro e W' ⟨he, ss, h1, h2⟩
 exact ⟨he, ss, h1.trans hp, h2⟩
theorem collect_ok {c m : Nat} {B : List (Int × Bool)} (hc : cell σ ⟨c, 0, none⟩ = some (.map (some m))) (hm : MapL σ m .i64 .b B) (hb : ∀ x ∈ B, I64 x.1) (hs : B.length <= 1000000) {R : Sl -> Hp -> Prop}
 (hR : ∀ (s : Sl) (σ' : Hp) (ss : List Int), Ext0 σ σ' -> ss.Perm (B.map (·.1)) -> SlF σ.size σ' s (ss.map (Value.int .i64)) -> R s σ') :
 slices_Collect_int.call ⟨keysFn, #[], #[.pointer (some ⟨c, 0, none⟩)]⟩ σ R := by
 rintro w rfl
 have hseq := keys_seq hc hm hb hs 3 (by omega)
 have hml : B.length <= maxLen := by unfold maxLen; omega
 have cS := AnyZI.collect_in Tryz.collL Fence.wide 5 trivial trivial rfl (by omega) keysFn #[.pointer (some ⟨c, 0, none⟩)] trivial (Tryz.keysL.f10.enters rfl) _ _ hml (by omega) _ hseq
 refine (callsIn_wide.1 cS).mono ?_
 rintro e w' ⟨v, ss, rfl, hp, hrow, hnil, hbe⟩
 obtain ⟨s, rfl, hsl⟩ := slF_owns hrow
 exact ⟨io_below hbe, [.slice s.a s.len s.cap], rfl, s, rfl, hR s _ ss (ext0_below hbe) hp hsl⟩
end Go.Bu
namespace Go.Bu
open Go Go.Vc Go.Proofs


variable {σ : Hp} {p n sb : Nat} {S : Nat -> Bool} {ms : List Nat}
theorem min_ok {B : Nat} {s : Sl} {xs : List Int} (hs : SlF B σ s (xs.map (Value.int .i64))) (hl : xs.length < 1000000000) {m : Int} (hm : m ∈ xs) (hle : ∀ y ∈ xs, m <= y) {R : Int -> Hp -> Prop} (hR : R m σ) : slices_Min_int_int.call s σ R := by
 refine slices_Min_int_int.of_vc ?_
 unfold slices_Min_int_int.vc
 have hlen : s.len = xs.length := by simpa using hs.1
 have hpos : 0 < xs.length := List.length_pos_of_mem hm
 refine Jn.intro (ifDF (by omega) ?_)
 have h0 : xs[0]? = some xs[0] := by simp [hpos]
 refine hs.ixI (i := 0) h0 ?_
 refine loop2 (a := .i .i64) (bb := .i .i64) (fun (c t : Int) h' => ∃ k : Nat, t = (k : Int) /\ k <= xs.length /\ h' = σ /\ c ∈ xs /\ ∀ (j : Nat) (y : Int), j < k -> xs[j]? = some y -> c <= y) (fun _ t _ => xs.length - t.toNat)
  ⟨1, rfl, by omega, rfl, List.getElem_mem _, fun j y hj hy => ?_⟩ ?_
 ·have : j = 0 := by omega
  subst this
  rw [h0] at hy; cases hy; omega
 rintro c t h' ⟨k, rfl, hk, rfl, hc, hall⟩
 refine ifD (fun hlt => ?_) (fun hge => ?_)
 ·have hk' : k < xs.length := by omega
  have hx : xs[k]? = some xs[k] := by simp [hk']
  refine hs.ixI hx (arN (m := k + 1) (by omega) (by omega) ⟨⟨k + 1, rfl, by omega, rfl, ?_, fun j y hj hy => ?_⟩, by omega⟩)
  ·split
   ·exact List.getElem_mem _
   ·exact hc
  ·by_cases e : j = k
   ·subst e
    rw [hx] at hy; cases hy
    split <;> omega
   ·have := hall j y (by omega) hy
    split <;> omega
 ·have : k = xs.length := by omega
  subst this
  obtain ⟨j, hj, e⟩ := List.getElem_of_mem hm
  have h1 := hall j m hj (by simp [hj, e])
  have h2 := hle c hc
  have : c = m := Int.le_antisymm h1 h2
  rw [this]; exact hR
def blocks (n : Nat) (S : Nat -> Bool) (k : Nat) : List Nat := ((List.range n).filter (can S k)).map (· * 2 ^ k)
theorem can_ltn (hb : Bounded S n) {k q : Nat} (hc : can S k q = true) : q < n := by
 have := full_bound hb (can_iff.1 hc).1
 have h1 := Nat.two_pow_pos k
 have h2 : q <= q * 2 ^ k := Nat.le_mul_of_pos_right _ h1
 omega
theorem mem_blocks (hb : Bounded S n) {k x : Nat} : x ∈ blocks n S k ↔ ∃ q, x = q * 2 ^ k /\ can S k q = true := by
 simp only [blocks, List.mem_map, List.mem_filter, List.mem_range]
 constructor
 ·rintro ⟨q, ⟨_, hc⟩, rfl⟩; exact ⟨q, rfl, hc⟩
 ·rintro ⟨q, rfl, hc⟩; exact ⟨q, ⟨can_ltn hb hc, hc⟩, rfl⟩
theorem blocks_sorted (n : Nat) (S : Nat -> Bool) (k : Nat) : (blocks n S k).Pairwise (· < ·) := by
 unfold blocks
 refine List.Pairwise.map _ (fun a b h => Nat.mul_lt_mul_of_pos_right h (Nat.two_pow_pos k)) ?_
 exact List.Pairwise.sublist List.filter_sublist List.pairwise_lt_range
theorem blocks_len (n : Nat) (S : Nat -> Bool) (k : Nat) : (blocks n S k).length = many n S k := by
 simp [blocks, many, List.countP_eq_length_filter]
theorem keys_perm {k : Nat} {B : List (Int × Bool)} (hK : Keys S k B) (hn : (B.map (·.1)).Nodup) (hb : Bounded S n) : (B.map (·.1)).Perm ((blocks n S k).map fun (x : Nat) => (x : Int)) := by
 rw [List.perm_ext_iff_of_nodup hn]
 ·intro x
  simp only [List.mem_map]
  constructor
  ·rintro ⟨⟨x1, x2⟩, hm, rfl⟩
   obtain ⟨_, q, hx, hc⟩ := hK.1 x1 x2 hm
   exact ⟨_, (mem_blocks hb).2 ⟨q, rfl, hc⟩, hx.symm⟩
  ·rintro ⟨y, hy, rfl⟩
   obtain ⟨q, rfl, hc⟩ := (mem_blocks hb).1 hy
   exact ⟨_, hK.2 q hc, rfl⟩
 ·refine List.Pairwise.map _ (fun a b (hlt : a < b) => ?_) (blocks_sorted n S k)
  intro e
  have : a = b := by exact_mod_cast e
  omega
theorem keys_i64 {k : Nat} {B : List (Int × Bool)} (hK : Keys S k B) (hb : Bounded S n) (hn : n <= 1024) : ∀ x ∈ B, I64 x.1 := by
 rintro ⟨x, v⟩ hx
 obtain ⟨_, q, rfl, hc⟩ := hK.1 x v hx
 have := full_bound hb (can_iff.1 hc).1
 have := Nat.two_pow_pos k
 constructor <;> simp only <;> omega
theorem no_blocks (h : BH σ p n S sb ms) {k : Nat} (hk : ms.length <= k) : blocks n S k = [] := by
 rw [List.eq_nil_iff_forall_not_mem]
 intro x hx
 obtain ⟨q, _, hc⟩ := (mem_blocks h.bnd).1 hx
 have := h.fits (full_bound h.bnd (can_iff.1 hc).1)
 omega
theorem push_cell {h : Hp} {v : Value} {e : Nat} : cell (h.push (.cells #[v] e (0, 0))) ⟨h.size, 0, none⟩ = some v := by simp [cell]
theorem ext_push (h : Hp) (o : Obj) : Ext0 h (h.push o) := Ext.push _ _ _
def isPow (a : Int) : Bool := (List.range 11).any fun k => a == ((2 ^ k : Nat) : Int)
theorem pow_table : (List.range 1025).all (fun a => a == 0 || ((a &&& (a - 1)) == 0) == ((List.range 11).any fun k => a == 2 ^ k)) = true := by decide +kernel
theorem pow_and {a : Nat} (h1 : 1 <= a) (h2 : a <= 1024) : ((a &&& (a - 1)) == 0) = ((List.range 11).any fun k => a == 2 ^ k) := by
 have := List.all_eq_true.1 pow_table a (List.mem_range.2 (by omega))
 simp only [Bool.or_eq_true, beq_iff_eq] at this
 rcases this with h | h
 ·omega
 ·exact h
theorem isPow_nat (a : Nat) : isPow (a : Int) = ((List.range 11).any fun k => a == 2 ^ k) := by
 unfold isPow
 congr 1
 funext k
 rw [Bool.eq_iff_iff]
 simp only [beq_iff_eq]
 exact ⟨fun h => by exact_mod_cast h, fun h => by exact_mod_cast h⟩
def takeArg (pages align : Int) : Bool := decide (1 <= pages) && (decide (pages <= 1024) && (decide (1 <= align) && (decide (align <= 1024) && isPow align)))
def takeFrom (n : Nat) (S : Nat -> Bool) (pages align : Nat) : Nat -> Option Nat
 | 0 => none
 | k + 1 => match takeFrom n S pages align k with
  | some x => some x
  | none => if pages <= 2 ^ k /\ align <= 2 ^ k then (blocks n S k).head? else none
def takeAt (n : Nat) (S : Nat -> Bool) (pages align : Nat) : Option Nat := takeFrom n S pages align 11
def takeE (n : Nat) (S : Nat -> Bool) (pages align : Int) : Int := if takeArg pages align then (match takeAt n S pages.toNat align.toNat with | some _ => 0 | none => 6) else 1
def takeV (n : Nat) (S : Nat -> Bool) (pages align : Int) : Nat := if takeArg pages align then (match takeAt n S pages.toNat align.toNat with | some x => x | none => 0) else 0
def takeS (n : Nat) (S : Nat -> Bool) (pages align : Int) : Nat -> Bool := if takeArg pages align then (match takeAt n S pages.toNat align.toNat with | some x => take S x (x + pages.toNat) | none => S) else S
theorem takeFrom_some {n : Nat} {S : Nat -> Bool} {m a k x : Nat} (h : takeFrom n S m a k = some x) : ∀ j, k <= j -> takeFrom n S m a j = some x := by
 intro j hj
 induction j with
 | zero => have : k = 0 := by omega
           subst this; exact h
 | succ j ih =>
  by_cases e : k = j + 1
  ·subst e; exact h
  ·simp only [takeFrom, ih (by omega)]
theorem takeFrom_none (h : BH σ p n S sb ms) {m a : Nat} (hn : takeFrom n S m a ms.length = none) : ∀ j, ms.length <= j -> takeFrom n S m a j = none := by
 intro j hj
 induction j with
 | zero => have : ms.length = 0 := by omega
           rw [this] at hn; exact hn
 | succ j ih =>
  by_cases e : ms.length = j + 1
  ·rw [← e]; exact hn
  ·simp only [takeFrom, ih (by omega), no_blocks h (show ms.length <= j by omega)]
   simp
theorem head_blocks {k : Nat} (hpos : 0 < many n S k) : ∃ x rest, blocks n S k = x :: rest := by
 rw [← blocks_len] at hpos
 match h : blocks n S k with
 | [] => rw [h] at hpos; simp at hpos
 | x :: r => exact ⟨x, r, rfl⟩
theorem Take_ok (h : BH σ p n S sb ms) (pages align : Int) {R : Int -> Int -> Hp -> Prop}
 (hR : ∀ σ', Ext (· ∈ ms) σ σ' -> BH σ' p n (takeS n S pages align) sb ms -> R ((takeV n S pages align : Nat) : Int) (takeE n S pages align) σ') : buddy_Heap_Take.call (some ⟨p, 0, none⟩) pages align σ R := by
 refine buddy_Heap_Take.of_vc ?_
 unfold buddy_Heap_Take.vc
 have hn2 := h.n2
 have hl := h.len
 have bad : takeArg pages align = false -> R 0 1 σ := fun e => by
  have := hR σ (Ext.refl _ _)
  simp only [takeS, takeV, takeE, e, Bool.false_eq_true, if_false] at this
  exact this h
 have badP : ¬ (1 <= pages /\ pages <= 1024 /\ 1 <= align /\ align <= 1024) -> R 0 1 σ := fun hn => bad (by
  simp only [takeArg, ← Bool.and_assoc, ← Bool.decide_and]
  rw [decide_eq_false]; rfl
  omega)
 refine made_ok h (ifF rfl (JnB.intro ?_))
 refine ifD (fun h1 => JnB.intro (ifT rfl (JnB.intro (ifT rfl (JnB.intro (ifT rfl (ifT rfl (badP (by omega))))))))) fun h1 => ?_
 refine JnB.intro (ifD (fun h2 => JnB.intro (ifT rfl (JnB.intro (ifT rfl (ifT rfl (badP (by omega))))))) fun h2 => ?_)
 refine JnB.intro (ifD (fun h3 => JnB.intro (ifT rfl (ifT rfl (badP (by omega))))) fun h3 => ?_)
 refine JnB.intro (ifD (fun h4 => ifT rfl (badP (by omega))) fun h4 => ?_)
 obtain ⟨a, rfl⟩ := Int.eq_ofNat_of_zero_le (show 0 <= align by omega)
 obtain ⟨m, rfl⟩ := Int.eq_ofNat_of_zero_le (show 0 <= pages by omega)
 refine arN (m := a - 1) (by omega) (by omega) ?_
 rw [bits_and_i64 (by omega) (by omega)]
 have hand : ((((a &&& (a - 1) : Nat) : Int)) != 0) = !isPow (a : Int) := by
  rw [isPow_nat, ← pow_and (by omega) (by omega)]
  simp only [bne, Bool.not_inj_iff]
  rw [Bool.eq_iff_iff]
  simp only [beq_iff_eq]
  omega
 rw [hand]
 cases hp : isPow (a : Int)
 ·refine ifT rfl (bad ?_)
  simp [takeArg, hp]
 refine ifF rfl ?_
 have hok : takeArg (m : Int) (a : Int) = true := by
  simp only [takeArg, hp, Bool.and_true, Bool.and_eq_true, decide_eq_true_eq]
  omega
 refine nilP (h.rB fun cap => ?_)
 refine loop1 (a := .i .i64) (fun t h' => ∃ k : Nat, t = (k : Int) /\ k <= ms.length /\ h' = σ /\ takeFrom n S m a k = none) (fun t _ => ms.length - t.toNat) ⟨0, rfl, by omega, rfl, rfl⟩ ?_
 rintro t h' ⟨k, rfl, hk, rfl, hno⟩
 refine ifD (fun hlt => ?_) (fun hge => ?_)
 ·simp only at hlt
  obtain ⟨mm, hm⟩ := h.get (k := k) (by omega)
  refine h.rM hm (shl1 (by omega) (JnB.intro ?_))
  have next : takeFrom n S m a (k + 1) = none -> Ar .i64 ((k : Int) + 1) fun t67 => (∃ k : Nat, t67 = (k : Int) /\ k <= ms.length /\ h' = h' /\ takeFrom n S m a k = none) /\ ms.length - t67.toNat < ms.length - (k : Int).toNat :=
   fun hno' => arN (m := k + 1) (by omega) (by omega) ⟨⟨k + 1, rfl, by omega, rfl, hno'⟩, by omega⟩
  refine ifD (fun hbig => ?_) (fun hsm => ifF rfl (next ?_))
  ·have hbig' : m <= 2 ^ k /\ a <= 2 ^ k := by
    have : ((if (a : Int) > (m : Int) then (a : Int) else (m : Int)) <= ((2 ^ k : Nat) : Int)) := hbig
    split at this <;> omega
   refine h.mlen hm ?_
   refine ifD (fun hpos => ?_) (fun hz => next ?_)
   ·have hpos' : 0 < many n S k := by omega
    obtain ⟨x, rest, hx⟩ := head_blocks hpos'
    obtain ⟨q, rfl, hc⟩ := (mem_blocks h.bnd (k := k) (x := x)).1 (by rw [hx]; simp)
    have hat : takeAt n S m a = some (q * 2 ^ k) := by
     refine takeFrom_some (k := k + 1) ?_ 11 (by omega)
     simp only [takeFrom, hno, if_pos hbig', hx, List.head?_cons]
    have hfb := full_bound h.bnd (can_iff.1 hc).1
    obtain ⟨B, hB, hkk⟩ := h.maps k mm hm
    have hcount := keys_count hkk hB.nodup h.bnd
    have hle : B.length <= 1024 := by
     rw [hcount]
     have := List.countP_le_length (p := can S k) (l := List.range n)
     simp only [many, List.length_range] at *
     omega
    refine keys_ok _ ?_
    have e1 := ext_push h' (.cells #[.map (some mm)] keysTy (0, 0))
    refine collect_ok push_cell (e1.mapL hB id) (keys_i64 hkk h.bnd h.n2) (by omega) fun s σ' ss e2 hp hsl => ?_
    have hss := hp.trans (keys_perm hkk hB.nodup h.bnd)
    have hsl' := hss.length_eq
    simp only [List.length_map] at hsl'
    rw [blocks_len, ← hcount] at hsl'
    refine min_ok hsl (by omega) (m := ((q * 2 ^ k : Nat) : Int)) (hss.mem_iff.2 (by rw [hx]; simp)) (fun y hy => ?_) ?_
    ·have hy' := hss.mem_iff.1 hy
     have hsorted := blocks_sorted n S k
     rw [hx] at hy' hsorted
     simp only [List.map_cons, List.mem_cons, List.mem_map] at hy'
     rcases hy' with rfl | ⟨z, hz, rfl⟩
     ·omega
     ·have := (List.pairwise_cons.1 hsorted).1 z hz
      omega
    ·have hB2 := (h.keep0 e1).keep0 e2
     refine cut_ok hB2 (by omega) (fun y hy1 hy2 => can_free hc (place_iff.2 (by omega))) fun h3 e3 hB3 => ?_
     have := hR h3 ((e1.to.trans e2.to).trans e3)
     simp only [takeS, takeV, takeE, hok, Int.toNat_natCast, hat, if_true] at this
     exact this hB3
   ·simp only [takeFrom, hno, if_pos hbig']
    have : blocks n S k = [] := List.eq_nil_of_length_eq_zero (by rw [blocks_len]; omega)
    rw [this]; rfl
  ·have hsm' : ¬ (m <= 2 ^ k /\ a <= 2 ^ k) := by
    have : ¬ ((if (a : Int) > (m : Int) then (a : Int) else (m : Int)) <= ((2 ^ k : Nat) : Int)) := hsm
    split at this <;> omega
   simp only [takeFrom, hno, if_neg hsm']
 ·simp only at hge
  have : k = ms.length := by omega
  subst this
  have hat : takeAt n S m a = none := takeFrom_none h hno 11 (by omega)
  have := hR h' (Ext.refl _ _)
  simp only [takeS, takeV, takeE, hok, Int.toNat_natCast, hat, if_true] at this
  exact this h
end Go.Bu
namespace Go.Ar
open Go.Bu


structure AR where
 n : Nat
 room : Nat
 tb : List Cls
 S : Nat -> Bool
 st : List Nat
 ow : Nat -> Nat
 cen : List (List SpA)
 tra : List TrA
 runs : List (Nat × Nat)
def AR.ck (A : AR) (k : Int) : Bool := decide (0 <= k) && decide (k < (A.tb.length : Int))
def back1 (A : AR) (r : Nat × Nat) : AR := { A with ow := setO A.ow r.1 r.2 0, st := turnT A.st r.1 r.2 2 [1], S := giveS A.n A.S r.1 r.2 }
def backA (A : AR) (rs : List (Nat × Nat)) : AR := rs.foldl back1 A
def growStart (sp : Sp) (size : Nat) : Option Nat := ((List.range (sp.st.length / size)).map (· * size)).find? fun s => s != 0 && mapE sp s size == 0
def addHs (st : List Nat) (a m : Nat) : List Nat := ((List.range m).map (a + ·)).foldl (fun l (h : Nat) => addT l h) st
def growA (A : AR) (sp : Sp) (size : Nat) : Option (AR × Sp) := match growStart sp size with
 | none => none
 | some s => some ({ A with st := addHs A.st (s / 16) (size / 16), S := giveS A.n A.S s size }, mapS sp s size)
def upSize (m : Nat) : Nat := if m <= 16 then 16 else if m <= 32 then 32 else 64
def useA (A : AR) (x pages no : Nat) : AR := { A with S := take A.S x (x + pages), st := turnT A.st x pages 1 [2, 3], ow := setO A.ow x pages no }
def getA (A : AR) (sp : Sp) (pages align no : Nat) : Option Nat × AR × Sp := match takeAt A.n A.S pages align with
 | some x => (some x, useA A x pages no, sp)
 | none => match growA A sp (upSize (max pages align)) with
  | none => (none, A, sp)
  | some (A', sp') => match takeAt A'.n A'.S pages align with
   | some x => (some x, useA A' x pages no, sp')
   | none => (none, A', sp')
def fromTrE (A : AR) (k : Int) : Int := if A.ck k then (match A.tra[k.toNat]? with
 | some t => if t.bs = [] then 4 else 0
 | none => 5) else 1
def fromTrV (A : AR) (k : Int) : List Int := if fromTrE A k = 0 then (match A.tra[k.toNat]? with
 | some t => t.bs.getLast?.getD []
 | none => []) else []
def fromTrS (A : AR) (k : Int) : AR := if fromTrE A k = 0 then { A with tra := A.tra.modify k.toNat TrA.rem } else A
def toTrE (A : AR) (k : Int) (xs : List Int) : Int := if A.ck k then (match A.tb[k.toNat]?, A.cen[k.toNat]? with
 | some c, some ss => if xs.length = c.batch then (if xs.all (fun x => isTk c ss x == some true) then 0 else 8) else 1
 | _, _ => 5) else 1
def toTrV (A : AR) (k : Int) (xs : List Int) : Bool := decide (toTrE A k xs = 0) && (match A.tra[k.toNat]? with
 | some t => decide (t.bs.length < A.room)
 | none => false)
def toTrS (A : AR) (k : Int) (xs : List Int) : AR := if toTrV A k xs then { A with tra := A.tra.modify k.toNat fun t => { t with bs := t.bs ++ [xs] } } else A
def fromCenE (A : AR) (k m : Int) : Int := if A.ck k then (if m < 0 then 1 else 0) else 1
def fromCenR (A : AR) (k m : Int) : List Nat × List SpA := match A.tb[k.toNat]?, A.cen[k.toNat]? with
 | some c, some ss => takeC c m.toNat ss
 | _, _ => ([], [])
def fromCenV (A : AR) (k m : Int) : List Nat := if fromCenE A k m = 0 then (fromCenR A k m).1 else []
def fromCenS (A : AR) (k m : Int) : AR := if fromCenE A k m = 0 then { A with cen := A.cen.set k.toNat (fromCenR A k m).2 } else A
def toCenE (A : AR) (k : Int) (xs : List Int) : Int := if A.ck k then (match A.tb[k.toNat]?, A.cen[k.toNat]? with
 | some c, some ss => putE c ss xs
 | _, _ => 5) else 1
def toCenS (A : AR) (k : Int) (xs : List Int) : AR := if toCenE A k xs = 0 then (match A.tb[k.toNat]?, A.cen[k.toNat]? with
 | some c, some ss => backA { A with cen := A.cen.set k.toNat (sweep (xs.foldl (put1 c) ss)) } ((swept (xs.foldl (put1 c) ss)).map fun s => (s, c.pages))
 | _, _ => A) else A
def growE (A : AR) (sp : Sp) (k : Int) : Int := if A.ck k then (match A.tb[k.toNat]?, A.cen[k.toNat]? with
 | some c, some ss => (match (getA A sp c.pages 1 (k.toNat + 1)).1 with
  | some x => addSE c ss x
  | none => 6)
 | _, _ => 5) else 1
def growS (A : AR) (sp : Sp) (k : Int) : AR × Sp := if A.ck k then (match A.tb[k.toNat]?, A.cen[k.toNat]? with
 | some c, some ss => (match getA A sp c.pages 1 (k.toNat + 1) with
  | (some x, A', sp') => (if addSE c ss x = 0 then { A' with cen := A'.cen.set k.toNat (addS c ss x) } else A', sp')
  | (none, A', sp') => (A', sp'))
 | _, _ => (A, sp)) else (A, sp)
def pagesOk (m a : Int) : Bool := decide (1 <= m) && (decide (m <= 64) && (a == 1 || (a == 2 || (a == 4 || (a == 8 || a == 16)))))
def takeAE (A : AR) (sp : Sp) (m a : Int) : Int := if pagesOk m a then (if (getA A sp m.toNat a.toNat 41).1.isSome then 0 else 6) else 1
def takeAV (A : AR) (sp : Sp) (m a : Int) : Nat := if pagesOk m a then (getA A sp m.toNat a.toNat 41).1.getD 0 else 0
def takeAS (A : AR) (sp : Sp) (m a : Int) : AR × Sp := if pagesOk m a then (match getA A sp m.toNat a.toNat 41 with
 | (some x, A', sp') => ({ A' with runs := mset2 A'.runs x m.toNat }, sp')
 | (none, A', sp') => (A', sp')) else (A, sp)
where mset2 (l : List (Nat × Nat)) (x m : Nat) : List (Nat × Nat) := if l.any (fun r => r.1 == x) then l.map (fun r => if r.1 == x then (x, m) else r) else l ++ [(x, m)]
def runAt (A : AR) (x : Int) : Option (Nat × Nat) := A.runs.find? fun r => (r.1 : Int) == x
def giveAE (A : AR) (x : Int) : Int := if (runAt A x).isSome then 0 else 8
def giveAS (A : AR) (x : Int) : AR := match runAt A x with
 | some r => back1 { A with runs := A.runs.filter fun q => !((q.1 : Int) == x) } r
 | none => A
def runOf (A : AR) (p : Nat) : Option (Nat × Nat) := A.runs.find? fun r => decide (r.1 <= p) && decide (p < r.1 + r.2)
def findA (A : AR) (x : Int) : Option (Int × Nat) := if x < 0 then none else
 let p := x.toNat / 256
 let no := if p < 1024 then A.ow p else 0
 if no = 0 then none else if no = 41 then (runOf A p).map fun r => (-1, r.1 * 256) else
 match A.tb[no - 1]?, A.cen[no - 1]? with
 | some c, some ss => (findC c ss x).map fun a => (((no - 1 : Nat) : Int), a)
 | _, _ => none
def ownsA (A : AR) (p : Int) : Bool := decide (0 <= p) && decide (A.st.getD p.toNat 0 ≠ 0)
end Go.Ar
namespace Go.Ar
open Go.Vc (mget mset mdel)


inductive Ph where
 | take (k : Nat)
 | transfer (k w : Nat)
 | central (k w : Nat)
 | grow (k w : Nat)
 | fill
 | large (m : Nat)
 | find (x : Int)
 | put (k : Nat) (x : Int)
 | back
 | give (s a : Int)
 | drain
 deriving DecidableEq
structure Th where
 ls : List Li
 hands : List Bt
 ph : Option Ph
structure Cf where
 pages : Nat
 arenas : Nat
 threads : Nat
 budget : Nat
 room : Nat
abbrev Bk := Int × Int × Int × Int
structure Hw where
 tb : List Cls
 cf : Cf
 sp : Sp
 ars : List AR
 ths : List Th
 live : List (Int × Bk)
def ownerH (ars : List AR) (x : Int) : Int := if x < 0 then -1 else match ars.findIdx? (fun A => ownsA A (x / 256)) with
 | some i => (i : Int)
 | none => -1
def Hw.own (H : Hw) (t : Nat) : Nat := t % H.ars.length
def Hw.setT (H : Hw) (t : Nat) (f : Th -> Th) : Hw := { H with ths := H.ths.modify t f }
def Hw.setA (H : Hw) (k : Nat) (A : AR) : Hw := { H with ars := H.ars.set k A }
def bornH (H : Hw) (x size cls : Int) : Hw := { H with live := mset H.live x (x, size, cls, ownerH H.ars x) }
def holdH (H : Hw) (t k : Nat) (xs : List Int) : Hw := H.setT t fun h => { h with hands := h.hands ++ [(k, xs)] }
def retH (H : Hw) (t : Nat) : Option Ph := match H.ths[t]? with
 | some h => if h.hands = [] then none else some .back
 | none => none
def partH (ars : List AR) (xs : List Int) (a : Nat) : List Int := xs.filter fun x => ownerH ars x == (a : Int)
def toCens (H : Hw) (k : Nat) (part : Nat -> List Int) (l : List Nat) : Hw := l.foldl (fun H a => match H.ars[a]? with
 | some A => if part a = [] then H else H.setA a (toCenS A (k : Int) (part a))
 | none => H) H
def backH (H : Hw) (own k : Nat) (xs : List Int) : Hw := match H.ars[own]? with
 | some A => if (partH H.ars xs own).length = xs.length /\ toTrV A (k : Int) xs = true then H.setA own (toTrS A (k : Int) xs)
  else toCens (if (partH H.ars xs own).length = xs.length then H.setA own (toTrS A (k : Int) xs) else H) k (partH H.ars xs) (List.range H.ars.length)
 | none => H
abbrev Out := Hw × Option Ph × Int × Int
def whyH (H : Hw) (x : Int) : Int := if 0 <= ownerH H.ars x then (match H.ars[(ownerH H.ars x).toNat]? with
 | some A => (match findA A x with
  | some (k, y) => if 0 <= k /\ (y : Int) = x then 9 else 8
  | none => 8)
 | none => 8) else 8
def findH (H : Hw) (t : Nat) (x : Int) : Out := match mget H.live x with
 | none => (H, none, 0, whyH H x)
 | some b => if b.2.2.1 < 0 then ({ H with live := mdel H.live x }, some (.give (x / 256) b.2.2.2), 0, 0)
  else (holdH { H with live := mdel H.live x } t b.2.2.1.toNat [x], some (.put b.2.2.1.toNat x), 0, 0)
def Hw.thr (H : Hw) (t : Nat) : Th := H.ths.getD t ⟨[], [], none⟩
def Hw.cls (H : Hw) (k : Nat) : Cls := H.tb.getD k ⟨8, 1, 1⟩
def Hw.arn (H : Hw) (t : Nat) : AR := H.ars.getD (H.own t) ⟨0, 0, [], fun _ => false, [], fun _ => 0, [], [], []⟩
def Th.li (h : Th) (k : Nat) : Li := h.ls.getD k liN
def Th.setL (h : Th) (k : Nat) (l : Li) : Th := { h with ls := h.ls.set k l }
def putH (H : Hw) (t k : Nat) (x : Int) : Hw :=
 let c := H.cls k
 let l := (H.thr t).li k
 let H1 := H.setT t fun h => h.setL k (putL c x l).2
 let H2 := if (putL c x l).1 = [] then H1 else holdH H1 t k (putL c x l).1
 let H3 := H2.setT t fun h => { h with hands := h.hands.drop 1 }
 if H.cf.budget < bytesF H.tb (H3.thr t).ls then H3.setT t fun h => { h with ls := leftF scavL H.tb h.ls, hands := h.hands ++ outsF scavL H.tb h.ls } else H3
def stepH (H : Hw) (t : Nat) : Ph -> Out
 | .take k => match takeL (H.cls k) ((H.thr t).li k) with
  | (some x, l) => (bornH (H.setT t fun h => h.setL k l) x ((H.cls k).size : Int) (k : Int), none, x, 0)
  | (none, l) => (H.setT t fun h => h.setL k l, some (.transfer k (wantL (H.cls k) l)), 0, 0)
 | .transfer k w => if w = (H.cls k).batch then (if fromTrE (H.arn t) (k : Int) = 0 then (holdH (H.setA (H.own t) (fromTrS (H.arn t) (k : Int))) t k (fromTrV (H.arn t) (k : Int)), some .fill, 0, 0) else (H, some (.central k w), 0, 0)) else (H, some (.central k w), 0, 0)
 | .central k w =>
  let H1 := H.setA (H.own t) (fromCenS (H.arn t) (k : Int) (w : Int))
  if fromCenV (H.arn t) (k : Int) (w : Int) = [] then (H1, some (.grow k w), 0, 0) else (holdH H1 t k ((fromCenV (H.arn t) (k : Int) (w : Int)).map fun (x : Nat) => (x : Int)), some .fill, 0, 0)
 | .grow k w =>
  let r := growS (H.arn t) H.sp (k : Int)
  let H1 := { H.setA (H.own t) r.1 with sp := r.2 }
  if growE (H.arn t) H.sp (k : Int) = 0 then (H1, some (.central k w), 0, 0) else (H1, none, 0, growE (H.arn t) H.sp (k : Int))
 | .fill => match (H.thr t).hands with
  | (k, x :: xs) :: _ => (bornH (H.setT t fun h => { ls := h.ls.set k (addL xs.reverse (h.li k)), hands := [], ph := h.ph }) x ((H.cls k).size : Int) (k : Int), none, x, 0)
  | _ => (H, none, 0, 0)
 | .large m =>
  let r := takeAS (H.arn t) H.sp (m : Int) 1
  let H1 := { H.setA (H.own t) r.1 with sp := r.2 }
  let x : Int := ((takeAV (H.arn t) H.sp (m : Int) 1 * 256 : Nat) : Int)
  if takeAE (H.arn t) H.sp (m : Int) 1 = 0 then (bornH H1 x ((m * 256 : Nat) : Int) (-1), none, x, 0) else (H1, none, 0, takeAE (H.arn t) H.sp (m : Int) 1)
 | .find x => findH H t x
 | .put k x => (putH H t k x, retH (putH H t k x) t, 0, 0)
 | .back => match (H.thr t).hands with
  | (k, xs) :: r =>
   let H1 := backH (H.setT t fun h => { h with hands := r }) (H.own t) k xs
   (H1, retH H1 t, 0, 0)
  | [] => (H, none, 0, 0)
 | .give s a => (match H.ars[a.toNat]? with
  | some A => H.setA a.toNat (giveAS A s)
  | none => H, none, 0, 0)
 | .drain =>
  let H1 := H.setT t fun h => { h with ls := leftF drainL H.tb h.ls, hands := outsF drainL H.tb h.ls }
  (H1, retH H1 t, 0, 0)
end Go.Ar
namespace Go.Proofs
open Go.Vc

set_option maxRecDepth 100000
def sizes_Class.hint : Hn := .seq (.o 4) (.seq (.block (.seq (.o 4) (.cond (.seq (.o 2) (.leaf)) (.seq (.reg (.heldJ true [] [(13, .one .b)] (.take 0 (.take 1 (.take 2 (.split 16 (.take 3 (.take 4 (.take 5 (.take 6 (.take 7 (.take 8 (.take 9 (.take 10 (.take 11 (.take 12 (.take 13 (.take 14 (.take 15 (.take 16 (.done))))))))))))))) (.take 3 (.take 4 (.take 5 (.take 6 (.split 20 (.take 7 (.take 8 (.take 9 (.take 10 (.take 11 (.take 12 (.take 13 (.take 14 (.take 15 (.take 16 (.done))))))))))) (.take 7 (.take 8 (.take 9 (.take 10 (.split 24 (.take 11 (.take 12 (.take 13 (.take 14 (.take 15 (.take 16 (.done))))))) (.take 11 (.take 13 (.all [(12, .take 14 (.take 15 (.take 16 (.done))))]))))))))))))))))))) (.cond (.seq (.o 2) (.leaf)) (.leaf)))))) (.seq (.o 4) (.seq (.seq (.o 2) (.cond (.seq (.o 2) (.leaf)) (.leaf))) (.seq (.o 3) (.leaf)))))
def sizes_Class.vc (table : Sl) (size : Int) (align : Int) (σ : Hp) (R : Int -> Int -> Hp -> Prop) : Prop :=
 Nw (.cells #[.int .i64 size] 3 (0, 0)) σ fun n4 v =>
 Nw (.cells #[.int .i64 align] 3 (0, 0)) v fun n5 v1 =>
 sizes_Valid.call table v1 fun t11 v2 =>
 If (!t11) (R 0 2 v2)
 (Jn [.b] (fun (t13 : Bool) v3 =>
 If t13 (R 0 1 v3)
 (slices_IndexFunc_api_Class_api_Class.call table ⟨71, #[], #[.pointer (some n4), .pointer (some n5)]⟩ v3 fun k v4 =>
 If (decide (k < 0)) (R 0 4 v4)
 (R k 0 v4))) fun J =>
 Held v2 fun S =>
 LdH S (.i .i64) n4 fun (t14 : Int) =>
 If (decide (t14 < 1)) (J true v2)
 (LdH S (.i .i64) n5 fun (t17 : Int) =>
 If (decide (t17 < 1)) (J true v2)
 (LdH S (.i .i64) n5 fun (t21 : Int) =>
 If (decide (t21 > 256)) (J true v2)
 (LdH S (.i .i64) n5 fun (t25 : Int) =>
 LdH S (.i .i64) n5 fun (t27 : Int) =>
 sizes_power.call t25 v2 fun t26 v5 =>
 And (S v5) <|
 J (t26 != t27) v5))))
theorem sizes_Class.of_vc {table : Sl} {size : Int} {align : Int} {σ : Hp} {R : Int -> Int -> Hp -> Prop} (hv : sizes_Class.vc table size align σ R) : sizes_Class.call table size align σ R :=
 fnK_sound Tryz.func38 (x := sizes_Class.hint) (args := [.slice table.a table.len table.cap, .int .i64 size, .int .i64 align]) (rs := [.one (.i .i64), .one (.i .i64)]) (R := R) (Eq.mpr (by kernel_rfl) hv)
def sizes_Valid.hint : Hn := .seq (.o 1) (.seq (.seq (.reg (.seq [.op, .op, .op, .op, .grd false 3 [.op, .op, .op]])) (.cond (.seq (.o 1) (.leaf)) (.leaf))) (.seq (.seq (.o 3) (.block (.loop [(15, .one (.i .i64))] (.seq (.o 1) (.seq (.cond (.leaf) (.leaf)) (.seq (.block (.seq (.o 6) (.seq (.reg (.heldJ true [1] [(37, .one .b)] (.take 0 (.all [(1, .take 2 (.take 3 (.split 23 (.take 4 (.take 5 (.take 6 (.take 7 (.take 8 (.take 9 (.take 10 (.take 11 (.take 12 (.take 13 (.take 14 (.take 15 (.take 16 (.take 17 (.done))))))))))))))) (.take 4 (.take 5 (.take 6 (.split 26 (.take 7 (.take 9 (.take 10 (.take 11 (.take 12 (.take 13 (.all [(8, .all [(14, .take 15 (.take 16 (.take 17 (.done))))]), (14, .all [(8, .take 15 (.take 16 (.take 17 (.done))))])]))))))) (.take 7 (.take 8 (.take 9 (.take 10 (.take 11 (.take 12 (.take 13 (.take 14 (.take 15 (.take 16 (.take 17 (.done)))))))))))))))))))])))) (.cond (.seq (.o 1) (.leaf)) (.leaf))))) (.o 2))))))) (.seq (.o 1) (.leaf))))
def sizes_Valid.vc (table : Sl) (σ : Hp) (R : Bool -> Hp -> Prop) : Prop :=
 JnB (fun r v =>
 If r (R false v)
 (LoopK [(.i .i64)] (fun I => I 0 v) fun J1 (t15 : Int) v1 =>
 If (decide (t15 < ((table.len : Nat) : Int))) (Ix table.a table.len t15 3 fun a18 =>
 LdI .i64 (a18.add 0) v1 fun t19 =>
 LdI .i64 (a18.add 1) v1 fun t191 =>
 LdI .i64 (a18.add 2) v1 fun t192 =>
 Nw (.cells #[.int .i64 0, .int .i64 0, .int .i64 0] 79 (0, 0)) v1 fun n4 v2 =>
 St1 (n4.add 0) (.int .i64 t19) v2 fun v3 =>
 St1 (n4.add 1) (.int .i64 t191) v3 fun v4 =>
 St1 (n4.add 2) (.int .i64 t192) v4 fun v5 =>
 Jn [.b] (fun (t37 : Bool) v6 =>
 If t37 (R false v6)
 (Ar .i64 (t15 + 1) fun t38 =>
 J1 t38 v6)) fun J2 =>
 Held v5 fun S =>
 LdH S (.i .i64) (n4.add 0) fun (t20 : Int) =>
 LdH S (.i .i64) (n4.add 1) fun (t201 : Int) =>
 LdH S (.i .i64) (n4.add 2) fun (t202 : Int) =>
 sizes_one.call t20 t201 t202 v5 fun t21 v7 =>
 If (!t21) (J2 true v7)
 (If (decide (t15 > 0)) (Ar .i64 (t15 - 1) fun t31 =>
 Ix table.a table.len t31 3 fun a32 =>
 (LdI .i64 (n4.add 0) v7 fun t28 =>
 LdI .i64 (a32.add 0) v7 fun t34 =>
 J2 (decide (t28 <= t34)) v7) ∧
 (LdI .i64 (a32.add 0) v7 fun t341 =>
 LdI .i64 (n4.add 0) v7 fun t281 =>
 J2 (decide (t281 <= t341)) v7))
 (J2 false v7)))
 (R true v1))) fun J =>
 If (decide (((table.len : Nat) : Int) < 1)) (J true σ)
 (J (decide (((table.len : Nat) : Int) > 40)) σ)
theorem sizes_Valid.of_vc {table : Sl} {σ : Hp} {R : Bool -> Hp -> Prop} (hv : sizes_Valid.vc table σ R) : sizes_Valid.call table σ R :=
 fnK_sound Tryz.func68 (x := sizes_Valid.hint) (args := [.slice table.a table.len table.cap]) (rs := [.one .b]) (R := R) (Eq.mpr (by kernel_rfl) hv)
def sizes_power.hint : Hn := .seq (.o 1) (.seq (.o 1) (.seq (.seq (.o 1) (.block (.loop [(3, .one (.i .i64)), (4, .one (.i .i64))] (.seq (.seq (.o 3) (.cond (.leaf) (.leaf))) (.seq (.block (.o 2)) (.o 3)))))) (.seq (.o 2) (.leaf))))
def sizes_power.vc (n : Int) (σ : Hp) (R : Int -> Hp -> Prop) : Prop :=
 LoopK [(.i .i64), (.i .i64)] (fun I => I 0 1 σ) fun J (p : Int) (q : Int) v =>
 If (decide (q <= n)) (Ar .i64 (q * 2) fun q1 =>
 J q q1 v)
 (R p v)
theorem sizes_power.of_vc {n : Int} {σ : Hp} {R : Int -> Hp -> Prop} (hv : sizes_power.vc n σ R) : sizes_power.call n σ R :=
 fnK_sound Tryz.func69 (x := sizes_power.hint) (args := [.int .i64 n]) (rs := [.one (.i .i64)]) (R := R) (Eq.mpr (by kernel_rfl) hv)
def sizes_Class_L1.hint : Hn := .seq (.o 2) (.seq (.reg (.seq [.op, .op, .op, .op, .op, .grd true 5 [.op, .op, .op, .op, .op], .op])) (.leaf))
def sizes_Class_L1.vc (c : Int) (c1 : Int) (c2 : Int) (cap0 : Addr) (cap1 : Addr) (σ : Hp) (R : Bool -> Hp -> Prop) : Prop :=
 Nw (.cells #[.int .i64 c, .int .i64 c1, .int .i64 c2] 79 (0, 0)) σ fun n3 v =>
 LdI .i64 (n3.add 0) v fun t6 =>
 LdI .i64 cap0 v fun t7 =>
 JnB (fun r v1 =>
 R r v1) fun J =>
 If (decide (t6 ≥ t7)) (LdI .i64 (n3.add 0) v fun t11 =>
 LdI .i64 cap1 v fun t12 =>
 Nz t12 <|
 J ((t11.tmod t12) == 0) v)
 (J false v)
theorem sizes_Class_L1.of_vc {c : Int} {c1 : Int} {c2 : Int} {cap0 : Addr} {cap1 : Addr} {σ : Hp} {R : Bool -> Hp -> Prop} (hv : sizes_Class_L1.vc c c1 c2 cap0 cap1 σ R) : sizes_Class_L1.call c c1 c2 cap0 cap1 σ R :=
 fnK_sound Tryz.func71 (x := sizes_Class_L1.hint) (args := [.agg #[.int .i64 c, .int .i64 c1, .int .i64 c2], .pointer (some cap0), .pointer (some cap1)]) (rs := [.one .b]) (R := R) (Eq.mpr (by kernel_rfl) hv)
def sizes_one.hint : Hn := .seq (.o 2) (.seq (.reg (.seq [.op, .op, .op, .op, .grd true 3 [.op, .op, .op], .op, .grd true 4 [.op, .op, .op, .op], .op, .grd true 3 [.op, .op, .op], .op, .grd true 3 [.op, .op, .op], .op, .grd true 6 [.op, .op, .op, .op, .op, .op], .op, .grd true 3 [.op, .op, .op], .op, .grd true 3 [.op, .op, .op], .op])) (.leaf))
def sizes_one.vc (c : Int) (c1 : Int) (c2 : Int) (σ : Hp) (R : Bool -> Hp -> Prop) : Prop :=
 Nw (.cells #[.int .i64 c, .int .i64 c1, .int .i64 c2] 79 (0, 0)) σ fun n1 v =>
 LdI .i64 (n1.add 0) v fun t4 =>
 JnB (fun r v1 =>
 JnB (fun r1 v2 =>
 JnB (fun r2 v3 =>
 JnB (fun r3 v4 =>
 JnB (fun r4 v5 =>
 JnB (fun r5 v6 =>
 JnB (fun r6 v7 =>
 R r6 v7) fun J6 =>
 If r5 (LdI .i64 (n1.add 2) v6 fun t42 =>
 J6 (decide (t42 <= 32)) v6)
 (J6 false v6)) fun J5 =>
 If r4 (LdI .i64 (n1.add 2) v5 fun t37 =>
 J5 (decide (t37 ≥ 1)) v5)
 (J5 false v5)) fun J4 =>
 If r3 (LdI .i64 (n1.add 1) v4 fun t29 =>
 Ar .i64 (t29 * 256) fun t30 =>
 LdI .i64 (n1.add 0) v4 fun t32 =>
 J4 (decide (t30 ≥ t32)) v4)
 (J4 false v4)) fun J3 =>
 If r2 (LdI .i64 (n1.add 1) v3 fun t24 =>
 J3 (decide (t24 <= 4)) v3)
 (J3 false v3)) fun J2 =>
 If r1 (LdI .i64 (n1.add 1) v2 fun t19 =>
 J2 (decide (t19 ≥ 1)) v2)
 (J2 false v2)) fun J1 =>
 If r (LdI .i64 (n1.add 0) v1 fun t13 =>
 Nz 8 <|
 J1 ((t13.tmod 8) == 0) v1)
 (J1 false v1)) fun J =>
 If (decide (t4 ≥ 8)) (LdI .i64 (n1.add 0) v fun t8 =>
 J (decide (t8 <= 512)) v)
 (J false v)
theorem sizes_one.of_vc {c : Int} {c1 : Int} {c2 : Int} {σ : Hp} {R : Bool -> Hp -> Prop} (hv : sizes_one.vc c c1 c2 σ R) : sizes_one.call c c1 c2 σ R :=
 fnK_sound Tryz.func98 (x := sizes_one.hint) (args := [.agg #[.int .i64 c, .int .i64 c1, .int .i64 c2]]) (rs := [.one .b]) (R := R) (Eq.mpr (by kernel_rfl) hv)
def sizes_Objects.hint : Hn := .seq (.o 3) (.seq (.seq (.o 3) (.cond (.seq (.o 2) (.leaf)) (.leaf))) (.seq (.o 4) (.leaf)))
def sizes_Objects.vc (c : Int) (c1 : Int) (c2 : Int) (σ : Hp) (R : Int -> Int -> Hp -> Prop) : Prop :=
 Nw (.cells #[.int .i64 c, .int .i64 c1, .int .i64 c2] 79 (0, 0)) σ fun n1 v =>
 LdI .i64 (n1.add 0) v fun t4 =>
 LdI .i64 (n1.add 1) v fun t41 =>
 LdI .i64 (n1.add 2) v fun t42 =>
 sizes_one.call t4 t41 t42 v fun t5 v1 =>
 If (!t5) (R 0 1 v1)
 (LdI .i64 (n1.add 0) v1 fun t7 =>
 LdI .i64 (n1.add 1) v1 fun t71 =>
 LdI .i64 (n1.add 2) v1 fun t72 =>
 sizes_objects.call t7 t71 t72 v1 fun t8 v2 =>
 R t8 0 v2)
theorem sizes_Objects.of_vc {c : Int} {c1 : Int} {c2 : Int} {σ : Hp} {R : Int -> Int -> Hp -> Prop} (hv : sizes_Objects.vc c c1 c2 σ R) : sizes_Objects.call c c1 c2 σ R :=
 fnK_sound Tryz.func217 (x := sizes_Objects.hint) (args := [.agg #[.int .i64 c, .int .i64 c1, .int .i64 c2]]) (rs := [.one (.i .i64), .one (.i .i64)]) (R := R) (Eq.mpr (by kernel_rfl) hv)
def sizes_objects.hint : Hn := .seq (.o 2) (.seq (.o 7) (.leaf))
def sizes_objects.vc (c : Int) (c1 : Int) (c2 : Int) (σ : Hp) (R : Int -> Hp -> Prop) : Prop :=
 Nw (.cells #[.int .i64 c, .int .i64 c1, .int .i64 c2] 79 (0, 0)) σ fun n1 v =>
 LdI .i64 (n1.add 1) v fun t4 =>
 Ar .i64 (t4 * 256) fun t5 =>
 LdI .i64 (n1.add 0) v fun t7 =>
 Nz t7 <| Ar .i64 (t5.tdiv t7) fun t8 =>
 R t8 v
theorem sizes_objects.of_vc {c : Int} {c1 : Int} {c2 : Int} {σ : Hp} {R : Int -> Hp -> Prop} (hv : sizes_objects.vc c c1 c2 σ R) : sizes_objects.call c c1 c2 σ R :=
 fnK_sound Tryz.func253 (x := sizes_objects.hint) (args := [.agg #[.int .i64 c, .int .i64 c1, .int .i64 c2]]) (rs := [.one (.i .i64)]) (R := R) (Eq.mpr (by kernel_rfl) hv)
end Go.Proofs
namespace Go.Ar
open Go Go.Vc Go.Proofs


variable {σ : Hp}
theorem one_ok (x y z : Int) {R : Bool -> Hp -> Prop} (hR : ∀ σ', Ext0 σ σ' -> R (clsOk x y z) σ') : sizes_one.call x y z σ R := by
 refine sizes_one.of_vc ?_
 unfold sizes_one.vc
 refine nw (cs := [.int .i64 x, .int .i64 y, .int .i64 z]) fun h hz e hb => ?_
 have no : clsOk x y z = false -> R false h := fun hn => hn ▸ hR h e
 have neg : ¬ (8 <= x /\ x <= 512 /\ x % 8 = 0 /\ 1 <= y /\ y <= 4 /\ x <= y * 256 /\ 1 <= z /\ z <= 32) -> R false h := fun hn => no (by rw [← Bool.not_eq_true, clsOk_iff]; exact hn)
 refine hb.rI rfl (JnB.intro ?_)
 refine ifD (fun h1 => hb.rI rfl (JnB.intro ?_)) fun h1 => ?_
 case refine_2 =>
  iterate 6 refine JnB.intro (ifF rfl ?_)
  exact neg (by omega)
 refine ifD (fun h2 => hb.rI rfl (nz (by decide) (JnB.intro ?_))) fun h2 => ?_
 case refine_2 =>
  iterate 5 refine JnB.intro (ifF rfl ?_)
  exact neg (by omega)
 rw [tmod_nn (by omega)]
 refine iff_ (fun h3 => hb.rI rfl (JnB.intro ?_)) fun h3 => ?_
 case refine_2 =>
  have : ¬ x % 8 = 0 := by simpa using h3
  iterate 4 refine JnB.intro (ifF rfl ?_)
  exact neg (by omega)
 have h3' : x % 8 = 0 := by simpa using h3
 refine ifD (fun h4 => hb.rI rfl (JnB.intro ?_)) fun h4 => ?_
 case refine_2 =>
  iterate 3 refine JnB.intro (ifF rfl ?_)
  exact neg (by omega)
 refine ifD (fun h5 => hb.rI rfl (ar (by omega) (by omega) (hb.rI rfl (JnB.intro ?_)))) fun h5 => ?_
 case refine_2 =>
  iterate 2 refine JnB.intro (ifF rfl ?_)
  exact neg (by omega)
 refine ifD (fun h6 => hb.rI rfl (JnB.intro ?_)) fun h6 => ?_
 case refine_2 => exact JnB.intro (ifF rfl (neg (by omega)))
 refine ifD (fun h7 => hb.rI rfl ?_) fun h7 => neg (by omega)
 have : decide (z <= 32) = clsOk x y z := by
  rw [Bool.eq_iff_iff, clsOk_iff]; simp; omega
 rw [this]
 exact hR h e
theorem objects_ok {c : Cls} (hc : c.ok) {R : Int -> Hp -> Prop} (hR : ∀ σ', Ext0 σ σ' -> R (c.n : Int) σ') : sizes_objects.call c.size c.pages c.batch σ R := by
 refine sizes_objects.of_vc ?_
 unfold sizes_objects.vc
 have h := hc
 unfold Cls.ok at h
 refine nw (cs := [.int .i64 c.size, .int .i64 c.pages, .int .i64 c.batch]) fun h hz e hb => ?_
 refine hb.rI rfl (arN (m := c.pages * 256) (by simp) (by omega) (hb.rI rfl (nz (by omega) ?_)))
 refine arN (m := c.n) ?_ (by have := hc.n_le; omega) (hR _ e)
 rw [tdiv_nn (by omega)]; simp [Cls.n]
theorem Objects_ok (x y z : Int) {R : Int -> Int -> Hp -> Prop} (h1 : ∀ c : Cls, c.ok -> x = c.size -> y = c.pages -> z = c.batch -> ∀ σ', Ext0 σ σ' -> R (c.n : Int) 0 σ') (h0 : clsOk x y z = false -> ∀ σ', Ext0 σ σ' -> R 0 1 σ') : sizes_Objects.call x y z σ R := by
 refine sizes_Objects.of_vc ?_
 unfold sizes_Objects.vc
 refine nw (cs := [.int .i64 x, .int .i64 y, .int .i64 z]) fun h hz e hb => ?_
 refine hb.rI rfl (hb.rI rfl (hb.rI rfl (one_ok _ _ _ fun h2 e2 => ?_)))
 have hb2 := e2.blk hb id
 cases hk : clsOk x y z
 ·exact ifT rfl (h0 hk _ (e.trans e2))
 ·obtain ⟨c, hc, _, rfl, rfl, rfl⟩ := toCls_eq hk
  exact ifF rfl (hb2.rI rfl (hb2.rI rfl (hb2.rI rfl (objects_ok hc fun h3 e3 => h1 c hc rfl rfl rfl _ ((e.trans e2).trans e3)))))
end Go.Ar
namespace Go.Proofs
open Go.Vc

set_option maxRecDepth 100000
def huge_Tracker_made.hint : Hn := .seq (.o 1) (.seq (.reg (.seq [.op, .op, .op, .grd true 6 [.op, .op, .op, .op, .op, .op], .op])) (.leaf))
def huge_Tracker_made.vc (t : Option Addr) (σ : Hp) (R : Bool -> Hp -> Prop) : Prop :=
 JnB (fun r v =>
 R r v) fun J =>
 If (!t.isNone) (NilP t fun a7 =>
 LdS (a7.add 0) σ fun t9 =>
 J (decide (((t9.len : Nat) : Int) > 0)) σ)
 (J false σ)
theorem huge_Tracker_made.of_vc {t : Option Addr} {σ : Hp} {R : Bool -> Hp -> Prop} (hv : huge_Tracker_made.vc t σ R) : huge_Tracker_made.call t σ R :=
 fnK_sound Tryz.func144 (x := huge_Tracker_made.hint) (args := [.pointer t]) (rs := [.one .b]) (R := R) (Eq.mpr (by kernel_rfl) hv)
def huge_New.hint : Hn := .seq (.o 2) (.seq (.seq (.reg (.seq [.op, .op, .op, .grd false 2 [.op, .op], .op, .grd false 3 [.op, .op, .op]])) (.cond (.seq (.o 2) (.leaf)) (.leaf))) (.seq (.o 6) (.leaf)))
def huge_New.vc (pages : Int) (σ : Hp) (R : Option Addr -> Int -> Hp -> Prop) : Prop :=
 JnB (fun r v =>
 JnB (fun r1 v1 =>
 If r1 (R none 1 v1)
 (Mk pages pages 8 3 [.int .i64 0] v1 fun t16 v2 =>
 Nw (.cells #[.slice t16.a t16.len t16.cap] 226 (0, 0)) v2 fun n18 v3 =>
 R (some n18) 0 v3)) fun J1 =>
 If r (J1 true v)
 (Nz 16 <|
 J1 ((pages.tmod 16) != 0) v)) fun J =>
 If (decide (pages < 16)) (J true σ)
 (J (decide (pages > 1024)) σ)
theorem huge_New.of_vc {pages : Int} {σ : Hp} {R : Option Addr -> Int -> Hp -> Prop} (hv : huge_New.vc pages σ R) : huge_New.call pages σ R :=
 fnK_sound Tryz.func159 (x := huge_New.hint) (args := [.int .i64 pages]) (rs := [.one .p, .one (.i .i64)]) (R := R) (Eq.mpr (by kernel_rfl) hv)
def huge_Tracker_Unuse.hint : Hn := .seq (.o 1) (.seq (.o 6) (.leaf))
def huge_Tracker_Unuse.vc (t : Option Addr) (start : Int) (pages : Int) (σ : Hp) (R : Int -> Hp -> Prop) : Prop :=
 Nw (.cells #[.int .i64 1] 3 (0, 0)) σ fun n10 v =>
 huge_Tracker_turn.call t start pages 2 ⟨(some n10), 1, 1⟩ v fun t11 v1 =>
 R t11 v1
theorem huge_Tracker_Unuse.of_vc {t : Option Addr} {start : Int} {pages : Int} {σ : Hp} {R : Int -> Hp -> Prop} (hv : huge_Tracker_Unuse.vc t start pages σ R) : huge_Tracker_Unuse.call t start pages σ R :=
 fnK_sound Tryz.func177 (x := huge_Tracker_Unuse.hint) (args := [.pointer t, .int .i64 start, .int .i64 pages]) (rs := [.one (.i .i64)]) (R := R) (Eq.mpr (by kernel_rfl) hv)
def huge_Tracker_all.hint : Hn := .seq (.o 1) (.seq (.o 7) (.leaf))
def huge_Tracker_all.vc (t : Option Addr) (σ : Hp) (R : Int -> Hp -> Prop) : Prop :=
 NilP t fun a4 =>
 LdS (a4.add 0) σ fun t6 =>
 Nz 16 <| Ar .i64 (((t6.len : Nat) : Int).tdiv 16) fun t8 =>
 R t8 σ
theorem huge_Tracker_all.of_vc {t : Option Addr} {σ : Hp} {R : Int -> Hp -> Prop} (hv : huge_Tracker_all.vc t σ R) : huge_Tracker_all.call t σ R :=
 fnK_sound Tryz.func182 (x := huge_Tracker_all.hint) (args := [.pointer t]) (rs := [.one (.i .i64)]) (R := R) (Eq.mpr (by kernel_rfl) hv)
def huge_Tracker_of.hint : Hn := .seq (.o 1) (.seq (.o 11) (.leaf))
def huge_Tracker_of.vc (t : Option Addr) (huge : Int) (σ : Hp) (R : Sl -> Hp -> Prop) : Prop :=
 NilP t fun a6 =>
 LdS (a6.add 0) σ fun t8 =>
 Ar .i64 (huge * 16) fun t10 =>
 Ar .i64 (huge + 1) fun t12 =>
 Ar .i64 (t12 * 16) fun t13 =>
 SlcL t8 1 t10 t13 (t8.cap : Nat) fun t14 =>
 R t14 σ
theorem huge_Tracker_of.of_vc {t : Option Addr} {huge : Int} {σ : Hp} {R : Sl -> Hp -> Prop} (hv : huge_Tracker_of.vc t huge σ R) : huge_Tracker_of.call t huge σ R :=
 fnK_sound Tryz.func184 (x := huge_Tracker_of.hint) (args := [.pointer t, .int .i64 huge]) (rs := [.one .s]) (R := R) (Eq.mpr (by kernel_rfl) hv)
def huge_Tracker_turn.hint : Hn := .seq (.o 2) (.seq (.block (.seq (.o 4) (.cond (.seq (.o 1) (.leaf)) (.seq (.reg (.seq [.op, .op, .op, .grd false 2 [.op, .op], .op, .grd false 7 [.op, .op, .op, .op, .op, .op, .op], .op, .grd false 9 [.op, .op, .op, .op, .op, .op, .op, .op, .op], .op])) (.cond (.seq (.o 1) (.leaf)) (.leaf)))))) (.seq (.o 10) (.seq (.seq (.o 3) (.cond (.seq (.o 1) (.leaf)) (.leaf))) (.seq (.o 3) (.seq (.o 1) (.leaf))))))
def huge_Tracker_turn.vc (t : Option Addr) (start : Int) (pages : Int) (to : Int) (vfrom : Sl) (σ : Hp) (R : Int -> Hp -> Prop) : Prop :=
 Nw (.cells #[.slice vfrom.a vfrom.len vfrom.cap] 22 (0, 0)) σ fun n9 v =>
 huge_Tracker_made.call t v fun t14 v1 =>
 If (!t14) (R 5 v1)
 (JnB (fun r v2 =>
 JnB (fun r1 v3 =>
 JnB (fun r2 v4 =>
 If r2 (R 1 v4)
 (NilP t fun a44 =>
 LdS (a44.add 0) v4 fun t46 =>
 Ar .i64 (start + pages) fun t50 =>
 SlcL t46 1 start t50 (t46.cap : Nat) fun l =>
 slices_ContainsFunc_int_int.call l ⟨237, #[], #[.pointer (some n9)]⟩ v4 fun t54 v5 =>
 If t54 (R 5 v5)
 (huge_fill.call l to v5 fun v6 =>
 R 0 v6))) fun J2 =>
 If r1 (J2 true v3)
 (NilP t fun a35 =>
 LdS (a35.add 0) v3 fun t37 =>
 Ar .i64 (((t37.len : Nat) : Int) - start) fun t40 =>
 J2 (decide (pages > t40)) v3)) fun J1 =>
 If r (J1 true v2)
 (NilP t fun a26 =>
 LdS (a26.add 0) v2 fun t28 =>
 J1 (decide (start > ((t28.len : Nat) : Int))) v2)) fun J =>
 If (decide (start < 0)) (J true v1)
 (J (decide (pages < 1)) v1))
theorem huge_Tracker_turn.of_vc {t : Option Addr} {start : Int} {pages : Int} {to : Int} {vfrom : Sl} {σ : Hp} {R : Int -> Hp -> Prop} (hv : huge_Tracker_turn.vc t start pages to vfrom σ R) : huge_Tracker_turn.call t start pages to vfrom σ R :=
 fnK_sound Tryz.func188 (x := huge_Tracker_turn.hint) (args := [.pointer t, .int .i64 start, .int .i64 pages, .int .i64 to, .slice vfrom.a vfrom.len vfrom.cap]) (rs := [.one (.i .i64)]) (R := R) (Eq.mpr (by kernel_rfl) hv)
def huge_Tracker_huge.hint : Hn := .seq (.o 2) (.seq (.block (.seq (.o 4) (.cond (.seq (.o 2) (.leaf)) (.seq (.reg (.seq [.op, .op, .op, .grd false 4 [.op, .op, .op, .op], .op])) (.cond (.seq (.o 2) (.leaf)) (.leaf)))))) (.seq (.o 5) (.leaf)))
def huge_Tracker_huge.vc (t : Option Addr) (huge : Int) (σ : Hp) (R : Sl -> Int -> Hp -> Prop) : Prop :=
 huge_Tracker_made.call t σ fun t8 v =>
 If (!t8) (R ⟨none, 0, 0⟩ 5 v)
 (JnB (fun r v1 =>
 If r (R ⟨none, 0, 0⟩ 1 v1)
 (huge_Tracker_of.call t huge v1 fun t21 v2 =>
 R t21 0 v2)) fun J =>
 If (decide (huge < 0)) (J true v)
 (huge_Tracker_all.call t v fun t16 v3 =>
 J (decide (huge ≥ t16)) v3))
theorem huge_Tracker_huge.of_vc {t : Option Addr} {huge : Int} {σ : Hp} {R : Sl -> Int -> Hp -> Prop} (hv : huge_Tracker_huge.vc t huge σ R) : huge_Tracker_huge.call t huge σ R :=
 fnK_sound Tryz.func191 (x := huge_Tracker_huge.hint) (args := [.pointer t, .int .i64 huge]) (rs := [.one .s, .one (.i .i64)]) (R := R) (Eq.mpr (by kernel_rfl) hv)
def huge_fill.hint : Hn := .seq (.o 3) (.block (.loop [(7, .one (.i .i64))] (.seq (.o 1) (.seq (.cond (.leaf) (.leaf)) (.seq (.block (.seq (.o 2) (.o 5))) (.o 2))))))
def huge_fill.vc (l : Sl) (state : Int) (σ : Hp) (R : Hp -> Prop) : Prop :=
 LoopK [(.i .i64)] (fun I => I 0 σ) fun J (t7 : Int) v =>
 If (decide (t7 < ((l.len : Nat) : Int))) (Ix l.a l.len t7 1 fun a13 =>
 St1 a13 (.int .i64 state) v fun v1 =>
 Ar .i64 (t7 + 1) fun t14 =>
 J t14 v1)
 (R v)
theorem huge_fill.of_vc {l : Sl} {state : Int} {σ : Hp} {R : Hp -> Prop} (hv : huge_fill.vc l state σ R) : huge_fill.call l state σ R :=
 fnK_sound Tryz.func193 (x := huge_fill.hint) (args := [.slice l.a l.len l.cap, .int .i64 state]) (rs := []) (R := R) (Eq.mpr (by kernel_rfl) hv)
def huge_Tracker_State.hint : Hn := .seq (.o 1) (.seq (.seq (.reg (.seq [.op, .op, .op, .op, .grd false 2 [.op, .op], .op, .grd false 7 [.op, .op, .op, .op, .op, .op, .op]])) (.cond (.seq (.o 1) (.leaf)) (.leaf))) (.seq (.o 8) (.leaf)))
def huge_Tracker_State.vc (t : Option Addr) (page : Int) (σ : Hp) (R : Int -> Hp -> Prop) : Prop :=
 huge_Tracker_made.call t σ fun t6 v =>
 JnB (fun r v1 =>
 JnB (fun r1 v2 =>
 If r1 (R (-1) v2)
 (NilP t fun a22 =>
 LdS (a22.add 0) v2 fun t24 =>
 Ix t24.a t24.len page 1 fun a26 =>
 LdI .i64 a26 v2 fun t27 =>
 R t27 v2)) fun J1 =>
 If r (J1 true v1)
 (NilP t fun a15 =>
 LdS (a15.add 0) v1 fun t17 =>
 J1 (decide (page ≥ ((t17.len : Nat) : Int))) v1)) fun J =>
 If (!t6) (J true v)
 (J (decide (page < 0)) v)
theorem huge_Tracker_State.of_vc {t : Option Addr} {page : Int} {σ : Hp} {R : Int -> Hp -> Prop} (hv : huge_Tracker_State.vc t page σ R) : huge_Tracker_State.call t page σ R :=
 fnK_sound Tryz.func214 (x := huge_Tracker_State.hint) (args := [.pointer t, .int .i64 page]) (rs := [.one (.i .i64)]) (R := R) (Eq.mpr (by kernel_rfl) hv)
def huge_Tracker_Use.hint : Hn := .seq (.o 1) (.seq (.o 6) (.leaf))
def huge_Tracker_Use.vc (t : Option Addr) (start : Int) (pages : Int) (σ : Hp) (R : Int -> Hp -> Prop) : Prop :=
 Nw (.cells #[.int .i64 2, .int .i64 3] 3 (0, 0)) σ fun n10 v =>
 huge_Tracker_turn.call t start pages 1 ⟨(some n10), 2, 2⟩ v fun t11 v1 =>
 R t11 v1
theorem huge_Tracker_Use.of_vc {t : Option Addr} {start : Int} {pages : Int} {σ : Hp} {R : Int -> Hp -> Prop} (hv : huge_Tracker_Use.vc t start pages σ R) : huge_Tracker_Use.call t start pages σ R :=
 fnK_sound Tryz.func222 (x := huge_Tracker_Use.hint) (args := [.pointer t, .int .i64 start, .int .i64 pages]) (rs := [.one (.i .i64)]) (R := R) (Eq.mpr (by kernel_rfl) hv)
def huge_Tracker_turn_L1.hint : Hn := .seq (.o 1) (.seq (.o 5) (.leaf))
def huge_Tracker_turn_L1.vc (s : Int) (cap0 : Addr) (σ : Hp) (R : Bool -> Hp -> Prop) : Prop :=
 LdS cap0 σ fun t4 =>
 slices_Contains_int_int.call t4 s σ fun t6 v =>
 R (!t6) v
theorem huge_Tracker_turn_L1.of_vc {s : Int} {cap0 : Addr} {σ : Hp} {R : Bool -> Hp -> Prop} (hv : huge_Tracker_turn_L1.vc s cap0 σ R) : huge_Tracker_turn_L1.call s cap0 σ R :=
 fnK_sound Tryz.func237 (x := huge_Tracker_turn_L1.hint) (args := [.int .i64 s, .pointer (some cap0)]) (rs := [.one .b]) (R := R) (Eq.mpr (by kernel_rfl) hv)
def huge_Tracker_Add.hint : Hn := .seq (.o 1) (.seq (.o 8) (.seq (.block (.seq (.o 3) (.cond (.seq (.o 2) (.leaf)) (.seq (.o 5) (.cond (.seq (.o 1) (.leaf)) (.leaf)))))) (.seq (.o 2) (.seq (.o 1) (.leaf)))))
def huge_Tracker_Add.vc (t : Option Addr) (huge : Int) (σ : Hp) (R : Int -> Hp -> Prop) : Prop :=
 huge_Tracker_huge.call t huge σ fun t10 t101 v =>
 If (t101 != 0) (R t101 v)
 (Ix t10.a t10.len 0 1 fun a19 =>
 LdI .i64 a19 v fun t20 =>
 If (t20 != 0) (R 5 v)
 (huge_fill.call t10 3 v fun v1 =>
 R 0 v1))
theorem huge_Tracker_Add.of_vc {t : Option Addr} {huge : Int} {σ : Hp} {R : Int -> Hp -> Prop} (hv : huge_Tracker_Add.vc t huge σ R) : huge_Tracker_Add.call t huge σ R :=
 fnK_sound Tryz.func260 (x := huge_Tracker_Add.hint) (args := [.pointer t, .int .i64 huge]) (rs := [.one (.i .i64)]) (R := R) (Eq.mpr (by kernel_rfl) hv)
end Go.Proofs
namespace Go.Ar
open Go Go.Vc Go.Proofs
open Go.Bu (runOk)


variable {σ : Hp} {F : Rg} {p q : Nat} {st : List Nat}
structure TrH (σ : Hp) (p q : Nat) (st : List Nat) : Prop where
 hd : ∃ cap, st.length <= cap /\ Blk σ p [.slice (some ⟨q, 0, none⟩) st.length cap]
 row : ∃ rest, Blk σ q (ints st ++ rest)
 ne : p ≠ q
 n1 : 16 <= st.length
 n2 : st.length <= 1024
 n3 : st.length % 16 = 0
theorem TrH.keep {σ' : Hp} (h : TrH σ p q st) (e : Ext F σ σ') (hp : ¬ F p) (hq : ¬ F q) : TrH σ' p q st :=
 ⟨by obtain ⟨c, h1, h2⟩ := h.hd; exact ⟨c, h1, e.blk h2 hp⟩, by obtain ⟨r, h1⟩ := h.row; exact ⟨r, e.blk h1 hq⟩, h.ne, h.n1, h.n2, h.n3⟩
theorem TrH.keep0 {σ' : Hp} (h : TrH σ p q st) (e : Ext0 σ σ') : TrH σ' p q st := h.keep e id id
theorem TrH.lt (h : TrH σ p q st) : p < σ.size /\ q < σ.size := by
 obtain ⟨_, _, h1⟩ := h.hd; obtain ⟨_, h2⟩ := h.row; exact ⟨h1.lt, h2.lt⟩
theorem TrH.rS (h : TrH σ p q st) {K : Sl -> Prop} (hK : ∀ cap, st.length <= cap -> K ⟨some ⟨q, 0, none⟩, st.length, cap⟩) : LdS (Addr.add ⟨p, 0, none⟩ 0) σ K := by
 obtain ⟨c, h1, h2⟩ := h.hd
 exact h2.rS rfl (hK c h1)
theorem TrH.part (h : TrH σ p q st) {s : Sl} {a n : Nat} (ha : s.a = some ⟨q, a, none⟩) (hn : s.len = n) (hl : a + n <= st.length) : SlR s 1 (ints ((st.drop a).take n)) σ (· = q) := by
 obtain ⟨r, h2⟩ := h.row
 have hlen : ((st.drop a).take n).length = n := by simp; omega
 refine h2.slR ha (by rw [ints_len, hlen, hn]; simp) fun j hj => ?_
 rw [ints_len, hlen] at hj
 rw [List.getElem?_append_left (by rw [ints_len]; omega)]
 simp [ints, List.getElem?_take, hj, List.getElem?_drop]
theorem fill_ok {b o n c : Nat} {cs : List Value} (hb : Blk σ b cs) (hl : o + n <= cs.length) (hn : n <= 1000000) (v : Nat) {R : Hp -> Prop}
 (hR : ∀ σ', OnlyB σ σ' b -> Blk σ' b (cs.take o ++ List.replicate n (.int .i64 (v : Int)) ++ cs.drop (o + n)) -> R σ') : huge_fill.call ⟨some ⟨b, o, none⟩, n, c⟩ v σ R := by
 refine huge_fill.of_vc ?_
 unfold huge_fill.vc
 refine loop1 (a := .i .i64) (fun (t : Int) h' => ∃ i : Nat, t = (i : Int) /\ i <= n /\ OnlyB σ h' b /\ Blk h' b (cs.take o ++ List.replicate i (.int .i64 (v : Int)) ++ cs.drop (o + i))) (fun t _ => n - t.toNat) ⟨0, rfl, by omega, ⟨rfl, fun _ _ => rfl⟩, by simpa using hb⟩ ?_
 rintro t h' ⟨i, rfl, hi, ho, hbi⟩
 refine ifD (fun hlt => ?_) fun hge => ?_
 ·simp only at hlt
  refine ix (by omega) (by simp only; omega) ?_
  rw [add_lit]
  refine hbi.s0 (by simp; omega) fun h2 ho2 hb2 => ?_
  refine arN (m := i + 1) (by omega) (by omega) ⟨⟨i + 1, rfl, by omega, ⟨ho2.1.trans ho.1, fun k hk => (ho2.2 k hk).trans (ho.2 k hk)⟩, ?_⟩, by omega⟩
  have : (cs.take o ++ List.replicate i (Value.int .i64 (v : Int)) ++ cs.drop (o + i)).set (o + (i : Int).toNat * 1) (Value.int .i64 (v : Int)) = cs.take o ++ List.replicate (i + 1) (Value.int .i64 (v : Int)) ++ cs.drop (o + (i + 1)) := by
   rw [List.set_append_right _ _ (by simp; omega)]
   have e : o + (i : Int).toNat * 1 - (cs.take o ++ List.replicate i (Value.int .i64 (v : Int))).length = 0 := by simp; omega
   rw [e, List.drop_eq_getElem_cons (by omega), List.set_cons_zero, List.replicate_succ']
   simp [List.append_assoc, Nat.add_assoc]
  rw [this] at hb2
  exact hb2
 ·simp only at hge
  have : i = n := by omega
  subst this
  exact hR h' ho hbi
theorem TrH.fill (h : TrH σ p q st) {a n : Nat} {r : List Value} {σ' : Hp} {v : Nat} (hrow : Blk σ q (ints st ++ r)) (hl : a + n <= st.length) (ho : OnlyB σ σ' q)
 (hb : Blk σ' q ((ints st ++ r).take a ++ List.replicate n (.int .i64 (v : Int)) ++ (ints st ++ r).drop (a + n))) : TrH σ' p q (setR st a (a + n) v) := by
 obtain ⟨c, h1, h2⟩ := h.hd
 have hlen := setR_len st a (a + n) v
 refine ⟨⟨c, by rw [hlen]; exact h1, ?_⟩, ⟨r, ?_⟩, h.ne, by rw [hlen]; exact h.n1, by rw [hlen]; exact h.n2, by rw [hlen]; exact h.n3⟩
 ·rw [hlen]; exact only_blk ho h2 h.ne
 ·rw [setR_eq (by omega) hl, ints_append, ints_append]
  have e1 : (ints st ++ r).take a = ints (st.take a) := by
   rw [List.take_append_of_le_length (by rw [ints_len]; omega)]; simp [ints]
  have e2 : (ints st ++ r).drop (a + n) = ints (st.drop (a + n)) ++ r := by
   rw [List.drop_append_of_le_length (by rw [ints_len]; omega)]; simp [ints]
  have e3 : ints (List.replicate (a + n - a) v) = List.replicate n (.int .i64 (v : Int)) := by
   rw [Nat.add_sub_cancel_left]; simp [ints]
  rw [e1, e2] at hb
  rw [e3]
  simpa [List.append_assoc] using hb
theorem TrH.fill_ok (h : TrH σ p q st) {a n c : Nat} (hl : a + n <= st.length) (v : Nat) {R : Hp -> Prop} (hR : ∀ σ', Ext (· = q) σ σ' -> TrH σ' p q (setR st a (a + n) v) -> R σ') :
 huge_fill.call ⟨some ⟨q, a, none⟩, n, c⟩ v σ R := by
 obtain ⟨r, hrow⟩ := h.row
 have := h.n2
 exact Ar.fill_ok hrow (by simp [ints_len]; omega) (by omega) v fun σ' ho hb => hR σ' ho.ext (h.fill hrow hl ho hb)
theorem tmade_ok (h : TrH σ p q st) {R : Bool -> Hp -> Prop} (hR : R true σ) : huge_Tracker_made.call (some ⟨p, 0, none⟩) σ R := by
 refine huge_Tracker_made.of_vc ?_
 unfold huge_Tracker_made.vc
 refine JnB.intro (ifT rfl (nilP (h.rS fun cap _ => ?_)))
 have := h.n1
 rw [decide_eq_true (by simp only; omega)]
 exact hR
theorem all_ok (h : TrH σ p q st) {R : Int -> Hp -> Prop} (hR : R ((st.length / 16 : Nat) : Int) σ) : huge_Tracker_all.call (some ⟨p, 0, none⟩) σ R := by
 refine huge_Tracker_all.of_vc ?_
 unfold huge_Tracker_all.vc
 have := h.n2
 refine nilP (h.rS fun cap _ => nz (by decide) ?_)
 refine arN (m := st.length / 16) ?_ (by omega) hR
 rw [tdiv_nn (by omega)]; simp
theorem of_ok (h : TrH σ p q st) {k : Nat} (hk : 16 * k + 16 <= st.length) {R : Sl -> Hp -> Prop} (hR : ∀ c, R ⟨some ⟨q, 16 * k, none⟩, 16, c⟩ σ) : huge_Tracker_of.call (some ⟨p, 0, none⟩) (k : Int) σ R := by
 refine huge_Tracker_of.of_vc ?_
 unfold huge_Tracker_of.vc
 have := h.n2
 refine nilP (h.rS fun cap hc => ?_)
 refine arN (m := 16 * k) (by omega) (by omega) (arN (m := k + 1) (by omega) (by omega) (arN (m := 16 * k + 16) (by omega) (by omega) ?_))
 refine slc (by omega) (by simp only; omega) (by simp only; omega) ?_
 have e : 16 * k + 16 - 16 * k = 16 := by omega
 rw [if_neg (by simp only; omega), e]
 simp only [Option.map_some, add_lit, Nat.mul_one, Nat.zero_add]
 exact hR _
theorem huge_ok (h : TrH σ p q st) (k : Int) {R : Sl -> Int -> Hp -> Prop} (h1 : ∀ (x : Nat) c, k = (x : Int) -> 16 * x + 16 <= st.length -> R ⟨some ⟨q, 16 * x, none⟩, 16, c⟩ 0 σ) (h0 : hugeOk st.length k = false -> R ⟨none, 0, 0⟩ 1 σ) :
 huge_Tracker_huge.call (some ⟨p, 0, none⟩) k σ R := by
 refine huge_Tracker_huge.of_vc ?_
 unfold huge_Tracker_huge.vc
 have n3 := h.n3
 refine tmade_ok h (ifF rfl (JnB.intro (ifD (fun hneg => ifT rfl (h0 ?_)) fun hneg => all_ok h ?_)))
 ·simp [hugeOk]; omega
 ·refine ifD (fun hge => h0 ?_) fun hlt => ?_
  ·simp [hugeOk]; omega
  ·obtain ⟨x, rfl⟩ := Int.eq_ofNat_of_zero_le (show 0 <= k by omega)
   exact of_ok h (by omega) fun c => h1 x c rfl (by omega)
theorem hugeOk_nat {n x : Nat} (h : 16 * x + 16 <= n) : hugeOk n (x : Int) = true := by simp [hugeOk]; omega
theorem TrH.first (h : TrH σ p q st) {x c : Nat} (hx : 16 * x + 16 <= st.length) {K : Int -> Prop} (hK : K ((st.getD (16 * x) 0 : Nat) : Int)) :
 Ix (some ⟨q, 16 * x, none⟩) 16 0 1 fun a => LdI .i64 a σ K := by
 have hp := h.part (s := ⟨some ⟨q, 16 * x, none⟩, 16, c⟩) (n := 16) rfl rfl hx
 refine hp.ixN (i := 0) (x := st.getD (16 * x) 0) ?_ hK
 simp [List.getElem?_take, List.getElem?_drop, List.getD_eq_getElem?_getD]
 rw [List.getElem?_eq_getElem (by omega)]; simp
theorem TAdd_ok (h : TrH σ p q st) (k : Int) {R : Int -> Hp -> Prop} (hR : ∀ σ', Ext (· = q) σ σ' -> TrH σ' p q (addT st k) -> R (addE st k) σ') : huge_Tracker_Add.call (some ⟨p, 0, none⟩) k σ R := by
 refine huge_Tracker_Add.of_vc ?_
 unfold huge_Tracker_Add.vc
 refine huge_ok h k (fun x c hk hx => ?_) fun hk => ?_
 ·subst hk
  have hok := hugeOk_nat hx
  refine ifF rfl (h.first (c := c) hx (iff_ (fun he => ?_) fun he => ?_))
  ·have e1 : ¬ st.getD (16 * x) 0 = 0 := by simpa using he
   have : addE st (x : Int) = 5 := by simp only [addE, hok, Int.toNat_natCast, if_true, if_neg e1]
   have e2 : addT st (x : Int) = st := by simp [addT, this]
   have := hR σ (Ext.refl _ _)
   rw [e2] at this
   simpa [*] using this h
  ·have e1 : st.getD (16 * x) 0 = 0 := by simpa using he
   have e0 : addE st (x : Int) = 0 := by simp only [addE, hok, Int.toNat_natCast, if_true, e1]
   have e2 : addT st (x : Int) = setR st (16 * x) (16 * x + 16) 3 := by simp [addT, e0]
   refine h.fill_ok hx 3 fun σ' e h' => ?_
   have := hR σ' e
   rw [e0, e2] at this
   exact this h'
 ·have e0 : addE st k = 1 := by simp [addE, hk]
  have e2 : addT st k = st := by simp [addT, e0]
  refine ifT rfl ?_
  have := hR σ (Ext.refl _ _)
  rw [e0, e2] at this
  exact this h
end Go.Ar
namespace Go.Ar
open Go Go.Vc Go.Proofs
open Go.Bu (runOk)


variable {σ : Hp} {F : Rg} {p q : Nat} {st : List Nat}
theorem index_ok {s : Sl} {xs : List Nat} (h : SlR s 1 (ints xs) σ F) (hl : xs.length <= 1000000) (v : Nat) {R : Int -> Hp -> Prop} (h1 : ∀ i : Nat, xs[i]? = some v -> (∀ j : Nat, j < i -> xs[j]? ≠ some v) -> R (i : Int) σ) (h0 : v ∉ xs -> R (-1) σ) :
 slices_Index_int_int.call s (v : Int) σ R := by
 refine slices_Index_int_int.of_vc ?_
 unfold slices_Index_int_int.vc
 have hlen := h.lenN
 refine loop1 (a := .i .i64) (fun (t : Int) h' => ∃ i : Nat, t = (i : Int) /\ i <= xs.length /\ h' = σ /\ ∀ j, j < i -> xs[j]? ≠ some v) (fun t _ => xs.length - t.toNat) ⟨0, rfl, by omega, rfl, fun j hj => by omega⟩ ?_
 rintro t h' ⟨i, rfl, hi, rfl, hno⟩
 refine ifD (fun hlt => ?_) fun hge => ?_
 ·have hi' : i < xs.length := by omega
  have hx : xs[i]? = some xs[i] := List.getElem?_eq_getElem hi'
  refine h.ixN hx ?_
  rw [beqN]
  refine iff_ (fun he => ?_) fun he => ?_
  ·have : v = xs[i] := by simpa using he
   exact h1 i (by rw [hx, this]) hno
  ·have he' : ¬ v = xs[i] := by simpa using he
   refine arN (m := i + 1) (by omega) (by omega) ⟨⟨i + 1, rfl, by omega, rfl, fun j hj => ?_⟩, by omega⟩
   by_cases e : j = i
   ·subst e; rw [hx]; intro e2; cases e2; exact he' rfl
   ·exact hno j (by omega)
 ·refine h0 fun hm => ?_
  obtain ⟨j, hj⟩ := List.getElem?_of_mem hm
  have := (List.getElem?_eq_some_iff.1 hj).1
  exact hno j (by omega) hj
theorem contains_ok {s : Sl} {xs : List Nat} (h : SlR s 1 (ints xs) σ F) (hl : xs.length <= 1000000) (v : Nat) {R : Bool -> Hp -> Prop} (hR : R (xs.contains v) σ) : slices_Contains_int_int.call s (v : Int) σ R := by
 refine slices_Contains_int_int.of_vc ?_
 unfold slices_Contains_int_int.vc
 refine index_ok h hl v (fun i hi _ => ?_) fun hn => ?_
 ·have : xs.contains v = true := by simpa using List.mem_of_getElem? hi
  rw [this] at hR
  rw [decide_eq_true (by omega)]; exact hR
 ·have : xs.contains v = false := by simpa using hn
  rw [this] at hR
  exact hR
theorem containsI_ok {s : Sl} {xs : List Int} (h : SlR s 1 (xs.map (Value.int .i64)) σ F) (hl : xs.length <= 1000000000) (v : Int) {R : Bool -> Hp -> Prop} (hR : R (xs.contains v) σ) : slices_Contains_int_int.call s v σ R := by
 refine slices_Contains_int_int.of_vc ?_
 unfold slices_Contains_int_int.vc
 refine slices_Index_int_int.of_vc ?_
 unfold slices_Index_int_int.vc
 have hlen : s.len = xs.length := by have := h.1; simp at this; omega
 refine loop1 (a := .i .i64) (fun (t : Int) h' => ∃ i : Nat, t = (i : Int) /\ i <= xs.length /\ h' = σ /\ ∀ j, j < i -> xs[j]? ≠ some v) (fun t _ => xs.length - t.toNat) ⟨0, rfl, by omega, rfl, fun j hj => by omega⟩ ?_
 rintro t h' ⟨i, rfl, hi, rfl, hno⟩
 refine ifD (fun hlt => ?_) fun hge => ?_
 ·have hi' : i < xs.length := by omega
  have hx : xs[i]? = some xs[i] := List.getElem?_eq_getElem hi'
  refine h.ixI hx (iff_ (fun he => ?_) fun he => ?_)
  ·have e : v = xs[i] := by simpa using he
   have : xs.contains v = true := by rw [e]; simp
   rw [this] at hR
   show R (decide ((i : Int) ≥ 0)) _
   rw [decide_eq_true (by omega)]; exact hR
  ·have he' : ¬ v = xs[i] := by simpa using he
   refine arN (m := i + 1) (by omega) (by omega) ⟨⟨i + 1, rfl, by omega, rfl, fun j hj => ?_⟩, by omega⟩
   by_cases e : j = i
   ·subst e; rw [hx]; intro e2; cases e2; exact he' rfl
   ·exact hno j (by omega)
 ·have : xs.contains v = false := by
   simp only [List.contains_eq_mem, decide_eq_false_iff_not]
   intro hm
   obtain ⟨j, hj⟩ := List.getElem?_of_mem hm
   have := (List.getElem?_eq_some_iff.1 hj).1
   exact hno j (by omega) hj
  rw [this] at hR
  exact hR
def PredN (f : Fv) (p : Nat -> Bool) (σ : Hp) : Prop := ∀ (x : Nat) (σ' : Hp) (R : Bool -> Hp -> Prop), Ext0 σ σ' -> (∀ σ'', Ext0 σ' σ'' -> R (p x) σ'') -> CallF Tryz.prog f [.int .i64 (x : Int)] [.one .b] σ' R
theorem containsFunc_ok {s : Sl} {xs : List Nat} (h : SlR s 1 (ints xs) σ F) (hl : xs.length <= 1000000) {f : Fv} {pr : Nat -> Bool} (hf : PredN f pr σ) {R : Bool -> Hp -> Prop} (hR : ∀ σ', Ext0 σ σ' -> R (xs.any pr) σ') :
 slices_ContainsFunc_int_int.call s f σ R := by
 refine slices_ContainsFunc_int_int.of_vc ?_
 unfold slices_ContainsFunc_int_int.vc
 refine slices_IndexFunc_int_int.of_vc ?_
 unfold slices_IndexFunc_int_int.vc
 have hlen := h.lenN
 refine loop1 (a := .i .i64) (fun (t : Int) h' => ∃ i : Nat, t = (i : Int) /\ i <= xs.length /\ Ext0 σ h' /\ ∀ j x, j < i -> xs[j]? = some x -> pr x = false) (fun t _ => xs.length - t.toNat) ⟨0, rfl, by omega, Ext.refl _ _, fun j x hj => by omega⟩ ?_
 rintro t h' ⟨i, rfl, hi, e, hno⟩
 refine ifD (fun hlt => ?_) fun hge => ?_
 ·have hi' : i < xs.length := by omega
  have hx : xs[i]? = some xs[i] := List.getElem?_eq_getElem hi'
  refine ((SlR.loc _ _ _).keep0 h e).ixN hx (hf _ _ _ e fun h2 e2 => ?_)
  cases hp : pr xs[i]
  ·refine ifF rfl (arN (m := i + 1) (by omega) (by omega) ⟨⟨i + 1, rfl, by omega, e.trans e2, fun j x hj hx' => ?_⟩, by omega⟩)
   by_cases e3 : j = i
   ·subst e3; rw [hx] at hx'; cases hx'; exact hp
   ·exact hno j x (by omega) hx'
  ·refine ifT rfl ?_
   have : xs.any pr = true := List.any_eq_true.2 ⟨_, List.getElem_mem hi', hp⟩
   show R (decide ((i : Int) ≥ 0)) _
   rw [decide_eq_true (by omega), ← this]
   exact hR _ (e.trans e2)
 ·have : xs.any pr = false := by
   rw [List.any_eq_false]
   intro x hx
   obtain ⟨j, hj⟩ := List.getElem?_of_mem hx
   have := (List.getElem?_eq_some_iff.1 hj).1
   simp [hno j x (by omega) hj]
  show R (decide ((-1 : Int) ≥ 0)) _
  rw [show decide ((-1 : Int) ≥ 0) = false from rfl, ← this]
  exact hR _ e
theorem turn1_ok {c : Nat} {s : Sl} {fr : List Nat} {σ0 : Hp} (hb : Blk σ0 c [.slice s.a s.len s.cap]) (hs : SlR s 1 (ints fr) σ0 F) (hl : fr.length <= 1000) : PredN ⟨237, #[], #[.pointer (some ⟨c, 0, none⟩)]⟩ (fun x => !fr.contains x) σ0 := by
 intro x σ' R e hR
 refine callF (all := #[.int .i64 (x : Int), .pointer (some ⟨c, 0, none⟩)]) (by kernel_rfl) (by simp) ?_
 refine huge_Tracker_turn_L1.of_vc ?_
 unfold huge_Tracker_turn_L1.vc
 refine (e.blk hb id).rS0 rfl ?_
 exact contains_ok ((SlR.loc _ _ _).keep0 hs e) (by omega) x (hR _ (Ext.refl _ _))
theorem turn_ok (h : TrH σ p q st) (a m : Int) (v : Nat) {s : Sl} {fr : List Nat} (hs : SlR s 1 (ints fr) σ F) (hl : fr.length <= 1000) {R : Int -> Hp -> Prop} (hR : ∀ σ', Ext (· = q) σ σ' -> TrH σ' p q (turnT st a m v fr) -> R (turnE st a m fr) σ') :
 huge_Tracker_turn.call (some ⟨p, 0, none⟩) a m v s σ R := by
 refine huge_Tracker_turn.of_vc ?_
 unfold huge_Tracker_turn.vc
 have n2 := h.n2
 have hq := h.lt.2
 refine nw (cs := [.slice s.a s.len s.cap]) fun v1 hz e0 hb => ?_
 have h1 := h.keep0 e0
 have bad : ¬ (0 <= a /\ 1 <= m /\ m <= st.length - a) -> R 1 v1 := fun hn => by
  have hok : runOk st.length a m = false := by simp only [runOk, ← Bool.decide_and]; exact decide_eq_false hn
  have e1 : turnE st a m fr = 1 := by simp [turnE, hok]
  have e2 : turnT st a m v fr = st := by simp [turnT, e1]
  have := hR v1 e0.to
  rw [e1, e2] at this
  exact this h1
 refine tmade_ok h1 (ifF rfl (JnB.intro ?_))
 refine ifD (fun c1 => JnB.intro (ifT rfl (JnB.intro (ifT rfl (ifT rfl (bad (by omega))))))) fun c1 => ?_
 refine JnB.intro (ifD (fun c2 => JnB.intro (ifT rfl (ifT rfl (bad (by omega))))) fun c2 => ?_)
 refine nilP (h1.rS fun cap hc => JnB.intro (ifD (fun c3 => ifT rfl (bad (by simp only at *; omega))) fun c3 => ?_))
 simp only at c3
 refine nilP (h1.rS fun cap hc => ar (by simp only; omega) (by simp only; omega) (ifD (fun c4 => bad (by simp only at *; omega)) fun c4 => ?_))
 simp only at c4
 obtain ⟨x, rfl⟩ := Int.eq_ofNat_of_zero_le (show 0 <= a by omega)
 obtain ⟨y, rfl⟩ := Int.eq_ofNat_of_zero_le (show 0 <= m by omega)
 have hxy : x + y <= st.length := by omega
 have hok : runOk st.length (x : Int) (y : Int) = true := by simp only [runOk, Bool.and_eq_true, decide_eq_true_eq]; omega
 refine nilP (h1.rS fun cap hc => arN (m := x + y) (by omega) (by omega) (slc (by omega) (by simp only; omega) (by simp only; omega) ?_))
 rw [if_neg (by simp only; omega)]
 simp only [Option.map_some, add_lit, Nat.mul_one, Nat.zero_add]
 have ey : x + y - x = y := by omega
 rw [ey]
 have hp := h1.part (s := ⟨some ⟨q, x, none⟩, y, cap - x⟩) (n := y) rfl rfl hxy
 refine containsFunc_ok hp (by simp; omega) (turn1_ok (s := s) hb ((SlR.loc _ _ _).keep0 hs e0) hl) fun v2 e2 => ?_
 have h2 := h1.keep0 e2
 have hall : ((st.drop x).take y).any (fun z => !fr.contains z) = !allIn st x y fr := by
  rw [allIn, List.all_eq_not_any_not, Bool.not_not]
 rw [hall]
 cases hA : allIn st x y fr
 ·have e1 : turnE st (x : Int) (y : Int) fr = 5 := by simp [turnE, hok, hA]
  have e3 : turnT st (x : Int) (y : Int) v fr = st := by simp [turnT, e1]
  have := hR v2 (e0.to.trans e2.to)
  rw [e1, e3] at this
  exact ifT rfl (this h2)
 ·have e1 : turnE st (x : Int) (y : Int) fr = 0 := by simp [turnE, hok, hA]
  have e3 : turnT st (x : Int) (y : Int) v fr = setR st x (x + y) v := by simp [turnT, e1]
  refine ifF rfl (h2.fill_ok hxy v fun v3 e4 h3 => ?_)
  have := hR v3 (e0.to.trans (e2.to.trans e4))
  rw [e1, e3] at this
  exact this h3
theorem lit_slR {h : Hp} {b : Nat} {xs : List Nat} {n c : Nat} (hb : Blk h b (ints xs)) (hn : n = xs.length) : SlR ⟨some ⟨b, 0, none⟩, n, c⟩ 1 (ints xs) h (· = b) :=
 hb.slR (o := 0) rfl (by rw [ints_len]; simp [hn]) fun j _ => by rw [Nat.zero_add]
theorem Use_ok (h : TrH σ p q st) (a m : Int) {R : Int -> Hp -> Prop} (hR : ∀ σ', Ext (· = q) σ σ' -> TrH σ' p q (turnT st a m 1 [2, 3]) -> R (turnE st a m [2, 3]) σ') : huge_Tracker_Use.call (some ⟨p, 0, none⟩) a m σ R := by
 refine huge_Tracker_Use.of_vc ?_
 unfold huge_Tracker_Use.vc
 refine nw (cs := ints [2, 3]) fun v hz e hb => ?_
 exact turn_ok (h.keep0 e) a m 1 (lit_slR hb rfl) (by simp) fun σ' e' h' => hR σ' (e.to.trans e') h'
theorem Unuse_ok (h : TrH σ p q st) (a m : Int) {R : Int -> Hp -> Prop} (hR : ∀ σ', Ext (· = q) σ σ' -> TrH σ' p q (turnT st a m 2 [1]) -> R (turnE st a m [1]) σ') : huge_Tracker_Unuse.call (some ⟨p, 0, none⟩) a m σ R := by
 refine huge_Tracker_Unuse.of_vc ?_
 unfold huge_Tracker_Unuse.vc
 refine nw (cs := ints [1]) fun v hz e hb => ?_
 exact turn_ok (h.keep0 e) a m 2 (lit_slR hb rfl) (by simp) fun σ' e' h' => hR σ' (e.to.trans e') h'
def stI (st : List Nat) (x : Int) : Int := if 0 <= x /\ x < st.length then ((st.getD x.toNat 0 : Nat) : Int) else -1
theorem TState_ok (h : TrH σ p q st) (x : Int) {R : Int -> Hp -> Prop} (hR : R (stI st x) σ) : huge_Tracker_State.call (some ⟨p, 0, none⟩) x σ R := by
 refine huge_Tracker_State.of_vc ?_
 unfold huge_Tracker_State.vc
 have n2 := h.n2
 unfold stI at hR
 refine tmade_ok h (JnB.intro (ifF rfl (JnB.intro (ifD (fun c1 => ifT rfl ?_) fun c1 => nilP (h.rS fun cap hc => ifD (fun c2 => ?_) fun c2 => ?_)))))
 ·rw [if_neg (by omega)] at hR; exact hR
 ·simp only at c2
  rw [if_neg (by omega)] at hR; exact hR
 ·simp only at c2
  rw [if_pos (by omega)] at hR
  obtain ⟨y, rfl⟩ := Int.eq_ofNat_of_zero_le (show 0 <= x by omega)
  refine nilP (h.rS fun cap hc => ?_)
  have hp := h.part (s := ⟨some ⟨q, 0, none⟩, st.length, cap⟩) (a := 0) (n := st.length) rfl rfl (by omega)
  rw [List.drop_zero, List.take_length] at hp
  have hy : y < st.length := by omega
  refine hp.ixN (List.getElem?_eq_getElem hy) ?_
  simpa [List.getD_eq_getElem?_getD, List.getElem?_eq_getElem hy] using hR
end Go.Ar
namespace Go.Ar
open Go Go.Vc Go.Proofs
open Go.Bu (runOk)


variable {σ : Hp} {F : Rg} {p q : Nat} {st : List Nat}
theorem cloneV_ok {s : Sl} {vs : List Value} (h : SlR s 1 vs σ F) (h1 : ∀ v ∈ vs, one1 v = true) (hl : s.len <= 1000000) {R : Sl -> Hp -> Prop}
 (hR : ∀ s' σ', s'.len = s.len -> Ext0 σ σ' -> RowR s' 1 vs σ' (fun b => σ.size <= b) -> R s' σ') : slices_Clone_int_int.call s σ R := by
 refine slices_Clone_int_int.of_vc ?_
 unfold slices_Clone_int_int.vc
 exact clone_vc h (by decide) rfl h1 (by decide) hl hR
theorem TNew_ok {n : Nat} (h1 : 16 <= n) (h2 : n <= 1024) (h3 : n % 16 = 0) {R : Option Addr -> Int -> Hp -> Prop} (hR : ∀ σ' p q, Ext0 σ σ' -> σ.size <= p -> σ.size <= q -> TrH σ' p q (List.replicate n 0) -> R (some ⟨p, 0, none⟩) 0 σ') : huge_New.call (n : Int) σ R := by
 refine huge_New.of_vc ?_
 unfold huge_New.vc
 refine JnB.intro (ifDF (by omega) (JnB.intro (ifDF (by omega) (nz (by decide) ?_))))
 rw [tmod_nn (by omega)]
 have : (((n : Int) % 16) != 0) = false := by
  have : ((n : Int) % 16) = 0 := by omega
  rw [this]; rfl
 rw [this]
 refine ifF rfl (mk (by omega) (by omega) fun v hz e hb => nw (cs := [.slice (some ⟨σ.size, 0, none⟩) n n]) fun v2 hz2 e2 hb2 => ?_)
 have hf : (List.replicate n [Value.int .i64 0]).flatten = ints (List.replicate n 0) := by
  have : [Value.int .i64 0] = ints [0] := rfl
  rw [this]
  clear hb hR
  induction n with
  | zero => rfl
  | succ n ih => simp [List.replicate_succ, ints]
 rw [hf] at hb
 refine hR _ _ _ (e.trans e2) (by omega) (Nat.le_refl _) ⟨⟨n, by simp, by simpa using hb2⟩, ⟨[], by simpa using e2.blk hb id⟩, by omega, by simpa using h1, by simpa using h2, by simpa using h3⟩
end Go.Ar
namespace Go.Proofs
open Go.Vc

set_option maxRecDepth 100000
def span_Span_Run.hint : Hn := .seq (.o 1) (.seq (.seq (.o 3) (.cond (.seq (.o 2) (.leaf)) (.leaf))) (.seq (.reg (.tail 10 [.op, .op, .op, .op, .op, .op, .op, .op, .op, .op] [.op])) (.leaf)))
def span_Span_Run.vc (s : Option Addr) (σ : Hp) (R : Int -> Int -> Hp -> Prop) : Prop :=
 Nw (.cells #[.int .i64 0, .int .i64 0] 212 (0, 0)) σ fun n2 v =>
 span_Span_made.call s v fun t4 v1 =>
 If (!t4) (St1 (n2.add 0) (.int .i64 0) v1 fun v2 =>
 St1 (n2.add 1) (.int .i64 0) v2 fun v3 =>
 LdI .i64 (n2.add 0) v3 fun res =>
 LdI .i64 (n2.add 1) v3 fun res1 =>
 R res res1 v3)
 (NilP s fun a8 =>
 LdI .i64 (a8.add 0) v1 fun t10 =>
 NilP s fun a12 =>
 LdI .i64 ((a12.add 1).add 1) v1 fun t15 =>
 St1 (n2.add 0) (.int .i64 t10) v1 fun v4 =>
 St1 (n2.add 1) (.int .i64 t15) v4 fun v5 =>
 LdI .i64 (n2.add 0) v5 fun res2 =>
 LdI .i64 (n2.add 1) v5 fun res3 =>
 R res2 res3 v5)
theorem span_Span_Run.of_vc {s : Option Addr} {σ : Hp} {R : Int -> Int -> Hp -> Prop} (hv : span_Span_Run.vc s σ R) : span_Span_Run.call s σ R :=
 fnK_sound Tryz.func181 (x := span_Span_Run.hint) (args := [.pointer s]) (rs := [.agg [(.i .i64), (.i .i64)]]) (R := R) (Eq.mpr (by kernel_rfl) hv)
def span_Span_made.hint : Hn := .seq (.o 1) (.seq (.reg (.seq [.op, .op, .op, .grd true 6 [.op, .op, .op, .op, .op, .op], .op])) (.leaf))
def span_Span_made.vc (s : Option Addr) (σ : Hp) (R : Bool -> Hp -> Prop) : Prop :=
 JnB (fun r v =>
 R r v) fun J =>
 If (!s.isNone) (NilP s fun a7 =>
 LdS (a7.add 4) σ fun t9 =>
 J (decide (((t9.len : Nat) : Int) > 0)) σ)
 (J false σ)
theorem span_Span_made.of_vc {s : Option Addr} {σ : Hp} {R : Bool -> Hp -> Prop} (hv : span_Span_made.vc s σ R) : span_Span_made.call s σ R :=
 fnK_sound Tryz.func212 (x := span_Span_made.hint) (args := [.pointer s]) (rs := [.one .b]) (R := R) (Eq.mpr (by kernel_rfl) hv)
def span_Span_Index.hint : Hn := .seq (.o 2) (.seq (.seq (.o 3) (.cond (.seq (.o 2) (.leaf)) (.leaf))) (.seq (.o 5) (.seq (.seq (.reg (.heldJ false [] [(32, .one .b)] (.take 0 (.take 1 (.all [(2, .take 3 (.take 4 (.split 18 (.take 5 (.take 6 (.take 7 (.take 8 (.take 9 (.take 10 (.take 11 (.take 12 (.take 13 (.take 14 (.take 15 (.take 16 (.take 17 (.take 18 (.done))))))))))))))) (.take 5 (.take 6 (.take 7 (.take 8 (.take 11 (.take 12 (.take 13 (.take 14 (.all [(9, .take 10 (.all [(15, .take 16 (.take 17 (.take 18 (.done))))])), (15, .all [(9, .take 10 (.take 16 (.take 17 (.take 18 (.done)))))])]))))))))))))]))))) (.cond (.seq (.o 2) (.leaf)) (.leaf))) (.seq (.o 9) (.leaf)))))
def span_Span_Index.vc (s : Option Addr) (addr : Int) (σ : Hp) (R : Int -> Int -> Hp -> Prop) : Prop :=
 span_Span_made.call s σ fun t8 v =>
 If (!t8) (R 0 5 v)
 (span_Span_addr.call s 0 v fun t12 v1 =>
 Ar .i64 (addr - t12) fun vat =>
 Jn [.b] (fun (t32 : Bool) v2 =>
 If t32 (R 0 8 v2)
 (NilP s fun a35 =>
 LdI .i64 ((a35.add 1).add 0) v2 fun t38 =>
 Nz t38 <| Ar .i64 (vat.tdiv t38) fun t39 =>
 R t39 0 v2)) fun J =>
 span_Span_addr.call s 0 v1 fun t16 v3 =>
 If (decide (addr < t16)) (J true v3)
 (NilP s fun a21 =>
 NilP s fun a26 =>
 (LdS (a21.add 4) v3 fun t23 =>
 LdI .i64 ((a26.add 1).add 0) v3 fun t29 =>
 Ar .i64 (((t23.len : Nat) : Int) * t29) fun t30 =>
 J (decide (vat ≥ t30)) v3) ∧
 (LdI .i64 ((a26.add 1).add 0) v3 fun t291 =>
 LdS (a21.add 4) v3 fun t231 =>
 Ar .i64 (((t231.len : Nat) : Int) * t291) fun t301 =>
 J (decide (vat ≥ t301)) v3)))
theorem span_Span_Index.of_vc {s : Option Addr} {addr : Int} {σ : Hp} {R : Int -> Int -> Hp -> Prop} (hv : span_Span_Index.vc s addr σ R) : span_Span_Index.call s addr σ R :=
 fnK_sound Tryz.func216 (x := span_Span_Index.hint) (args := [.pointer s, .int .i64 addr]) (rs := [.one (.i .i64), .one (.i .i64)]) (R := R) (Eq.mpr (by kernel_rfl) hv)
def span_New.hint : Hn := .seq (.o 3) (.seq (.o 7) (.seq (.seq (.reg (.seq [.op, .op, .op, .grd false 2 [.op, .op], .op, .grd false 5 [.op, .op, .op, .op, .op]])) (.cond (.seq (.o 2) (.leaf)) (.leaf))) (.seq (.reg (.held true [] (.take 0 (.take 1 (.take 2 (.all [(3, .take 4 (.all [(5, .take 6 (.take 7 (.done)))]))])))))) (.leaf))))
def span_New.vc (start : Int) (vclass : Int) (vclass1 : Int) (vclass2 : Int) (σ : Hp) (R : Option Addr -> Int -> Hp -> Prop) : Prop :=
 Nw (.cells #[.int .i64 vclass, .int .i64 vclass1, .int .i64 vclass2] 79 (0, 0)) σ fun n3 v =>
 LdI .i64 (n3.add 0) v fun t9 =>
 LdI .i64 (n3.add 1) v fun t91 =>
 LdI .i64 (n3.add 2) v fun t92 =>
 sizes_Objects.call t9 t91 t92 v fun t10 t101 v1 =>
 JnB (fun r v2 =>
 JnB (fun r1 v3 =>
 If r1 (R none 1 v3)
 (Held v3 fun S =>
 LdH S (.i .i64) (n3.add 0) fun (t27 : Int) =>
 LdH S (.i .i64) (n3.add 1) fun (t271 : Int) =>
 LdH S (.i .i64) (n3.add 2) fun (t272 : Int) =>
 Mk t10 t10 8 3 [.int .i64 0] v3 fun t29 v4 =>
 And (S v4) <|
 Nw (.cells #[.int .i64 start, .int .i64 t27, .int .i64 t271, .int .i64 t272, .slice t29.a t29.len t29.cap, .int .i64 0] 297 (0, 0)) v4 fun n31 v5 =>
 And (S v5) <|
 R (some n31) 0 v5)) fun J1 =>
 If r (J1 true v2)
 (LdI .i64 (n3.add 1) v2 fun t22 =>
 Ar .i64 (1024 - t22) fun t23 =>
 J1 (decide (start > t23)) v2)) fun J =>
 If (t101 != 0) (J true v1)
 (J (decide (start < 0)) v1)
theorem span_New.of_vc {start : Int} {vclass : Int} {vclass1 : Int} {vclass2 : Int} {σ : Hp} {R : Option Addr -> Int -> Hp -> Prop} (hv : span_New.vc start vclass vclass1 vclass2 σ R) : span_New.call start vclass vclass1 vclass2 σ R :=
 fnK_sound Tryz.func224 (x := span_New.hint) (args := [.int .i64 start, .agg #[.int .i64 vclass, .int .i64 vclass1, .int .i64 vclass2]]) (rs := [.one .p, .one (.i .i64)]) (R := R) (Eq.mpr (by kernel_rfl) hv)
def span_Span_Put.hint : Hn := .seq (.o 1) (.seq (.o 8) (.seq (.block (.seq (.o 3) (.cond (.seq (.o 2) (.leaf)) (.seq (.o 9) (.cond (.seq (.o 1) (.leaf)) (.leaf)))))) (.seq (.o 4) (.seq (.o 1) (.leaf)))))
def span_Span_Put.vc (s : Option Addr) (addr : Int) (σ : Hp) (R : Int -> Hp -> Prop) : Prop :=
 span_Span_object.call s addr σ fun t10 t101 v =>
 If (t101 != 0) (R t101 v)
 (NilP s fun a19 =>
 LdS (a19.add 4) v fun t21 =>
 Ix t21.a t21.len t10 1 fun a23 =>
 LdI .i64 a23 v fun t24 =>
 If (t24 == 0) (R 9 v)
 (Nw (.cells #[.int .i64 t10] 3 (0, 0)) v fun n28 v1 =>
 span_Span_mark.call s 0 ⟨(some n28), 1, 1⟩ v1 fun v2 =>
 R 0 v2))
theorem span_Span_Put.of_vc {s : Option Addr} {addr : Int} {σ : Hp} {R : Int -> Hp -> Prop} (hv : span_Span_Put.vc s addr σ R) : span_Span_Put.call s addr σ R :=
 fnK_sound Tryz.func243 (x := span_Span_Put.hint) (args := [.pointer s, .int .i64 addr]) (rs := [.one (.i .i64)]) (R := R) (Eq.mpr (by kernel_rfl) hv)
def span_Span_addr.hint : Hn := .seq (.o 1) (.seq (.oq 14) (.leaf))
def span_Span_addr.vc (s : Option Addr) (object : Int) (σ : Hp) (R : Int -> Hp -> Prop) : Prop :=
 NilP s fun a6 =>
 LdI .i64 (a6.add 0) σ fun t8 =>
 Ar .i64 (t8 * 256) fun t9 =>
 NilP s fun a12 =>
 LdI .i64 ((a12.add 1).add 0) σ fun t15 =>
 Ar .i64 (object * t15) fun t16 =>
 Ar .i64 (t9 + t16) fun t17 =>
 R t17 σ
theorem span_Span_addr.of_vc {s : Option Addr} {object : Int} {σ : Hp} {R : Int -> Hp -> Prop} (hv : span_Span_addr.vc s object σ R) : span_Span_addr.call s object σ R :=
 fnK_sound Tryz.func252 (x := span_Span_addr.hint) (args := [.pointer s, .int .i64 object]) (rs := [.one (.i .i64)]) (R := R) (Eq.mpr (by kernel_rfl) hv)
def span_Span_Objects.hint : Hn := .seq (.o 1) (.seq (.seq (.o 3) (.cond (.seq (.o 1) (.leaf)) (.leaf))) (.seq (.o 6) (.leaf)))
def span_Span_Objects.vc (s : Option Addr) (σ : Hp) (R : Int -> Hp -> Prop) : Prop :=
 span_Span_made.call s σ fun t4 v =>
 If (!t4) (R 0 v)
 (NilP s fun a7 =>
 LdS (a7.add 4) v fun t9 =>
 R ((t9.len : Nat) : Int) v)
theorem span_Span_Objects.of_vc {s : Option Addr} {σ : Hp} {R : Int -> Hp -> Prop} (hv : span_Span_Objects.vc s σ R) : span_Span_Objects.call s σ R :=
 fnK_sound Tryz.func254 (x := span_Span_Objects.hint) (args := [.pointer s]) (rs := [.one (.i .i64)]) (R := R) (Eq.mpr (by kernel_rfl) hv)
def span_Span_Take.hint : Hn := .seq (.o 2) (.seq (.seq (.o 3) (.cond (.seq (.o 2) (.leaf)) (.leaf))) (.seq (.o 6) (.seq (.seq (.o 2) (.cond (.seq (.o 2) (.leaf)) (.leaf))) (.seq (.o 4) (.seq (.o 5) (.leaf))))))
def span_Span_Take.vc (s : Option Addr) (σ : Hp) (R : Int -> Int -> Hp -> Prop) : Prop :=
 span_Span_made.call s σ fun t6 v =>
 If (!t6) (R 0 5 v)
 (NilP s fun a9 =>
 LdS (a9.add 4) v fun t11 =>
 slices_Index_int_int.call t11 0 v fun i v1 =>
 If (decide (i < 0)) (R 0 6 v1)
 (Nw (.cells #[.int .i64 i] 3 (0, 0)) v1 fun n17 v2 =>
 span_Span_mark.call s 1 ⟨(some n17), 1, 1⟩ v2 fun v3 =>
 span_Span_addr.call s i v3 fun t21 v4 =>
 R t21 0 v4))
theorem span_Span_Take.of_vc {s : Option Addr} {σ : Hp} {R : Int -> Int -> Hp -> Prop} (hv : span_Span_Take.vc s σ R) : span_Span_Take.call s σ R :=
 fnK_sound Tryz.func256 (x := span_Span_Take.hint) (args := [.pointer s]) (rs := [.one (.i .i64), .one (.i .i64)]) (R := R) (Eq.mpr (by kernel_rfl) hv)
def span_Span_IsTaken.hint : Hn := .seq (.o 2) (.seq (.o 8) (.seq (.seq (.o 2) (.cond (.seq (.o 3) (.leaf)) (.leaf))) (.seq (.o 10) (.leaf))))
def span_Span_IsTaken.vc (s : Option Addr) (addr : Int) (σ : Hp) (R : Bool -> Int -> Hp -> Prop) : Prop :=
 span_Span_object.call s addr σ fun t11 t111 v =>
 If (t111 != 0) (R false t111 v)
 (NilP s fun a18 =>
 LdS (a18.add 4) v fun t20 =>
 Ix t20.a t20.len t11 1 fun a22 =>
 LdI .i64 a22 v fun t23 =>
 R (t23 == 1) 0 v)
theorem span_Span_IsTaken.of_vc {s : Option Addr} {addr : Int} {σ : Hp} {R : Bool -> Int -> Hp -> Prop} (hv : span_Span_IsTaken.vc s addr σ R) : span_Span_IsTaken.call s addr σ R :=
 fnK_sound Tryz.func264 (x := span_Span_IsTaken.hint) (args := [.pointer s, .int .i64 addr]) (rs := [.one .b, .one (.i .i64)]) (R := R) (Eq.mpr (by kernel_rfl) hv)
def span_Span_object.hint : Hn := .seq (.o 2) (.seq (.o 8) (.seq (.seq (.reg (.seq [.op, .op, .op, .grd true 5 [.op, .op, .op, .op, .op]])) (.cond (.seq (.o 2) (.leaf)) (.leaf))) (.seq (.o 4) (.leaf))))
def span_Span_object.vc (s : Option Addr) (addr : Int) (σ : Hp) (R : Int -> Int -> Hp -> Prop) : Prop :=
 span_Span_Index.call s addr σ fun t11 t111 v =>
 JnB (fun r v1 =>
 If r (R 0 8 v1)
 (R t11 t111 v1)) fun J =>
 If (t111 == 0) (span_Span_addr.call s t11 v fun t19 v2 =>
 J (t19 != addr) v2)
 (J false v)
theorem span_Span_object.of_vc {s : Option Addr} {addr : Int} {σ : Hp} {R : Int -> Int -> Hp -> Prop} (hv : span_Span_object.vc s addr σ R) : span_Span_object.call s addr σ R :=
 fnK_sound Tryz.func276 (x := span_Span_object.hint) (args := [.pointer s, .int .i64 addr]) (rs := [.one (.i .i64), .one (.i .i64)]) (R := R) (Eq.mpr (by kernel_rfl) hv)
def span_Span_mark.hint : Hn := .seq (.o 3) (.block (.loop [(10, .one (.i .i64))] (.seq (.o 1) (.seq (.cond (.leaf) (.leaf)) (.seq (.block (.seq (.o 3) (.seq (.reg (.tail 16 [.op, .op, .op, .op, .op, .op, .op, .op, .op, .op, .op, .op, .op, .op, .op, .op] [.op])) (.o 8)))) (.o 2))))))
def span_Span_mark.vc (s : Option Addr) (state : Int) (objects : Sl) (σ : Hp) (R : Hp -> Prop) : Prop :=
 LoopK [(.i .i64)] (fun I => I 0 σ) fun J (t10 : Int) v =>
 If (decide (t10 < ((objects.len : Nat) : Int))) (Ix objects.a objects.len t10 1 fun a12 =>
 LdI .i64 a12 v fun i =>
 NilP s fun a15 =>
 LdI .i64 (a15.add 5) v fun t17 =>
 NilP s fun a20 =>
 LdS (a20.add 4) v fun t22 =>
 Ix t22.a t22.len i 1 fun a24 =>
 LdI .i64 a24 v fun t25 =>
 Ar .i64 (state - t25) fun t26 =>
 Ar .i64 (t17 + t26) fun t27 =>
 NilP s fun a28 =>
 St1 (a28.add 5) (.int .i64 t27) v fun v1 =>
 NilP s fun a31 =>
 LdS (a31.add 4) v1 fun t33 =>
 Ix t33.a t33.len i 1 fun a36 =>
 St1 a36 (.int .i64 state) v1 fun v2 =>
 Ar .i64 (t10 + 1) fun t37 =>
 J t37 v2)
 (R v)
theorem span_Span_mark.of_vc {s : Option Addr} {state : Int} {objects : Sl} {σ : Hp} {R : Hp -> Prop} (hv : span_Span_mark.vc s state objects σ R) : span_Span_mark.call s state objects σ R :=
 fnK_sound Tryz.func277 (x := span_Span_mark.hint) (args := [.pointer s, .int .i64 state, .slice objects.a objects.len objects.cap]) (rs := []) (R := R) (Eq.mpr (by kernel_rfl) hv)
end Go.Proofs
namespace Go.Ar
open Go Go.Vc Go.Proofs


variable {σ : Hp} {F : Rg} {p q : Nat} {c : Cls} {s : SpA}
def tkN (tk : List Bool) : List Nat := tk.map fun b => if b then 1 else 0
theorem tkN_len (tk : List Bool) : (tkN tk).length = tk.length := by simp [tkN]
theorem tkN_get {tk : List Bool} {i : Nat} {b : Bool} (h : tk[i]? = some b) : (tkN tk)[i]? = some (if b then 1 else 0) := by simp [tkN, h]
theorem tkN_set (tk : List Bool) (i : Nat) (b : Bool) : tkN (tk.set i b) = (tkN tk).set i (if b then 1 else 0) := by simp [tkN, List.map_set]
structure SpH (σ : Hp) (p q : Nat) (c : Cls) (s : SpA) : Prop where
 hd : ∃ cap, c.n <= cap /\ Blk σ p [.int .i64 (s.st : Int), .int .i64 (c.size : Int), .int .i64 (c.pages : Int), .int .i64 (c.batch : Int), .slice (some ⟨q, 0, none⟩) c.n cap, .int .i64 (s.many : Int)]
 row : ∃ rest, Blk σ q (ints (tkN s.tk) ++ rest)
 ne : p ≠ q
 len : s.tk.length = c.n
 ok : c.ok
 fit : s.st + c.pages <= 1024
theorem SpH.keep {σ' : Hp} (h : SpH σ p q c s) (e : Ext F σ σ') (hp : ¬ F p) (hq : ¬ F q) : SpH σ' p q c s :=
 ⟨by obtain ⟨c, h1, h2⟩ := h.hd; exact ⟨c, h1, e.blk h2 hp⟩, by obtain ⟨r, h1⟩ := h.row; exact ⟨r, e.blk h1 hq⟩, h.ne, h.len, h.ok, h.fit⟩
theorem SpH.keep0 {σ' : Hp} (h : SpH σ p q c s) (e : Ext0 σ σ') : SpH σ' p q c s := h.keep e id id
theorem SpH.lt (h : SpH σ p q c s) : p < σ.size /\ q < σ.size := by
 obtain ⟨_, _, h1⟩ := h.hd; obtain ⟨_, h2⟩ := h.row; exact ⟨h1.lt, h2.lt⟩
theorem SpH.rS (h : SpH σ p q c s) {K : Sl -> Prop} (hK : ∀ cap, c.n <= cap -> K ⟨some ⟨q, 0, none⟩, c.n, cap⟩) : LdS (Addr.add ⟨p, 0, none⟩ 4) σ K := by
 obtain ⟨cp, h1, h2⟩ := h.hd
 exact h2.rS rfl (hK cp h1)
theorem SpH.rI (h : SpH σ p q c s) {i : Nat} {x : Int} (hx : ∀ a b : Value, ([.int .i64 (s.st : Int), .int .i64 (c.size : Int), .int .i64 (c.pages : Int), .int .i64 (c.batch : Int), a, .int .i64 (s.many : Int)] : List Value)[0 + i]? = some (.int .i64 x)) {K : Int -> Prop} (hK : K x) : LdI .i64 (Addr.add ⟨p, 0, none⟩ i) σ K := by
 obtain ⟨cp, h1, h2⟩ := h.hd
 exact h2.rI (hx _ .nilFunc) hK
theorem SpH.rI2 (h : SpH σ p q c s) {i j : Nat} {x : Int} (hx : ∀ a b : Value, ([.int .i64 (s.st : Int), .int .i64 (c.size : Int), .int .i64 (c.pages : Int), .int .i64 (c.batch : Int), a, .int .i64 (s.many : Int)] : List Value)[0 + i + j]? = some (.int .i64 x)) {K : Int -> Prop} (hK : K x) : LdI .i64 (Addr.add (Addr.add ⟨p, 0, none⟩ i) j) σ K := by
 obtain ⟨cp, h1, h2⟩ := h.hd
 exact h2.rI2 (hx _ .nilFunc) hK
theorem SpH.states (h : SpH σ p q c s) (cap : Nat) : SlR ⟨some ⟨q, 0, none⟩, c.n, cap⟩ 1 (ints (tkN s.tk)) σ (· = q) := by
 obtain ⟨r, h2⟩ := h.row
 refine h2.slR (o := 0) rfl (by rw [ints_len, tkN_len, h.len]; simp) fun j hj => ?_
 rw [Nat.zero_add, List.getElem?_append_left hj]
theorem smade_ok (h : SpH σ p q c s) {R : Bool -> Hp -> Prop} (hR : R true σ) : span_Span_made.call (some ⟨p, 0, none⟩) σ R := by
 refine span_Span_made.of_vc ?_
 unfold span_Span_made.vc
 refine JnB.intro (ifT rfl (nilP (h.rS fun cap _ => ?_)))
 have := h.ok.n_pos
 rw [decide_eq_true (by simp only; omega)]
 exact hR
theorem Objects_ok' (h : SpH σ p q c s) {R : Int -> Hp -> Prop} (hR : R (c.n : Int) σ) : span_Span_Objects.call (some ⟨p, 0, none⟩) σ R := by
 refine span_Span_Objects.of_vc ?_
 unfold span_Span_Objects.vc
 exact smade_ok h (ifF rfl (nilP (h.rS fun cap _ => hR)))
theorem addr_ok (h : SpH σ p q c s) (i : Nat) (hi : i <= 1000) {R : Int -> Hp -> Prop} (hR : R ((at_ c s i : Nat) : Int) σ) : span_Span_addr.call (some ⟨p, 0, none⟩) (i : Int) σ R := by
 refine span_Span_addr.of_vc ?_
 unfold span_Span_addr.vc
 have hc := h.ok
 unfold Cls.ok at hc
 have := h.fit
 have h2 : i * c.size <= 1000 * 512 := Nat.mul_le_mul hi (by omega)
 refine nilP (h.rI (fun _ _ => rfl) (arN (m := s.st * 256) (by simp) (by omega) (nilP (h.rI2 (fun _ _ => rfl) ?_))))
 exact arN (m := i * c.size) (by simp) (by omega) (arN (m := at_ c s i) (by simp [at_]) (by unfold at_; omega) hR)
theorem Index_ok (h : SpH σ p q c s) (x : Int) (hx2 : x <= 9223372036854775807) {R : Int -> Int -> Hp -> Prop} (h1 : ∀ i, idx c s x = some i -> R (i : Int) 0 σ) (h0 : idx c s x = none -> R 0 8 σ) : span_Span_Index.call (some ⟨p, 0, none⟩) x σ R := by
 refine span_Span_Index.of_vc ?_
 unfold span_Span_Index.vc
 have hc := h.ok
 unfold Cls.ok at hc
 have hn := h.ok.n_le
 have hfit := h.fit
 have hlen := h.len
 have hm : c.n * c.size <= 128 * 512 := Nat.mul_le_mul hn (by omega)
 refine smade_ok h (ifF rfl (addr_ok h 0 (by omega) ?_))
 have e0 : at_ c s 0 = s.st * 256 := by simp [at_]
 rw [e0]
 refine arW ?_
 refine Jn.intro (addr_ok h 0 (by omega) ?_)
 rw [e0]
 refine ifD (fun hlt => ifT rfl (h0 ?_)) fun hge => ?_
 ·unfold idx; rw [if_pos (by omega)]
 ·rw [wrap_i64 (by omega) (by omega)]
  obtain ⟨y, hy⟩ := Int.eq_ofNat_of_zero_le (show 0 <= x by omega)
  have key : If (decide (x - ((s.st * 256 : Nat) : Int) ≥ ((c.n * c.size : Nat) : Int))) (R 0 8 σ)
   (NilP (some ⟨p, 0, none⟩) fun a35 => LdI .i64 ((a35.add 1).add 0) σ fun t38 => Nz t38 <| Ar .i64 ((x - ((s.st * 256 : Nat) : Int)).tdiv t38) fun t39 => R t39 0 σ) := by
   refine ifD (fun hge2 => h0 ?_) fun hlt2 => nilP (h.rI2 (fun _ _ => rfl) (nz (by omega) ?_))
   ·unfold idx; rw [hlen, if_pos (by omega)]
   ·have : idx c s x = some ((x - ((s.st * 256 : Nat) : Int)).toNat / c.size) := by unfold idx; rw [hlen, if_neg (by omega)]
    refine arN (m := (x - ((s.st * 256 : Nat) : Int)).toNat / c.size) ?_ ?_ (h1 _ this)
    ·rw [tdiv_nn (by omega)]
     have : x - ((s.st * 256 : Nat) : Int) = (((x - ((s.st * 256 : Nat) : Int)).toNat : Nat) : Int) := by omega
     rw [this]; simp
    ·have := Nat.div_le_self (x - ((s.st * 256 : Nat) : Int)).toNat c.size
     omega
  refine nilP (nilP ⟨h.rS fun cap hcap => h.rI2 (fun _ _ => rfl) (arN (m := c.n * c.size) (by simp) (by omega) key), h.rI2 (fun _ _ => rfl) (h.rS fun cap hcap => arN (m := c.n * c.size) (by simp) (by omega) key)⟩)
theorem object_ok (h : SpH σ p q c s) (x : Int) (hx2 : x <= 9223372036854775807) {R : Int -> Int -> Hp -> Prop} (h1 : ∀ i, obj c s x = some i -> i < c.n -> R (i : Int) 0 σ) (h0 : obj c s x = none -> R 0 8 σ) : span_Span_object.call (some ⟨p, 0, none⟩) x σ R := by
 refine span_Span_object.of_vc ?_
 unfold span_Span_object.vc
 have hc := h.ok
 unfold Cls.ok at hc
 have hn := h.ok.n_le
 refine Index_ok h x hx2 (fun i hi => JnB.intro (ifT rfl ?_)) fun hi => JnB.intro (ifF rfl (ifF rfl (h0 (by unfold obj; rw [hi]))))
 have hin := ((idx_some (by omega)).1 hi).2.2
 rw [h.len] at hin
 refine addr_ok h i (by omega) (iff_ (fun he => h0 ?_) fun he => h1 i ?_ hin)
 ·have : ¬ x = ((at_ c s i : Nat) : Int) := fun e => by rw [e] at he; simp at he
  unfold obj; rw [hi]; simp [this]
 ·have : x = ((at_ c s i : Nat) : Int) := by
   have : ((at_ c s i : Nat) : Int) = x := by simpa using he
   exact this.symm
  unfold obj; rw [hi]; simp [this]
def SpA.is (s : SpA) (i : Nat) : Bool := s.tk.getD i false
theorem SpA.is_get {s : SpA} {i : Nat} (hi : i < s.tk.length) : s.tk[i]? = some (s.is i) := by
 simp [SpA.is, List.getD_eq_getElem?_getD, List.getElem?_eq_getElem hi]
theorem SIsTaken_ok (h : SpH σ p q c s) (x : Int) (hx2 : x <= 9223372036854775807) {R : Bool -> Int -> Hp -> Prop} (h1 : ∀ i, obj c s x = some i -> R (s.is i) 0 σ) (h0 : obj c s x = none -> R false 8 σ) : span_Span_IsTaken.call (some ⟨p, 0, none⟩) x σ R := by
 refine span_Span_IsTaken.of_vc ?_
 unfold span_Span_IsTaken.vc
 refine object_ok h x hx2 (fun i hi hin => ifF rfl (nilP (h.rS fun cap hcap => ?_))) fun hi => ifT rfl (h0 hi)
 rw [← h.len] at hin
 refine (h.states cap).ixN (tkN_get (SpA.is_get hin)) ?_
 have := h1 i hi
 cases hb : s.is i <;> rw [hb] at this <;> simpa using this
theorem put_many {s : SpA} {i : Nat} (hi : i < s.tk.length) (v : Bool) : ((s.put i v).many : Int) = s.many + ((if v then 1 else 0) - (if s.is i then 1 else 0)) := by
 have key : ∀ (l : List Bool) (i : Nat) (b : Bool), l[i]? = some b -> (((l.set i v).count true : Nat) : Int) = (l.count true : Nat) + ((if v then 1 else 0) - (if b then 1 else 0)) := by
  intro l
  induction l with
  | nil => intro i b h; simp at h
  | cons x l ih =>
   intro i b h
   cases i with
   | zero =>
    simp at h; subst h
    cases v <;> cases x <;> simp [List.count_cons] <;> omega
   | succ i =>
    have := ih i b (by simpa using h)
    simp only [List.set_cons_succ, List.count_cons]
    push_cast
    omega
 exact key s.tk i _ (SpA.is_get hi)
theorem many_le' (s : SpA) : s.many <= s.tk.length := List.count_le_length
theorem mark_ok (h : SpH σ p q c s) {i : Nat} (hi : i < c.n) (v : Bool) {sl : Sl} {G : Rg} (hs : SlR sl 1 (ints [i]) σ G) {R : Hp -> Prop} (hR : ∀ σ', Ext (fun b => b = p ∨ b = q) σ σ' -> SpH σ' p q c (s.put i v) -> R σ') :
 span_Span_mark.call (some ⟨p, 0, none⟩) (if v then 1 else 0) sl σ R := by
 refine span_Span_mark.of_vc ?_
 unfold span_Span_mark.vc
 have hl1 : sl.len = 1 := hs.lenN
 have hn := h.ok.n_le
 have hlen := h.len
 have hm := many_le' s
 have hit : i < s.tk.length := by omega
 have hmany := put_many hit v
 refine loop1 (a := .i .i64) (fun (t : Int) h' => t = 0 /\ h' = σ ∨ t = 1 /\ Ext (fun b => b = p ∨ b = q) σ h' /\ SpH h' p q c (s.put i v)) (fun t _ => 1 - t.toNat) (.inl ⟨rfl, rfl⟩) ?_
 rintro t h' (⟨rfl, rfl⟩ | ⟨rfl, e, hS⟩)
 ·refine ifDT (by omega) ?_
  refine hs.ixN (i := 0) (x := i) rfl (nilP (h.rI (fun _ _ => rfl) (nilP (h.rS fun cap hcap => ?_))))
  refine (h.states cap).ixN (tkN_get (SpA.is_get hit)) ?_
  have hb1 : (0 : Int) <= (if v then 1 else 0) /\ (if v then (1 : Int) else 0) <= 1 := by cases v <;> simp
  have hb2 : (0 : Int) <= ((if s.is i then 1 else 0 : Nat) : Int) /\ ((if s.is i then 1 else 0 : Nat) : Int) <= 1 := by cases s.is i <;> simp
  have hcast : ((if s.is i then 1 else 0 : Nat) : Int) = (if s.is i then 1 else 0) := by cases s.is i <;> rfl
  refine ar (by omega) (by omega) (ar (by omega) (by omega) (nilP ?_))
  obtain ⟨cp, hcp, hd⟩ := h.hd
  obtain ⟨r, hrow⟩ := h.row
  refine hd.s1 (by simp) fun h2 ho2 hd2 => ?_
  have hrow2 := only_blk ho2 hrow (Ne.symm h.ne)
  refine nilP (hd2.rS rfl (ix (by omega) (by simp only; omega) ?_))
  rw [add_lit]
  refine hrow2.s0 (by simp [ints_len, tkN_len]; omega) fun h3 ho3 hr3 => ?_
  refine arN (m := 1) (by omega) (by omega) ⟨.inr ⟨rfl, ?_, ?_⟩, by decide⟩
  ·exact (Ext.of_only (F := fun b => b = p ∨ b = q) ho2 (.inl rfl)).trans (Ext.of_only ho3 (.inr rfl))
  ·refine ⟨⟨cp, hcp, ?_⟩, ⟨r, ?_⟩, h.ne, by simp [SpA.put, h.len], h.ok, h.fit⟩
   ·have := only_blk ho3 hd2 h.ne
    rw [hmany, ← hcast]
    exact this
   ·have e : (ints (tkN s.tk) ++ r).set (0 + (i : Int).toNat * 1) (.int .i64 (if v then 1 else 0)) = ints (tkN (s.put i v).tk) ++ r := by
     rw [List.set_append_left _ _ (by simp [ints_len, tkN_len]; omega)]
     congr 1
     simp only [SpA.put, tkN_set, ints, List.map_set]
     have : (0 + (i : Int).toNat * 1) = i := by omega
     rw [this]
     congr 1
     cases v <;> rfl
    rw [e] at hr3
    exact hr3
 ·exact ifDF (by omega) (hR _ e hS)
theorem SPut_ok (h : SpH σ p q c s) {x : Int} {i : Nat} (hx2 : x <= 9223372036854775807) (ho : obj c s x = some i) (ht : s.is i = true) {R : Int -> Hp -> Prop} (hR : ∀ σ', Ext (fun b => b = p ∨ b = q) σ σ' -> SpH σ' p q c (s.put i false) -> R 0 σ') :
 span_Span_Put.call (some ⟨p, 0, none⟩) x σ R := by
 refine span_Span_Put.of_vc ?_
 unfold span_Span_Put.vc
 refine object_ok h x hx2 (fun j hj hin => ifF rfl (nilP (h.rS fun cap hcap => ?_))) fun hn => by rw [ho] at hn; cases hn
 rw [ho] at hj; cases hj
 have hin' : i < s.tk.length := by rw [h.len]; exact hin
 refine (h.states cap).ixN (tkN_get (SpA.is_get hin')) ?_
 rw [ht]
 refine ifF rfl (nw (cs := ints [i]) fun v hz e hb => ?_)
 have hq := h.lt
 exact mark_ok (h.keep0 e) hin false (lit_slR hb rfl) fun σ' e' h' => hR σ' (e.to.trans e') h'
theorem STake_ok (h : SpH σ p q c s) {i : Nat} (hlow : low s = some i) {R : Int -> Int -> Hp -> Prop} (hR : ∀ σ', Ext (fun b => b = p ∨ b = q) σ σ' -> SpH σ' p q c (s.put i true) -> R ((at_ c s i : Nat) : Int) 0 σ') :
 span_Span_Take.call (some ⟨p, 0, none⟩) σ R := by
 refine span_Span_Take.of_vc ?_
 unfold span_Span_Take.vc
 have hn := h.ok.n_le
 have hlow' := List.findIdx?_eq_some_iff_getElem.1 hlow
 obtain ⟨hi, hf, hb⟩ := hlow'
 have hfi : s.tk[i] = false := by simpa using hf
 refine smade_ok h (ifF rfl (nilP (h.rS fun cap hcap => ?_)))
 refine index_ok (h.states cap) (by simp [tkN_len, h.len]; omega) 0 (fun j hj hno => ?_) fun hno => ?_
 ·have hjl : j < s.tk.length := by
   have := (List.getElem?_eq_some_iff.1 hj).1
   rwa [tkN_len] at this
  have hji : j = i := by
   rcases Nat.lt_trichotomy j i with h1 | h1 | h1
   ·have := hb j h1
    rw [tkN_get (List.getElem?_eq_getElem hjl)] at hj
    have : s.tk[j] = true := by simpa using this
    simp [this] at hj
   ·exact h1
   ·exact absurd (by rw [tkN_get (List.getElem?_eq_getElem hi), hfi]; rfl) (hno i h1)
  subst hji
  rw [h.len] at hi
  refine ifDF (by omega) (nw (cs := ints [j]) fun v hz e hb' => ?_)
  refine mark_ok (h.keep0 e) hi true (lit_slR hb' rfl) fun σ' e' h' => addr_ok h' j (by omega) (hR σ' (e.to.trans e') h')
 ·exfalso
  apply hno
  exact List.mem_of_getElem? (i := i) (by rw [tkN_get (List.getElem?_eq_getElem hi), hfi]; rfl)
theorem Run_ok (h : SpH σ p q c s) {R : Int -> Int -> Hp -> Prop} (hR : ∀ σ', Ext0 σ σ' -> R (s.st : Int) (c.pages : Int) σ') : span_Span_Run.call (some ⟨p, 0, none⟩) σ R := by
 refine span_Span_Run.of_vc ?_
 unfold span_Span_Run.vc
 refine nw (cs := [.int .i64 0, .int .i64 0]) fun v hz e hb => ?_
 have h1 := h.keep0 e
 refine smade_ok h1 (ifF rfl (nilP (h1.rI (fun _ _ => rfl) (nilP (h1.rI2 (fun _ _ => rfl) ?_)))))
 refine hb.s1 (by simp) fun v2 ho2 hb2 => hb2.s1 (by simp) fun v3 ho3 hb3 => ?_
 refine hb3.rI rfl (hb3.rI rfl (hR _ ?_))
 exact Ext.fresh (Ext.fresh e (Ext.of_only (F := (· = σ.size)) ho2 rfl) fun i hi => by omega) (Ext.of_only (F := (· = σ.size)) ho3 rfl) fun i hi => by omega
theorem zeros_ints (n : Nat) : (List.replicate n [Value.int .i64 0]).flatten = ints (List.replicate n 0) := by
 induction n with
 | zero => rfl
 | succ n ih => simp only [List.replicate_succ, List.flatten_cons, ih]; rfl
theorem SNew_ok (hc : c.ok) {st : Nat} (hf : st + c.pages <= 1024) {R : Option Addr -> Int -> Hp -> Prop} (hR : ∀ σ' p q, Ext0 σ σ' -> σ.size <= p -> σ.size <= q -> SpH σ' p q c ⟨st, List.replicate c.n false⟩ -> R (some ⟨p, 0, none⟩) 0 σ') :
 span_New.call (st : Int) c.size c.pages c.batch σ R := by
 refine span_New.of_vc ?_
 unfold span_New.vc
 have hk := hc
 unfold Cls.ok at hk
 have hn := hc.n_le
 refine nw (cs := [.int .i64 c.size, .int .i64 c.pages, .int .i64 c.batch]) fun v hz e hb => ?_
 refine hb.rI rfl (hb.rI rfl (hb.rI rfl (Objects_ok _ _ _ (fun c' hc' e1 e2 e3 v1 ex => ?_) fun hno => ?_)))
 case refine_2 => rw [(clsOk_nat c).2 hc] at hno; cases hno
 have : c' = c := by
  obtain ⟨a, b, d⟩ := c; obtain ⟨a', b', d'⟩ := c'
  simp only at e1 e2 e3
  congr 1 <;> omega
 subst this
 have hb1 := ex.blk hb id
 refine JnB.intro (ifF rfl (JnB.intro (ifDF (by omega) (hb1.rI rfl (arN (m := 1024 - c'.pages) (by omega) (by omega) (ifDF (by omega) ?_))))))
 refine ⟨fun h' => Blk h' σ.size [.int .i64 c'.size, .int .i64 c'.pages, .int .i64 c'.batch], hb1, ⟨_, fun h' hS => by rw [add_lit, hS.cell]; rfl, ⟨_, fun h' hS => by rw [add_lit, hS.cell]; rfl, ⟨_, fun h' hS => by rw [add_lit, hS.cell]; rfl, ?_⟩⟩⟩⟩
 refine mk (by omega) (by omega) fun v2 hz2 ex2 hb2 => ⟨ex2.blk hb1 id, nw (cs := [.int .i64 (st : Int), .int .i64 c'.size, .int .i64 c'.pages, .int .i64 c'.batch, .slice (some ⟨v1.size, 0, none⟩) c'.n c'.n, .int .i64 0]) fun v3 hz3 ex3 hb3 => ⟨(ex2.trans ex3).blk hb1 id, ?_⟩⟩
 rw [zeros_ints] at hb2
 have hsz := ex.1
 refine hR _ _ _ (((e.trans ex).trans ex2).trans ex3) (by omega) (show σ.size <= v1.size by omega) ⟨⟨c'.n, Nat.le_refl _, ?_⟩, ⟨[], ?_⟩, by omega, by simp, hc, hf⟩
 ·have : SpA.many ⟨st, List.replicate c'.n false⟩ = 0 := by simp [SpA.many, List.count_replicate]
  rw [this]; exact hb3
 ·have : tkN (List.replicate c'.n false) = List.replicate c'.n 0 := by simp [tkN]
  rw [this, List.append_nil]
  exact ex3.blk hb2 id
end Go.Ar