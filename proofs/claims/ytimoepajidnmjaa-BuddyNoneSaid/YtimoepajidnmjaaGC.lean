/- Printed by gen.py: the calls of Go functions. -/
import Derived.Test.YtimoepajidnmjaaProg
import Derived.Test.YtimoepajidnmjaaVcI
import Derived.KernelRfl
namespace Go.Proofs
open Go.Vc
set_option linter.unusedVariables false
/-- `freehold/freeholdlaw03.BuddyOrders` -/
def freeholdlaw03_BuddyOrders.call (pages : Int) (l : Sl) (order : Int) (σ : Hp) (R : Bool → Hp → Prop) : Prop := CallK Try.prog 3 #[.int .u16 pages, .slice l.a l.len l.cap, .int .i64 order] [.one .b] σ R
theorem freeholdlaw03_BuddyOrders.mono {pages : Int} {l : Sl} {order : Int} {σ : Hp} {R R' : Bool → Hp → Prop} (c : freeholdlaw03_BuddyOrders.call pages l order σ R) (hl : ∀ r0 σ', R r0 σ' → R' r0 σ') : freeholdlaw03_BuddyOrders.call pages l order σ R' :=
  CallK.mono c hl
/-- `freehold/freeholdlaw03.BuddyBlocks` -/
def freeholdlaw03_BuddyBlocks.call (pages : Int) (l : Sl) (σ : Hp) (R : Bool → Hp → Prop) : Prop := CallK Try.prog 4 #[.int .u16 pages, .slice l.a l.len l.cap] [.one .b] σ R
theorem freeholdlaw03_BuddyBlocks.mono {pages : Int} {l : Sl} {σ : Hp} {R R' : Bool → Hp → Prop} (c : freeholdlaw03_BuddyBlocks.call pages l σ R) (hl : ∀ r0 σ', R r0 σ' → R' r0 σ') : freeholdlaw03_BuddyBlocks.call pages l σ R' :=
  CallK.mono c hl
/-- `freehold/freeholdlaw03.BuddyAlone` -/
def freeholdlaw03_BuddyAlone.call (pages : Int) (l : Sl) (vfrom : Int) (σ : Hp) (R : Bool → Hp → Prop) : Prop := CallK Try.prog 5 #[.int .u16 pages, .slice l.a l.len l.cap, .int .u16 vfrom] [.one .b] σ R
theorem freeholdlaw03_BuddyAlone.mono {pages : Int} {l : Sl} {vfrom : Int} {σ : Hp} {R R' : Bool → Hp → Prop} (c : freeholdlaw03_BuddyAlone.call pages l vfrom σ R) (hl : ∀ r0 σ', R r0 σ' → R' r0 σ') : freeholdlaw03_BuddyAlone.call pages l vfrom σ R' :=
  CallK.mono c hl
/-- `freehold/freeholdlaw03.BuddyPlays` -/
def freeholdlaw03_BuddyPlays.call (pages : Int) (l : Sl) (page : Int) (σ : Hp) (R : Bool → Hp → Prop) : Prop := CallK Try.prog 6 #[.int .i64 pages, .slice l.a l.len l.cap, .int .i64 page] [.one .b] σ R
theorem freeholdlaw03_BuddyPlays.mono {pages : Int} {l : Sl} {page : Int} {σ : Hp} {R R' : Bool → Hp → Prop} (c : freeholdlaw03_BuddyPlays.call pages l page σ R) (hl : ∀ r0 σ', R r0 σ' → R' r0 σ') : freeholdlaw03_BuddyPlays.call pages l page σ R' :=
  CallK.mono c hl
/-- `freehold/freeholdlaw03.BuddyNone` -/
def freeholdlaw03_BuddyNone.call (vx : Int) (vx1 : Int) (vx2 : Int) (order : Int) (σ : Hp) (R : Bool → Hp → Prop) : Prop := CallK Try.prog 7 #[.agg #[.int .i64 vx, .int .i64 vx1, .int .i64 vx2], .int .i64 order] [.one .b] σ R
theorem freeholdlaw03_BuddyNone.mono {vx : Int} {vx1 : Int} {vx2 : Int} {order : Int} {σ : Hp} {R R' : Bool → Hp → Prop} (c : freeholdlaw03_BuddyNone.call vx vx1 vx2 order σ R) (hl : ∀ r0 σ', R r0 σ' → R' r0 σ') : freeholdlaw03_BuddyNone.call vx vx1 vx2 order σ R' :=
  CallK.mono c hl
/-- `freehold/freeholdlaw03.BuddyTakes` -/
def freeholdlaw03_BuddyTakes.call (pages : Int) (l : Sl) (many : Int) (align : Int) (σ : Hp) (R : Bool → Hp → Prop) : Prop := CallK Try.prog 8 #[.int .u16 pages, .slice l.a l.len l.cap, .int .i64 many, .int .i64 align] [.one .b] σ R
theorem freeholdlaw03_BuddyTakes.mono {pages : Int} {l : Sl} {many : Int} {align : Int} {σ : Hp} {R R' : Bool → Hp → Prop} (c : freeholdlaw03_BuddyTakes.call pages l many align σ R) (hl : ∀ r0 σ', R r0 σ' → R' r0 σ') : freeholdlaw03_BuddyTakes.call pages l many align σ R' :=
  CallK.mono c hl
/-- `freehold/freeholdlaw03.BuddyBack` -/
def freeholdlaw03_BuddyBack.call (pages : Int) (l : Sl) (many : Int) (align : Int) (σ : Hp) (R : Bool → Hp → Prop) : Prop := CallK Try.prog 9 #[.int .u16 pages, .slice l.a l.len l.cap, .int .i64 many, .int .i64 align] [.one .b] σ R
theorem freeholdlaw03_BuddyBack.mono {pages : Int} {l : Sl} {many : Int} {align : Int} {σ : Hp} {R R' : Bool → Hp → Prop} (c : freeholdlaw03_BuddyBack.call pages l many align σ R) (hl : ∀ r0 σ', R r0 σ' → R' r0 σ') : freeholdlaw03_BuddyBack.call pages l many align σ R' :=
  CallK.mono c hl
/-- `freehold/freeholdlaw03.BuddyRefuses` -/
def freeholdlaw03_BuddyRefuses.call (pages : Int) (l : Sl) (vx : Int) (vx1 : Int) (vx2 : Int) (σ : Hp) (R : Bool → Hp → Prop) : Prop := CallK Try.prog 10 #[.int .u16 pages, .slice l.a l.len l.cap, .agg #[.int .i64 vx, .int .i64 vx1, .int .i64 vx2]] [.one .b] σ R
theorem freeholdlaw03_BuddyRefuses.mono {pages : Int} {l : Sl} {vx : Int} {vx1 : Int} {vx2 : Int} {σ : Hp} {R R' : Bool → Hp → Prop} (c : freeholdlaw03_BuddyRefuses.call pages l vx vx1 vx2 σ R) (hl : ∀ r0 σ', R r0 σ' → R' r0 σ') : freeholdlaw03_BuddyRefuses.call pages l vx vx1 vx2 σ R' :=
  CallK.mono c hl
/-- `freehold/freeholdlaw03.BuddyClones` -/
def freeholdlaw03_BuddyClones.call (pages : Int) (l : Sl) (more : Sl) (side : Bool) (σ : Hp) (R : Bool → Hp → Prop) : Prop := CallK Try.prog 11 #[.int .u16 pages, .slice l.a l.len l.cap, .slice more.a more.len more.cap, .bool side] [.one .b] σ R
theorem freeholdlaw03_BuddyClones.mono {pages : Int} {l : Sl} {more : Sl} {side : Bool} {σ : Hp} {R R' : Bool → Hp → Prop} (c : freeholdlaw03_BuddyClones.call pages l more side σ R) (hl : ∀ r0 σ', R r0 σ' → R' r0 σ') : freeholdlaw03_BuddyClones.call pages l more side σ R' :=
  CallK.mono c hl
/-- `freehold/freeholdlaw03.great` -/
def freeholdlaw03_great.call (l : Sl) (σ : Hp) (R : Bool → Hp → Prop) : Prop := CallK Try.prog 12 #[.slice l.a l.len l.cap] [.one .b] σ R
theorem freeholdlaw03_great.mono {l : Sl} {σ : Hp} {R R' : Bool → Hp → Prop} (c : freeholdlaw03_great.call l σ R) (hl : ∀ r0 σ', R r0 σ' → R' r0 σ') : freeholdlaw03_great.call l σ R' :=
  CallK.mono c hl
/-- `freehold/freeholdlaw03.alive` -/
def freeholdlaw03_alive.call (σ : Hp) (R : Bool → Hp → Prop) : Prop := CallK Try.prog 13 #[] [.one .b] σ R
theorem freeholdlaw03_alive.mono {σ : Hp} {R R' : Bool → Hp → Prop} (c : freeholdlaw03_alive.call σ R) (hl : ∀ r0 σ', R r0 σ' → R' r0 σ') : freeholdlaw03_alive.call σ R' :=
  CallK.mono c hl
/-- `freehold/freeholdlaw03.made` -/
def freeholdlaw03_made.call (pages : Int) (l : Sl) (σ : Hp) (R : Option Addr → Hp → Prop) : Prop := CallK Try.prog 14 #[.int .u16 pages, .slice l.a l.len l.cap] [.one .p] σ R
theorem freeholdlaw03_made.mono {pages : Int} {l : Sl} {σ : Hp} {R R' : Option Addr → Hp → Prop} (c : freeholdlaw03_made.call pages l σ R) (hl : ∀ r0 σ', R r0 σ' → R' r0 σ') : freeholdlaw03_made.call pages l σ R' :=
  CallK.mono c hl
/-- `(*freehold/buddy.Heap).Blocks` -/
def buddy_Heap_Blocks.call (vh : Option Addr) (order : Int) (σ : Hp) (R : Sl → Hp → Prop) : Prop := CallK Try.prog 15 #[.pointer vh, .int .i64 order] [.one .s] σ R
theorem buddy_Heap_Blocks.mono {vh : Option Addr} {order : Int} {σ : Hp} {R R' : Sl → Hp → Prop} (c : buddy_Heap_Blocks.call vh order σ R) (hl : ∀ r0 σ', R r0 σ' → R' r0 σ') : buddy_Heap_Blocks.call vh order σ R' :=
  CallK.mono c hl
/-- `(*freehold/buddy.Heap).Free` -/
def buddy_Heap_Free.call (vh : Option Addr) (σ : Hp) (R : Int → Hp → Prop) : Prop := CallK Try.prog 16 #[.pointer vh] [.one (.i .i64)] σ R
theorem buddy_Heap_Free.mono {vh : Option Addr} {σ : Hp} {R R' : Int → Hp → Prop} (c : buddy_Heap_Free.call vh σ R) (hl : ∀ r0 σ', R r0 σ' → R' r0 σ') : buddy_Heap_Free.call vh σ R' :=
  CallK.mono c hl
/-- `(*freehold/buddy.Heap).IsFree` -/
def buddy_Heap_IsFree.call (vh : Option Addr) (page : Int) (σ : Hp) (R : Bool → Hp → Prop) : Prop := CallK Try.prog 17 #[.pointer vh, .int .i64 page] [.one .b] σ R
theorem buddy_Heap_IsFree.mono {vh : Option Addr} {page : Int} {σ : Hp} {R R' : Bool → Hp → Prop} (c : buddy_Heap_IsFree.call vh page σ R) (hl : ∀ r0 σ', R r0 σ' → R' r0 σ') : buddy_Heap_IsFree.call vh page σ R' :=
  CallK.mono c hl
/-- `(*freehold/buddy.Heap).Give` -/
def buddy_Heap_Give.call (vh : Option Addr) (start : Int) (pages : Int) (σ : Hp) (R : Int → Hp → Prop) : Prop := CallK Try.prog 18 #[.pointer vh, .int .i64 start, .int .i64 pages] [.one (.i .i64)] σ R
theorem buddy_Heap_Give.mono {vh : Option Addr} {start : Int} {pages : Int} {σ : Hp} {R R' : Int → Hp → Prop} (c : buddy_Heap_Give.call vh start pages σ R) (hl : ∀ r0 σ', R r0 σ' → R' r0 σ') : buddy_Heap_Give.call vh start pages σ R' :=
  CallK.mono c hl
/-- `freehold/freeholdlaw03.alike` -/
def freeholdlaw03_alike.call (a : Option Addr) (b : Option Addr) (σ : Hp) (R : Bool → Hp → Prop) : Prop := CallK Try.prog 19 #[.pointer a, .pointer b] [.one .b] σ R
theorem freeholdlaw03_alike.mono {a : Option Addr} {b : Option Addr} {σ : Hp} {R R' : Bool → Hp → Prop} (c : freeholdlaw03_alike.call a b σ R) (hl : ∀ r0 σ', R r0 σ' → R' r0 σ') : freeholdlaw03_alike.call a b σ R' :=
  CallK.mono c hl
/-- `freehold/buddy.New` -/
def buddy_New.call (pages : Int) (σ : Hp) (R : Option Addr → Int → Hp → Prop) : Prop := CallK Try.prog 20 #[.int .i64 pages] [.one .p, .one (.i .i64)] σ R
theorem buddy_New.mono {pages : Int} {σ : Hp} {R R' : Option Addr → Int → Hp → Prop} (c : buddy_New.call pages σ R) (hl : ∀ r0 r1 σ', R r0 r1 σ' → R' r0 r1 σ') : buddy_New.call pages σ R' :=
  CallK.mono c hl
/-- `freehold/freeholdref03.New` -/
def freeholdref03_New.call (pages : Int) (σ : Hp) (R : Option Addr → Int → Hp → Prop) : Prop := CallK Try.prog 21 #[.int .i64 pages] [.one .p, .one (.i .i64)] σ R
theorem freeholdref03_New.mono {pages : Int} {σ : Hp} {R R' : Option Addr → Int → Hp → Prop} (c : freeholdref03_New.call pages σ R) (hl : ∀ r0 r1 σ', R r0 r1 σ' → R' r0 r1 σ') : freeholdref03_New.call pages σ R' :=
  CallK.mono c hl
/-- `(*freehold/buddy.Heap).Clone` -/
def buddy_Heap_Clone.call (vh : Option Addr) (σ : Hp) (R : Option Addr → Hp → Prop) : Prop := CallK Try.prog 22 #[.pointer vh] [.one .p] σ R
theorem buddy_Heap_Clone.mono {vh : Option Addr} {σ : Hp} {R R' : Option Addr → Hp → Prop} (c : buddy_Heap_Clone.call vh σ R) (hl : ∀ r0 σ', R r0 σ' → R' r0 σ') : buddy_Heap_Clone.call vh σ R' :=
  CallK.mono c hl
/-- `(*freehold/freeholdref03.Heap).Clone` -/
def freeholdref03_Heap_Clone.call (vh : Option Addr) (σ : Hp) (R : Option Addr → Hp → Prop) : Prop := CallK Try.prog 23 #[.pointer vh] [.one .p] σ R
theorem freeholdref03_Heap_Clone.mono {vh : Option Addr} {σ : Hp} {R R' : Option Addr → Hp → Prop} (c : freeholdref03_Heap_Clone.call vh σ R) (hl : ∀ r0 σ', R r0 σ' → R' r0 σ') : freeholdref03_Heap_Clone.call vh σ R' :=
  CallK.mono c hl
/-- `freehold/freeholdlaw03.play` -/
def freeholdlaw03_play.call (vh : Option Addr) (t : Option Addr) (vx : Int) (vx1 : Int) (vx2 : Int) (σ : Hp) (R : Bool → Hp → Prop) : Prop := CallK Try.prog 24 #[.pointer vh, .pointer t, .agg #[.int .i64 vx, .int .i64 vx1, .int .i64 vx2]] [.one .b] σ R
theorem freeholdlaw03_play.mono {vh : Option Addr} {t : Option Addr} {vx : Int} {vx1 : Int} {vx2 : Int} {σ : Hp} {R R' : Bool → Hp → Prop} (c : freeholdlaw03_play.call vh t vx vx1 vx2 σ R) (hl : ∀ r0 σ', R r0 σ' → R' r0 σ') : freeholdlaw03_play.call vh t vx vx1 vx2 σ R' :=
  CallK.mono c hl
/-- `freehold/freeholdlaw03.Same` -/
def freeholdlaw03_Same.call (vh : Option Addr) (t : Option Addr) (σ : Hp) (R : Bool → Hp → Prop) : Prop := CallK Try.prog 25 #[.pointer vh, .pointer t] [.one .b] σ R
theorem freeholdlaw03_Same.mono {vh : Option Addr} {t : Option Addr} {σ : Hp} {R R' : Bool → Hp → Prop} (c : freeholdlaw03_Same.call vh t σ R) (hl : ∀ r0 σ', R r0 σ' → R' r0 σ') : freeholdlaw03_Same.call vh t σ R' :=
  CallK.mono c hl
/-- `(*freehold/freeholdref03.Heap).IsFree` -/
def freeholdref03_Heap_IsFree.call (vh : Option Addr) (page : Int) (σ : Hp) (R : Bool → Hp → Prop) : Prop := CallK Try.prog 26 #[.pointer vh, .int .i64 page] [.one .b] σ R
theorem freeholdref03_Heap_IsFree.mono {vh : Option Addr} {page : Int} {σ : Hp} {R R' : Bool → Hp → Prop} (c : freeholdref03_Heap_IsFree.call vh page σ R) (hl : ∀ r0 σ', R r0 σ' → R' r0 σ') : freeholdref03_Heap_IsFree.call vh page σ R' :=
  CallK.mono c hl
/-- `(*freehold/buddy.Heap).Take` -/
def buddy_Heap_Take.call (vh : Option Addr) (pages : Int) (align : Int) (σ : Hp) (R : Int → Int → Hp → Prop) : Prop := CallK Try.prog 27 #[.pointer vh, .int .i64 pages, .int .i64 align] [.one (.i .i64), .one (.i .i64)] σ R
theorem buddy_Heap_Take.mono {vh : Option Addr} {pages : Int} {align : Int} {σ : Hp} {R R' : Int → Int → Hp → Prop} (c : buddy_Heap_Take.call vh pages align σ R) (hl : ∀ r0 r1 σ', R r0 r1 σ' → R' r0 r1 σ') : buddy_Heap_Take.call vh pages align σ R' :=
  CallK.mono c hl
/-- `freehold/freeholdref01.Power` -/
def freeholdref01_Power.call (n : Int) (most : Int) (σ : Hp) (R : Bool → Hp → Prop) : Prop := CallK Try.prog 28 #[.int .i64 n, .int .i64 most] [.one .b] σ R
theorem freeholdref01_Power.mono {n : Int} {most : Int} {σ : Hp} {R R' : Bool → Hp → Prop} (c : freeholdref01_Power.call n most σ R) (hl : ∀ r0 σ', R r0 σ' → R' r0 σ') : freeholdref01_Power.call n most σ R' :=
  CallK.mono c hl
/-- `(*freehold/buddy.Heap).Order` -/
def buddy_Heap_Order.call (vh : Option Addr) (σ : Hp) (R : Int → Hp → Prop) : Prop := CallK Try.prog 29 #[.pointer vh] [.one (.i .i64)] σ R
theorem buddy_Heap_Order.mono {vh : Option Addr} {σ : Hp} {R R' : Int → Hp → Prop} (c : buddy_Heap_Order.call vh σ R) (hl : ∀ r0 σ', R r0 σ' → R' r0 σ') : buddy_Heap_Order.call vh σ R' :=
  CallK.mono c hl
/-- `freehold/freeholdlaw03.do` -/
def freeholdlaw03_do.call (vh : Option Addr) (vx : Int) (vx1 : Int) (vx2 : Int) (σ : Hp) (R : Int → Hp → Prop) : Prop := CallK Try.prog 30 #[.pointer vh, .agg #[.int .i64 vx, .int .i64 vx1, .int .i64 vx2]] [.one (.i .i64)] σ R
theorem freeholdlaw03_do.mono {vh : Option Addr} {vx : Int} {vx1 : Int} {vx2 : Int} {σ : Hp} {R R' : Int → Hp → Prop} (c : freeholdlaw03_do.call vh vx vx1 vx2 σ R) (hl : ∀ r0 σ', R r0 σ' → R' r0 σ') : freeholdlaw03_do.call vh vx vx1 vx2 σ R' :=
  CallK.mono c hl
/-- `freehold/freeholdref01.Ints` -/
def freeholdref01_Ints.call (a : Sl) (b : Sl) (σ : Hp) (R : Bool → Hp → Prop) : Prop := CallK Try.prog 31 #[.slice a.a a.len a.cap, .slice b.a b.len b.cap] [.one .b] σ R
theorem freeholdref01_Ints.mono {a : Sl} {b : Sl} {σ : Hp} {R R' : Bool → Hp → Prop} (c : freeholdref01_Ints.call a b σ R) (hl : ∀ r0 σ', R r0 σ' → R' r0 σ') : freeholdref01_Ints.call a b σ R' :=
  CallK.mono c hl
/-- `(*freehold/buddy.Heap).made` -/
def buddy_Heap_made.call (vh : Option Addr) (σ : Hp) (R : Bool → Hp → Prop) : Prop := CallK Try.prog 32 #[.pointer vh] [.one .b] σ R
theorem buddy_Heap_made.mono {vh : Option Addr} {σ : Hp} {R R' : Bool → Hp → Prop} (c : buddy_Heap_made.call vh σ R) (hl : ∀ r0 σ', R r0 σ' → R' r0 σ') : buddy_Heap_made.call vh σ R' :=
  CallK.mono c hl
/-- `slices.Sorted[int]` -/
def slices_Sorted_int.call (seq : Fv) (σ : Hp) (R : Sl → Hp → Prop) : Prop := CallK Try.prog 33 #[.func (.func seq.f) seq.first seq.captured] [.one .s] σ R
theorem slices_Sorted_int.mono {seq : Fv} {σ : Hp} {R R' : Sl → Hp → Prop} (c : slices_Sorted_int.call seq σ R) (hl : ∀ r0 σ', R r0 σ' → R' r0 σ') : slices_Sorted_int.call seq σ R' :=
  CallK.mono c hl
/-- `maps.Keys[map[int]bool,int,bool]` -/
def maps_Keys_map_int_bool_int_bool.call (m : Option Nat) (σ : Hp) (R : Fv → Hp → Prop) : Prop := CallK Try.prog 34 #[.map m] [.one .fn] σ R
theorem maps_Keys_map_int_bool_int_bool.mono {m : Option Nat} {σ : Hp} {R R' : Fv → Hp → Prop} (c : maps_Keys_map_int_bool_int_bool.call m σ R) (hl : ∀ r0 σ', R r0 σ' → R' r0 σ') : maps_Keys_map_int_bool_int_bool.call m σ R' :=
  CallK.mono c hl
/-- `(*freehold/buddy.Heap).covered` -/
def buddy_Heap_covered.call (vh : Option Addr) (page : Int) (σ : Hp) (R : Int → Int → Bool → Hp → Prop) : Prop := CallK Try.prog 35 #[.pointer vh, .int .i64 page] [.one (.i .i64), .one (.i .i64), .one .b] σ R
theorem buddy_Heap_covered.mono {vh : Option Addr} {page : Int} {σ : Hp} {R R' : Int → Int → Bool → Hp → Prop} (c : buddy_Heap_covered.call vh page σ R) (hl : ∀ r0 r1 r2 σ', R r0 r1 r2 σ' → R' r0 r1 r2 σ') : buddy_Heap_covered.call vh page σ R' :=
  CallK.mono c hl
/-- `(*freehold/buddy.Heap).check` -/
def buddy_Heap_check.call (vh : Option Addr) (start : Int) (pages : Int) (σ : Hp) (R : Int → Hp → Prop) : Prop := CallK Try.prog 36 #[.pointer vh, .int .i64 start, .int .i64 pages] [.one (.i .i64)] σ R
theorem buddy_Heap_check.mono {vh : Option Addr} {start : Int} {pages : Int} {σ : Hp} {R R' : Int → Hp → Prop} (c : buddy_Heap_check.call vh start pages σ R) (hl : ∀ r0 σ', R r0 σ' → R' r0 σ') : buddy_Heap_check.call vh start pages σ R' :=
  CallK.mono c hl
/-- `(*freehold/buddy.Heap).free` -/
def buddy_Heap_free.call (vh : Option Addr) (start : Int) (pages : Int) (σ : Hp) (R : Hp → Prop) : Prop := CallK Try.prog 37 #[.pointer vh, .int .i64 start, .int .i64 pages] [] σ R
theorem buddy_Heap_free.mono {vh : Option Addr} {start : Int} {pages : Int} {σ : Hp} {R R' : Hp → Prop} (c : buddy_Heap_free.call vh start pages σ R) (hl : ∀ σ', R σ' → R' σ') : buddy_Heap_free.call vh start pages σ R' :=
  CallK.mono c hl
/-- `freehold/freeholdref01.Runs` -/
def freeholdref01_Runs.call (a : Sl) (b : Sl) (σ : Hp) (R : Bool → Hp → Prop) : Prop := CallK Try.prog 38 #[.slice a.a a.len a.cap, .slice b.a b.len b.cap] [.one .b] σ R
theorem freeholdref01_Runs.mono {a : Sl} {b : Sl} {σ : Hp} {R R' : Bool → Hp → Prop} (c : freeholdref01_Runs.call a b σ R) (hl : ∀ r0 σ', R r0 σ' → R' r0 σ') : freeholdref01_Runs.call a b σ R' :=
  CallK.mono c hl
/-- `(*freehold/buddy.Heap).Runs` -/
def buddy_Heap_Runs.call (vh : Option Addr) (σ : Hp) (R : Sl → Hp → Prop) : Prop := CallK Try.prog 39 #[.pointer vh] [.one .s] σ R
theorem buddy_Heap_Runs.mono {vh : Option Addr} {σ : Hp} {R R' : Sl → Hp → Prop} (c : buddy_Heap_Runs.call vh σ R) (hl : ∀ r0 σ', R r0 σ' → R' r0 σ') : buddy_Heap_Runs.call vh σ R' :=
  CallK.mono c hl
/-- `maps.Clone[map[int]bool,int,bool]` -/
def maps_Clone_map_int_bool_int_bool.call (m : Option Nat) (σ : Hp) (R : Option Nat → Hp → Prop) : Prop := CallK Try.prog 40 #[.map m] [.one .m] σ R
theorem maps_Clone_map_int_bool_int_bool.mono {m : Option Nat} {σ : Hp} {R R' : Option Nat → Hp → Prop} (c : maps_Clone_map_int_bool_int_bool.call m σ R) (hl : ∀ r0 σ', R r0 σ' → R' r0 σ') : maps_Clone_map_int_bool_int_bool.call m σ R' :=
  CallK.mono c hl
/-- `(*freehold/freeholdref03.Heap).made` -/
def freeholdref03_Heap_made.call (vh : Option Addr) (σ : Hp) (R : Bool → Hp → Prop) : Prop := CallK Try.prog 41 #[.pointer vh] [.one .b] σ R
theorem freeholdref03_Heap_made.mono {vh : Option Addr} {σ : Hp} {R R' : Bool → Hp → Prop} (c : freeholdref03_Heap_made.call vh σ R) (hl : ∀ r0 σ', R r0 σ' → R' r0 σ') : freeholdref03_Heap_made.call vh σ R' :=
  CallK.mono c hl
/-- `(*freehold/freeholdref03.Heap).Give` -/
def freeholdref03_Heap_Give.call (vh : Option Addr) (start : Int) (pages : Int) (σ : Hp) (R : Int → Hp → Prop) : Prop := CallK Try.prog 42 #[.pointer vh, .int .i64 start, .int .i64 pages] [.one (.i .i64)] σ R
theorem freeholdref03_Heap_Give.mono {vh : Option Addr} {start : Int} {pages : Int} {σ : Hp} {R R' : Int → Hp → Prop} (c : freeholdref03_Heap_Give.call vh start pages σ R) (hl : ∀ r0 σ', R r0 σ' → R' r0 σ') : freeholdref03_Heap_Give.call vh start pages σ R' :=
  CallK.mono c hl
/-- `(*freehold/freeholdref03.Heap).Take` -/
def freeholdref03_Heap_Take.call (vh : Option Addr) (pages : Int) (align : Int) (σ : Hp) (R : Int → Int → Hp → Prop) : Prop := CallK Try.prog 43 #[.pointer vh, .int .i64 pages, .int .i64 align] [.one (.i .i64), .one (.i .i64)] σ R
theorem freeholdref03_Heap_Take.mono {vh : Option Addr} {pages : Int} {align : Int} {σ : Hp} {R R' : Int → Int → Hp → Prop} (c : freeholdref03_Heap_Take.call vh pages align σ R) (hl : ∀ r0 r1 σ', R r0 r1 σ' → R' r0 r1 σ') : freeholdref03_Heap_Take.call vh pages align σ R' :=
  CallK.mono c hl
/-- `(*freehold/buddy.Heap).TakeRun` -/
def buddy_Heap_TakeRun.call (vh : Option Addr) (start : Int) (pages : Int) (σ : Hp) (R : Int → Hp → Prop) : Prop := CallK Try.prog 44 #[.pointer vh, .int .i64 start, .int .i64 pages] [.one (.i .i64)] σ R
theorem buddy_Heap_TakeRun.mono {vh : Option Addr} {start : Int} {pages : Int} {σ : Hp} {R R' : Int → Hp → Prop} (c : buddy_Heap_TakeRun.call vh start pages σ R) (hl : ∀ r0 σ', R r0 σ' → R' r0 σ') : buddy_Heap_TakeRun.call vh start pages σ R' :=
  CallK.mono c hl
/-- `(*freehold/freeholdref03.Heap).TakeRun` -/
def freeholdref03_Heap_TakeRun.call (vh : Option Addr) (start : Int) (pages : Int) (σ : Hp) (R : Int → Hp → Prop) : Prop := CallK Try.prog 45 #[.pointer vh, .int .i64 start, .int .i64 pages] [.one (.i .i64)] σ R
theorem freeholdref03_Heap_TakeRun.mono {vh : Option Addr} {start : Int} {pages : Int} {σ : Hp} {R R' : Int → Hp → Prop} (c : freeholdref03_Heap_TakeRun.call vh start pages σ R) (hl : ∀ r0 σ', R r0 σ' → R' r0 σ') : freeholdref03_Heap_TakeRun.call vh start pages σ R' :=
  CallK.mono c hl
/-- `(*freehold/freeholdref03.Heap).Free` -/
def freeholdref03_Heap_Free.call (vh : Option Addr) (σ : Hp) (R : Int → Hp → Prop) : Prop := CallK Try.prog 46 #[.pointer vh] [.one (.i .i64)] σ R
theorem freeholdref03_Heap_Free.mono {vh : Option Addr} {σ : Hp} {R R' : Int → Hp → Prop} (c : freeholdref03_Heap_Free.call vh σ R) (hl : ∀ r0 σ', R r0 σ' → R' r0 σ') : freeholdref03_Heap_Free.call vh σ R' :=
  CallK.mono c hl
/-- `(*freehold/freeholdref03.Heap).Order` -/
def freeholdref03_Heap_Order.call (vh : Option Addr) (σ : Hp) (R : Int → Hp → Prop) : Prop := CallK Try.prog 47 #[.pointer vh] [.one (.i .i64)] σ R
theorem freeholdref03_Heap_Order.mono {vh : Option Addr} {σ : Hp} {R R' : Int → Hp → Prop} (c : freeholdref03_Heap_Order.call vh σ R) (hl : ∀ r0 σ', R r0 σ' → R' r0 σ') : freeholdref03_Heap_Order.call vh σ R' :=
  CallK.mono c hl
/-- `(*freehold/freeholdref03.Heap).Runs` -/
def freeholdref03_Heap_Runs.call (vh : Option Addr) (σ : Hp) (R : Sl → Hp → Prop) : Prop := CallK Try.prog 48 #[.pointer vh] [.one .s] σ R
theorem freeholdref03_Heap_Runs.mono {vh : Option Addr} {σ : Hp} {R R' : Sl → Hp → Prop} (c : freeholdref03_Heap_Runs.call vh σ R) (hl : ∀ r0 σ', R r0 σ' → R' r0 σ') : freeholdref03_Heap_Runs.call vh σ R' :=
  CallK.mono c hl
/-- `(*freehold/freeholdref03.Heap).Blocks` -/
def freeholdref03_Heap_Blocks.call (vh : Option Addr) (order : Int) (σ : Hp) (R : Sl → Hp → Prop) : Prop := CallK Try.prog 49 #[.pointer vh, .int .i64 order] [.one .s] σ R
theorem freeholdref03_Heap_Blocks.mono {vh : Option Addr} {order : Int} {σ : Hp} {R R' : Sl → Hp → Prop} (c : freeholdref03_Heap_Blocks.call vh order σ R) (hl : ∀ r0 σ', R r0 σ' → R' r0 σ') : freeholdref03_Heap_Blocks.call vh order σ R' :=
  CallK.mono c hl
/-- `slices.Min[[]int,int]` -/
def slices_Min_int_int.call (vx : Sl) (σ : Hp) (R : Int → Hp → Prop) : Prop := CallK Try.prog 50 #[.slice vx.a vx.len vx.cap] [.one (.i .i64)] σ R
theorem slices_Min_int_int.mono {vx : Sl} {σ : Hp} {R R' : Int → Hp → Prop} (c : slices_Min_int_int.call vx σ R) (hl : ∀ r0 σ', R r0 σ' → R' r0 σ') : slices_Min_int_int.call vx σ R' :=
  CallK.mono c hl
/-- `slices.Collect[int]` -/
def slices_Collect_int.call (seq : Fv) (σ : Hp) (R : Sl → Hp → Prop) : Prop := CallK Try.prog 51 #[.func (.func seq.f) seq.first seq.captured] [.one .s] σ R
theorem slices_Collect_int.mono {seq : Fv} {σ : Hp} {R R' : Sl → Hp → Prop} (c : slices_Collect_int.call seq σ R) (hl : ∀ r0 σ', R r0 σ' → R' r0 σ') : slices_Collect_int.call seq σ R' :=
  CallK.mono c hl
/-- `(*freehold/buddy.Heap).cut` -/
def buddy_Heap_cut.call (vh : Option Addr) (start : Int) (pages : Int) (σ : Hp) (R : Hp → Prop) : Prop := CallK Try.prog 52 #[.pointer vh, .int .i64 start, .int .i64 pages] [] σ R
theorem buddy_Heap_cut.mono {vh : Option Addr} {start : Int} {pages : Int} {σ : Hp} {R R' : Hp → Prop} (c : buddy_Heap_cut.call vh start pages σ R) (hl : ∀ σ', R σ' → R' σ') : buddy_Heap_cut.call vh start pages σ R' :=
  CallK.mono c hl
/-- `slices.Sort[[]int,int]` -/
def slices_Sort_int_int.call (vx : Sl) (σ : Hp) (R : Hp → Prop) : Prop := CallK Try.prog 53 #[.slice vx.a vx.len vx.cap] [] σ R
theorem slices_Sort_int_int.mono {vx : Sl} {σ : Hp} {R R' : Hp → Prop} (c : slices_Sort_int_int.call vx σ R) (hl : ∀ σ', R σ' → R' σ') : slices_Sort_int_int.call vx σ R' :=
  CallK.mono c hl
/-- `maps.Keys[map[int]bool,int,bool]$1` -/
def maps_Keys_map_int_bool_int_bool_L1.call (yield : Fv) (cap0 : Addr) (σ : Hp) (R : Hp → Prop) : Prop := CallK Try.prog 54 #[.func (.func yield.f) yield.first yield.captured, .pointer (some cap0)] [] σ R
theorem maps_Keys_map_int_bool_int_bool_L1.mono {yield : Fv} {cap0 : Addr} {σ : Hp} {R R' : Hp → Prop} (c : maps_Keys_map_int_bool_int_bool_L1.call yield cap0 σ R) (hl : ∀ σ', R σ' → R' σ') : maps_Keys_map_int_bool_int_bool_L1.call yield cap0 σ R' :=
  CallK.mono c hl
/-- `(*freehold/buddy.Heap).add` -/
def buddy_Heap_add.call (vh : Option Addr) (order : Int) (start : Int) (σ : Hp) (R : Hp → Prop) : Prop := CallK Try.prog 55 #[.pointer vh, .int .i64 order, .int .i64 start] [] σ R
theorem buddy_Heap_add.mono {vh : Option Addr} {order : Int} {start : Int} {σ : Hp} {R R' : Hp → Prop} (c : buddy_Heap_add.call vh order start σ R) (hl : ∀ σ', R σ' → R' σ') : buddy_Heap_add.call vh order start σ R' :=
  CallK.mono c hl
/-- `(*freehold/freeholdref03.Heap).in` -/
def freeholdref03_Heap_in.call (vh : Option Addr) (start : Int) (pages : Int) (σ : Hp) (R : Bool → Hp → Prop) : Prop := CallK Try.prog 57 #[.pointer vh, .int .i64 start, .int .i64 pages] [.one .b] σ R
theorem freeholdref03_Heap_in.mono {vh : Option Addr} {start : Int} {pages : Int} {σ : Hp} {R R' : Bool → Hp → Prop} (c : freeholdref03_Heap_in.call vh start pages σ R) (hl : ∀ r0 σ', R r0 σ' → R' r0 σ') : freeholdref03_Heap_in.call vh start pages σ R' :=
  CallK.mono c hl
/-- `(*freehold/freeholdref03.Heap).all` -/
def freeholdref03_Heap_all.call (vh : Option Addr) (start : Int) (pages : Int) (free : Bool) (σ : Hp) (R : Bool → Hp → Prop) : Prop := CallK Try.prog 58 #[.pointer vh, .int .i64 start, .int .i64 pages, .bool free] [.one .b] σ R
theorem freeholdref03_Heap_all.mono {vh : Option Addr} {start : Int} {pages : Int} {free : Bool} {σ : Hp} {R R' : Bool → Hp → Prop} (c : freeholdref03_Heap_all.call vh start pages free σ R) (hl : ∀ r0 σ', R r0 σ' → R' r0 σ') : freeholdref03_Heap_all.call vh start pages free σ R' :=
  CallK.mono c hl
/-- `(*freehold/freeholdref03.Heap).set` -/
def freeholdref03_Heap_set.call (vh : Option Addr) (start : Int) (pages : Int) (free : Bool) (σ : Hp) (R : Hp → Prop) : Prop := CallK Try.prog 59 #[.pointer vh, .int .i64 start, .int .i64 pages, .bool free] [] σ R
theorem freeholdref03_Heap_set.mono {vh : Option Addr} {start : Int} {pages : Int} {free : Bool} {σ : Hp} {R R' : Hp → Prop} (c : freeholdref03_Heap_set.call vh start pages free σ R) (hl : ∀ σ', R σ' → R' σ') : freeholdref03_Heap_set.call vh start pages free σ R' :=
  CallK.mono c hl
/-- `(*freehold/freeholdref03.Heap).place` -/
def freeholdref03_Heap_place.call (vh : Option Addr) (start : Int) (size : Int) (σ : Hp) (R : Bool → Hp → Prop) : Prop := CallK Try.prog 60 #[.pointer vh, .int .i64 start, .int .i64 size] [.one .b] σ R
theorem freeholdref03_Heap_place.mono {vh : Option Addr} {start : Int} {size : Int} {σ : Hp} {R R' : Bool → Hp → Prop} (c : freeholdref03_Heap_place.call vh start size σ R) (hl : ∀ r0 σ', R r0 σ' → R' r0 σ') : freeholdref03_Heap_place.call vh start size σ R' :=
  CallK.mono c hl
/-- `slices.AppendSeq[[]int,int]` -/
def slices_AppendSeq_int_int.call (s : Sl) (seq : Fv) (σ : Hp) (R : Sl → Hp → Prop) : Prop := CallK Try.prog 61 #[.slice s.a s.len s.cap, .func (.func seq.f) seq.first seq.captured] [.one .s] σ R
theorem slices_AppendSeq_int_int.mono {s : Sl} {seq : Fv} {σ : Hp} {R R' : Sl → Hp → Prop} (c : slices_AppendSeq_int_int.call s seq σ R) (hl : ∀ r0 σ', R r0 σ' → R' r0 σ') : slices_AppendSeq_int_int.call s seq σ R' :=
  CallK.mono c hl
/-- `slices.pdqsortOrdered[int]` -/
def slices_pdqsortOrdered_int.call (data : Sl) (a : Int) (b : Int) (limit : Int) (σ : Hp) (R : Hp → Prop) : Prop := CallK Try.prog 62 #[.slice data.a data.len data.cap, .int .i64 a, .int .i64 b, .int .i64 limit] [] σ R
theorem slices_pdqsortOrdered_int.mono {data : Sl} {a : Int} {b : Int} {limit : Int} {σ : Hp} {R R' : Hp → Prop} (c : slices_pdqsortOrdered_int.call data a b limit σ R) (hl : ∀ σ', R σ' → R' σ') : slices_pdqsortOrdered_int.call data a b limit σ R' :=
  CallK.mono c hl
/-- `math/bits.Len` -/
def math_bits_Len.call (vx : Int) (σ : Hp) (R : Int → Hp → Prop) : Prop := CallK Try.prog 63 #[.int .u64 vx] [.one (.i .i64)] σ R
theorem math_bits_Len.mono {vx : Int} {σ : Hp} {R R' : Int → Hp → Prop} (c : math_bits_Len.call vx σ R) (hl : ∀ r0 σ', R r0 σ' → R' r0 σ') : math_bits_Len.call vx σ R' :=
  CallK.mono c hl
end Go.Proofs
