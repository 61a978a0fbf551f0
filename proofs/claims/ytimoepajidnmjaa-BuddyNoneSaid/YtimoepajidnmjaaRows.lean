/-
  No cell of these rows narrows 'for every input' (looked for: loops, veiled, ifaces, maps, wideKeys, modest, calm, conditions, laid).
  DERIVED. THE GIVEN ROWS OF THIS SEAT. 9 by the template 'for every input the law returns true; each argument reads behind the call as it read before'; 0 by the template 'total and deterministic' (their statements: YtimoepajidnmjaaTotals.lean).
  GIVEN WITH THE SEED: the statements are not yours to turn. If you find one false, say at which input.
  Laid BY PROGRAM, IN A SANDBOX (cutbox-rows.mjs): the forced cells as the released guide's own fill.sh prints them over the translation 54a5d9c8e7abbad6… (all of the seat's roots in one cut). By AI agents, Wed Nov 11 2026. No macro, syntax, notation, axiom, sorry.
-/
import Derived.Test.YtimoepajidnmjaaChecked
import GoSem.Claim
import GoSem.ClaimJoined
import GoSem.ClaimMapViews
import Derived.JoinedTies
import Derived.KernelRfl
namespace Go.Proofs.Ytimoepajidnmjaa
/- THE CELL 'sum', in the pinned program and in every row, IS THE sha256 OF THE DUMP (.gsa) THAT YtimoepajidnmjaaProg.lean LOADS. Nothing in Lean hashes anything: it is a label: what it is worth is what the hold of that sum in a sandbox is worth. -/
noncomputable def Try.pinned : Pinned := { name := "ytimoepajidnmjaa", sum := "54a5d9c8e7abbad68ce10ddbaf25634e471315a3e16a96e6ec9772ad37e7524c", checked := Try.checked }
namespace Rows
def none {H : Type} : Left H := { results := [], args := [] }

/-- 'freeholdlaw03.BuddyOrders': WHATEVER THE INPUT: true; the input reads as it did. -/
def buddyOrdersSpec : ChangeSpec := { name := "buddyOrders", fn := fun _ => fun
  | [d1, d2, d3] => { results := [.lit (.bool true)], args := [d1, d2, d3] }
  | _ => none }
def buddyOrdersRow : OpenClaim := { program := "ytimoepajidnmjaa", sum := "54a5d9c8e7abbad68ce10ddbaf25634e471315a3e16a96e6ec9772ad37e7524c", func := "freehold/freeholdlaw03.BuddyOrders", spec := "buddyOrders", unfollowed := true, recurses := true, apart := false }
def BuddyOrdersSaid : Prop := buddyOrdersRow.holds Try.pinned (OpenSpec.ofChange buddyOrdersSpec)

/-- ITS FALSE NEIGHBOUR: 'it returns false'. Refute it at one input. -/
def buddyOrdersWrong : ChangeSpec := { name := "buddyOrders", fn := fun _ => fun
  | [d1, d2, d3] => { results := [.lit (.bool false)], args := [d1, d2, d3] }
  | _ => none }
def BuddyOrdersWrongFalsely : Prop := buddyOrdersRow.holds Try.pinned (OpenSpec.ofChange buddyOrdersWrong)

/-- 'freeholdlaw03.BuddyBlocks': WHATEVER THE INPUT: true; the input reads as it did. -/
def buddyBlocksSpec : ChangeSpec := { name := "buddyBlocks", fn := fun _ => fun
  | [d1, d2] => { results := [.lit (.bool true)], args := [d1, d2] }
  | _ => none }
def buddyBlocksRow : OpenClaim := { program := "ytimoepajidnmjaa", sum := "54a5d9c8e7abbad68ce10ddbaf25634e471315a3e16a96e6ec9772ad37e7524c", func := "freehold/freeholdlaw03.BuddyBlocks", spec := "buddyBlocks", unfollowed := true, recurses := true, apart := false }
def BuddyBlocksSaid : Prop := buddyBlocksRow.holds Try.pinned (OpenSpec.ofChange buddyBlocksSpec)

/-- ITS FALSE NEIGHBOUR: 'it returns false'. Refute it at one input. -/
def buddyBlocksWrong : ChangeSpec := { name := "buddyBlocks", fn := fun _ => fun
  | [d1, d2] => { results := [.lit (.bool false)], args := [d1, d2] }
  | _ => none }
def BuddyBlocksWrongFalsely : Prop := buddyBlocksRow.holds Try.pinned (OpenSpec.ofChange buddyBlocksWrong)

/-- 'freeholdlaw03.BuddyAlone': WHATEVER THE INPUT: true; the input reads as it did. -/
def buddyAloneSpec : ChangeSpec := { name := "buddyAlone", fn := fun _ => fun
  | [d1, d2, d3] => { results := [.lit (.bool true)], args := [d1, d2, d3] }
  | _ => none }
def buddyAloneRow : OpenClaim := { program := "ytimoepajidnmjaa", sum := "54a5d9c8e7abbad68ce10ddbaf25634e471315a3e16a96e6ec9772ad37e7524c", func := "freehold/freeholdlaw03.BuddyAlone", spec := "buddyAlone", unfollowed := true, recurses := true, apart := false }
def BuddyAloneSaid : Prop := buddyAloneRow.holds Try.pinned (OpenSpec.ofChange buddyAloneSpec)

/-- ITS FALSE NEIGHBOUR: 'it returns false'. Refute it at one input. -/
def buddyAloneWrong : ChangeSpec := { name := "buddyAlone", fn := fun _ => fun
  | [d1, d2, d3] => { results := [.lit (.bool false)], args := [d1, d2, d3] }
  | _ => none }
def BuddyAloneWrongFalsely : Prop := buddyAloneRow.holds Try.pinned (OpenSpec.ofChange buddyAloneWrong)

/-- 'freeholdlaw03.BuddyPlays': WHATEVER THE INPUT: true; the input reads as it did. -/
def buddyPlaysSpec : ChangeSpec := { name := "buddyPlays", fn := fun _ => fun
  | [d1, d2, d3] => { results := [.lit (.bool true)], args := [d1, d2, d3] }
  | _ => none }
def buddyPlaysRow : OpenClaim := { program := "ytimoepajidnmjaa", sum := "54a5d9c8e7abbad68ce10ddbaf25634e471315a3e16a96e6ec9772ad37e7524c", func := "freehold/freeholdlaw03.BuddyPlays", spec := "buddyPlays", inPlace := ["maps.clone"], unfollowed := true, recurses := true, apart := false }
def BuddyPlaysSaid : Prop := buddyPlaysRow.holds Try.pinned (OpenSpec.ofChange buddyPlaysSpec)

/-- ITS FALSE NEIGHBOUR: 'it returns false'. Refute it at one input. -/
def buddyPlaysWrong : ChangeSpec := { name := "buddyPlays", fn := fun _ => fun
  | [d1, d2, d3] => { results := [.lit (.bool false)], args := [d1, d2, d3] }
  | _ => none }
def BuddyPlaysWrongFalsely : Prop := buddyPlaysRow.holds Try.pinned (OpenSpec.ofChange buddyPlaysWrong)

/-- 'freeholdlaw03.BuddyNone': WHATEVER THE INPUT: true; the input reads as it did. -/
def buddyNoneSpec : ChangeSpec := { name := "buddyNone", fn := fun _ => fun
  | [d1, d2] => { results := [.lit (.bool true)], args := [d1, d2] }
  | _ => none }
def buddyNoneRow : OpenClaim := { program := "ytimoepajidnmjaa", sum := "54a5d9c8e7abbad68ce10ddbaf25634e471315a3e16a96e6ec9772ad37e7524c", func := "freehold/freeholdlaw03.BuddyNone", spec := "buddyNone", inPlace := ["maps.clone"], unfollowed := true, recurses := true, apart := false }
def BuddyNoneSaid : Prop := buddyNoneRow.holds Try.pinned (OpenSpec.ofChange buddyNoneSpec)

/-- ITS FALSE NEIGHBOUR: 'it returns false'. Refute it at one input. -/
def buddyNoneWrong : ChangeSpec := { name := "buddyNone", fn := fun _ => fun
  | [d1, d2] => { results := [.lit (.bool false)], args := [d1, d2] }
  | _ => none }
def BuddyNoneWrongFalsely : Prop := buddyNoneRow.holds Try.pinned (OpenSpec.ofChange buddyNoneWrong)

/-- 'freeholdlaw03.BuddyTakes': WHATEVER THE INPUT: true; the input reads as it did. -/
def buddyTakesSpec : ChangeSpec := { name := "buddyTakes", fn := fun _ => fun
  | [d1, d2, d3, d4] => { results := [.lit (.bool true)], args := [d1, d2, d3, d4] }
  | _ => none }
def buddyTakesRow : OpenClaim := { program := "ytimoepajidnmjaa", sum := "54a5d9c8e7abbad68ce10ddbaf25634e471315a3e16a96e6ec9772ad37e7524c", func := "freehold/freeholdlaw03.BuddyTakes", spec := "buddyTakes", inPlace := ["maps.clone"], unfollowed := true, recurses := true, apart := false }
def BuddyTakesSaid : Prop := buddyTakesRow.holds Try.pinned (OpenSpec.ofChange buddyTakesSpec)

/-- ITS FALSE NEIGHBOUR: 'it returns false'. Refute it at one input. -/
def buddyTakesWrong : ChangeSpec := { name := "buddyTakes", fn := fun _ => fun
  | [d1, d2, d3, d4] => { results := [.lit (.bool false)], args := [d1, d2, d3, d4] }
  | _ => none }
def BuddyTakesWrongFalsely : Prop := buddyTakesRow.holds Try.pinned (OpenSpec.ofChange buddyTakesWrong)

/-- 'freeholdlaw03.BuddyBack': WHATEVER THE INPUT: true; the input reads as it did. -/
def buddyBackSpec : ChangeSpec := { name := "buddyBack", fn := fun _ => fun
  | [d1, d2, d3, d4] => { results := [.lit (.bool true)], args := [d1, d2, d3, d4] }
  | _ => none }
def buddyBackRow : OpenClaim := { program := "ytimoepajidnmjaa", sum := "54a5d9c8e7abbad68ce10ddbaf25634e471315a3e16a96e6ec9772ad37e7524c", func := "freehold/freeholdlaw03.BuddyBack", spec := "buddyBack", inPlace := ["maps.clone"], unfollowed := true, recurses := true, apart := false }
def BuddyBackSaid : Prop := buddyBackRow.holds Try.pinned (OpenSpec.ofChange buddyBackSpec)

/-- ITS FALSE NEIGHBOUR: 'it returns false'. Refute it at one input. -/
def buddyBackWrong : ChangeSpec := { name := "buddyBack", fn := fun _ => fun
  | [d1, d2, d3, d4] => { results := [.lit (.bool false)], args := [d1, d2, d3, d4] }
  | _ => none }
def BuddyBackWrongFalsely : Prop := buddyBackRow.holds Try.pinned (OpenSpec.ofChange buddyBackWrong)

/-- 'freeholdlaw03.BuddyRefuses': WHATEVER THE INPUT: true; the input reads as it did. -/
def buddyRefusesSpec : ChangeSpec := { name := "buddyRefuses", fn := fun _ => fun
  | [d1, d2, d3] => { results := [.lit (.bool true)], args := [d1, d2, d3] }
  | _ => none }
def buddyRefusesRow : OpenClaim := { program := "ytimoepajidnmjaa", sum := "54a5d9c8e7abbad68ce10ddbaf25634e471315a3e16a96e6ec9772ad37e7524c", func := "freehold/freeholdlaw03.BuddyRefuses", spec := "buddyRefuses", inPlace := ["maps.clone"], unfollowed := true, recurses := true, apart := false }
def BuddyRefusesSaid : Prop := buddyRefusesRow.holds Try.pinned (OpenSpec.ofChange buddyRefusesSpec)

/-- ITS FALSE NEIGHBOUR: 'it returns false'. Refute it at one input. -/
def buddyRefusesWrong : ChangeSpec := { name := "buddyRefuses", fn := fun _ => fun
  | [d1, d2, d3] => { results := [.lit (.bool false)], args := [d1, d2, d3] }
  | _ => none }
def BuddyRefusesWrongFalsely : Prop := buddyRefusesRow.holds Try.pinned (OpenSpec.ofChange buddyRefusesWrong)

/-- 'freeholdlaw03.BuddyClones': WHATEVER THE INPUT: true; the input reads as it did. -/
def buddyClonesSpec : ChangeSpec := { name := "buddyClones", fn := fun _ => fun
  | [d1, d2, d3, d4] => { results := [.lit (.bool true)], args := [d1, d2, d3, d4] }
  | _ => none }
def buddyClonesRow : OpenClaim := { program := "ytimoepajidnmjaa", sum := "54a5d9c8e7abbad68ce10ddbaf25634e471315a3e16a96e6ec9772ad37e7524c", func := "freehold/freeholdlaw03.BuddyClones", spec := "buddyClones", inPlace := ["maps.clone"], unfollowed := true, recurses := true, apart := false }
def BuddyClonesSaid : Prop := buddyClonesRow.holds Try.pinned (OpenSpec.ofChange buddyClonesSpec)

/-- ITS FALSE NEIGHBOUR: 'it returns false'. Refute it at one input. -/
def buddyClonesWrong : ChangeSpec := { name := "buddyClones", fn := fun _ => fun
  | [d1, d2, d3, d4] => { results := [.lit (.bool false)], args := [d1, d2, d3, d4] }
  | _ => none }
def BuddyClonesWrongFalsely : Prop := buddyClonesRow.holds Try.pinned (OpenSpec.ofChange buddyClonesWrong)

/- THE SECOND FORM. 'bulk': how many values and letters a reading holds, each counted each time it is reached (what is shared counts as often as it is met; a slice's spare places count too). A statement '..UptoSaid' is the law's where the arguments, and the package variables that the reading takes, are together of bulk at most 1048576: NARROWER than '..Said'. Prove '..Said' where nothing that the law and all that it calls make is longer than what came in: it says more and counts as full. Else prove '..UptoSaid'. A law counts once. -/
mutual
def uptoBulk {H : Type} : DataW H → Nat
  | .lit (.string bytes) => bytes.length + 1
  | .lit _ => 1
  | .nil => 1
  | .ptr d => uptoBulk d + 1
  | .slice elems spare => uptoBulkAll elems + uptoBulkAll spare + 1
  | .agg parts => uptoBulkAll parts + 1
  | .iface _ d => uptoBulk d + 1
  | .map entries => uptoBulkEntries entries + 1
  | .held _ => 1
def uptoBulkAll {H : Type} : List (DataW H) → Nat
  | [] => 0
  | d :: r => uptoBulk d + uptoBulkAll r
def uptoBulkEntries {H : Type} : List (Lit × DataW H) → Nat
  | [] => 0
  | x :: r => uptoBulkEntry x + uptoBulkEntries r
def uptoBulkEntry {H : Type} : Lit × DataW H → Nat
  | (.string bytes, d) => bytes.length + uptoBulk d + 1
  | (_, d) => uptoBulk d + 1
 end
def uptoSmall : (H : Type) → List (DataW H) → Bool := fun _ ds => decide (uptoBulkAll ds ≤ 1048576)
def OpenSpec.upto (s : _root_.Go.ChangeSpec) : _root_.Go.OpenSpec := { _root_.Go.OpenSpec.ofChange s with cond := some uptoSmall }

/-- 'freeholdlaw03.BuddyOrders', WHERE WHAT IT READS IS OF BULK AT MOST 1048576: true; the input reads as it did. -/
def buddyOrdersUptoRow : OpenClaim := { program := "ytimoepajidnmjaa", sum := "54a5d9c8e7abbad68ce10ddbaf25634e471315a3e16a96e6ec9772ad37e7524c", func := "freehold/freeholdlaw03.BuddyOrders", spec := "buddyOrders", unfollowed := true, recurses := true, apart := false, narrowed := true }
def BuddyOrdersUptoSaid : Prop := buddyOrdersUptoRow.holds Try.pinned (OpenSpec.upto buddyOrdersSpec)

/-- 'freeholdlaw03.BuddyBlocks', WHERE WHAT IT READS IS OF BULK AT MOST 1048576: true; the input reads as it did. -/
def buddyBlocksUptoRow : OpenClaim := { program := "ytimoepajidnmjaa", sum := "54a5d9c8e7abbad68ce10ddbaf25634e471315a3e16a96e6ec9772ad37e7524c", func := "freehold/freeholdlaw03.BuddyBlocks", spec := "buddyBlocks", unfollowed := true, recurses := true, apart := false, narrowed := true }
def BuddyBlocksUptoSaid : Prop := buddyBlocksUptoRow.holds Try.pinned (OpenSpec.upto buddyBlocksSpec)

/-- 'freeholdlaw03.BuddyAlone', WHERE WHAT IT READS IS OF BULK AT MOST 1048576: true; the input reads as it did. -/
def buddyAloneUptoRow : OpenClaim := { program := "ytimoepajidnmjaa", sum := "54a5d9c8e7abbad68ce10ddbaf25634e471315a3e16a96e6ec9772ad37e7524c", func := "freehold/freeholdlaw03.BuddyAlone", spec := "buddyAlone", unfollowed := true, recurses := true, apart := false, narrowed := true }
def BuddyAloneUptoSaid : Prop := buddyAloneUptoRow.holds Try.pinned (OpenSpec.upto buddyAloneSpec)

/-- 'freeholdlaw03.BuddyPlays', WHERE WHAT IT READS IS OF BULK AT MOST 1048576: true; the input reads as it did. -/
def buddyPlaysUptoRow : OpenClaim := { program := "ytimoepajidnmjaa", sum := "54a5d9c8e7abbad68ce10ddbaf25634e471315a3e16a96e6ec9772ad37e7524c", func := "freehold/freeholdlaw03.BuddyPlays", spec := "buddyPlays", inPlace := ["maps.clone"], unfollowed := true, recurses := true, apart := false, narrowed := true }
def BuddyPlaysUptoSaid : Prop := buddyPlaysUptoRow.holds Try.pinned (OpenSpec.upto buddyPlaysSpec)

/-- 'freeholdlaw03.BuddyNone', WHERE WHAT IT READS IS OF BULK AT MOST 1048576: true; the input reads as it did. -/
def buddyNoneUptoRow : OpenClaim := { program := "ytimoepajidnmjaa", sum := "54a5d9c8e7abbad68ce10ddbaf25634e471315a3e16a96e6ec9772ad37e7524c", func := "freehold/freeholdlaw03.BuddyNone", spec := "buddyNone", inPlace := ["maps.clone"], unfollowed := true, recurses := true, apart := false, narrowed := true }
def BuddyNoneUptoSaid : Prop := buddyNoneUptoRow.holds Try.pinned (OpenSpec.upto buddyNoneSpec)

/-- 'freeholdlaw03.BuddyTakes', WHERE WHAT IT READS IS OF BULK AT MOST 1048576: true; the input reads as it did. -/
def buddyTakesUptoRow : OpenClaim := { program := "ytimoepajidnmjaa", sum := "54a5d9c8e7abbad68ce10ddbaf25634e471315a3e16a96e6ec9772ad37e7524c", func := "freehold/freeholdlaw03.BuddyTakes", spec := "buddyTakes", inPlace := ["maps.clone"], unfollowed := true, recurses := true, apart := false, narrowed := true }
def BuddyTakesUptoSaid : Prop := buddyTakesUptoRow.holds Try.pinned (OpenSpec.upto buddyTakesSpec)

/-- 'freeholdlaw03.BuddyBack', WHERE WHAT IT READS IS OF BULK AT MOST 1048576: true; the input reads as it did. -/
def buddyBackUptoRow : OpenClaim := { program := "ytimoepajidnmjaa", sum := "54a5d9c8e7abbad68ce10ddbaf25634e471315a3e16a96e6ec9772ad37e7524c", func := "freehold/freeholdlaw03.BuddyBack", spec := "buddyBack", inPlace := ["maps.clone"], unfollowed := true, recurses := true, apart := false, narrowed := true }
def BuddyBackUptoSaid : Prop := buddyBackUptoRow.holds Try.pinned (OpenSpec.upto buddyBackSpec)

/-- 'freeholdlaw03.BuddyRefuses', WHERE WHAT IT READS IS OF BULK AT MOST 1048576: true; the input reads as it did. -/
def buddyRefusesUptoRow : OpenClaim := { program := "ytimoepajidnmjaa", sum := "54a5d9c8e7abbad68ce10ddbaf25634e471315a3e16a96e6ec9772ad37e7524c", func := "freehold/freeholdlaw03.BuddyRefuses", spec := "buddyRefuses", inPlace := ["maps.clone"], unfollowed := true, recurses := true, apart := false, narrowed := true }
def BuddyRefusesUptoSaid : Prop := buddyRefusesUptoRow.holds Try.pinned (OpenSpec.upto buddyRefusesSpec)

/-- 'freeholdlaw03.BuddyClones', WHERE WHAT IT READS IS OF BULK AT MOST 1048576: true; the input reads as it did. -/
def buddyClonesUptoRow : OpenClaim := { program := "ytimoepajidnmjaa", sum := "54a5d9c8e7abbad68ce10ddbaf25634e471315a3e16a96e6ec9772ad37e7524c", func := "freehold/freeholdlaw03.BuddyClones", spec := "buddyClones", inPlace := ["maps.clone"], unfollowed := true, recurses := true, apart := false, narrowed := true }
def BuddyClonesUptoSaid : Prop := buddyClonesUptoRow.holds Try.pinned (OpenSpec.upto buddyClonesSpec)

end Rows
end Go.Proofs.Ytimoepajidnmjaa
