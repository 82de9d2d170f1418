/-
  No cell of these rows narrows 'for every input' (looked for: loops, veiled, ifaces, maps, wideKeys, modest, calm, conditions, laid).
  DERIVED. THE GIVEN ROWS OF THIS SEAT. 8 by the template 'for every input the law returns true; each argument reads behind the call as it read before'; 0 by the template 'total and deterministic' (their statements: YtlcmdgpjiendmaaGreatTotals.lean).
  GIVEN WITH THE SEED: the statements are not yours to turn. If you find one false, say at which input.
  Laid BY PROGRAM, IN A SANDBOX (cutbox-rows.mjs): the forced cells as the released guide's own fill.sh prints them over the translation ca5561b6a4a32860… (all of the seat's roots in one cut). By AI agents, Wed Nov 11 2026. No macro, syntax, notation, axiom, sorry.
-/
import Derived.Test.YtlcmdgpjiendmaaGreatChecked
import GoSem.Claim
import GoSem.ClaimJoined
import GoSem.ClaimMapViews
import Derived.JoinedTies
import Derived.KernelRfl
namespace Go.Proofs.YtlcmdgpjiendmaaGreat
/- THE CELL 'sum', in the pinned program and in every row, IS THE sha256 OF THE DUMP (.gsa) THAT YtlcmdgpjiendmaaGreatProg.lean LOADS. Nothing in Lean hashes anything: it is a label: what it is worth is what the hold of that sum in a sandbox is worth. -/
noncomputable def Tryz.pinned : Pinned := { name := "ytlcmdgpjiendmaagreat", sum := "ca5561b6a4a32860d8fc8882d260c50b6a2d57e3d2c510b9e123dcd2ee128011", checked := Tryz.checked }
namespace Rows
def none {H : Type} : Left H := { results := [], args := [] }

/-- 'bursarylaw13.TreeRoom': WHATEVER THE INPUT: true; the input reads as it did. -/
def treeRoomSpec : ChangeSpec := { name := "treeRoom", fn := fun _ => fun
  | [d] => { results := [.lit (.bool true)], args := [d] }
  | _ => none }
def treeRoomRow : OpenClaim := { program := "ytlcmdgpjiendmaagreat", sum := "ca5561b6a4a32860d8fc8882d260c50b6a2d57e3d2c510b9e123dcd2ee128011", func := "bursary/bursarylaw13.TreeRoom", spec := "treeRoom", inPlace := ["slices.overlaps[bursary/api.Kid]", "slices.overlaps[bursary/api.Row]"], unfollowed := true, recurses := true, apart := false }
def TreeRoomSaid : Prop := treeRoomRow.holds Tryz.pinned (OpenSpec.ofChange treeRoomSpec)

/-- ITS FALSE NEIGHBOUR: 'it returns false'. Refute it at one input. -/
def treeRoomWrong : ChangeSpec := { name := "treeRoom", fn := fun _ => fun
  | [d] => { results := [.lit (.bool false)], args := [d] }
  | _ => none }
def TreeRoomWrongFalsely : Prop := treeRoomRow.holds Tryz.pinned (OpenSpec.ofChange treeRoomWrong)

/-- 'bursarylaw13.TreeShape': WHATEVER THE INPUT: true; the input reads as it did. -/
def treeShapeSpec : ChangeSpec := { name := "treeShape", fn := fun _ => fun
  | [d] => { results := [.lit (.bool true)], args := [d] }
  | _ => none }
def treeShapeRow : OpenClaim := { program := "ytlcmdgpjiendmaagreat", sum := "ca5561b6a4a32860d8fc8882d260c50b6a2d57e3d2c510b9e123dcd2ee128011", func := "bursary/bursarylaw13.TreeShape", spec := "treeShape", inPlace := ["slices.overlaps[bursary/api.Kid]", "slices.overlaps[bursary/api.Row]"], unfollowed := true, recurses := true, apart := false }
def TreeShapeSaid : Prop := treeShapeRow.holds Tryz.pinned (OpenSpec.ofChange treeShapeSpec)

/-- ITS FALSE NEIGHBOUR: 'it returns false'. Refute it at one input. -/
def treeShapeWrong : ChangeSpec := { name := "treeShape", fn := fun _ => fun
  | [d] => { results := [.lit (.bool false)], args := [d] }
  | _ => none }
def TreeShapeWrongFalsely : Prop := treeShapeRow.holds Tryz.pinned (OpenSpec.ofChange treeShapeWrong)

/-- 'bursarylaw13.TreeTells': WHATEVER THE INPUT: true; the input reads as it did. -/
def treeTellsSpec : ChangeSpec := { name := "treeTells", fn := fun _ => fun
  | [d1, d2, d3] => { results := [.lit (.bool true)], args := [d1, d2, d3] }
  | _ => none }
def treeTellsRow : OpenClaim := { program := "ytlcmdgpjiendmaagreat", sum := "ca5561b6a4a32860d8fc8882d260c50b6a2d57e3d2c510b9e123dcd2ee128011", func := "bursary/bursarylaw13.TreeTells", spec := "treeTells", inPlace := ["slices.overlaps[bursary/api.Kid]", "slices.overlaps[bursary/api.Row]"], unfollowed := true, recurses := true, apart := false }
def TreeTellsSaid : Prop := treeTellsRow.holds Tryz.pinned (OpenSpec.ofChange treeTellsSpec)

/-- ITS FALSE NEIGHBOUR: 'it returns false'. Refute it at one input. -/
def treeTellsWrong : ChangeSpec := { name := "treeTells", fn := fun _ => fun
  | [d1, d2, d3] => { results := [.lit (.bool false)], args := [d1, d2, d3] }
  | _ => none }
def TreeTellsWrongFalsely : Prop := treeTellsRow.holds Tryz.pinned (OpenSpec.ofChange treeTellsWrong)

/-- 'bursarylaw13.TreeChanges': WHATEVER THE INPUT: true; the input reads as it did. -/
def treeChangesSpec : ChangeSpec := { name := "treeChanges", fn := fun _ => fun
  | [d1, d2] => { results := [.lit (.bool true)], args := [d1, d2] }
  | _ => none }
def treeChangesRow : OpenClaim := { program := "ytlcmdgpjiendmaagreat", sum := "ca5561b6a4a32860d8fc8882d260c50b6a2d57e3d2c510b9e123dcd2ee128011", func := "bursary/bursarylaw13.TreeChanges", spec := "treeChanges", inPlace := ["slices.overlaps[bursary/api.Kid]", "slices.overlaps[bursary/api.Row]"], unfollowed := true, recurses := true, apart := false }
def TreeChangesSaid : Prop := treeChangesRow.holds Tryz.pinned (OpenSpec.ofChange treeChangesSpec)

/-- ITS FALSE NEIGHBOUR: 'it returns false'. Refute it at one input. -/
def treeChangesWrong : ChangeSpec := { name := "treeChanges", fn := fun _ => fun
  | [d1, d2] => { results := [.lit (.bool false)], args := [d1, d2] }
  | _ => none }
def TreeChangesWrongFalsely : Prop := treeChangesRow.holds Tryz.pinned (OpenSpec.ofChange treeChangesWrong)

/-- 'bursarylaw13.TreeRefuses': WHATEVER THE INPUT: true; the input reads as it did. -/
def treeRefusesSpec : ChangeSpec := { name := "treeRefuses", fn := fun _ => fun
  | [d1, d2, d3] => { results := [.lit (.bool true)], args := [d1, d2, d3] }
  | _ => none }
def treeRefusesRow : OpenClaim := { program := "ytlcmdgpjiendmaagreat", sum := "ca5561b6a4a32860d8fc8882d260c50b6a2d57e3d2c510b9e123dcd2ee128011", func := "bursary/bursarylaw13.TreeRefuses", spec := "treeRefuses", inPlace := ["slices.overlaps[bursary/api.Kid]", "slices.overlaps[bursary/api.Row]"], unfollowed := true, recurses := true, apart := false }
def TreeRefusesSaid : Prop := treeRefusesRow.holds Tryz.pinned (OpenSpec.ofChange treeRefusesSpec)

/-- ITS FALSE NEIGHBOUR: 'it returns false'. Refute it at one input. -/
def treeRefusesWrong : ChangeSpec := { name := "treeRefuses", fn := fun _ => fun
  | [d1, d2, d3] => { results := [.lit (.bool false)], args := [d1, d2, d3] }
  | _ => none }
def TreeRefusesWrongFalsely : Prop := treeRefusesRow.holds Tryz.pinned (OpenSpec.ofChange treeRefusesWrong)

/-- 'bursarylaw13.TreeBack': WHATEVER THE INPUT: true; the input reads as it did. -/
def treeBackSpec : ChangeSpec := { name := "treeBack", fn := fun _ => fun
  | [d1, d2] => { results := [.lit (.bool true)], args := [d1, d2] }
  | _ => none }
def treeBackRow : OpenClaim := { program := "ytlcmdgpjiendmaagreat", sum := "ca5561b6a4a32860d8fc8882d260c50b6a2d57e3d2c510b9e123dcd2ee128011", func := "bursary/bursarylaw13.TreeBack", spec := "treeBack", inPlace := ["slices.overlaps[bursary/api.Kid]", "slices.overlaps[bursary/api.Row]"], unfollowed := true, recurses := true, apart := false }
def TreeBackSaid : Prop := treeBackRow.holds Tryz.pinned (OpenSpec.ofChange treeBackSpec)

/-- ITS FALSE NEIGHBOUR: 'it returns false'. Refute it at one input. -/
def treeBackWrong : ChangeSpec := { name := "treeBack", fn := fun _ => fun
  | [d1, d2] => { results := [.lit (.bool false)], args := [d1, d2] }
  | _ => none }
def TreeBackWrongFalsely : Prop := treeBackRow.holds Tryz.pinned (OpenSpec.ofChange treeBackWrong)

/-- 'bursarylaw13.TreeApplies': WHATEVER THE INPUT: true; the input reads as it did. -/
def treeAppliesSpec : ChangeSpec := { name := "treeApplies", fn := fun _ => fun
  | [d1, d2] => { results := [.lit (.bool true)], args := [d1, d2] }
  | _ => none }
def treeAppliesRow : OpenClaim := { program := "ytlcmdgpjiendmaagreat", sum := "ca5561b6a4a32860d8fc8882d260c50b6a2d57e3d2c510b9e123dcd2ee128011", func := "bursary/bursarylaw13.TreeApplies", spec := "treeApplies", inPlace := ["slices.overlaps[bursary/api.Kid]", "slices.overlaps[bursary/api.Row]"], unfollowed := true, recurses := true, apart := false }
def TreeAppliesSaid : Prop := treeAppliesRow.holds Tryz.pinned (OpenSpec.ofChange treeAppliesSpec)

/-- ITS FALSE NEIGHBOUR: 'it returns false'. Refute it at one input. -/
def treeAppliesWrong : ChangeSpec := { name := "treeApplies", fn := fun _ => fun
  | [d1, d2] => { results := [.lit (.bool false)], args := [d1, d2] }
  | _ => none }
def TreeAppliesWrongFalsely : Prop := treeAppliesRow.holds Tryz.pinned (OpenSpec.ofChange treeAppliesWrong)

/-- 'bursarylaw13.TreeGroups': WHATEVER THE INPUT: true; the input reads as it did. -/
def treeGroupsSpec : ChangeSpec := { name := "treeGroups", fn := fun _ => fun
  | [d1, d2, d3] => { results := [.lit (.bool true)], args := [d1, d2, d3] }
  | _ => none }
def treeGroupsRow : OpenClaim := { program := "ytlcmdgpjiendmaagreat", sum := "ca5561b6a4a32860d8fc8882d260c50b6a2d57e3d2c510b9e123dcd2ee128011", func := "bursary/bursarylaw13.TreeGroups", spec := "treeGroups", inPlace := ["slices.overlaps[bursary/api.Kid]", "slices.overlaps[bursary/api.Row]"], unfollowed := true, recurses := true, apart := false }
def TreeGroupsSaid : Prop := treeGroupsRow.holds Tryz.pinned (OpenSpec.ofChange treeGroupsSpec)

/-- ITS FALSE NEIGHBOUR: 'it returns false'. Refute it at one input. -/
def treeGroupsWrong : ChangeSpec := { name := "treeGroups", fn := fun _ => fun
  | [d1, d2, d3] => { results := [.lit (.bool false)], args := [d1, d2, d3] }
  | _ => none }
def TreeGroupsWrongFalsely : Prop := treeGroupsRow.holds Tryz.pinned (OpenSpec.ofChange treeGroupsWrong)

/- THE SECOND FORM. 'bulk': how many values and letters a reading holds, each counted each time it is reached (what is shared counts as often as it is met; a slice's spare places count too). A statement '..UptoSaid' is the law's where the arguments, and the package variables that the reading takes, are together of bulk at most 1048576: NARROWER than '..Said'. Prove '..Said' where nothing that the law and all that it calls make is longer than what came in: it says more and counts as full. Else prove '..UptoSaid'. A law counts once. -/
mutual
def uptoBulk {H : Type} : DataW H → Nat
  | .lit (.string bytes) => bytes.length + 1
  | .lit _ => 1
  | .nil => 1
  | .ptr d => uptoBulk d + 1
  | .slice elems spare => uptoBulkAll elems + uptoBulkAll spare + 1
  | .agg parts => uptoBulkAll parts + 1
  | .iface _ d => uptoBulk d + 1
  | .map entries => uptoBulkEntries entries + 1
  | .held _ => 1
def uptoBulkAll {H : Type} : List (DataW H) → Nat
  | [] => 0
  | d :: r => uptoBulk d + uptoBulkAll r
def uptoBulkEntries {H : Type} : List (Lit × DataW H) → Nat
  | [] => 0
  | x :: r => uptoBulkEntry x + uptoBulkEntries r
def uptoBulkEntry {H : Type} : Lit × DataW H → Nat
  | (.string bytes, d) => bytes.length + uptoBulk d + 1
  | (_, d) => uptoBulk d + 1
 end
def uptoSmall : (H : Type) → List (DataW H) → Bool := fun _ ds => decide (uptoBulkAll ds ≤ 1048576)
def OpenSpec.upto (s : _root_.Go.ChangeSpec) : _root_.Go.OpenSpec := { _root_.Go.OpenSpec.ofChange s with cond := some uptoSmall }

/-- 'bursarylaw13.TreeRoom', WHERE WHAT IT READS IS OF BULK AT MOST 1048576: true; the input reads as it did. -/
def treeRoomUptoRow : OpenClaim := { program := "ytlcmdgpjiendmaagreat", sum := "ca5561b6a4a32860d8fc8882d260c50b6a2d57e3d2c510b9e123dcd2ee128011", func := "bursary/bursarylaw13.TreeRoom", spec := "treeRoom", inPlace := ["slices.overlaps[bursary/api.Kid]", "slices.overlaps[bursary/api.Row]"], unfollowed := true, recurses := true, apart := false, narrowed := true }
def TreeRoomUptoSaid : Prop := treeRoomUptoRow.holds Tryz.pinned (OpenSpec.upto treeRoomSpec)

/-- 'bursarylaw13.TreeShape', WHERE WHAT IT READS IS OF BULK AT MOST 1048576: true; the input reads as it did. -/
def treeShapeUptoRow : OpenClaim := { program := "ytlcmdgpjiendmaagreat", sum := "ca5561b6a4a32860d8fc8882d260c50b6a2d57e3d2c510b9e123dcd2ee128011", func := "bursary/bursarylaw13.TreeShape", spec := "treeShape", inPlace := ["slices.overlaps[bursary/api.Kid]", "slices.overlaps[bursary/api.Row]"], unfollowed := true, recurses := true, apart := false, narrowed := true }
def TreeShapeUptoSaid : Prop := treeShapeUptoRow.holds Tryz.pinned (OpenSpec.upto treeShapeSpec)

/-- 'bursarylaw13.TreeTells', WHERE WHAT IT READS IS OF BULK AT MOST 1048576: true; the input reads as it did. -/
def treeTellsUptoRow : OpenClaim := { program := "ytlcmdgpjiendmaagreat", sum := "ca5561b6a4a32860d8fc8882d260c50b6a2d57e3d2c510b9e123dcd2ee128011", func := "bursary/bursarylaw13.TreeTells", spec := "treeTells", inPlace := ["slices.overlaps[bursary/api.Kid]", "slices.overlaps[bursary/api.Row]"], unfollowed := true, recurses := true, apart := false, narrowed := true }
def TreeTellsUptoSaid : Prop := treeTellsUptoRow.holds Tryz.pinned (OpenSpec.upto treeTellsSpec)

/-- 'bursarylaw13.TreeChanges', WHERE WHAT IT READS IS OF BULK AT MOST 1048576: true; the input reads as it did. -/
def treeChangesUptoRow : OpenClaim := { program := "ytlcmdgpjiendmaagreat", sum := "ca5561b6a4a32860d8fc8882d260c50b6a2d57e3d2c510b9e123dcd2ee128011", func := "bursary/bursarylaw13.TreeChanges", spec := "treeChanges", inPlace := ["slices.overlaps[bursary/api.Kid]", "slices.overlaps[bursary/api.Row]"], unfollowed := true, recurses := true, apart := false, narrowed := true }
def TreeChangesUptoSaid : Prop := treeChangesUptoRow.holds Tryz.pinned (OpenSpec.upto treeChangesSpec)

/-- 'bursarylaw13.TreeRefuses', WHERE WHAT IT READS IS OF BULK AT MOST 1048576: true; the input reads as it did. -/
def treeRefusesUptoRow : OpenClaim := { program := "ytlcmdgpjiendmaagreat", sum := "ca5561b6a4a32860d8fc8882d260c50b6a2d57e3d2c510b9e123dcd2ee128011", func := "bursary/bursarylaw13.TreeRefuses", spec := "treeRefuses", inPlace := ["slices.overlaps[bursary/api.Kid]", "slices.overlaps[bursary/api.Row]"], unfollowed := true, recurses := true, apart := false, narrowed := true }
def TreeRefusesUptoSaid : Prop := treeRefusesUptoRow.holds Tryz.pinned (OpenSpec.upto treeRefusesSpec)

/-- 'bursarylaw13.TreeBack', WHERE WHAT IT READS IS OF BULK AT MOST 1048576: true; the input reads as it did. -/
def treeBackUptoRow : OpenClaim := { program := "ytlcmdgpjiendmaagreat", sum := "ca5561b6a4a32860d8fc8882d260c50b6a2d57e3d2c510b9e123dcd2ee128011", func := "bursary/bursarylaw13.TreeBack", spec := "treeBack", inPlace := ["slices.overlaps[bursary/api.Kid]", "slices.overlaps[bursary/api.Row]"], unfollowed := true, recurses := true, apart := false, narrowed := true }
def TreeBackUptoSaid : Prop := treeBackUptoRow.holds Tryz.pinned (OpenSpec.upto treeBackSpec)

/-- 'bursarylaw13.TreeApplies', WHERE WHAT IT READS IS OF BULK AT MOST 1048576: true; the input reads as it did. -/
def treeAppliesUptoRow : OpenClaim := { program := "ytlcmdgpjiendmaagreat", sum := "ca5561b6a4a32860d8fc8882d260c50b6a2d57e3d2c510b9e123dcd2ee128011", func := "bursary/bursarylaw13.TreeApplies", spec := "treeApplies", inPlace := ["slices.overlaps[bursary/api.Kid]", "slices.overlaps[bursary/api.Row]"], unfollowed := true, recurses := true, apart := false, narrowed := true }
def TreeAppliesUptoSaid : Prop := treeAppliesUptoRow.holds Tryz.pinned (OpenSpec.upto treeAppliesSpec)

/-- 'bursarylaw13.TreeGroups', WHERE WHAT IT READS IS OF BULK AT MOST 1048576: true; the input reads as it did. -/
def treeGroupsUptoRow : OpenClaim := { program := "ytlcmdgpjiendmaagreat", sum := "ca5561b6a4a32860d8fc8882d260c50b6a2d57e3d2c510b9e123dcd2ee128011", func := "bursary/bursarylaw13.TreeGroups", spec := "treeGroups", inPlace := ["slices.overlaps[bursary/api.Kid]", "slices.overlaps[bursary/api.Row]"], unfollowed := true, recurses := true, apart := false, narrowed := true }
def TreeGroupsUptoSaid : Prop := treeGroupsUptoRow.holds Tryz.pinned (OpenSpec.upto treeGroupsSpec)

end Rows
end Go.Proofs.YtlcmdgpjiendmaaGreat
