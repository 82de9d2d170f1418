/-
  No cell of these rows narrows 'for every input' (looked for: loops, veiled, ifaces, maps, wideKeys, modest, calm, conditions, laid).
  DERIVED. THE GIVEN ROWS OF THIS SEAT. 7 by the template 'for every input the law returns true; each argument reads behind the call as it read before'; 0 by the template 'total and deterministic' (their statements: YtkfemopgfjooeaaTotals.lean).
  GIVEN WITH THE SEED: the statements are not yours to turn. If you find one false, say at which input.
  Laid BY PROGRAM, IN A SANDBOX (cutbox-rows.mjs): the forced cells as the released guide's own fill.sh prints them over the translation ecfd2a9e11c988aa… (all of the seat's roots in one cut). By AI agents, Wed Nov 11 2026. No macro, syntax, notation, axiom, sorry.
-/
import Derived.Test.YtkfemopgfjooeaaChecked
import GoSem.Claim
import GoSem.ClaimJoined
import GoSem.ClaimMapViews
import Derived.JoinedTies
import Derived.KernelRfl
namespace Go.Proofs.Ytkfemopgfjooeaa
/- THE CELL 'sum', in the pinned program and in every row, IS THE sha256 OF THE DUMP (.gsa) THAT YtkfemopgfjooeaaProg.lean LOADS. Nothing in Lean hashes anything: it is a label: what it is worth is what the hold of that sum in a sandbox is worth. -/
noncomputable def Try.pinned : Pinned := { name := "ytkfemopgfjooeaa", sum := "ecfd2a9e11c988aa516edfa3fa512da346e7f02aff53fabc0585fd999f3afc33", checked := Try.checked }
namespace Rows
def none {H : Type} : Left H := { results := [], args := [] }

/-- 'bursarylaw09.WaitsBreaks': WHATEVER THE INPUT: true; the input reads as it did. -/
def waitsBreaksSpec : ChangeSpec := { name := "waitsBreaks", fn := fun _ => fun
  | [d1, d2] => { results := [.lit (.bool true)], args := [d1, d2] }
  | _ => none }
def waitsBreaksRow : OpenClaim := { program := "ytkfemopgfjooeaa", sum := "ecfd2a9e11c988aa516edfa3fa512da346e7f02aff53fabc0585fd999f3afc33", func := "bursary/bursarylaw09.WaitsBreaks", spec := "waitsBreaks", unfollowed := true, recurses := true, plainKeys := false, apart := false }
def WaitsBreaksSaid : Prop := waitsBreaksRow.holds Try.pinned (OpenSpec.ofChange waitsBreaksSpec)

/-- ITS FALSE NEIGHBOUR: 'it returns false'. Refute it at one input. -/
def waitsBreaksWrong : ChangeSpec := { name := "waitsBreaks", fn := fun _ => fun
  | [d1, d2] => { results := [.lit (.bool false)], args := [d1, d2] }
  | _ => none }
def WaitsBreaksWrongFalsely : Prop := waitsBreaksRow.holds Try.pinned (OpenSpec.ofChange waitsBreaksWrong)

/-- 'bursarylaw09.WaitsCycles': WHATEVER THE INPUT: true; the input reads as it did. -/
def waitsCyclesSpec : ChangeSpec := { name := "waitsCycles", fn := fun _ => fun
  | [d1, d2] => { results := [.lit (.bool true)], args := [d1, d2] }
  | _ => none }
def waitsCyclesRow : OpenClaim := { program := "ytkfemopgfjooeaa", sum := "ecfd2a9e11c988aa516edfa3fa512da346e7f02aff53fabc0585fd999f3afc33", func := "bursary/bursarylaw09.WaitsCycles", spec := "waitsCycles", unfollowed := true, recurses := true, plainKeys := false, apart := false }
def WaitsCyclesSaid : Prop := waitsCyclesRow.holds Try.pinned (OpenSpec.ofChange waitsCyclesSpec)

/-- ITS FALSE NEIGHBOUR: 'it returns false'. Refute it at one input. -/
def waitsCyclesWrong : ChangeSpec := { name := "waitsCycles", fn := fun _ => fun
  | [d1, d2] => { results := [.lit (.bool false)], args := [d1, d2] }
  | _ => none }
def WaitsCyclesWrongFalsely : Prop := waitsCyclesRow.holds Try.pinned (OpenSpec.ofChange waitsCyclesWrong)

/-- 'bursarylaw09.WaitsYoungest': WHATEVER THE INPUT: true; the input reads as it did. -/
def waitsYoungestSpec : ChangeSpec := { name := "waitsYoungest", fn := fun _ => fun
  | [d1, d2] => { results := [.lit (.bool true)], args := [d1, d2] }
  | _ => none }
def waitsYoungestRow : OpenClaim := { program := "ytkfemopgfjooeaa", sum := "ecfd2a9e11c988aa516edfa3fa512da346e7f02aff53fabc0585fd999f3afc33", func := "bursary/bursarylaw09.WaitsYoungest", spec := "waitsYoungest", unfollowed := true, recurses := true, plainKeys := false, apart := false }
def WaitsYoungestSaid : Prop := waitsYoungestRow.holds Try.pinned (OpenSpec.ofChange waitsYoungestSpec)

/-- ITS FALSE NEIGHBOUR: 'it returns false'. Refute it at one input. -/
def waitsYoungestWrong : ChangeSpec := { name := "waitsYoungest", fn := fun _ => fun
  | [d1, d2] => { results := [.lit (.bool false)], args := [d1, d2] }
  | _ => none }
def WaitsYoungestWrongFalsely : Prop := waitsYoungestRow.holds Try.pinned (OpenSpec.ofChange waitsYoungestWrong)

/-- 'bursarylaw09.WaitsWays': WHATEVER THE INPUT: true; the input reads as it did. -/
def waitsWaysSpec : ChangeSpec := { name := "waitsWays", fn := fun _ => fun
  | [d1, d2] => { results := [.lit (.bool true)], args := [d1, d2] }
  | _ => none }
def waitsWaysRow : OpenClaim := { program := "ytkfemopgfjooeaa", sum := "ecfd2a9e11c988aa516edfa3fa512da346e7f02aff53fabc0585fd999f3afc33", func := "bursary/bursarylaw09.WaitsWays", spec := "waitsWays", unfollowed := true, recurses := true, plainKeys := false, apart := false }
def WaitsWaysSaid : Prop := waitsWaysRow.holds Try.pinned (OpenSpec.ofChange waitsWaysSpec)

/-- ITS FALSE NEIGHBOUR: 'it returns false'. Refute it at one input. -/
def waitsWaysWrong : ChangeSpec := { name := "waitsWays", fn := fun _ => fun
  | [d1, d2] => { results := [.lit (.bool false)], args := [d1, d2] }
  | _ => none }
def WaitsWaysWrongFalsely : Prop := waitsWaysRow.holds Try.pinned (OpenSpec.ofChange waitsWaysWrong)

/-- 'bursarylaw09.WaitsTells': WHATEVER THE INPUT: true; the input reads as it did. -/
def waitsTellsSpec : ChangeSpec := { name := "waitsTells", fn := fun _ => fun
  | [d1, d2, d3] => { results := [.lit (.bool true)], args := [d1, d2, d3] }
  | _ => none }
def waitsTellsRow : OpenClaim := { program := "ytkfemopgfjooeaa", sum := "ecfd2a9e11c988aa516edfa3fa512da346e7f02aff53fabc0585fd999f3afc33", func := "bursary/bursarylaw09.WaitsTells", spec := "waitsTells", unfollowed := true, recurses := true, plainKeys := false, apart := false }
def WaitsTellsSaid : Prop := waitsTellsRow.holds Try.pinned (OpenSpec.ofChange waitsTellsSpec)

/-- ITS FALSE NEIGHBOUR: 'it returns false'. Refute it at one input. -/
def waitsTellsWrong : ChangeSpec := { name := "waitsTells", fn := fun _ => fun
  | [d1, d2, d3] => { results := [.lit (.bool false)], args := [d1, d2, d3] }
  | _ => none }
def WaitsTellsWrongFalsely : Prop := waitsTellsRow.holds Try.pinned (OpenSpec.ofChange waitsTellsWrong)

/-- 'bursarylaw09.WaitsChanges': WHATEVER THE INPUT: true; the input reads as it did. -/
def waitsChangesSpec : ChangeSpec := { name := "waitsChanges", fn := fun _ => fun
  | [d1, d2, d3] => { results := [.lit (.bool true)], args := [d1, d2, d3] }
  | _ => none }
def waitsChangesRow : OpenClaim := { program := "ytkfemopgfjooeaa", sum := "ecfd2a9e11c988aa516edfa3fa512da346e7f02aff53fabc0585fd999f3afc33", func := "bursary/bursarylaw09.WaitsChanges", spec := "waitsChanges", unfollowed := true, recurses := true, plainKeys := false, apart := false }
def WaitsChangesSaid : Prop := waitsChangesRow.holds Try.pinned (OpenSpec.ofChange waitsChangesSpec)

/-- ITS FALSE NEIGHBOUR: 'it returns false'. Refute it at one input. -/
def waitsChangesWrong : ChangeSpec := { name := "waitsChanges", fn := fun _ => fun
  | [d1, d2, d3] => { results := [.lit (.bool false)], args := [d1, d2, d3] }
  | _ => none }
def WaitsChangesWrongFalsely : Prop := waitsChangesRow.holds Try.pinned (OpenSpec.ofChange waitsChangesWrong)

/-- 'bursarylaw09.WaitsThrough': WHATEVER THE INPUT: true; the input reads as it did. -/
def waitsThroughSpec : ChangeSpec := { name := "waitsThrough", fn := fun _ => fun
  | [d1, d2, d3] => { results := [.lit (.bool true)], args := [d1, d2, d3] }
  | _ => none }
def waitsThroughRow : OpenClaim := { program := "ytkfemopgfjooeaa", sum := "ecfd2a9e11c988aa516edfa3fa512da346e7f02aff53fabc0585fd999f3afc33", func := "bursary/bursarylaw09.WaitsThrough", spec := "waitsThrough", unfollowed := true, recurses := true, plainKeys := false, apart := false }
def WaitsThroughSaid : Prop := waitsThroughRow.holds Try.pinned (OpenSpec.ofChange waitsThroughSpec)

/-- ITS FALSE NEIGHBOUR: 'it returns false'. Refute it at one input. -/
def waitsThroughWrong : ChangeSpec := { name := "waitsThrough", fn := fun _ => fun
  | [d1, d2, d3] => { results := [.lit (.bool false)], args := [d1, d2, d3] }
  | _ => none }
def WaitsThroughWrongFalsely : Prop := waitsThroughRow.holds Try.pinned (OpenSpec.ofChange waitsThroughWrong)

/- THE SECOND FORM. 'bulk': how many values and letters a reading holds, each counted each time it is reached (what is shared counts as often as it is met; a slice's spare places count too). A statement '..UptoSaid' is the law's where the arguments, and the package variables that the reading takes, are together of bulk at most 1048576: NARROWER than '..Said'. Prove '..Said' where nothing that the law and all that it calls make is longer than what came in: it says more and counts as full. Else prove '..UptoSaid'. A law counts once. -/
mutual
def uptoBulk {H : Type} : DataW H → Nat
  | .lit (.string bytes) => bytes.length + 1
  | .lit _ => 1
  | .nil => 1
  | .ptr d => uptoBulk d + 1
  | .slice elems spare => uptoBulkAll elems + uptoBulkAll spare + 1
  | .agg parts => uptoBulkAll parts + 1
  | .iface _ d => uptoBulk d + 1
  | .map entries => uptoBulkEntries entries + 1
  | .held _ => 1
def uptoBulkAll {H : Type} : List (DataW H) → Nat
  | [] => 0
  | d :: r => uptoBulk d + uptoBulkAll r
def uptoBulkEntries {H : Type} : List (Lit × DataW H) → Nat
  | [] => 0
  | x :: r => uptoBulkEntry x + uptoBulkEntries r
def uptoBulkEntry {H : Type} : Lit × DataW H → Nat
  | (.string bytes, d) => bytes.length + uptoBulk d + 1
  | (_, d) => uptoBulk d + 1
 end
def uptoSmall : (H : Type) → List (DataW H) → Bool := fun _ ds => decide (uptoBulkAll ds ≤ 1048576)
def OpenSpec.upto (s : _root_.Go.ChangeSpec) : _root_.Go.OpenSpec := { _root_.Go.OpenSpec.ofChange s with cond := some uptoSmall }

/-- 'bursarylaw09.WaitsBreaks', WHERE WHAT IT READS IS OF BULK AT MOST 1048576: true; the input reads as it did. -/
def waitsBreaksUptoRow : OpenClaim := { program := "ytkfemopgfjooeaa", sum := "ecfd2a9e11c988aa516edfa3fa512da346e7f02aff53fabc0585fd999f3afc33", func := "bursary/bursarylaw09.WaitsBreaks", spec := "waitsBreaks", unfollowed := true, recurses := true, plainKeys := false, apart := false, narrowed := true }
def WaitsBreaksUptoSaid : Prop := waitsBreaksUptoRow.holds Try.pinned (OpenSpec.upto waitsBreaksSpec)

/-- 'bursarylaw09.WaitsCycles', WHERE WHAT IT READS IS OF BULK AT MOST 1048576: true; the input reads as it did. -/
def waitsCyclesUptoRow : OpenClaim := { program := "ytkfemopgfjooeaa", sum := "ecfd2a9e11c988aa516edfa3fa512da346e7f02aff53fabc0585fd999f3afc33", func := "bursary/bursarylaw09.WaitsCycles", spec := "waitsCycles", unfollowed := true, recurses := true, plainKeys := false, apart := false, narrowed := true }
def WaitsCyclesUptoSaid : Prop := waitsCyclesUptoRow.holds Try.pinned (OpenSpec.upto waitsCyclesSpec)

/-- 'bursarylaw09.WaitsYoungest', WHERE WHAT IT READS IS OF BULK AT MOST 1048576: true; the input reads as it did. -/
def waitsYoungestUptoRow : OpenClaim := { program := "ytkfemopgfjooeaa", sum := "ecfd2a9e11c988aa516edfa3fa512da346e7f02aff53fabc0585fd999f3afc33", func := "bursary/bursarylaw09.WaitsYoungest", spec := "waitsYoungest", unfollowed := true, recurses := true, plainKeys := false, apart := false, narrowed := true }
def WaitsYoungestUptoSaid : Prop := waitsYoungestUptoRow.holds Try.pinned (OpenSpec.upto waitsYoungestSpec)

/-- 'bursarylaw09.WaitsWays', WHERE WHAT IT READS IS OF BULK AT MOST 1048576: true; the input reads as it did. -/
def waitsWaysUptoRow : OpenClaim := { program := "ytkfemopgfjooeaa", sum := "ecfd2a9e11c988aa516edfa3fa512da346e7f02aff53fabc0585fd999f3afc33", func := "bursary/bursarylaw09.WaitsWays", spec := "waitsWays", unfollowed := true, recurses := true, plainKeys := false, apart := false, narrowed := true }
def WaitsWaysUptoSaid : Prop := waitsWaysUptoRow.holds Try.pinned (OpenSpec.upto waitsWaysSpec)

/-- 'bursarylaw09.WaitsTells', WHERE WHAT IT READS IS OF BULK AT MOST 1048576: true; the input reads as it did. -/
def waitsTellsUptoRow : OpenClaim := { program := "ytkfemopgfjooeaa", sum := "ecfd2a9e11c988aa516edfa3fa512da346e7f02aff53fabc0585fd999f3afc33", func := "bursary/bursarylaw09.WaitsTells", spec := "waitsTells", unfollowed := true, recurses := true, plainKeys := false, apart := false, narrowed := true }
def WaitsTellsUptoSaid : Prop := waitsTellsUptoRow.holds Try.pinned (OpenSpec.upto waitsTellsSpec)

/-- 'bursarylaw09.WaitsChanges', WHERE WHAT IT READS IS OF BULK AT MOST 1048576: true; the input reads as it did. -/
def waitsChangesUptoRow : OpenClaim := { program := "ytkfemopgfjooeaa", sum := "ecfd2a9e11c988aa516edfa3fa512da346e7f02aff53fabc0585fd999f3afc33", func := "bursary/bursarylaw09.WaitsChanges", spec := "waitsChanges", unfollowed := true, recurses := true, plainKeys := false, apart := false, narrowed := true }
def WaitsChangesUptoSaid : Prop := waitsChangesUptoRow.holds Try.pinned (OpenSpec.upto waitsChangesSpec)

/-- 'bursarylaw09.WaitsThrough', WHERE WHAT IT READS IS OF BULK AT MOST 1048576: true; the input reads as it did. -/
def waitsThroughUptoRow : OpenClaim := { program := "ytkfemopgfjooeaa", sum := "ecfd2a9e11c988aa516edfa3fa512da346e7f02aff53fabc0585fd999f3afc33", func := "bursary/bursarylaw09.WaitsThrough", spec := "waitsThrough", unfollowed := true, recurses := true, plainKeys := false, apart := false, narrowed := true }
def WaitsThroughUptoSaid : Prop := waitsThroughUptoRow.holds Try.pinned (OpenSpec.upto waitsThroughSpec)

end Rows
end Go.Proofs.Ytkfemopgfjooeaa
