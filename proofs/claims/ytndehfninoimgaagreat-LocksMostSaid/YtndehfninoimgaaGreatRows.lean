/-
  No cell of these rows narrows 'for every input' (looked for: loops, veiled, ifaces, maps, wideKeys, modest, calm, conditions, laid).
  DERIVED. THE GIVEN ROWS OF THIS SEAT. 5 by the template 'for every input the law returns true; each argument reads behind the call as it read before'; 0 by the template 'total and deterministic' (their statements: YtndehfninoimgaaGreatTotals.lean).
  GIVEN WITH THE SEED: the statements are not yours to turn. If you find one false, say at which input.
  Laid BY PROGRAM, IN A SANDBOX (cutbox-rows.mjs): the forced cells as the released guide's own fill.sh prints them over the translation bc2040cd3a522035… (all of the seat's roots in one cut). By AI agents, Wed Nov 11 2026. No macro, syntax, notation, axiom, sorry.
-/
import Derived.Test.YtndehfninoimgaaGreatChecked
import GoSem.Claim
import GoSem.ClaimJoined
import GoSem.ClaimMapViews
import Derived.JoinedTies
import Derived.KernelRfl
namespace Go.Proofs.YtndehfninoimgaaGreat
/- THE CELL 'sum', in the pinned program and in every row, IS THE sha256 OF THE DUMP (.gsa) THAT YtndehfninoimgaaGreatProg.lean LOADS. Nothing in Lean hashes anything: it is a label: what it is worth is what the hold of that sum in a sandbox is worth. -/
noncomputable def Tryz.pinned : Pinned := { name := "ytndehfninoimgaagreat", sum := "bc2040cd3a5220357d66dcd3bf4d0db6c2dd0cecc44e6eb59121ddd626aa3ff0", checked := Tryz.checked }
namespace Rows
def none {H : Type} : Left H := { results := [], args := [] }

/-- 'bursarylaw08.LocksDoes': WHATEVER THE INPUT: true; the input reads as it did. -/
def locksDoesSpec : ChangeSpec := { name := "locksDoes", fn := fun _ => fun
  | [d1, d2] => { results := [.lit (.bool true)], args := [d1, d2] }
  | _ => none }
def locksDoesRow : OpenClaim := { program := "ytndehfninoimgaagreat", sum := "bc2040cd3a5220357d66dcd3bf4d0db6c2dd0cecc44e6eb59121ddd626aa3ff0", func := "bursary/bursarylaw08.LocksDoes", spec := "locksDoes", inPlace := ["slices.overlaps[bursary/api.Queue]", "slices.overlaps[bursary/api.Hold]", "slices.overlaps[bursary/api.Wait]"], unfollowed := true, recurses := true, apart := false }
def LocksDoesSaid : Prop := locksDoesRow.holds Tryz.pinned (OpenSpec.ofChange locksDoesSpec)

/-- ITS FALSE NEIGHBOUR: 'it returns false'. Refute it at one input. -/
def locksDoesWrong : ChangeSpec := { name := "locksDoes", fn := fun _ => fun
  | [d1, d2] => { results := [.lit (.bool false)], args := [d1, d2] }
  | _ => none }
def LocksDoesWrongFalsely : Prop := locksDoesRow.holds Tryz.pinned (OpenSpec.ofChange locksDoesWrong)

/-- 'bursarylaw08.LocksMost': WHATEVER THE INPUT: true; the input reads as it did. -/
def locksMostSpec : ChangeSpec := { name := "locksMost", fn := fun _ => fun
  | [d1, d2] => { results := [.lit (.bool true)], args := [d1, d2] }
  | _ => none }
def locksMostRow : OpenClaim := { program := "ytndehfninoimgaagreat", sum := "bc2040cd3a5220357d66dcd3bf4d0db6c2dd0cecc44e6eb59121ddd626aa3ff0", func := "bursary/bursarylaw08.LocksMost", spec := "locksMost", inPlace := ["slices.overlaps[bursary/api.Queue]", "slices.overlaps[bursary/api.Hold]", "slices.overlaps[bursary/api.Wait]"], unfollowed := true, recurses := true, apart := false }
def LocksMostSaid : Prop := locksMostRow.holds Tryz.pinned (OpenSpec.ofChange locksMostSpec)

/-- ITS FALSE NEIGHBOUR: 'it returns false'. Refute it at one input. -/
def locksMostWrong : ChangeSpec := { name := "locksMost", fn := fun _ => fun
  | [d1, d2] => { results := [.lit (.bool false)], args := [d1, d2] }
  | _ => none }
def LocksMostWrongFalsely : Prop := locksMostRow.holds Tryz.pinned (OpenSpec.ofChange locksMostWrong)

/-- 'bursarylaw08.LocksSafe': WHATEVER THE INPUT: true; the input reads as it did. -/
def locksSafeSpec : ChangeSpec := { name := "locksSafe", fn := fun _ => fun
  | [d] => { results := [.lit (.bool true)], args := [d] }
  | _ => none }
def locksSafeRow : OpenClaim := { program := "ytndehfninoimgaagreat", sum := "bc2040cd3a5220357d66dcd3bf4d0db6c2dd0cecc44e6eb59121ddd626aa3ff0", func := "bursary/bursarylaw08.LocksSafe", spec := "locksSafe", inPlace := ["slices.overlaps[bursary/api.Queue]", "slices.overlaps[bursary/api.Hold]", "slices.overlaps[bursary/api.Wait]"], unfollowed := true, recurses := true, apart := false }
def LocksSafeSaid : Prop := locksSafeRow.holds Tryz.pinned (OpenSpec.ofChange locksSafeSpec)

/-- ITS FALSE NEIGHBOUR: 'it returns false'. Refute it at one input. -/
def locksSafeWrong : ChangeSpec := { name := "locksSafe", fn := fun _ => fun
  | [d] => { results := [.lit (.bool false)], args := [d] }
  | _ => none }
def LocksSafeWrongFalsely : Prop := locksSafeRow.holds Tryz.pinned (OpenSpec.ofChange locksSafeWrong)

/-- 'bursarylaw08.LocksAlone': WHATEVER THE INPUT: true; the input reads as it did. -/
def locksAloneSpec : ChangeSpec := { name := "locksAlone", fn := fun _ => fun
  | [d1, d2] => { results := [.lit (.bool true)], args := [d1, d2] }
  | _ => none }
def locksAloneRow : OpenClaim := { program := "ytndehfninoimgaagreat", sum := "bc2040cd3a5220357d66dcd3bf4d0db6c2dd0cecc44e6eb59121ddd626aa3ff0", func := "bursary/bursarylaw08.LocksAlone", spec := "locksAlone", inPlace := ["slices.overlaps[bursary/api.Queue]", "slices.overlaps[bursary/api.Hold]", "slices.overlaps[bursary/api.Wait]"], unfollowed := true, recurses := true, apart := false }
def LocksAloneSaid : Prop := locksAloneRow.holds Tryz.pinned (OpenSpec.ofChange locksAloneSpec)

/-- ITS FALSE NEIGHBOUR: 'it returns false'. Refute it at one input. -/
def locksAloneWrong : ChangeSpec := { name := "locksAlone", fn := fun _ => fun
  | [d1, d2] => { results := [.lit (.bool false)], args := [d1, d2] }
  | _ => none }
def LocksAloneWrongFalsely : Prop := locksAloneRow.holds Tryz.pinned (OpenSpec.ofChange locksAloneWrong)

/-- 'bursarylaw08.LocksTells': WHATEVER THE INPUT: true; the input reads as it did. -/
def locksTellsSpec : ChangeSpec := { name := "locksTells", fn := fun _ => fun
  | [d1, d2, d3] => { results := [.lit (.bool true)], args := [d1, d2, d3] }
  | _ => none }
def locksTellsRow : OpenClaim := { program := "ytndehfninoimgaagreat", sum := "bc2040cd3a5220357d66dcd3bf4d0db6c2dd0cecc44e6eb59121ddd626aa3ff0", func := "bursary/bursarylaw08.LocksTells", spec := "locksTells", inPlace := ["slices.overlaps[bursary/api.Queue]", "slices.overlaps[bursary/api.Hold]", "slices.overlaps[bursary/api.Wait]"], unfollowed := true, recurses := true, apart := false }
def LocksTellsSaid : Prop := locksTellsRow.holds Tryz.pinned (OpenSpec.ofChange locksTellsSpec)

/-- ITS FALSE NEIGHBOUR: 'it returns false'. Refute it at one input. -/
def locksTellsWrong : ChangeSpec := { name := "locksTells", fn := fun _ => fun
  | [d1, d2, d3] => { results := [.lit (.bool false)], args := [d1, d2, d3] }
  | _ => none }
def LocksTellsWrongFalsely : Prop := locksTellsRow.holds Tryz.pinned (OpenSpec.ofChange locksTellsWrong)

/- THE SECOND FORM. 'bulk': how many values and letters a reading holds, each counted each time it is reached (what is shared counts as often as it is met; a slice's spare places count too). A statement '..UptoSaid' is the law's where the arguments, and the package variables that the reading takes, are together of bulk at most 1048576: NARROWER than '..Said'. Prove '..Said' where nothing that the law and all that it calls make is longer than what came in: it says more and counts as full. Else prove '..UptoSaid'. A law counts once. -/
mutual
def uptoBulk {H : Type} : DataW H → Nat
  | .lit (.string bytes) => bytes.length + 1
  | .lit _ => 1
  | .nil => 1
  | .ptr d => uptoBulk d + 1
  | .slice elems spare => uptoBulkAll elems + uptoBulkAll spare + 1
  | .agg parts => uptoBulkAll parts + 1
  | .iface _ d => uptoBulk d + 1
  | .map entries => uptoBulkEntries entries + 1
  | .held _ => 1
def uptoBulkAll {H : Type} : List (DataW H) → Nat
  | [] => 0
  | d :: r => uptoBulk d + uptoBulkAll r
def uptoBulkEntries {H : Type} : List (Lit × DataW H) → Nat
  | [] => 0
  | x :: r => uptoBulkEntry x + uptoBulkEntries r
def uptoBulkEntry {H : Type} : Lit × DataW H → Nat
  | (.string bytes, d) => bytes.length + uptoBulk d + 1
  | (_, d) => uptoBulk d + 1
 end
def uptoSmall : (H : Type) → List (DataW H) → Bool := fun _ ds => decide (uptoBulkAll ds ≤ 1048576)
def OpenSpec.upto (s : _root_.Go.ChangeSpec) : _root_.Go.OpenSpec := { _root_.Go.OpenSpec.ofChange s with cond := some uptoSmall }

/-- 'bursarylaw08.LocksDoes', WHERE WHAT IT READS IS OF BULK AT MOST 1048576: true; the input reads as it did. -/
def locksDoesUptoRow : OpenClaim := { program := "ytndehfninoimgaagreat", sum := "bc2040cd3a5220357d66dcd3bf4d0db6c2dd0cecc44e6eb59121ddd626aa3ff0", func := "bursary/bursarylaw08.LocksDoes", spec := "locksDoes", inPlace := ["slices.overlaps[bursary/api.Queue]", "slices.overlaps[bursary/api.Hold]", "slices.overlaps[bursary/api.Wait]"], unfollowed := true, recurses := true, apart := false, narrowed := true }
def LocksDoesUptoSaid : Prop := locksDoesUptoRow.holds Tryz.pinned (OpenSpec.upto locksDoesSpec)

/-- 'bursarylaw08.LocksMost', WHERE WHAT IT READS IS OF BULK AT MOST 1048576: true; the input reads as it did. -/
def locksMostUptoRow : OpenClaim := { program := "ytndehfninoimgaagreat", sum := "bc2040cd3a5220357d66dcd3bf4d0db6c2dd0cecc44e6eb59121ddd626aa3ff0", func := "bursary/bursarylaw08.LocksMost", spec := "locksMost", inPlace := ["slices.overlaps[bursary/api.Queue]", "slices.overlaps[bursary/api.Hold]", "slices.overlaps[bursary/api.Wait]"], unfollowed := true, recurses := true, apart := false, narrowed := true }
def LocksMostUptoSaid : Prop := locksMostUptoRow.holds Tryz.pinned (OpenSpec.upto locksMostSpec)

/-- 'bursarylaw08.LocksSafe', WHERE WHAT IT READS IS OF BULK AT MOST 1048576: true; the input reads as it did. -/
def locksSafeUptoRow : OpenClaim := { program := "ytndehfninoimgaagreat", sum := "bc2040cd3a5220357d66dcd3bf4d0db6c2dd0cecc44e6eb59121ddd626aa3ff0", func := "bursary/bursarylaw08.LocksSafe", spec := "locksSafe", inPlace := ["slices.overlaps[bursary/api.Queue]", "slices.overlaps[bursary/api.Hold]", "slices.overlaps[bursary/api.Wait]"], unfollowed := true, recurses := true, apart := false, narrowed := true }
def LocksSafeUptoSaid : Prop := locksSafeUptoRow.holds Tryz.pinned (OpenSpec.upto locksSafeSpec)

/-- 'bursarylaw08.LocksAlone', WHERE WHAT IT READS IS OF BULK AT MOST 1048576: true; the input reads as it did. -/
def locksAloneUptoRow : OpenClaim := { program := "ytndehfninoimgaagreat", sum := "bc2040cd3a5220357d66dcd3bf4d0db6c2dd0cecc44e6eb59121ddd626aa3ff0", func := "bursary/bursarylaw08.LocksAlone", spec := "locksAlone", inPlace := ["slices.overlaps[bursary/api.Queue]", "slices.overlaps[bursary/api.Hold]", "slices.overlaps[bursary/api.Wait]"], unfollowed := true, recurses := true, apart := false, narrowed := true }
def LocksAloneUptoSaid : Prop := locksAloneUptoRow.holds Tryz.pinned (OpenSpec.upto locksAloneSpec)

/-- 'bursarylaw08.LocksTells', WHERE WHAT IT READS IS OF BULK AT MOST 1048576: true; the input reads as it did. -/
def locksTellsUptoRow : OpenClaim := { program := "ytndehfninoimgaagreat", sum := "bc2040cd3a5220357d66dcd3bf4d0db6c2dd0cecc44e6eb59121ddd626aa3ff0", func := "bursary/bursarylaw08.LocksTells", spec := "locksTells", inPlace := ["slices.overlaps[bursary/api.Queue]", "slices.overlaps[bursary/api.Hold]", "slices.overlaps[bursary/api.Wait]"], unfollowed := true, recurses := true, apart := false, narrowed := true }
def LocksTellsUptoSaid : Prop := locksTellsUptoRow.holds Tryz.pinned (OpenSpec.upto locksTellsSpec)

end Rows
end Go.Proofs.YtndehfninoimgaaGreat
