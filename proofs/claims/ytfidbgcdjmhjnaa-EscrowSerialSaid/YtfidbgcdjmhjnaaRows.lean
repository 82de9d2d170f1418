/-
  No cell of these rows narrows 'for every input' (looked for: loops, veiled, ifaces, maps, wideKeys, modest, calm, conditions, laid).
  DERIVED. THE GIVEN ROWS OF THIS SEAT. 6 by the template 'for every input the law returns true; each argument reads behind the call as it read before'; 0 by the template 'total and deterministic' (their statements: YtfidbgcdjmhjnaaTotals.lean).
  GIVEN WITH THE SEED: the statements are not yours to turn. If you find one false, say at which input.
  Laid BY PROGRAM, IN A SANDBOX (cutbox-rows.mjs): the forced cells as the released guide's own fill.sh prints them over the translation 4e3a88c41e1ed82d… (all of the seat's roots in one cut). By AI agents, Wed Nov 11 2026. No macro, syntax, notation, axiom, sorry.
-/
import Derived.Test.YtfidbgcdjmhjnaaChecked
import GoSem.Claim
import GoSem.ClaimJoined
import GoSem.ClaimMapViews
import Derived.JoinedTies
import Derived.KernelRfl
namespace Go.Proofs.Ytfidbgcdjmhjnaa
/- THE CELL 'sum', in the pinned program and in every row, IS THE sha256 OF THE DUMP (.gsa) THAT YtfidbgcdjmhjnaaProg.lean LOADS. Nothing in Lean hashes anything: it is a label: what it is worth is what the hold of that sum in a sandbox is worth. -/
noncomputable def Try.pinned : Pinned := { name := "ytfidbgcdjmhjnaa", sum := "4e3a88c41e1ed82d11fe054ac48ba298b0502ebe46cb30843925c2808c955fe2", checked := Try.checked }
namespace Rows
def none {H : Type} : Left H := { results := [], args := [] }

/-- 'bursarylaw10.EscrowAdmits': WHATEVER THE INPUT: true; the input reads as it did. -/
def escrowAdmitsSpec : ChangeSpec := { name := "escrowAdmits", fn := fun _ => fun
  | [d1, d2] => { results := [.lit (.bool true)], args := [d1, d2] }
  | _ => none }
def escrowAdmitsRow : OpenClaim := { program := "ytfidbgcdjmhjnaa", sum := "4e3a88c41e1ed82d11fe054ac48ba298b0502ebe46cb30843925c2808c955fe2", func := "bursary/bursarylaw10.EscrowAdmits", spec := "escrowAdmits", inPlace := ["slices.overlaps[bursary/api.Pending]", "slices.overlaps[bursary/api.Share]", "math/bits.Add64"], unfollowed := true, recurses := true, apart := false }
def EscrowAdmitsSaid : Prop := escrowAdmitsRow.holds Try.pinned (OpenSpec.ofChange escrowAdmitsSpec)

/-- ITS FALSE NEIGHBOUR: 'it returns false'. Refute it at one input. -/
def escrowAdmitsWrong : ChangeSpec := { name := "escrowAdmits", fn := fun _ => fun
  | [d1, d2] => { results := [.lit (.bool false)], args := [d1, d2] }
  | _ => none }
def EscrowAdmitsWrongFalsely : Prop := escrowAdmitsRow.holds Try.pinned (OpenSpec.ofChange escrowAdmitsWrong)

/-- 'bursarylaw10.EscrowTells': WHATEVER THE INPUT: true; the input reads as it did. -/
def escrowTellsSpec : ChangeSpec := { name := "escrowTells", fn := fun _ => fun
  | [d1, d2] => { results := [.lit (.bool true)], args := [d1, d2] }
  | _ => none }
def escrowTellsRow : OpenClaim := { program := "ytfidbgcdjmhjnaa", sum := "4e3a88c41e1ed82d11fe054ac48ba298b0502ebe46cb30843925c2808c955fe2", func := "bursary/bursarylaw10.EscrowTells", spec := "escrowTells", inPlace := ["slices.overlaps[bursary/api.Pending]", "slices.overlaps[bursary/api.Share]", "math/bits.Add64"], unfollowed := true, recurses := true, apart := false }
def EscrowTellsSaid : Prop := escrowTellsRow.holds Try.pinned (OpenSpec.ofChange escrowTellsSpec)

/-- ITS FALSE NEIGHBOUR: 'it returns false'. Refute it at one input. -/
def escrowTellsWrong : ChangeSpec := { name := "escrowTells", fn := fun _ => fun
  | [d1, d2] => { results := [.lit (.bool false)], args := [d1, d2] }
  | _ => none }
def EscrowTellsWrongFalsely : Prop := escrowTellsRow.holds Try.pinned (OpenSpec.ofChange escrowTellsWrong)

/-- 'bursarylaw10.EscrowDoes': WHATEVER THE INPUT: true; the input reads as it did. -/
def escrowDoesSpec : ChangeSpec := { name := "escrowDoes", fn := fun _ => fun
  | [d1, d2] => { results := [.lit (.bool true)], args := [d1, d2] }
  | _ => none }
def escrowDoesRow : OpenClaim := { program := "ytfidbgcdjmhjnaa", sum := "4e3a88c41e1ed82d11fe054ac48ba298b0502ebe46cb30843925c2808c955fe2", func := "bursary/bursarylaw10.EscrowDoes", spec := "escrowDoes", inPlace := ["slices.overlaps[bursary/api.Pending]", "slices.overlaps[bursary/api.Share]", "math/bits.Add64"], unfollowed := true, recurses := true, apart := false }
def EscrowDoesSaid : Prop := escrowDoesRow.holds Try.pinned (OpenSpec.ofChange escrowDoesSpec)

/-- ITS FALSE NEIGHBOUR: 'it returns false'. Refute it at one input. -/
def escrowDoesWrong : ChangeSpec := { name := "escrowDoes", fn := fun _ => fun
  | [d1, d2] => { results := [.lit (.bool false)], args := [d1, d2] }
  | _ => none }
def EscrowDoesWrongFalsely : Prop := escrowDoesRow.holds Try.pinned (OpenSpec.ofChange escrowDoesWrong)

/-- 'bursarylaw10.EscrowSerial': WHATEVER THE INPUT: true; the input reads as it did. -/
def escrowSerialSpec : ChangeSpec := { name := "escrowSerial", fn := fun _ => fun
  | [d1, d2] => { results := [.lit (.bool true)], args := [d1, d2] }
  | _ => none }
def escrowSerialRow : OpenClaim := { program := "ytfidbgcdjmhjnaa", sum := "4e3a88c41e1ed82d11fe054ac48ba298b0502ebe46cb30843925c2808c955fe2", func := "bursary/bursarylaw10.EscrowSerial", spec := "escrowSerial", inPlace := ["slices.overlaps[bursary/api.Pending]", "slices.overlaps[bursary/api.Share]", "math/bits.Add64"], unfollowed := true, recurses := true, apart := false }
def EscrowSerialSaid : Prop := escrowSerialRow.holds Try.pinned (OpenSpec.ofChange escrowSerialSpec)

/-- ITS FALSE NEIGHBOUR: 'it returns false'. Refute it at one input. -/
def escrowSerialWrong : ChangeSpec := { name := "escrowSerial", fn := fun _ => fun
  | [d1, d2] => { results := [.lit (.bool false)], args := [d1, d2] }
  | _ => none }
def EscrowSerialWrongFalsely : Prop := escrowSerialRow.holds Try.pinned (OpenSpec.ofChange escrowSerialWrong)

/-- 'bursarylaw10.EscrowBounds': WHATEVER THE INPUT: true; the input reads as it did. -/
def escrowBoundsSpec : ChangeSpec := { name := "escrowBounds", fn := fun _ => fun
  | [d1, d2] => { results := [.lit (.bool true)], args := [d1, d2] }
  | _ => none }
def escrowBoundsRow : OpenClaim := { program := "ytfidbgcdjmhjnaa", sum := "4e3a88c41e1ed82d11fe054ac48ba298b0502ebe46cb30843925c2808c955fe2", func := "bursary/bursarylaw10.EscrowBounds", spec := "escrowBounds", inPlace := ["slices.overlaps[bursary/api.Pending]", "slices.overlaps[bursary/api.Share]", "math/bits.Add64"], unfollowed := true, recurses := true, apart := false }
def EscrowBoundsSaid : Prop := escrowBoundsRow.holds Try.pinned (OpenSpec.ofChange escrowBoundsSpec)

/-- ITS FALSE NEIGHBOUR: 'it returns false'. Refute it at one input. -/
def escrowBoundsWrong : ChangeSpec := { name := "escrowBounds", fn := fun _ => fun
  | [d1, d2] => { results := [.lit (.bool false)], args := [d1, d2] }
  | _ => none }
def EscrowBoundsWrongFalsely : Prop := escrowBoundsRow.holds Try.pinned (OpenSpec.ofChange escrowBoundsWrong)

/-- 'bursarylaw10.EscrowTurns': WHATEVER THE INPUT: true; the input reads as it did. -/
def escrowTurnsSpec : ChangeSpec := { name := "escrowTurns", fn := fun _ => fun
  | [d1, d2, d3] => { results := [.lit (.bool true)], args := [d1, d2, d3] }
  | _ => none }
def escrowTurnsRow : OpenClaim := { program := "ytfidbgcdjmhjnaa", sum := "4e3a88c41e1ed82d11fe054ac48ba298b0502ebe46cb30843925c2808c955fe2", func := "bursary/bursarylaw10.EscrowTurns", spec := "escrowTurns", inPlace := ["slices.overlaps[bursary/api.Pending]", "slices.overlaps[bursary/api.Share]", "math/bits.Add64"], unfollowed := true, recurses := true, apart := false }
def EscrowTurnsSaid : Prop := escrowTurnsRow.holds Try.pinned (OpenSpec.ofChange escrowTurnsSpec)

/-- ITS FALSE NEIGHBOUR: 'it returns false'. Refute it at one input. -/
def escrowTurnsWrong : ChangeSpec := { name := "escrowTurns", fn := fun _ => fun
  | [d1, d2, d3] => { results := [.lit (.bool false)], args := [d1, d2, d3] }
  | _ => none }
def EscrowTurnsWrongFalsely : Prop := escrowTurnsRow.holds Try.pinned (OpenSpec.ofChange escrowTurnsWrong)

/- THE SECOND FORM. 'bulk': how many values and letters a reading holds, each counted each time it is reached (what is shared counts as often as it is met; a slice's spare places count too). A statement '..UptoSaid' is the law's where the arguments, and the package variables that the reading takes, are together of bulk at most 1048576: NARROWER than '..Said'. Prove '..Said' where nothing that the law and all that it calls make is longer than what came in: it says more and counts as full. Else prove '..UptoSaid'. A law counts once. -/
mutual
def uptoBulk {H : Type} : DataW H → Nat
  | .lit (.string bytes) => bytes.length + 1
  | .lit _ => 1
  | .nil => 1
  | .ptr d => uptoBulk d + 1
  | .slice elems spare => uptoBulkAll elems + uptoBulkAll spare + 1
  | .agg parts => uptoBulkAll parts + 1
  | .iface _ d => uptoBulk d + 1
  | .map entries => uptoBulkEntries entries + 1
  | .held _ => 1
def uptoBulkAll {H : Type} : List (DataW H) → Nat
  | [] => 0
  | d :: r => uptoBulk d + uptoBulkAll r
def uptoBulkEntries {H : Type} : List (Lit × DataW H) → Nat
  | [] => 0
  | x :: r => uptoBulkEntry x + uptoBulkEntries r
def uptoBulkEntry {H : Type} : Lit × DataW H → Nat
  | (.string bytes, d) => bytes.length + uptoBulk d + 1
  | (_, d) => uptoBulk d + 1
 end
def uptoSmall : (H : Type) → List (DataW H) → Bool := fun _ ds => decide (uptoBulkAll ds ≤ 1048576)
def OpenSpec.upto (s : _root_.Go.ChangeSpec) : _root_.Go.OpenSpec := { _root_.Go.OpenSpec.ofChange s with cond := some uptoSmall }

/-- 'bursarylaw10.EscrowAdmits', WHERE WHAT IT READS IS OF BULK AT MOST 1048576: true; the input reads as it did. -/
def escrowAdmitsUptoRow : OpenClaim := { program := "ytfidbgcdjmhjnaa", sum := "4e3a88c41e1ed82d11fe054ac48ba298b0502ebe46cb30843925c2808c955fe2", func := "bursary/bursarylaw10.EscrowAdmits", spec := "escrowAdmits", inPlace := ["slices.overlaps[bursary/api.Pending]", "slices.overlaps[bursary/api.Share]", "math/bits.Add64"], unfollowed := true, recurses := true, apart := false, narrowed := true }
def EscrowAdmitsUptoSaid : Prop := escrowAdmitsUptoRow.holds Try.pinned (OpenSpec.upto escrowAdmitsSpec)

/-- 'bursarylaw10.EscrowTells', WHERE WHAT IT READS IS OF BULK AT MOST 1048576: true; the input reads as it did. -/
def escrowTellsUptoRow : OpenClaim := { program := "ytfidbgcdjmhjnaa", sum := "4e3a88c41e1ed82d11fe054ac48ba298b0502ebe46cb30843925c2808c955fe2", func := "bursary/bursarylaw10.EscrowTells", spec := "escrowTells", inPlace := ["slices.overlaps[bursary/api.Pending]", "slices.overlaps[bursary/api.Share]", "math/bits.Add64"], unfollowed := true, recurses := true, apart := false, narrowed := true }
def EscrowTellsUptoSaid : Prop := escrowTellsUptoRow.holds Try.pinned (OpenSpec.upto escrowTellsSpec)

/-- 'bursarylaw10.EscrowDoes', WHERE WHAT IT READS IS OF BULK AT MOST 1048576: true; the input reads as it did. -/
def escrowDoesUptoRow : OpenClaim := { program := "ytfidbgcdjmhjnaa", sum := "4e3a88c41e1ed82d11fe054ac48ba298b0502ebe46cb30843925c2808c955fe2", func := "bursary/bursarylaw10.EscrowDoes", spec := "escrowDoes", inPlace := ["slices.overlaps[bursary/api.Pending]", "slices.overlaps[bursary/api.Share]", "math/bits.Add64"], unfollowed := true, recurses := true, apart := false, narrowed := true }
def EscrowDoesUptoSaid : Prop := escrowDoesUptoRow.holds Try.pinned (OpenSpec.upto escrowDoesSpec)

/-- 'bursarylaw10.EscrowSerial', WHERE WHAT IT READS IS OF BULK AT MOST 1048576: true; the input reads as it did. -/
def escrowSerialUptoRow : OpenClaim := { program := "ytfidbgcdjmhjnaa", sum := "4e3a88c41e1ed82d11fe054ac48ba298b0502ebe46cb30843925c2808c955fe2", func := "bursary/bursarylaw10.EscrowSerial", spec := "escrowSerial", inPlace := ["slices.overlaps[bursary/api.Pending]", "slices.overlaps[bursary/api.Share]", "math/bits.Add64"], unfollowed := true, recurses := true, apart := false, narrowed := true }
def EscrowSerialUptoSaid : Prop := escrowSerialUptoRow.holds Try.pinned (OpenSpec.upto escrowSerialSpec)

/-- 'bursarylaw10.EscrowBounds', WHERE WHAT IT READS IS OF BULK AT MOST 1048576: true; the input reads as it did. -/
def escrowBoundsUptoRow : OpenClaim := { program := "ytfidbgcdjmhjnaa", sum := "4e3a88c41e1ed82d11fe054ac48ba298b0502ebe46cb30843925c2808c955fe2", func := "bursary/bursarylaw10.EscrowBounds", spec := "escrowBounds", inPlace := ["slices.overlaps[bursary/api.Pending]", "slices.overlaps[bursary/api.Share]", "math/bits.Add64"], unfollowed := true, recurses := true, apart := false, narrowed := true }
def EscrowBoundsUptoSaid : Prop := escrowBoundsUptoRow.holds Try.pinned (OpenSpec.upto escrowBoundsSpec)

/-- 'bursarylaw10.EscrowTurns', WHERE WHAT IT READS IS OF BULK AT MOST 1048576: true; the input reads as it did. -/
def escrowTurnsUptoRow : OpenClaim := { program := "ytfidbgcdjmhjnaa", sum := "4e3a88c41e1ed82d11fe054ac48ba298b0502ebe46cb30843925c2808c955fe2", func := "bursary/bursarylaw10.EscrowTurns", spec := "escrowTurns", inPlace := ["slices.overlaps[bursary/api.Pending]", "slices.overlaps[bursary/api.Share]", "math/bits.Add64"], unfollowed := true, recurses := true, apart := false, narrowed := true }
def EscrowTurnsUptoSaid : Prop := escrowTurnsUptoRow.holds Try.pinned (OpenSpec.upto escrowTurnsSpec)

end Rows
end Go.Proofs.Ytfidbgcdjmhjnaa
