/-
  No cell of these rows narrows 'for every input' (looked for: loops, veiled, ifaces, maps, wideKeys, modest, calm, conditions, laid).
  DERIVED. THE GIVEN ROWS OF THIS SEAT. 5 by the template 'for every input the law returns true; each argument reads behind the call as it read before'; 0 by the template 'total and deterministic' (their statements: YtghinjlfaicpjaaTotals.lean).
  GIVEN WITH THE SEED: the statements are not yours to turn. If you find one false, say at which input.
  Laid BY PROGRAM, IN A SANDBOX (cutbox-rows.mjs): the forced cells as the released guide's own fill.sh prints them over the translation bcd625e262f10e1c… (all of the seat's roots in one cut). By AI agents, Wed Nov 11 2026. No macro, syntax, notation, axiom, sorry.
-/
import Derived.Test.YtghinjlfaicpjaaChecked
import GoSem.Claim
import GoSem.ClaimJoined
import GoSem.ClaimMapViews
import Derived.JoinedTies
import Derived.KernelRfl
namespace Go.Proofs.Ytghinjlfaicpjaa
/- THE CELL 'sum', in the pinned program and in every row, IS THE sha256 OF THE DUMP (.gsa) THAT YtghinjlfaicpjaaProg.lean LOADS. Nothing in Lean hashes anything: it is a label: what it is worth is what the hold of that sum in a sandbox is worth. -/
noncomputable def Try.pinned : Pinned := { name := "ytghinjlfaicpjaa", sum := "bcd625e262f10e1cd5f2baad0703199c50771ab9fd85f1aab8ad2767ad8aeb15", checked := Try.checked }
namespace Rows
def none {H : Type} : Left H := { results := [], args := [] }

/-- 'bursarylaw07.ModePairs': WHATEVER THE INPUT: true; the input reads as it did. -/
def modePairsSpec : ChangeSpec := { name := "modePairs", fn := fun _ => fun
  | [d1, d2] => { results := [.lit (.bool true)], args := [d1, d2] }
  | _ => none }
def modePairsRow : OpenClaim := { program := "ytghinjlfaicpjaa", sum := "bcd625e262f10e1cd5f2baad0703199c50771ab9fd85f1aab8ad2767ad8aeb15", func := "bursary/bursarylaw07.ModePairs", spec := "modePairs", apart := false }
def ModePairsSaid : Prop := modePairsRow.holds Try.pinned (OpenSpec.ofChange modePairsSpec)

/-- ITS FALSE NEIGHBOUR: 'it returns false'. Refute it at one input. -/
def modePairsWrong : ChangeSpec := { name := "modePairs", fn := fun _ => fun
  | [d1, d2] => { results := [.lit (.bool false)], args := [d1, d2] }
  | _ => none }
def ModePairsWrongFalsely : Prop := modePairsRow.holds Try.pinned (OpenSpec.ofChange modePairsWrong)

/-- 'bursarylaw07.ModeSups': WHATEVER THE INPUT: true; the input reads as it did. -/
def modeSupsSpec : ChangeSpec := { name := "modeSups", fn := fun _ => fun
  | [d1, d2, d3] => { results := [.lit (.bool true)], args := [d1, d2, d3] }
  | _ => none }
def modeSupsRow : OpenClaim := { program := "ytghinjlfaicpjaa", sum := "bcd625e262f10e1cd5f2baad0703199c50771ab9fd85f1aab8ad2767ad8aeb15", func := "bursary/bursarylaw07.ModeSups", spec := "modeSups", apart := false }
def ModeSupsSaid : Prop := modeSupsRow.holds Try.pinned (OpenSpec.ofChange modeSupsSpec)

/-- ITS FALSE NEIGHBOUR: 'it returns false'. Refute it at one input. -/
def modeSupsWrong : ChangeSpec := { name := "modeSups", fn := fun _ => fun
  | [d1, d2, d3] => { results := [.lit (.bool false)], args := [d1, d2, d3] }
  | _ => none }
def ModeSupsWrongFalsely : Prop := modeSupsRow.holds Try.pinned (OpenSpec.ofChange modeSupsWrong)

/-- 'bursarylaw07.ModeOrder': WHATEVER THE INPUT: true; the input reads as it did. -/
def modeOrderSpec : ChangeSpec := { name := "modeOrder", fn := fun _ => fun
  | [d1, d2, d3] => { results := [.lit (.bool true)], args := [d1, d2, d3] }
  | _ => none }
def modeOrderRow : OpenClaim := { program := "ytghinjlfaicpjaa", sum := "bcd625e262f10e1cd5f2baad0703199c50771ab9fd85f1aab8ad2767ad8aeb15", func := "bursary/bursarylaw07.ModeOrder", spec := "modeOrder", apart := false }
def ModeOrderSaid : Prop := modeOrderRow.holds Try.pinned (OpenSpec.ofChange modeOrderSpec)

/-- ITS FALSE NEIGHBOUR: 'it returns false'. Refute it at one input. -/
def modeOrderWrong : ChangeSpec := { name := "modeOrder", fn := fun _ => fun
  | [d1, d2, d3] => { results := [.lit (.bool false)], args := [d1, d2, d3] }
  | _ => none }
def ModeOrderWrongFalsely : Prop := modeOrderRow.holds Try.pinned (OpenSpec.ofChange modeOrderWrong)

/-- 'bursarylaw07.ModeTells': WHATEVER THE INPUT: true; the input reads as it did. -/
def modeTellsSpec : ChangeSpec := { name := "modeTells", fn := fun _ => fun
  | [d1, d2] => { results := [.lit (.bool true)], args := [d1, d2] }
  | _ => none }
def modeTellsRow : OpenClaim := { program := "ytghinjlfaicpjaa", sum := "bcd625e262f10e1cd5f2baad0703199c50771ab9fd85f1aab8ad2767ad8aeb15", func := "bursary/bursarylaw07.ModeTells", spec := "modeTells", apart := false }
def ModeTellsSaid : Prop := modeTellsRow.holds Try.pinned (OpenSpec.ofChange modeTellsSpec)

/-- ITS FALSE NEIGHBOUR: 'it returns false'. Refute it at one input. -/
def modeTellsWrong : ChangeSpec := { name := "modeTells", fn := fun _ => fun
  | [d1, d2] => { results := [.lit (.bool false)], args := [d1, d2] }
  | _ => none }
def ModeTellsWrongFalsely : Prop := modeTellsRow.holds Try.pinned (OpenSpec.ofChange modeTellsWrong)

/-- 'bursarylaw07.ModeBack': WHATEVER THE INPUT: true; the input reads as it did. -/
def modeBackSpec : ChangeSpec := { name := "modeBack", fn := fun _ => fun
  | [d1, d2] => { results := [.lit (.bool true)], args := [d1, d2] }
  | _ => none }
def modeBackRow : OpenClaim := { program := "ytghinjlfaicpjaa", sum := "bcd625e262f10e1cd5f2baad0703199c50771ab9fd85f1aab8ad2767ad8aeb15", func := "bursary/bursarylaw07.ModeBack", spec := "modeBack", apart := false }
def ModeBackSaid : Prop := modeBackRow.holds Try.pinned (OpenSpec.ofChange modeBackSpec)

/-- ITS FALSE NEIGHBOUR: 'it returns false'. Refute it at one input. -/
def modeBackWrong : ChangeSpec := { name := "modeBack", fn := fun _ => fun
  | [d1, d2] => { results := [.lit (.bool false)], args := [d1, d2] }
  | _ => none }
def ModeBackWrongFalsely : Prop := modeBackRow.holds Try.pinned (OpenSpec.ofChange modeBackWrong)

/- THE SECOND FORM. 'bulk': how many values and letters a reading holds, each counted each time it is reached (what is shared counts as often as it is met; a slice's spare places count too). A statement '..UptoSaid' is the law's where the arguments, and the package variables that the reading takes, are together of bulk at most 1048576: NARROWER than '..Said'. Prove '..Said' where nothing that the law and all that it calls make is longer than what came in: it says more and counts as full. Else prove '..UptoSaid'. A law counts once. -/
mutual
def uptoBulk {H : Type} : DataW H → Nat
  | .lit (.string bytes) => bytes.length + 1
  | .lit _ => 1
  | .nil => 1
  | .ptr d => uptoBulk d + 1
  | .slice elems spare => uptoBulkAll elems + uptoBulkAll spare + 1
  | .agg parts => uptoBulkAll parts + 1
  | .iface _ d => uptoBulk d + 1
  | .map entries => uptoBulkEntries entries + 1
  | .held _ => 1
def uptoBulkAll {H : Type} : List (DataW H) → Nat
  | [] => 0
  | d :: r => uptoBulk d + uptoBulkAll r
def uptoBulkEntries {H : Type} : List (Lit × DataW H) → Nat
  | [] => 0
  | x :: r => uptoBulkEntry x + uptoBulkEntries r
def uptoBulkEntry {H : Type} : Lit × DataW H → Nat
  | (.string bytes, d) => bytes.length + uptoBulk d + 1
  | (_, d) => uptoBulk d + 1
 end
def uptoSmall : (H : Type) → List (DataW H) → Bool := fun _ ds => decide (uptoBulkAll ds ≤ 1048576)
def OpenSpec.upto (s : _root_.Go.ChangeSpec) : _root_.Go.OpenSpec := { _root_.Go.OpenSpec.ofChange s with cond := some uptoSmall }

/-- 'bursarylaw07.ModePairs', WHERE WHAT IT READS IS OF BULK AT MOST 1048576: true; the input reads as it did. -/
def modePairsUptoRow : OpenClaim := { program := "ytghinjlfaicpjaa", sum := "bcd625e262f10e1cd5f2baad0703199c50771ab9fd85f1aab8ad2767ad8aeb15", func := "bursary/bursarylaw07.ModePairs", spec := "modePairs", apart := false, narrowed := true }
def ModePairsUptoSaid : Prop := modePairsUptoRow.holds Try.pinned (OpenSpec.upto modePairsSpec)

/-- 'bursarylaw07.ModeSups', WHERE WHAT IT READS IS OF BULK AT MOST 1048576: true; the input reads as it did. -/
def modeSupsUptoRow : OpenClaim := { program := "ytghinjlfaicpjaa", sum := "bcd625e262f10e1cd5f2baad0703199c50771ab9fd85f1aab8ad2767ad8aeb15", func := "bursary/bursarylaw07.ModeSups", spec := "modeSups", apart := false, narrowed := true }
def ModeSupsUptoSaid : Prop := modeSupsUptoRow.holds Try.pinned (OpenSpec.upto modeSupsSpec)

/-- 'bursarylaw07.ModeOrder', WHERE WHAT IT READS IS OF BULK AT MOST 1048576: true; the input reads as it did. -/
def modeOrderUptoRow : OpenClaim := { program := "ytghinjlfaicpjaa", sum := "bcd625e262f10e1cd5f2baad0703199c50771ab9fd85f1aab8ad2767ad8aeb15", func := "bursary/bursarylaw07.ModeOrder", spec := "modeOrder", apart := false, narrowed := true }
def ModeOrderUptoSaid : Prop := modeOrderUptoRow.holds Try.pinned (OpenSpec.upto modeOrderSpec)

/-- 'bursarylaw07.ModeTells', WHERE WHAT IT READS IS OF BULK AT MOST 1048576: true; the input reads as it did. -/
def modeTellsUptoRow : OpenClaim := { program := "ytghinjlfaicpjaa", sum := "bcd625e262f10e1cd5f2baad0703199c50771ab9fd85f1aab8ad2767ad8aeb15", func := "bursary/bursarylaw07.ModeTells", spec := "modeTells", apart := false, narrowed := true }
def ModeTellsUptoSaid : Prop := modeTellsUptoRow.holds Try.pinned (OpenSpec.upto modeTellsSpec)

/-- 'bursarylaw07.ModeBack', WHERE WHAT IT READS IS OF BULK AT MOST 1048576: true; the input reads as it did. -/
def modeBackUptoRow : OpenClaim := { program := "ytghinjlfaicpjaa", sum := "bcd625e262f10e1cd5f2baad0703199c50771ab9fd85f1aab8ad2767ad8aeb15", func := "bursary/bursarylaw07.ModeBack", spec := "modeBack", apart := false, narrowed := true }
def ModeBackUptoSaid : Prop := modeBackUptoRow.holds Try.pinned (OpenSpec.upto modeBackSpec)

end Rows
end Go.Proofs.Ytghinjlfaicpjaa
