/-
  DERIVED. GIVEN WITH THE SEED: THE CARDS: each row of YtlfjoaipbpendaaGreatDoorRows.lean that lists a variable, with what it lists TIED to the program's text (the seventh form; the later family's looks); each row that meets fmt, with fmt's text TOLD by the authors' own Lean function (tested against real Go, not proved from fmt's source: count such statements apart). THE CARD IS WHAT COUNTS. Prove the row's statement (the work); the ties are given (YtlfjoaipbpendaaGreatDoorTie.lean); close each card by the builder's one call (the guide's Derived/Test/ToyasCard.lean, 'card_holds'). Laid BY PROGRAM, IN A SANDBOX (cutbox-door.mjs). By AI agents, Wed Nov 11 2026. No macro, syntax, notation, axiom, sorry.
-/
import Derived.Test.YtlfjoaipbpendaaGreatDoorRows
import GoSem.ClaimSeven
namespace Go.Proofs.YtlfjoaipbpendaaGreatDoor
namespace Rows

/-- THE TIED CARD OF 'bursarylaw19.RequestTexts'. -/
def requestTextsCard : Claim7 := { stood := { row := requestTextsRow, standIns := [], harness := (true, "76912e68b374508fd3cb0caa8117b605ae20973f9fd7ceabde1fc0002ec9d621"), looks := true }, kinds := [], alts := [], laidByText := true, laidKinds := [.data, .data, .data, .sentinel, .sentinel], laidTests := true, laidLooks := .later }
def RequestTextsCardSaid : Prop := Claim7.holds Tryz.pinned (.plain (OpenSpec.ofChange requestTextsSpec)) requestTextsCard

/-- THE TIED CARD OF 'bursarylaw19.RequestReads'. -/
def requestReadsCard : Claim7 := { stood := { row := requestReadsRow, standIns := [], harness := (true, "76912e68b374508fd3cb0caa8117b605ae20973f9fd7ceabde1fc0002ec9d621"), looks := true }, kinds := [], alts := [], laidByText := true, laidKinds := [.data, .data, .data, .sentinel, .sentinel], laidTests := true, laidLooks := .later }
def RequestReadsCardSaid : Prop := Claim7.holds Tryz.pinned (.plain (OpenSpec.ofChange requestReadsSpec)) requestReadsCard

/-- THE TIED CARD OF 'bursarylaw19.RequestOrder'. -/
def requestOrderCard : Claim7 := { stood := { row := requestOrderRow, standIns := [], harness := (true, "76912e68b374508fd3cb0caa8117b605ae20973f9fd7ceabde1fc0002ec9d621"), looks := true }, kinds := [], alts := [], laidByText := true, laidKinds := [.data, .data, .data, .sentinel, .sentinel], laidTests := true, laidLooks := .later }
def RequestOrderCardSaid : Prop := Claim7.holds Tryz.pinned (.plain (OpenSpec.ofChange requestOrderSpec)) requestOrderCard

/-- THE TIED CARD OF 'bursarylaw19.RequestLocks'. -/
def requestLocksCard : Claim7 := { stood := { row := requestLocksRow, standIns := [], harness := (true, "76912e68b374508fd3cb0caa8117b605ae20973f9fd7ceabde1fc0002ec9d621"), looks := true }, kinds := [], alts := [], laidByText := true, laidKinds := [.data, .data, .data, .sentinel, .sentinel], laidTests := true, laidLooks := .later }
def RequestLocksCardSaid : Prop := Claim7.holds Tryz.pinned (.plain (OpenSpec.ofChange requestLocksSpec)) requestLocksCard

/-- THE TIED CARD OF 'bursarylaw19.RequestOwn'. -/
def requestOwnCard : Claim7 := { stood := { row := requestOwnRow, standIns := [], harness := (true, "76912e68b374508fd3cb0caa8117b605ae20973f9fd7ceabde1fc0002ec9d621"), looks := true }, kinds := [], alts := [], laidByText := true, laidKinds := [.data, .data, .data, .sentinel, .sentinel], laidTests := true, laidLooks := .later }
def RequestOwnCardSaid : Prop := Claim7.holds Tryz.pinned (.plain (OpenSpec.ofChange requestOwnSpec)) requestOwnCard

/-- THE TIED CARD OF 'bursarylaw19.RequestTogether'. -/
def requestTogetherCard : Claim7 := { stood := { row := requestTogetherRow, standIns := [], harness := (true, "76912e68b374508fd3cb0caa8117b605ae20973f9fd7ceabde1fc0002ec9d621"), looks := true }, kinds := [], alts := [], laidByText := true, laidKinds := [.data, .data, .data, .sentinel, .sentinel], laidTests := true, laidLooks := .later }
def RequestTogetherCardSaid : Prop := Claim7.holds Tryz.pinned (.plain (OpenSpec.ofChange requestTogetherSpec)) requestTogetherCard

/-- THE SECOND FORM's CARD OF 'bursarylaw19.RequestTexts'. -/
def requestTextsUptoCard : Claim7 := { stood := { row := requestTextsUptoRow, standIns := [], harness := (true, "76912e68b374508fd3cb0caa8117b605ae20973f9fd7ceabde1fc0002ec9d621"), looks := true }, kinds := [], alts := [], laidByText := true, laidKinds := [.data, .data, .data, .sentinel, .sentinel], laidTests := true, laidLooks := .later }
def RequestTextsUptoCardSaid : Prop := Claim7.holds Tryz.pinned (.plain (OpenSpec.upto requestTextsSpec)) requestTextsUptoCard

/-- THE SECOND FORM's CARD OF 'bursarylaw19.RequestReads'. -/
def requestReadsUptoCard : Claim7 := { stood := { row := requestReadsUptoRow, standIns := [], harness := (true, "76912e68b374508fd3cb0caa8117b605ae20973f9fd7ceabde1fc0002ec9d621"), looks := true }, kinds := [], alts := [], laidByText := true, laidKinds := [.data, .data, .data, .sentinel, .sentinel], laidTests := true, laidLooks := .later }
def RequestReadsUptoCardSaid : Prop := Claim7.holds Tryz.pinned (.plain (OpenSpec.upto requestReadsSpec)) requestReadsUptoCard

/-- THE SECOND FORM's CARD OF 'bursarylaw19.RequestOrder'. -/
def requestOrderUptoCard : Claim7 := { stood := { row := requestOrderUptoRow, standIns := [], harness := (true, "76912e68b374508fd3cb0caa8117b605ae20973f9fd7ceabde1fc0002ec9d621"), looks := true }, kinds := [], alts := [], laidByText := true, laidKinds := [.data, .data, .data, .sentinel, .sentinel], laidTests := true, laidLooks := .later }
def RequestOrderUptoCardSaid : Prop := Claim7.holds Tryz.pinned (.plain (OpenSpec.upto requestOrderSpec)) requestOrderUptoCard

/-- THE SECOND FORM's CARD OF 'bursarylaw19.RequestLocks'. -/
def requestLocksUptoCard : Claim7 := { stood := { row := requestLocksUptoRow, standIns := [], harness := (true, "76912e68b374508fd3cb0caa8117b605ae20973f9fd7ceabde1fc0002ec9d621"), looks := true }, kinds := [], alts := [], laidByText := true, laidKinds := [.data, .data, .data, .sentinel, .sentinel], laidTests := true, laidLooks := .later }
def RequestLocksUptoCardSaid : Prop := Claim7.holds Tryz.pinned (.plain (OpenSpec.upto requestLocksSpec)) requestLocksUptoCard

/-- THE SECOND FORM's CARD OF 'bursarylaw19.RequestOwn'. -/
def requestOwnUptoCard : Claim7 := { stood := { row := requestOwnUptoRow, standIns := [], harness := (true, "76912e68b374508fd3cb0caa8117b605ae20973f9fd7ceabde1fc0002ec9d621"), looks := true }, kinds := [], alts := [], laidByText := true, laidKinds := [.data, .data, .data, .sentinel, .sentinel], laidTests := true, laidLooks := .later }
def RequestOwnUptoCardSaid : Prop := Claim7.holds Tryz.pinned (.plain (OpenSpec.upto requestOwnSpec)) requestOwnUptoCard

/-- THE SECOND FORM's CARD OF 'bursarylaw19.RequestTogether'. -/
def requestTogetherUptoCard : Claim7 := { stood := { row := requestTogetherUptoRow, standIns := [], harness := (true, "76912e68b374508fd3cb0caa8117b605ae20973f9fd7ceabde1fc0002ec9d621"), looks := true }, kinds := [], alts := [], laidByText := true, laidKinds := [.data, .data, .data, .sentinel, .sentinel], laidTests := true, laidLooks := .later }
def RequestTogetherUptoCardSaid : Prop := Claim7.holds Tryz.pinned (.plain (OpenSpec.upto requestTogetherSpec)) requestTogetherUptoCard
end Rows
end Go.Proofs.YtlfjoaipbpendaaGreatDoor
