/-
  DERIVED. GIVEN WITH THE SEED: THE CARDS: each row of YtcnlkfocbbkdhaaGreatDoorRows.lean that lists a variable, with what it lists TIED to the program's text (the seventh form; the later family's looks); each row that meets fmt, with fmt's text TOLD by the authors' own Lean function (tested against real Go, not proved from fmt's source: count such statements apart). THE CARD IS WHAT COUNTS. Prove the row's statement (the work); the ties are given (YtcnlkfocbbkdhaaGreatDoorTie.lean); close each card by the builder's one call (the guide's Derived/Test/ToyasCard.lean, 'card_holds'). Laid BY PROGRAM, IN A SANDBOX (cutbox-door.mjs). By AI agents, Wed Nov 11 2026. No macro, syntax, notation, axiom, sorry.
-/
import Derived.Test.YtcnlkfocbbkdhaaGreatDoorRows
import GoSem.ClaimSeven
namespace Go.Proofs.YtcnlkfocbbkdhaaGreatDoor
namespace Rows

/-- THE TIED CARD OF 'treadlelaw22.ObjectMissing'. -/
def objectMissingCard : Claim7 := { stood := { row := objectMissingRow, standIns := [], harness := (true, "0785b4fc4b9ea9146e29a5d086a67957060c21a85025a4b61498d097055deb6f"), looks := true }, kinds := [], alts := [], laidByText := true, laidKinds := [.data, .data, .data, .data, .sentinel, .sentinel, .pinned], laidTests := true, laidLooks := .later }
def ObjectMissingCardSaid : Prop := Claim7.holds Tryz.pinned (.plain (OpenSpec.ofChange objectMissingSpec)) objectMissingCard

/-- THE TIED CARD OF 'treadlelaw22.ObjectOwn'. -/
def objectOwnCard : Claim7 := { stood := { row := objectOwnRow, standIns := [], harness := (true, "0785b4fc4b9ea9146e29a5d086a67957060c21a85025a4b61498d097055deb6f"), looks := true }, kinds := [], alts := [], laidByText := true, laidKinds := [.data, .data, .data, .data, .sentinel, .sentinel, .pinned], laidTests := true, laidLooks := .later }
def ObjectOwnCardSaid : Prop := Claim7.holds Tryz.pinned (.plain (OpenSpec.ofChange objectOwnSpec)) objectOwnCard

/-- THE TIED CARD OF 'treadlelaw22.ObjectPoints'. -/
def objectPointsCard : Claim7 := { stood := { row := objectPointsRow, standIns := [], harness := (true, "0785b4fc4b9ea9146e29a5d086a67957060c21a85025a4b61498d097055deb6f"), looks := true }, kinds := [], alts := [], laidByText := true, laidKinds := [.data, .data, .data, .data, .sentinel, .sentinel, .pinned], laidTests := true, laidLooks := .later }
def ObjectPointsCardSaid : Prop := Claim7.holds Tryz.pinned (.plain (OpenSpec.ofChange objectPointsSpec)) objectPointsCard

/-- THE TIED CARD OF 'treadlelaw22.ObjectOrder'. -/
def objectOrderCard : Claim7 := { stood := { row := objectOrderRow, standIns := [], harness := (true, "0785b4fc4b9ea9146e29a5d086a67957060c21a85025a4b61498d097055deb6f"), looks := true }, kinds := [], alts := [], laidByText := true, laidKinds := [.data, .data, .data, .data, .sentinel, .sentinel, .pinned], laidTests := true, laidLooks := .later }
def ObjectOrderCardSaid : Prop := Claim7.holds Tryz.pinned (.plain (OpenSpec.ofChange objectOrderSpec)) objectOrderCard

/-- THE TIED CARD OF 'treadlelaw22.ObjectSames'. -/
def objectSamesCard : Claim7 := { stood := { row := objectSamesRow, standIns := [], harness := (true, "0785b4fc4b9ea9146e29a5d086a67957060c21a85025a4b61498d097055deb6f"), looks := true }, kinds := [], alts := [], laidByText := true, laidKinds := [.data, .data, .data, .data, .sentinel, .sentinel, .pinned], laidTests := true, laidLooks := .later }
def ObjectSamesCardSaid : Prop := Claim7.holds Tryz.pinned (.plain (OpenSpec.ofChange objectSamesSpec)) objectSamesCard

/-- THE TIED CARD OF 'treadlelaw22.ObjectVerified'. -/
def objectVerifiedCard : Claim7 := { stood := { row := objectVerifiedRow, standIns := [], harness := (true, "0785b4fc4b9ea9146e29a5d086a67957060c21a85025a4b61498d097055deb6f"), looks := true }, kinds := [], alts := [], laidByText := true, laidKinds := [.data, .data, .data, .data, .sentinel, .sentinel, .pinned], laidTests := true, laidLooks := .later }
def ObjectVerifiedCardSaid : Prop := Claim7.holds Tryz.pinned (.plain (OpenSpec.ofChange objectVerifiedSpec)) objectVerifiedCard

/-- THE TIED CARD OF 'treadlelaw22.ObjectBytes'. -/
def objectBytesCard : Claim7 := { stood := { row := objectBytesRow, standIns := [], harness := (true, "0785b4fc4b9ea9146e29a5d086a67957060c21a85025a4b61498d097055deb6f"), looks := true }, kinds := [], alts := [], laidByText := true, laidKinds := [.data, .data, .data, .data, .sentinel, .sentinel, .pinned], laidTests := true, laidLooks := .later }
def ObjectBytesCardSaid : Prop := Claim7.holds Tryz.pinned (.plain (OpenSpec.ofChange objectBytesSpec)) objectBytesCard

/-- THE TIED CARD OF 'treadlelaw22.ObjectBack'. -/
def objectBackCard : Claim7 := { stood := { row := objectBackRow, standIns := [], harness := (true, "0785b4fc4b9ea9146e29a5d086a67957060c21a85025a4b61498d097055deb6f"), looks := true }, kinds := [], alts := [], laidByText := true, laidKinds := [.data, .data, .data, .data, .sentinel, .sentinel, .pinned], laidTests := true, laidLooks := .later }
def ObjectBackCardSaid : Prop := Claim7.holds Tryz.pinned (.plain (OpenSpec.ofChange objectBackSpec)) objectBackCard

/-- THE TIED CARD OF 'treadlelaw22.ObjectWhole'. -/
def objectWholeCard : Claim7 := { stood := { row := objectWholeRow, standIns := [], harness := (true, "0785b4fc4b9ea9146e29a5d086a67957060c21a85025a4b61498d097055deb6f"), looks := true }, kinds := [], alts := [], laidByText := true, laidKinds := [.data, .data, .data, .data, .sentinel, .sentinel, .pinned], laidTests := true, laidLooks := .later }
def ObjectWholeCardSaid : Prop := Claim7.holds Tryz.pinned (.plain (OpenSpec.ofChange objectWholeSpec)) objectWholeCard

/-- THE SECOND FORM's CARD OF 'treadlelaw22.ObjectMissing'. -/
def objectMissingUptoCard : Claim7 := { stood := { row := objectMissingUptoRow, standIns := [], harness := (true, "0785b4fc4b9ea9146e29a5d086a67957060c21a85025a4b61498d097055deb6f"), looks := true }, kinds := [], alts := [], laidByText := true, laidKinds := [.data, .data, .data, .data, .sentinel, .sentinel, .pinned], laidTests := true, laidLooks := .later }
def ObjectMissingUptoCardSaid : Prop := Claim7.holds Tryz.pinned (.plain (OpenSpec.upto objectMissingSpec)) objectMissingUptoCard

/-- THE SECOND FORM's CARD OF 'treadlelaw22.ObjectOwn'. -/
def objectOwnUptoCard : Claim7 := { stood := { row := objectOwnUptoRow, standIns := [], harness := (true, "0785b4fc4b9ea9146e29a5d086a67957060c21a85025a4b61498d097055deb6f"), looks := true }, kinds := [], alts := [], laidByText := true, laidKinds := [.data, .data, .data, .data, .sentinel, .sentinel, .pinned], laidTests := true, laidLooks := .later }
def ObjectOwnUptoCardSaid : Prop := Claim7.holds Tryz.pinned (.plain (OpenSpec.upto objectOwnSpec)) objectOwnUptoCard

/-- THE SECOND FORM's CARD OF 'treadlelaw22.ObjectPoints'. -/
def objectPointsUptoCard : Claim7 := { stood := { row := objectPointsUptoRow, standIns := [], harness := (true, "0785b4fc4b9ea9146e29a5d086a67957060c21a85025a4b61498d097055deb6f"), looks := true }, kinds := [], alts := [], laidByText := true, laidKinds := [.data, .data, .data, .data, .sentinel, .sentinel, .pinned], laidTests := true, laidLooks := .later }
def ObjectPointsUptoCardSaid : Prop := Claim7.holds Tryz.pinned (.plain (OpenSpec.upto objectPointsSpec)) objectPointsUptoCard

/-- THE SECOND FORM's CARD OF 'treadlelaw22.ObjectOrder'. -/
def objectOrderUptoCard : Claim7 := { stood := { row := objectOrderUptoRow, standIns := [], harness := (true, "0785b4fc4b9ea9146e29a5d086a67957060c21a85025a4b61498d097055deb6f"), looks := true }, kinds := [], alts := [], laidByText := true, laidKinds := [.data, .data, .data, .data, .sentinel, .sentinel, .pinned], laidTests := true, laidLooks := .later }
def ObjectOrderUptoCardSaid : Prop := Claim7.holds Tryz.pinned (.plain (OpenSpec.upto objectOrderSpec)) objectOrderUptoCard

/-- THE SECOND FORM's CARD OF 'treadlelaw22.ObjectSames'. -/
def objectSamesUptoCard : Claim7 := { stood := { row := objectSamesUptoRow, standIns := [], harness := (true, "0785b4fc4b9ea9146e29a5d086a67957060c21a85025a4b61498d097055deb6f"), looks := true }, kinds := [], alts := [], laidByText := true, laidKinds := [.data, .data, .data, .data, .sentinel, .sentinel, .pinned], laidTests := true, laidLooks := .later }
def ObjectSamesUptoCardSaid : Prop := Claim7.holds Tryz.pinned (.plain (OpenSpec.upto objectSamesSpec)) objectSamesUptoCard

/-- THE SECOND FORM's CARD OF 'treadlelaw22.ObjectVerified'. -/
def objectVerifiedUptoCard : Claim7 := { stood := { row := objectVerifiedUptoRow, standIns := [], harness := (true, "0785b4fc4b9ea9146e29a5d086a67957060c21a85025a4b61498d097055deb6f"), looks := true }, kinds := [], alts := [], laidByText := true, laidKinds := [.data, .data, .data, .data, .sentinel, .sentinel, .pinned], laidTests := true, laidLooks := .later }
def ObjectVerifiedUptoCardSaid : Prop := Claim7.holds Tryz.pinned (.plain (OpenSpec.upto objectVerifiedSpec)) objectVerifiedUptoCard

/-- THE SECOND FORM's CARD OF 'treadlelaw22.ObjectBytes'. -/
def objectBytesUptoCard : Claim7 := { stood := { row := objectBytesUptoRow, standIns := [], harness := (true, "0785b4fc4b9ea9146e29a5d086a67957060c21a85025a4b61498d097055deb6f"), looks := true }, kinds := [], alts := [], laidByText := true, laidKinds := [.data, .data, .data, .data, .sentinel, .sentinel, .pinned], laidTests := true, laidLooks := .later }
def ObjectBytesUptoCardSaid : Prop := Claim7.holds Tryz.pinned (.plain (OpenSpec.upto objectBytesSpec)) objectBytesUptoCard

/-- THE SECOND FORM's CARD OF 'treadlelaw22.ObjectBack'. -/
def objectBackUptoCard : Claim7 := { stood := { row := objectBackUptoRow, standIns := [], harness := (true, "0785b4fc4b9ea9146e29a5d086a67957060c21a85025a4b61498d097055deb6f"), looks := true }, kinds := [], alts := [], laidByText := true, laidKinds := [.data, .data, .data, .data, .sentinel, .sentinel, .pinned], laidTests := true, laidLooks := .later }
def ObjectBackUptoCardSaid : Prop := Claim7.holds Tryz.pinned (.plain (OpenSpec.upto objectBackSpec)) objectBackUptoCard

/-- THE SECOND FORM's CARD OF 'treadlelaw22.ObjectWhole'. -/
def objectWholeUptoCard : Claim7 := { stood := { row := objectWholeUptoRow, standIns := [], harness := (true, "0785b4fc4b9ea9146e29a5d086a67957060c21a85025a4b61498d097055deb6f"), looks := true }, kinds := [], alts := [], laidByText := true, laidKinds := [.data, .data, .data, .data, .sentinel, .sentinel, .pinned], laidTests := true, laidLooks := .later }
def ObjectWholeUptoCardSaid : Prop := Claim7.holds Tryz.pinned (.plain (OpenSpec.upto objectWholeSpec)) objectWholeUptoCard
end Rows
end Go.Proofs.YtcnlkfocbbkdhaaGreatDoor
