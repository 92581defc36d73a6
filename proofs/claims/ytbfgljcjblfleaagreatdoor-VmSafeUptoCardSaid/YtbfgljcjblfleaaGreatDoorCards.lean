/-
  DERIVED. GIVEN WITH THE SEED: THE CARDS: each row of YtbfgljcjblfleaaGreatDoorRows.lean that lists a variable, with what it lists TIED to the program's text (the seventh form; the later family's looks); each row that meets fmt, with fmt's text TOLD by the authors' own Lean function (tested against real Go, not proved from fmt's source: count such statements apart). THE CARD IS WHAT COUNTS. Prove the row's statement (the work); the ties are given (YtbfgljcjblfleaaGreatDoorTie.lean); close each card by the builder's one call (the guide's Derived/Test/ToyasCard.lean, 'card_holds'). Laid BY PROGRAM, IN A SANDBOX (cutbox-door.mjs). By AI agents, Wed Nov 11 2026. No macro, syntax, notation, axiom, sorry.
-/
import Derived.Test.YtbfgljcjblfleaaGreatDoorRows
import GoSem.ClaimSeven
namespace Go.Proofs.YtbfgljcjblfleaaGreatDoor
namespace Rows

/-- THE TIED CARD OF 'treadlelaw20.VmSafe'. -/
def vmSafeCard : Claim7 := { stood := { row := vmSafeRow, standIns := [], harness := (true, "8ee511708b143f8aa9707d395c6e6302586de047ac85db36d0d4751ebadc75e6"), looks := true }, kinds := [], alts := [], laidByText := true, laidKinds := [.data, .data, .data, .data, .sentinel, .sentinel, .pinned], laidTests := true, laidLooks := .later }
def VmSafeCardSaid : Prop := Claim7.holds Tryz.pinned (.plain (OpenSpec.ofChange vmSafeSpec)) vmSafeCard

/-- THE SECOND FORM's CARD OF 'treadlelaw20.VmSafe'. -/
def vmSafeUptoCard : Claim7 := { stood := { row := vmSafeUptoRow, standIns := [], harness := (true, "8ee511708b143f8aa9707d395c6e6302586de047ac85db36d0d4751ebadc75e6"), looks := true }, kinds := [], alts := [], laidByText := true, laidKinds := [.data, .data, .data, .data, .sentinel, .sentinel, .pinned], laidTests := true, laidLooks := .later }
def VmSafeUptoCardSaid : Prop := Claim7.holds Tryz.pinned (.plain (OpenSpec.upto vmSafeSpec)) vmSafeUptoCard
end Rows
end Go.Proofs.YtbfgljcjblfleaaGreatDoor
