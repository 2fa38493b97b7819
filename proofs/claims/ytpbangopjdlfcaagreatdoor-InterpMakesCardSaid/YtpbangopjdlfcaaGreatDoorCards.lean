/-
  DERIVED. GIVEN WITH THE SEED: THE CARDS: each row of YtpbangopjdlfcaaGreatDoorRows.lean that lists a variable, with what it lists TIED to the program's text (the seventh form; the later family's looks); each row that meets fmt, with fmt's text TOLD by the authors' own Lean function (tested against real Go, not proved from fmt's source: count such statements apart). THE CARD IS WHAT COUNTS. Prove the row's statement (the work); the ties are given (YtpbangopjdlfcaaGreatDoorTie.lean); close each card by the builder's one call (the guide's Derived/Test/ToyasCard.lean, 'card_holds'). Laid BY PROGRAM, IN A SANDBOX (cutbox-door.mjs). By AI agents, Wed Nov 11 2026. No macro, syntax, notation, axiom, sorry.
-/
import Derived.Test.YtpbangopjdlfcaaGreatDoorRows
import GoSem.ClaimSeven
namespace Go.Proofs.YtpbangopjdlfcaaGreatDoor
namespace Rows

/-- THE TIED CARD OF 'concordatlaw16.InterpMakes'. -/
def interpMakesCard : Claim7 := { stood := { row := interpMakesRow, standIns := [], harness := (true, "f466c8ca48b9c1df851c433e6f91e59bbf160bfb328471098fbfa3139a910859"), looks := true }, kinds := [], alts := [], laidByText := true, laidKinds := [.data, .pinned], laidTests := true, laidLooks := .later }
def InterpMakesCardSaid : Prop := Claim7.holds Tryz.pinned (.plain (OpenSpec.ofChange interpMakesSpec)) interpMakesCard

/-- THE SECOND FORM's CARD OF 'concordatlaw16.InterpMakes'. -/
def interpMakesUptoCard : Claim7 := { stood := { row := interpMakesUptoRow, standIns := [], harness := (true, "f466c8ca48b9c1df851c433e6f91e59bbf160bfb328471098fbfa3139a910859"), looks := true }, kinds := [], alts := [], laidByText := true, laidKinds := [.data, .pinned], laidTests := true, laidLooks := .later }
def InterpMakesUptoCardSaid : Prop := Claim7.holds Tryz.pinned (.plain (OpenSpec.upto interpMakesSpec)) interpMakesUptoCard
end Rows
end Go.Proofs.YtpbangopjdlfcaaGreatDoor
