/-
  DERIVED. GIVEN WITH THE SEED: THE CARDS: each row of YtpbangopjdlfcaaDoorRows.lean that lists a variable, with what it lists TIED to the program's text (the seventh form; the later family's looks); each row that meets fmt, with fmt's text TOLD by the authors' own Lean function (tested against real Go, not proved from fmt's source: count such statements apart). THE CARD IS WHAT COUNTS. Prove the row's statement (the work); the ties are given (YtpbangopjdlfcaaDoorTie.lean); close each card by the builder's one call (the guide's Derived/Test/ToyasCard.lean, 'card_holds'). Laid BY PROGRAM, IN A SANDBOX (cutbox-door.mjs). By AI agents, Wed Nov 11 2026. No macro, syntax, notation, axiom, sorry.
-/
import Derived.Test.YtpbangopjdlfcaaDoorRows
import GoSem.ClaimSeven
namespace Go.Proofs.YtpbangopjdlfcaaDoor
namespace Rows

/-- THE TIED CARD OF 'concordatlaw10.ValidFits'. -/
def validFitsCard : Claim7 := { stood := { row := validFitsRow, standIns := [], harness := (true, "5eb173e35e31c30967d033812fabe1f6091d26f97ff098876e72b324d0ff8bb7"), looks := true }, kinds := [], alts := [], laidByText := true, laidKinds := [.data, .pinned], laidTests := true, laidLooks := .later }
def ValidFitsCardSaid : Prop := Claim7.holds Tryd.pinned (.plain (OpenSpec.ofChange validFitsSpec)) validFitsCard

/-- THE TIED CARD OF 'concordatlaw10.ValidNumbers'. -/
def validNumbersCard : Claim7 := { stood := { row := validNumbersRow, standIns := [], harness := (true, "5eb173e35e31c30967d033812fabe1f6091d26f97ff098876e72b324d0ff8bb7"), looks := true }, kinds := [], alts := [], laidByText := true, laidKinds := [.data, .pinned], laidTests := true, laidLooks := .later }
def ValidNumbersCardSaid : Prop := Claim7.holds Tryd.pinned (.plain (OpenSpec.ofChange validNumbersSpec)) validNumbersCard

/-- THE TIED CARD OF 'concordatlaw10.ValidGets'. -/
def validGetsCard : Claim7 := { stood := { row := validGetsRow, standIns := [], harness := (true, "5eb173e35e31c30967d033812fabe1f6091d26f97ff098876e72b324d0ff8bb7"), looks := true }, kinds := [], alts := [], laidByText := true, laidKinds := [.data, .pinned], laidTests := true, laidLooks := .later }
def ValidGetsCardSaid : Prop := Claim7.holds Tryd.pinned (.plain (OpenSpec.ofChange validGetsSpec)) validGetsCard

/-- THE TIED CARD OF 'concordatlaw10.ValidOther'. -/
def validOtherCard : Claim7 := { stood := { row := validOtherRow, standIns := [], harness := (true, "5eb173e35e31c30967d033812fabe1f6091d26f97ff098876e72b324d0ff8bb7"), looks := true }, kinds := [], alts := [], laidByText := true, laidKinds := [.data, .pinned], laidTests := true, laidLooks := .later }
def ValidOtherCardSaid : Prop := Claim7.holds Tryd.pinned (.plain (OpenSpec.ofChange validOtherSpec)) validOtherCard

/-- THE TIED CARD OF 'concordatlaw10.ValidAll'. -/
def validAllCard : Claim7 := { stood := { row := validAllRow, standIns := [], harness := (true, "5eb173e35e31c30967d033812fabe1f6091d26f97ff098876e72b324d0ff8bb7"), looks := true }, kinds := [], alts := [], laidByText := true, laidKinds := [.data, .pinned], laidTests := true, laidLooks := .later }
def ValidAllCardSaid : Prop := Claim7.holds Tryd.pinned (.plain (OpenSpec.ofChange validAllSpec)) validAllCard

/-- THE TIED CARD OF 'concordatlaw10.ValidBare'. -/
def validBareCard : Claim7 := { stood := { row := validBareRow, standIns := [], harness := (true, "5eb173e35e31c30967d033812fabe1f6091d26f97ff098876e72b324d0ff8bb7"), looks := true }, kinds := [], alts := [], laidByText := true, laidKinds := [.data, .pinned], laidTests := true, laidLooks := .later }
def ValidBareCardSaid : Prop := Claim7.holds Tryd.pinned (.plain (OpenSpec.ofChange validBareSpec)) validBareCard

/-- THE TIED CARD OF 'concordatlaw13.ProjectAll'. -/
def projectAllCard : Claim7 := { stood := { row := projectAllRow, standIns := [], harness := (true, "5eb173e35e31c30967d033812fabe1f6091d26f97ff098876e72b324d0ff8bb7"), looks := true }, kinds := [], alts := [], laidByText := true, laidKinds := [.data, .pinned], laidTests := true, laidLooks := .later }
def ProjectAllCardSaid : Prop := Claim7.holds Tryd.pinned (.plain (OpenSpec.ofChange projectAllSpec)) projectAllCard

/-- THE TIED CARD OF 'concordatlaw13.ProjectKeeps'. -/
def projectKeepsCard : Claim7 := { stood := { row := projectKeepsRow, standIns := [], harness := (true, "5eb173e35e31c30967d033812fabe1f6091d26f97ff098876e72b324d0ff8bb7"), looks := true }, kinds := [], alts := [], laidByText := true, laidKinds := [.data, .pinned], laidTests := true, laidLooks := .later }
def ProjectKeepsCardSaid : Prop := Claim7.holds Tryd.pinned (.plain (OpenSpec.ofChange projectKeepsSpec)) projectKeepsCard

/-- THE TIED CARD OF 'concordatlaw13.ProjectDrops'. -/
def projectDropsCard : Claim7 := { stood := { row := projectDropsRow, standIns := [], harness := (true, "5eb173e35e31c30967d033812fabe1f6091d26f97ff098876e72b324d0ff8bb7"), looks := true }, kinds := [], alts := [], laidByText := true, laidKinds := [.data, .pinned], laidTests := true, laidLooks := .later }
def ProjectDropsCardSaid : Prop := Claim7.holds Tryd.pinned (.plain (OpenSpec.ofChange projectDropsSpec)) projectDropsCard

/-- THE TIED CARD OF 'concordatlaw13.ProjectWire'. -/
def projectWireCard : Claim7 := { stood := { row := projectWireRow, standIns := [], harness := (true, "5eb173e35e31c30967d033812fabe1f6091d26f97ff098876e72b324d0ff8bb7"), looks := true }, kinds := [], alts := [], laidByText := true, laidKinds := [.data, .pinned], laidTests := true, laidLooks := .later }
def ProjectWireCardSaid : Prop := Claim7.holds Tryd.pinned (.plain (OpenSpec.ofChange projectWireSpec)) projectWireCard

/-- THE TIED CARD OF 'concordatlaw13.ProjectLast'. -/
def projectLastCard : Claim7 := { stood := { row := projectLastRow, standIns := [], harness := (true, "5eb173e35e31c30967d033812fabe1f6091d26f97ff098876e72b324d0ff8bb7"), looks := true }, kinds := [], alts := [], laidByText := true, laidKinds := [.data, .pinned], laidTests := true, laidLooks := .later }
def ProjectLastCardSaid : Prop := Claim7.holds Tryd.pinned (.plain (OpenSpec.ofChange projectLastSpec)) projectLastCard

/-- THE TIED CARD OF 'concordatlaw13.ProjectFits'. -/
def projectFitsCard : Claim7 := { stood := { row := projectFitsRow, standIns := [], harness := (true, "5eb173e35e31c30967d033812fabe1f6091d26f97ff098876e72b324d0ff8bb7"), looks := true }, kinds := [], alts := [], laidByText := true, laidKinds := [.data, .pinned], laidTests := true, laidLooks := .later }
def ProjectFitsCardSaid : Prop := Claim7.holds Tryd.pinned (.plain (OpenSpec.ofChange projectFitsSpec)) projectFitsCard

/-- THE TIED CARD OF 'concordatlaw16.InterpSelf'. -/
def interpSelfCard : Claim7 := { stood := { row := interpSelfRow, standIns := [], harness := (true, "5eb173e35e31c30967d033812fabe1f6091d26f97ff098876e72b324d0ff8bb7"), looks := true }, kinds := [], alts := [], laidByText := true, laidKinds := [.data, .pinned], laidTests := true, laidLooks := .later }
def InterpSelfCardSaid : Prop := Claim7.holds Tryd.pinned (.plain (OpenSpec.ofChange interpSelfSpec)) interpSelfCard

/-- THE TIED CARD OF 'concordatlaw16.InterpThere'. -/
def interpThereCard : Claim7 := { stood := { row := interpThereRow, standIns := [], harness := (true, "5eb173e35e31c30967d033812fabe1f6091d26f97ff098876e72b324d0ff8bb7"), looks := true }, kinds := [], alts := [], laidByText := true, laidKinds := [.data, .pinned], laidTests := true, laidLooks := .later }
def InterpThereCardSaid : Prop := Claim7.holds Tryd.pinned (.plain (OpenSpec.ofChange interpThereSpec)) interpThereCard

/-- THE TIED CARD OF 'concordatlaw16.InterpChains'. -/
def interpChainsCard : Claim7 := { stood := { row := interpChainsRow, standIns := [], harness := (true, "5eb173e35e31c30967d033812fabe1f6091d26f97ff098876e72b324d0ff8bb7"), looks := true }, kinds := [], alts := [], laidByText := true, laidKinds := [.data, .pinned], laidTests := true, laidLooks := .later }
def InterpChainsCardSaid : Prop := Claim7.holds Tryd.pinned (.plain (OpenSpec.ofChange interpChainsSpec)) interpChainsCard

/-- THE TIED CARD OF 'concordatlaw16.InterpProjects'. -/
def interpProjectsCard : Claim7 := { stood := { row := interpProjectsRow, standIns := [], harness := (true, "5eb173e35e31c30967d033812fabe1f6091d26f97ff098876e72b324d0ff8bb7"), looks := true }, kinds := [], alts := [], laidByText := true, laidKinds := [.data, .pinned], laidTests := true, laidLooks := .later }
def InterpProjectsCardSaid : Prop := Claim7.holds Tryd.pinned (.plain (OpenSpec.ofChange interpProjectsSpec)) interpProjectsCard

/-- THE SECOND FORM's CARD OF 'concordatlaw10.ValidFits'. -/
def validFitsUptoCard : Claim7 := { stood := { row := validFitsUptoRow, standIns := [], harness := (true, "5eb173e35e31c30967d033812fabe1f6091d26f97ff098876e72b324d0ff8bb7"), looks := true }, kinds := [], alts := [], laidByText := true, laidKinds := [.data, .pinned], laidTests := true, laidLooks := .later }
def ValidFitsUptoCardSaid : Prop := Claim7.holds Tryd.pinned (.plain (OpenSpec.upto validFitsSpec)) validFitsUptoCard

/-- THE SECOND FORM's CARD OF 'concordatlaw10.ValidNumbers'. -/
def validNumbersUptoCard : Claim7 := { stood := { row := validNumbersUptoRow, standIns := [], harness := (true, "5eb173e35e31c30967d033812fabe1f6091d26f97ff098876e72b324d0ff8bb7"), looks := true }, kinds := [], alts := [], laidByText := true, laidKinds := [.data, .pinned], laidTests := true, laidLooks := .later }
def ValidNumbersUptoCardSaid : Prop := Claim7.holds Tryd.pinned (.plain (OpenSpec.upto validNumbersSpec)) validNumbersUptoCard

/-- THE SECOND FORM's CARD OF 'concordatlaw10.ValidGets'. -/
def validGetsUptoCard : Claim7 := { stood := { row := validGetsUptoRow, standIns := [], harness := (true, "5eb173e35e31c30967d033812fabe1f6091d26f97ff098876e72b324d0ff8bb7"), looks := true }, kinds := [], alts := [], laidByText := true, laidKinds := [.data, .pinned], laidTests := true, laidLooks := .later }
def ValidGetsUptoCardSaid : Prop := Claim7.holds Tryd.pinned (.plain (OpenSpec.upto validGetsSpec)) validGetsUptoCard

/-- THE SECOND FORM's CARD OF 'concordatlaw10.ValidOther'. -/
def validOtherUptoCard : Claim7 := { stood := { row := validOtherUptoRow, standIns := [], harness := (true, "5eb173e35e31c30967d033812fabe1f6091d26f97ff098876e72b324d0ff8bb7"), looks := true }, kinds := [], alts := [], laidByText := true, laidKinds := [.data, .pinned], laidTests := true, laidLooks := .later }
def ValidOtherUptoCardSaid : Prop := Claim7.holds Tryd.pinned (.plain (OpenSpec.upto validOtherSpec)) validOtherUptoCard

/-- THE SECOND FORM's CARD OF 'concordatlaw10.ValidAll'. -/
def validAllUptoCard : Claim7 := { stood := { row := validAllUptoRow, standIns := [], harness := (true, "5eb173e35e31c30967d033812fabe1f6091d26f97ff098876e72b324d0ff8bb7"), looks := true }, kinds := [], alts := [], laidByText := true, laidKinds := [.data, .pinned], laidTests := true, laidLooks := .later }
def ValidAllUptoCardSaid : Prop := Claim7.holds Tryd.pinned (.plain (OpenSpec.upto validAllSpec)) validAllUptoCard

/-- THE SECOND FORM's CARD OF 'concordatlaw10.ValidBare'. -/
def validBareUptoCard : Claim7 := { stood := { row := validBareUptoRow, standIns := [], harness := (true, "5eb173e35e31c30967d033812fabe1f6091d26f97ff098876e72b324d0ff8bb7"), looks := true }, kinds := [], alts := [], laidByText := true, laidKinds := [.data, .pinned], laidTests := true, laidLooks := .later }
def ValidBareUptoCardSaid : Prop := Claim7.holds Tryd.pinned (.plain (OpenSpec.upto validBareSpec)) validBareUptoCard

/-- THE SECOND FORM's CARD OF 'concordatlaw13.ProjectAll'. -/
def projectAllUptoCard : Claim7 := { stood := { row := projectAllUptoRow, standIns := [], harness := (true, "5eb173e35e31c30967d033812fabe1f6091d26f97ff098876e72b324d0ff8bb7"), looks := true }, kinds := [], alts := [], laidByText := true, laidKinds := [.data, .pinned], laidTests := true, laidLooks := .later }
def ProjectAllUptoCardSaid : Prop := Claim7.holds Tryd.pinned (.plain (OpenSpec.upto projectAllSpec)) projectAllUptoCard

/-- THE SECOND FORM's CARD OF 'concordatlaw13.ProjectKeeps'. -/
def projectKeepsUptoCard : Claim7 := { stood := { row := projectKeepsUptoRow, standIns := [], harness := (true, "5eb173e35e31c30967d033812fabe1f6091d26f97ff098876e72b324d0ff8bb7"), looks := true }, kinds := [], alts := [], laidByText := true, laidKinds := [.data, .pinned], laidTests := true, laidLooks := .later }
def ProjectKeepsUptoCardSaid : Prop := Claim7.holds Tryd.pinned (.plain (OpenSpec.upto projectKeepsSpec)) projectKeepsUptoCard

/-- THE SECOND FORM's CARD OF 'concordatlaw13.ProjectDrops'. -/
def projectDropsUptoCard : Claim7 := { stood := { row := projectDropsUptoRow, standIns := [], harness := (true, "5eb173e35e31c30967d033812fabe1f6091d26f97ff098876e72b324d0ff8bb7"), looks := true }, kinds := [], alts := [], laidByText := true, laidKinds := [.data, .pinned], laidTests := true, laidLooks := .later }
def ProjectDropsUptoCardSaid : Prop := Claim7.holds Tryd.pinned (.plain (OpenSpec.upto projectDropsSpec)) projectDropsUptoCard

/-- THE SECOND FORM's CARD OF 'concordatlaw13.ProjectWire'. -/
def projectWireUptoCard : Claim7 := { stood := { row := projectWireUptoRow, standIns := [], harness := (true, "5eb173e35e31c30967d033812fabe1f6091d26f97ff098876e72b324d0ff8bb7"), looks := true }, kinds := [], alts := [], laidByText := true, laidKinds := [.data, .pinned], laidTests := true, laidLooks := .later }
def ProjectWireUptoCardSaid : Prop := Claim7.holds Tryd.pinned (.plain (OpenSpec.upto projectWireSpec)) projectWireUptoCard

/-- THE SECOND FORM's CARD OF 'concordatlaw13.ProjectLast'. -/
def projectLastUptoCard : Claim7 := { stood := { row := projectLastUptoRow, standIns := [], harness := (true, "5eb173e35e31c30967d033812fabe1f6091d26f97ff098876e72b324d0ff8bb7"), looks := true }, kinds := [], alts := [], laidByText := true, laidKinds := [.data, .pinned], laidTests := true, laidLooks := .later }
def ProjectLastUptoCardSaid : Prop := Claim7.holds Tryd.pinned (.plain (OpenSpec.upto projectLastSpec)) projectLastUptoCard

/-- THE SECOND FORM's CARD OF 'concordatlaw13.ProjectFits'. -/
def projectFitsUptoCard : Claim7 := { stood := { row := projectFitsUptoRow, standIns := [], harness := (true, "5eb173e35e31c30967d033812fabe1f6091d26f97ff098876e72b324d0ff8bb7"), looks := true }, kinds := [], alts := [], laidByText := true, laidKinds := [.data, .pinned], laidTests := true, laidLooks := .later }
def ProjectFitsUptoCardSaid : Prop := Claim7.holds Tryd.pinned (.plain (OpenSpec.upto projectFitsSpec)) projectFitsUptoCard

/-- THE SECOND FORM's CARD OF 'concordatlaw16.InterpSelf'. -/
def interpSelfUptoCard : Claim7 := { stood := { row := interpSelfUptoRow, standIns := [], harness := (true, "5eb173e35e31c30967d033812fabe1f6091d26f97ff098876e72b324d0ff8bb7"), looks := true }, kinds := [], alts := [], laidByText := true, laidKinds := [.data, .pinned], laidTests := true, laidLooks := .later }
def InterpSelfUptoCardSaid : Prop := Claim7.holds Tryd.pinned (.plain (OpenSpec.upto interpSelfSpec)) interpSelfUptoCard

/-- THE SECOND FORM's CARD OF 'concordatlaw16.InterpThere'. -/
def interpThereUptoCard : Claim7 := { stood := { row := interpThereUptoRow, standIns := [], harness := (true, "5eb173e35e31c30967d033812fabe1f6091d26f97ff098876e72b324d0ff8bb7"), looks := true }, kinds := [], alts := [], laidByText := true, laidKinds := [.data, .pinned], laidTests := true, laidLooks := .later }
def InterpThereUptoCardSaid : Prop := Claim7.holds Tryd.pinned (.plain (OpenSpec.upto interpThereSpec)) interpThereUptoCard

/-- THE SECOND FORM's CARD OF 'concordatlaw16.InterpChains'. -/
def interpChainsUptoCard : Claim7 := { stood := { row := interpChainsUptoRow, standIns := [], harness := (true, "5eb173e35e31c30967d033812fabe1f6091d26f97ff098876e72b324d0ff8bb7"), looks := true }, kinds := [], alts := [], laidByText := true, laidKinds := [.data, .pinned], laidTests := true, laidLooks := .later }
def InterpChainsUptoCardSaid : Prop := Claim7.holds Tryd.pinned (.plain (OpenSpec.upto interpChainsSpec)) interpChainsUptoCard

/-- THE SECOND FORM's CARD OF 'concordatlaw16.InterpProjects'. -/
def interpProjectsUptoCard : Claim7 := { stood := { row := interpProjectsUptoRow, standIns := [], harness := (true, "5eb173e35e31c30967d033812fabe1f6091d26f97ff098876e72b324d0ff8bb7"), looks := true }, kinds := [], alts := [], laidByText := true, laidKinds := [.data, .pinned], laidTests := true, laidLooks := .later }
def InterpProjectsUptoCardSaid : Prop := Claim7.holds Tryd.pinned (.plain (OpenSpec.upto interpProjectsSpec)) interpProjectsUptoCard
end Rows
end Go.Proofs.YtpbangopjdlfcaaDoor
