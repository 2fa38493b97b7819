/-
  DERIVED. GIVEN WITH THE SEED: THE CARDS: each row of YtmeplhcfjihafaaDoorRows.lean that lists a variable, with what it lists TIED to the program's text (the seventh form; the later family's looks); each row that meets fmt, with fmt's text TOLD by the authors' own Lean function (tested against real Go, not proved from fmt's source: count such statements apart). THE CARD IS WHAT COUNTS. Prove the row's statement (the work); the ties are given (YtmeplhcfjihafaaDoorTie.lean); close each card by the builder's one call (the guide's Derived/Test/ToyasCard.lean, 'card_holds'). Laid BY PROGRAM, IN A SANDBOX (cutbox-door.mjs). By AI agents, Wed Nov 11 2026. No macro, syntax, notation, axiom, sorry.
-/
import Derived.Test.YtmeplhcfjihafaaDoorRows
import GoSem.ClaimSeven
namespace Go.Proofs.YtmeplhcfjihafaaDoor
namespace Rows

/-- THE TIED CARD OF 'concordatlaw07.CheckOrder'. -/
def checkOrderCard : Claim7 := { stood := { row := checkOrderRow, standIns := [], harness := (true, "1d73239fb53afe4eaa9ee63e6f3acfbc26c7621079c5c09ba904e14af8bcbaf9"), looks := false }, kinds := [], alts := [], laidByText := true, laidKinds := [.data, .pinned], laidTests := true, laidLooks := .later }
def CheckOrderCardSaid : Prop := Claim7.holds Tryd.pinned (.plain (OpenSpec.ofChange checkOrderSpec)) checkOrderCard

/-- THE TIED CARD OF 'concordatlaw07.CheckSpoilt'. -/
def checkSpoiltCard : Claim7 := { stood := { row := checkSpoiltRow, standIns := [], harness := (true, "1d73239fb53afe4eaa9ee63e6f3acfbc26c7621079c5c09ba904e14af8bcbaf9"), looks := false }, kinds := [], alts := [], laidByText := true, laidKinds := [.data, .pinned], laidTests := true, laidLooks := .later }
def CheckSpoiltCardSaid : Prop := Claim7.holds Tryd.pinned (.plain (OpenSpec.ofChange checkSpoiltSpec)) checkSpoiltCard

/-- THE TIED CARD OF 'concordatlaw07.CheckLimits'. -/
def checkLimitsCard : Claim7 := { stood := { row := checkLimitsRow, standIns := [], harness := (true, "1d73239fb53afe4eaa9ee63e6f3acfbc26c7621079c5c09ba904e14af8bcbaf9"), looks := false }, kinds := [], alts := [], laidByText := true, laidKinds := [.data, .pinned], laidTests := true, laidLooks := .later }
def CheckLimitsCardSaid : Prop := Claim7.holds Tryd.pinned (.plain (OpenSpec.ofChange checkLimitsSpec)) checkLimitsCard

/-- THE TIED CARD OF 'concordatlaw07.CheckAll'. -/
def checkAllCard : Claim7 := { stood := { row := checkAllRow, standIns := [], harness := (true, "1d73239fb53afe4eaa9ee63e6f3acfbc26c7621079c5c09ba904e14af8bcbaf9"), looks := false }, kinds := [], alts := [], laidByText := true, laidKinds := [.data, .pinned], laidTests := true, laidLooks := .later }
def CheckAllCardSaid : Prop := Claim7.holds Tryd.pinned (.plain (OpenSpec.ofChange checkAllSpec)) checkAllCard

/-- THE TIED CARD OF 'concordatlaw07.CheckFinds'. -/
def checkFindsCard : Claim7 := { stood := { row := checkFindsRow, standIns := [], harness := (true, "1d73239fb53afe4eaa9ee63e6f3acfbc26c7621079c5c09ba904e14af8bcbaf9"), looks := false }, kinds := [], alts := [], laidByText := true, laidKinds := [.data, .pinned], laidTests := true, laidLooks := .later }
def CheckFindsCardSaid : Prop := Claim7.holds Tryd.pinned (.plain (OpenSpec.ofChange checkFindsSpec)) checkFindsCard

/-- THE TIED CARD OF 'concordatlaw14.CompatAll'. -/
def compatAllCard : Claim7 := { stood := { row := compatAllRow, standIns := [], harness := (true, "1d73239fb53afe4eaa9ee63e6f3acfbc26c7621079c5c09ba904e14af8bcbaf9"), looks := false }, kinds := [], alts := [], laidByText := true, laidKinds := [.data, .pinned], laidTests := true, laidLooks := .later }
def CompatAllCardSaid : Prop := Claim7.holds Tryd.pinned (.plain (OpenSpec.ofChange compatAllSpec)) compatAllCard

/-- THE TIED CARD OF 'concordatlaw14.CompatSelf'. -/
def compatSelfCard : Claim7 := { stood := { row := compatSelfRow, standIns := [], harness := (true, "1d73239fb53afe4eaa9ee63e6f3acfbc26c7621079c5c09ba904e14af8bcbaf9"), looks := false }, kinds := [], alts := [], laidByText := true, laidKinds := [.data, .pinned], laidTests := true, laidLooks := .later }
def CompatSelfCardSaid : Prop := Claim7.holds Tryd.pinned (.plain (OpenSpec.ofChange compatSelfSpec)) compatSelfCard

/-- THE TIED CARD OF 'concordatlaw14.CompatChains'. -/
def compatChainsCard : Claim7 := { stood := { row := compatChainsRow, standIns := [], harness := (true, "1d73239fb53afe4eaa9ee63e6f3acfbc26c7621079c5c09ba904e14af8bcbaf9"), looks := false }, kinds := [], alts := [], laidByText := true, laidKinds := [.data, .pinned], laidTests := true, laidLooks := .later }
def CompatChainsCardSaid : Prop := Claim7.holds Tryd.pinned (.plain (OpenSpec.ofChange compatChainsSpec)) compatChainsCard

/-- THE TIED CARD OF 'concordatlaw14.CompatGrows'. -/
def compatGrowsCard : Claim7 := { stood := { row := compatGrowsRow, standIns := [], harness := (true, "1d73239fb53afe4eaa9ee63e6f3acfbc26c7621079c5c09ba904e14af8bcbaf9"), looks := false }, kinds := [], alts := [], laidByText := true, laidKinds := [.data, .pinned], laidTests := true, laidLooks := .later }
def CompatGrowsCardSaid : Prop := Claim7.holds Tryd.pinned (.plain (OpenSpec.ofChange compatGrowsSpec)) compatGrowsCard

/-- THE TIED CARD OF 'concordatlaw14.CompatBreaks'. -/
def compatBreaksCard : Claim7 := { stood := { row := compatBreaksRow, standIns := [], harness := (true, "1d73239fb53afe4eaa9ee63e6f3acfbc26c7621079c5c09ba904e14af8bcbaf9"), looks := false }, kinds := [], alts := [], laidByText := true, laidKinds := [.data, .pinned], laidTests := true, laidLooks := .later }
def CompatBreaksCardSaid : Prop := Claim7.holds Tryd.pinned (.plain (OpenSpec.ofChange compatBreaksSpec)) compatBreaksCard

/-- THE TIED CARD OF 'concordatlaw14.CompatTypes'. -/
def compatTypesCard : Claim7 := { stood := { row := compatTypesRow, standIns := [], harness := (true, "1d73239fb53afe4eaa9ee63e6f3acfbc26c7621079c5c09ba904e14af8bcbaf9"), looks := false }, kinds := [], alts := [], laidByText := true, laidKinds := [.data, .pinned], laidTests := true, laidLooks := .later }
def CompatTypesCardSaid : Prop := Claim7.holds Tryd.pinned (.plain (OpenSpec.ofChange compatTypesSpec)) compatTypesCard

/-- THE TIED CARD OF 'concordatlaw14.CompatEnums'. -/
def compatEnumsCard : Claim7 := { stood := { row := compatEnumsRow, standIns := [], harness := (true, "1d73239fb53afe4eaa9ee63e6f3acfbc26c7621079c5c09ba904e14af8bcbaf9"), looks := false }, kinds := [], alts := [], laidByText := true, laidKinds := [.data, .pinned], laidTests := true, laidLooks := .later }
def CompatEnumsCardSaid : Prop := Claim7.holds Tryd.pinned (.plain (OpenSpec.ofChange compatEnumsSpec)) compatEnumsCard

/-- THE TIED CARD OF 'concordatlaw14.CompatCalls'. -/
def compatCallsCard : Claim7 := { stood := { row := compatCallsRow, standIns := [], harness := (true, "1d73239fb53afe4eaa9ee63e6f3acfbc26c7621079c5c09ba904e14af8bcbaf9"), looks := false }, kinds := [], alts := [], laidByText := true, laidKinds := [.data, .pinned], laidTests := true, laidLooks := .later }
def CompatCallsCardSaid : Prop := Claim7.holds Tryd.pinned (.plain (OpenSpec.ofChange compatCallsSpec)) compatCallsCard

/-- THE TIED CARD OF 'concordatlaw15.AdaptRight'. -/
def adaptRightCard : Claim7 := { stood := { row := adaptRightRow, standIns := [], harness := (true, "1d73239fb53afe4eaa9ee63e6f3acfbc26c7621079c5c09ba904e14af8bcbaf9"), looks := false }, kinds := [], alts := [], laidByText := true, laidKinds := [.data, .pinned], laidTests := true, laidLooks := .later }
def AdaptRightCardSaid : Prop := Claim7.holds Tryd.pinned (.plain (OpenSpec.ofChange adaptRightSpec)) adaptRightCard

/-- THE TIED CARD OF 'concordatlaw15.AdaptSelf'. -/
def adaptSelfCard : Claim7 := { stood := { row := adaptSelfRow, standIns := [], harness := (true, "1d73239fb53afe4eaa9ee63e6f3acfbc26c7621079c5c09ba904e14af8bcbaf9"), looks := false }, kinds := [], alts := [], laidByText := true, laidKinds := [.data, .pinned], laidTests := true, laidLooks := .later }
def AdaptSelfCardSaid : Prop := Claim7.holds Tryd.pinned (.plain (OpenSpec.ofChange adaptSelfSpec)) adaptSelfCard

/-- THE TIED CARD OF 'concordatlaw15.AdaptLimits'. -/
def adaptLimitsCard : Claim7 := { stood := { row := adaptLimitsRow, standIns := [], harness := (true, "1d73239fb53afe4eaa9ee63e6f3acfbc26c7621079c5c09ba904e14af8bcbaf9"), looks := false }, kinds := [], alts := [], laidByText := true, laidKinds := [.data, .pinned], laidTests := true, laidLooks := .later }
def AdaptLimitsCardSaid : Prop := Claim7.holds Tryd.pinned (.plain (OpenSpec.ofChange adaptLimitsSpec)) adaptLimitsCard

/-- THE TIED CARD OF 'concordatlaw15.AdaptAll'. -/
def adaptAllCard : Claim7 := { stood := { row := adaptAllRow, standIns := [], harness := (true, "1d73239fb53afe4eaa9ee63e6f3acfbc26c7621079c5c09ba904e14af8bcbaf9"), looks := false }, kinds := [], alts := [], laidByText := true, laidKinds := [.data, .pinned], laidTests := true, laidLooks := .later }
def AdaptAllCardSaid : Prop := Claim7.holds Tryd.pinned (.plain (OpenSpec.ofChange adaptAllSpec)) adaptAllCard

/-- THE TIED CARD OF 'concordatlaw15.AdaptSame'. -/
def adaptSameCard : Claim7 := { stood := { row := adaptSameRow, standIns := [], harness := (true, "1d73239fb53afe4eaa9ee63e6f3acfbc26c7621079c5c09ba904e14af8bcbaf9"), looks := false }, kinds := [], alts := [], laidByText := true, laidKinds := [.data, .pinned], laidTests := true, laidLooks := .later }
def AdaptSameCardSaid : Prop := Claim7.holds Tryd.pinned (.plain (OpenSpec.ofChange adaptSameSpec)) adaptSameCard

/-- THE SECOND FORM's CARD OF 'concordatlaw07.CheckOrder'. -/
def checkOrderUptoCard : Claim7 := { stood := { row := checkOrderUptoRow, standIns := [], harness := (true, "1d73239fb53afe4eaa9ee63e6f3acfbc26c7621079c5c09ba904e14af8bcbaf9"), looks := false }, kinds := [], alts := [], laidByText := true, laidKinds := [.data, .pinned], laidTests := true, laidLooks := .later }
def CheckOrderUptoCardSaid : Prop := Claim7.holds Tryd.pinned (.plain (OpenSpec.upto checkOrderSpec)) checkOrderUptoCard

/-- THE SECOND FORM's CARD OF 'concordatlaw07.CheckSpoilt'. -/
def checkSpoiltUptoCard : Claim7 := { stood := { row := checkSpoiltUptoRow, standIns := [], harness := (true, "1d73239fb53afe4eaa9ee63e6f3acfbc26c7621079c5c09ba904e14af8bcbaf9"), looks := false }, kinds := [], alts := [], laidByText := true, laidKinds := [.data, .pinned], laidTests := true, laidLooks := .later }
def CheckSpoiltUptoCardSaid : Prop := Claim7.holds Tryd.pinned (.plain (OpenSpec.upto checkSpoiltSpec)) checkSpoiltUptoCard

/-- THE SECOND FORM's CARD OF 'concordatlaw07.CheckLimits'. -/
def checkLimitsUptoCard : Claim7 := { stood := { row := checkLimitsUptoRow, standIns := [], harness := (true, "1d73239fb53afe4eaa9ee63e6f3acfbc26c7621079c5c09ba904e14af8bcbaf9"), looks := false }, kinds := [], alts := [], laidByText := true, laidKinds := [.data, .pinned], laidTests := true, laidLooks := .later }
def CheckLimitsUptoCardSaid : Prop := Claim7.holds Tryd.pinned (.plain (OpenSpec.upto checkLimitsSpec)) checkLimitsUptoCard

/-- THE SECOND FORM's CARD OF 'concordatlaw07.CheckAll'. -/
def checkAllUptoCard : Claim7 := { stood := { row := checkAllUptoRow, standIns := [], harness := (true, "1d73239fb53afe4eaa9ee63e6f3acfbc26c7621079c5c09ba904e14af8bcbaf9"), looks := false }, kinds := [], alts := [], laidByText := true, laidKinds := [.data, .pinned], laidTests := true, laidLooks := .later }
def CheckAllUptoCardSaid : Prop := Claim7.holds Tryd.pinned (.plain (OpenSpec.upto checkAllSpec)) checkAllUptoCard

/-- THE SECOND FORM's CARD OF 'concordatlaw07.CheckFinds'. -/
def checkFindsUptoCard : Claim7 := { stood := { row := checkFindsUptoRow, standIns := [], harness := (true, "1d73239fb53afe4eaa9ee63e6f3acfbc26c7621079c5c09ba904e14af8bcbaf9"), looks := false }, kinds := [], alts := [], laidByText := true, laidKinds := [.data, .pinned], laidTests := true, laidLooks := .later }
def CheckFindsUptoCardSaid : Prop := Claim7.holds Tryd.pinned (.plain (OpenSpec.upto checkFindsSpec)) checkFindsUptoCard

/-- THE SECOND FORM's CARD OF 'concordatlaw14.CompatAll'. -/
def compatAllUptoCard : Claim7 := { stood := { row := compatAllUptoRow, standIns := [], harness := (true, "1d73239fb53afe4eaa9ee63e6f3acfbc26c7621079c5c09ba904e14af8bcbaf9"), looks := false }, kinds := [], alts := [], laidByText := true, laidKinds := [.data, .pinned], laidTests := true, laidLooks := .later }
def CompatAllUptoCardSaid : Prop := Claim7.holds Tryd.pinned (.plain (OpenSpec.upto compatAllSpec)) compatAllUptoCard

/-- THE SECOND FORM's CARD OF 'concordatlaw14.CompatSelf'. -/
def compatSelfUptoCard : Claim7 := { stood := { row := compatSelfUptoRow, standIns := [], harness := (true, "1d73239fb53afe4eaa9ee63e6f3acfbc26c7621079c5c09ba904e14af8bcbaf9"), looks := false }, kinds := [], alts := [], laidByText := true, laidKinds := [.data, .pinned], laidTests := true, laidLooks := .later }
def CompatSelfUptoCardSaid : Prop := Claim7.holds Tryd.pinned (.plain (OpenSpec.upto compatSelfSpec)) compatSelfUptoCard

/-- THE SECOND FORM's CARD OF 'concordatlaw14.CompatChains'. -/
def compatChainsUptoCard : Claim7 := { stood := { row := compatChainsUptoRow, standIns := [], harness := (true, "1d73239fb53afe4eaa9ee63e6f3acfbc26c7621079c5c09ba904e14af8bcbaf9"), looks := false }, kinds := [], alts := [], laidByText := true, laidKinds := [.data, .pinned], laidTests := true, laidLooks := .later }
def CompatChainsUptoCardSaid : Prop := Claim7.holds Tryd.pinned (.plain (OpenSpec.upto compatChainsSpec)) compatChainsUptoCard

/-- THE SECOND FORM's CARD OF 'concordatlaw14.CompatGrows'. -/
def compatGrowsUptoCard : Claim7 := { stood := { row := compatGrowsUptoRow, standIns := [], harness := (true, "1d73239fb53afe4eaa9ee63e6f3acfbc26c7621079c5c09ba904e14af8bcbaf9"), looks := false }, kinds := [], alts := [], laidByText := true, laidKinds := [.data, .pinned], laidTests := true, laidLooks := .later }
def CompatGrowsUptoCardSaid : Prop := Claim7.holds Tryd.pinned (.plain (OpenSpec.upto compatGrowsSpec)) compatGrowsUptoCard

/-- THE SECOND FORM's CARD OF 'concordatlaw14.CompatBreaks'. -/
def compatBreaksUptoCard : Claim7 := { stood := { row := compatBreaksUptoRow, standIns := [], harness := (true, "1d73239fb53afe4eaa9ee63e6f3acfbc26c7621079c5c09ba904e14af8bcbaf9"), looks := false }, kinds := [], alts := [], laidByText := true, laidKinds := [.data, .pinned], laidTests := true, laidLooks := .later }
def CompatBreaksUptoCardSaid : Prop := Claim7.holds Tryd.pinned (.plain (OpenSpec.upto compatBreaksSpec)) compatBreaksUptoCard

/-- THE SECOND FORM's CARD OF 'concordatlaw14.CompatTypes'. -/
def compatTypesUptoCard : Claim7 := { stood := { row := compatTypesUptoRow, standIns := [], harness := (true, "1d73239fb53afe4eaa9ee63e6f3acfbc26c7621079c5c09ba904e14af8bcbaf9"), looks := false }, kinds := [], alts := [], laidByText := true, laidKinds := [.data, .pinned], laidTests := true, laidLooks := .later }
def CompatTypesUptoCardSaid : Prop := Claim7.holds Tryd.pinned (.plain (OpenSpec.upto compatTypesSpec)) compatTypesUptoCard

/-- THE SECOND FORM's CARD OF 'concordatlaw14.CompatEnums'. -/
def compatEnumsUptoCard : Claim7 := { stood := { row := compatEnumsUptoRow, standIns := [], harness := (true, "1d73239fb53afe4eaa9ee63e6f3acfbc26c7621079c5c09ba904e14af8bcbaf9"), looks := false }, kinds := [], alts := [], laidByText := true, laidKinds := [.data, .pinned], laidTests := true, laidLooks := .later }
def CompatEnumsUptoCardSaid : Prop := Claim7.holds Tryd.pinned (.plain (OpenSpec.upto compatEnumsSpec)) compatEnumsUptoCard

/-- THE SECOND FORM's CARD OF 'concordatlaw14.CompatCalls'. -/
def compatCallsUptoCard : Claim7 := { stood := { row := compatCallsUptoRow, standIns := [], harness := (true, "1d73239fb53afe4eaa9ee63e6f3acfbc26c7621079c5c09ba904e14af8bcbaf9"), looks := false }, kinds := [], alts := [], laidByText := true, laidKinds := [.data, .pinned], laidTests := true, laidLooks := .later }
def CompatCallsUptoCardSaid : Prop := Claim7.holds Tryd.pinned (.plain (OpenSpec.upto compatCallsSpec)) compatCallsUptoCard

/-- THE SECOND FORM's CARD OF 'concordatlaw15.AdaptRight'. -/
def adaptRightUptoCard : Claim7 := { stood := { row := adaptRightUptoRow, standIns := [], harness := (true, "1d73239fb53afe4eaa9ee63e6f3acfbc26c7621079c5c09ba904e14af8bcbaf9"), looks := false }, kinds := [], alts := [], laidByText := true, laidKinds := [.data, .pinned], laidTests := true, laidLooks := .later }
def AdaptRightUptoCardSaid : Prop := Claim7.holds Tryd.pinned (.plain (OpenSpec.upto adaptRightSpec)) adaptRightUptoCard

/-- THE SECOND FORM's CARD OF 'concordatlaw15.AdaptSelf'. -/
def adaptSelfUptoCard : Claim7 := { stood := { row := adaptSelfUptoRow, standIns := [], harness := (true, "1d73239fb53afe4eaa9ee63e6f3acfbc26c7621079c5c09ba904e14af8bcbaf9"), looks := false }, kinds := [], alts := [], laidByText := true, laidKinds := [.data, .pinned], laidTests := true, laidLooks := .later }
def AdaptSelfUptoCardSaid : Prop := Claim7.holds Tryd.pinned (.plain (OpenSpec.upto adaptSelfSpec)) adaptSelfUptoCard

/-- THE SECOND FORM's CARD OF 'concordatlaw15.AdaptLimits'. -/
def adaptLimitsUptoCard : Claim7 := { stood := { row := adaptLimitsUptoRow, standIns := [], harness := (true, "1d73239fb53afe4eaa9ee63e6f3acfbc26c7621079c5c09ba904e14af8bcbaf9"), looks := false }, kinds := [], alts := [], laidByText := true, laidKinds := [.data, .pinned], laidTests := true, laidLooks := .later }
def AdaptLimitsUptoCardSaid : Prop := Claim7.holds Tryd.pinned (.plain (OpenSpec.upto adaptLimitsSpec)) adaptLimitsUptoCard

/-- THE SECOND FORM's CARD OF 'concordatlaw15.AdaptAll'. -/
def adaptAllUptoCard : Claim7 := { stood := { row := adaptAllUptoRow, standIns := [], harness := (true, "1d73239fb53afe4eaa9ee63e6f3acfbc26c7621079c5c09ba904e14af8bcbaf9"), looks := false }, kinds := [], alts := [], laidByText := true, laidKinds := [.data, .pinned], laidTests := true, laidLooks := .later }
def AdaptAllUptoCardSaid : Prop := Claim7.holds Tryd.pinned (.plain (OpenSpec.upto adaptAllSpec)) adaptAllUptoCard

/-- THE SECOND FORM's CARD OF 'concordatlaw15.AdaptSame'. -/
def adaptSameUptoCard : Claim7 := { stood := { row := adaptSameUptoRow, standIns := [], harness := (true, "1d73239fb53afe4eaa9ee63e6f3acfbc26c7621079c5c09ba904e14af8bcbaf9"), looks := false }, kinds := [], alts := [], laidByText := true, laidKinds := [.data, .pinned], laidTests := true, laidLooks := .later }
def AdaptSameUptoCardSaid : Prop := Claim7.holds Tryd.pinned (.plain (OpenSpec.upto adaptSameSpec)) adaptSameUptoCard
end Rows
end Go.Proofs.YtmeplhcfjihafaaDoor
