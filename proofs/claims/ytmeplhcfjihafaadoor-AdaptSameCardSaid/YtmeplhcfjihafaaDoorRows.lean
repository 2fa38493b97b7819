/-
  NARROWER THAN 'FOR EVERY INPUT', by the rows' own cells (each row's printed sentence says how): CheckOrder: laid · CheckSpoilt: laid · CheckLimits: laid · CheckAll: laid · CheckFinds: laid · CompatAll: laid · CompatSelf: laid · CompatChains: laid · CompatGrows: laid · CompatBreaks: laid · CompatTypes: laid · CompatEnums: laid · CompatCalls: laid · AdaptRight: laid · AdaptSelf: laid · AdaptLimits: laid · AdaptAll: laid · AdaptSame: laid.
  DERIVED. THE GIVEN ROWS OF THIS SEAT. 18 by the template 'for every input the law returns true; each argument reads behind the call as it read before'; 0 by the template 'total and deterministic' (their statements: YtmeplhcfjihafaaDoorTotals.lean).
  GIVEN WITH THE SEED: the statements are not yours to turn. If you find one false, say at which input.
  Laid BY PROGRAM, IN A SANDBOX (cutbox-rows.mjs): the forced cells as the released guide's own fill.sh prints them over the translation 88bbb0324842555b… (all of the seat's roots in one cut). By AI agents, Wed Nov 11 2026. No macro, syntax, notation, axiom, sorry.
-/
import Derived.Test.YtmeplhcfjihafaaDoorChecked
import GoSem.PinnedTables
import GoSem.Claim
import GoSem.ClaimJoined
import GoSem.ClaimMapViews
import Derived.JoinedTies
import Derived.KernelRfl
namespace Go.Proofs.YtmeplhcfjihafaaDoor
/- THE CELL 'sum', in the pinned program and in every row, IS THE sha256 OF THE DUMP (.gsa) THAT YtmeplhcfjihafaaDoorProg.lean LOADS. Nothing in Lean hashes anything: it is a label: what it is worth is what the hold of that sum in a sandbox is worth. -/
noncomputable def Tryd.pinned : Pinned := { name := "ytmeplhcfjihafaadoor", sum := "88bbb0324842555b75d9ae483d9642c4c99c7febbfe6f152d874d2dc01eef541", checked := Tryd.checked }
namespace Rows
def none {H : Type} : Left H := { results := [], args := [] }

/- WHAT THE LISTED PACKAGE-LEVEL VARIABLES READ AS WHEN THE CALL BEGINS. Each datum BY PROGRAM (the guide's laid-datum.mjs) off the statement by which the dump's own 'gosem.cut.vars' lays the variable. In a bare row this is a premise. The card (YtmeplhcfjihafaaDoorCards.lean) ties it to the program's text. -/
def laid_unicode_utf8_acceptRanges {H : Type} : DataW H := .agg [.agg [.lit (.int .u8 128), .lit (.int .u8 191)], .agg [.lit (.int .u8 160), .lit (.int .u8 191)], .agg [.lit (.int .u8 128), .lit (.int .u8 159)], .agg [.lit (.int .u8 144), .lit (.int .u8 191)], .agg [.lit (.int .u8 128), .lit (.int .u8 143)], .agg [.lit (.int .u8 0), .lit (.int .u8 0)], .agg [.lit (.int .u8 0), .lit (.int .u8 0)], .agg [.lit (.int .u8 0), .lit (.int .u8 0)], .agg [.lit (.int .u8 0), .lit (.int .u8 0)], .agg [.lit (.int .u8 0), .lit (.int .u8 0)], .agg [.lit (.int .u8 0), .lit (.int .u8 0)], .agg [.lit (.int .u8 0), .lit (.int .u8 0)], .agg [.lit (.int .u8 0), .lit (.int .u8 0)], .agg [.lit (.int .u8 0), .lit (.int .u8 0)], .agg [.lit (.int .u8 0), .lit (.int .u8 0)], .agg [.lit (.int .u8 0), .lit (.int .u8 0)]]
/-- One of Go's own tables, pinned by name: the form's constant. -/
def laid_unicode_utf8_first : DataW Unit := Go.Pinned.utf8First

/-- 'concordatlaw07.CheckOrder': WHATEVER THE INPUT: true; the input reads as it did. -/
def checkOrderSpec : ChangeSpec := { name := "checkOrder", fn := fun _ => fun
  | [d1, d2] => { results := [.lit (.bool true)], args := [d1, d2] }
  | _ => none }
def checkOrderRow : OpenClaim := { program := "ytmeplhcfjihafaadoor", sum := "88bbb0324842555b75d9ae483d9642c4c99c7febbfe6f152d874d2dc01eef541", func := "concordat/concordatlaw07.CheckOrder", spec := "checkOrder", named := ["unicode/utf8.first", "unicode/utf8.acceptRanges"], plainKeys := false, apart := false, laid := [("unicode/utf8.acceptRanges", laid_unicode_utf8_acceptRanges), ("unicode/utf8.first", laid_unicode_utf8_first)] }
def CheckOrderSaid : Prop := checkOrderRow.holds Tryd.pinned (OpenSpec.ofChange checkOrderSpec)

/-- ITS FALSE NEIGHBOUR: 'it returns false'. Refute it at one input. -/
def checkOrderWrong : ChangeSpec := { name := "checkOrder", fn := fun _ => fun
  | [d1, d2] => { results := [.lit (.bool false)], args := [d1, d2] }
  | _ => none }
def CheckOrderWrongFalsely : Prop := checkOrderRow.holds Tryd.pinned (OpenSpec.ofChange checkOrderWrong)

/-- 'concordatlaw07.CheckSpoilt': WHATEVER THE INPUT: true; the input reads as it did. -/
def checkSpoiltSpec : ChangeSpec := { name := "checkSpoilt", fn := fun _ => fun
  | [d1, d2, d3] => { results := [.lit (.bool true)], args := [d1, d2, d3] }
  | _ => none }
def checkSpoiltRow : OpenClaim := { program := "ytmeplhcfjihafaadoor", sum := "88bbb0324842555b75d9ae483d9642c4c99c7febbfe6f152d874d2dc01eef541", func := "concordat/concordatlaw07.CheckSpoilt", spec := "checkSpoilt", named := ["unicode/utf8.first", "unicode/utf8.acceptRanges"], plainKeys := false, apart := false, laid := [("unicode/utf8.acceptRanges", laid_unicode_utf8_acceptRanges), ("unicode/utf8.first", laid_unicode_utf8_first)] }
def CheckSpoiltSaid : Prop := checkSpoiltRow.holds Tryd.pinned (OpenSpec.ofChange checkSpoiltSpec)

/-- ITS FALSE NEIGHBOUR: 'it returns false'. Refute it at one input. -/
def checkSpoiltWrong : ChangeSpec := { name := "checkSpoilt", fn := fun _ => fun
  | [d1, d2, d3] => { results := [.lit (.bool false)], args := [d1, d2, d3] }
  | _ => none }
def CheckSpoiltWrongFalsely : Prop := checkSpoiltRow.holds Tryd.pinned (OpenSpec.ofChange checkSpoiltWrong)

/-- 'concordatlaw07.CheckLimits': WHATEVER THE INPUT: true; the input reads as it did. -/
def checkLimitsSpec : ChangeSpec := { name := "checkLimits", fn := fun _ => fun
  | [] => { results := [.lit (.bool true)], args := [] }
  | _ => none }
def checkLimitsRow : OpenClaim := { program := "ytmeplhcfjihafaadoor", sum := "88bbb0324842555b75d9ae483d9642c4c99c7febbfe6f152d874d2dc01eef541", func := "concordat/concordatlaw07.CheckLimits", spec := "checkLimits", unfollowed := true, recurses := true, named := ["unicode/utf8.first", "unicode/utf8.acceptRanges"], plainKeys := false, apart := false, laid := [("unicode/utf8.acceptRanges", laid_unicode_utf8_acceptRanges), ("unicode/utf8.first", laid_unicode_utf8_first)] }
def CheckLimitsSaid : Prop := checkLimitsRow.holds Tryd.pinned (OpenSpec.ofChange checkLimitsSpec)

/-- ITS FALSE NEIGHBOUR: 'it returns false'. Refute it at one input. -/
def checkLimitsWrong : ChangeSpec := { name := "checkLimits", fn := fun _ => fun
  | [] => { results := [.lit (.bool false)], args := [] }
  | _ => none }
def CheckLimitsWrongFalsely : Prop := checkLimitsRow.holds Tryd.pinned (OpenSpec.ofChange checkLimitsWrong)

/-- 'concordatlaw07.CheckAll': WHATEVER THE INPUT: true; the input reads as it did. -/
def checkAllSpec : ChangeSpec := { name := "checkAll", fn := fun _ => fun
  | [d1, d2, d3] => { results := [.lit (.bool true)], args := [d1, d2, d3] }
  | _ => none }
def checkAllRow : OpenClaim := { program := "ytmeplhcfjihafaadoor", sum := "88bbb0324842555b75d9ae483d9642c4c99c7febbfe6f152d874d2dc01eef541", func := "concordat/concordatlaw07.CheckAll", spec := "checkAll", named := ["unicode/utf8.first", "unicode/utf8.acceptRanges"], plainKeys := false, apart := false, laid := [("unicode/utf8.acceptRanges", laid_unicode_utf8_acceptRanges), ("unicode/utf8.first", laid_unicode_utf8_first)] }
def CheckAllSaid : Prop := checkAllRow.holds Tryd.pinned (OpenSpec.ofChange checkAllSpec)

/-- ITS FALSE NEIGHBOUR: 'it returns false'. Refute it at one input. -/
def checkAllWrong : ChangeSpec := { name := "checkAll", fn := fun _ => fun
  | [d1, d2, d3] => { results := [.lit (.bool false)], args := [d1, d2, d3] }
  | _ => none }
def CheckAllWrongFalsely : Prop := checkAllRow.holds Tryd.pinned (OpenSpec.ofChange checkAllWrong)

/-- 'concordatlaw07.CheckFinds': WHATEVER THE INPUT: true; the input reads as it did. -/
def checkFindsSpec : ChangeSpec := { name := "checkFinds", fn := fun _ => fun
  | [d] => { results := [.lit (.bool true)], args := [d] }
  | _ => none }
def checkFindsRow : OpenClaim := { program := "ytmeplhcfjihafaadoor", sum := "88bbb0324842555b75d9ae483d9642c4c99c7febbfe6f152d874d2dc01eef541", func := "concordat/concordatlaw07.CheckFinds", spec := "checkFinds", named := ["unicode/utf8.first", "unicode/utf8.acceptRanges"], plainKeys := false, apart := false, laid := [("unicode/utf8.acceptRanges", laid_unicode_utf8_acceptRanges), ("unicode/utf8.first", laid_unicode_utf8_first)] }
def CheckFindsSaid : Prop := checkFindsRow.holds Tryd.pinned (OpenSpec.ofChange checkFindsSpec)

/-- ITS FALSE NEIGHBOUR: 'it returns false'. Refute it at one input. -/
def checkFindsWrong : ChangeSpec := { name := "checkFinds", fn := fun _ => fun
  | [d] => { results := [.lit (.bool false)], args := [d] }
  | _ => none }
def CheckFindsWrongFalsely : Prop := checkFindsRow.holds Tryd.pinned (OpenSpec.ofChange checkFindsWrong)

/-- 'concordatlaw14.CompatAll': WHATEVER THE INPUT: true; the input reads as it did. -/
def compatAllSpec : ChangeSpec := { name := "compatAll", fn := fun _ => fun
  | [d1, d2, d3, d4] => { results := [.lit (.bool true)], args := [d1, d2, d3, d4] }
  | _ => none }
def compatAllRow : OpenClaim := { program := "ytmeplhcfjihafaadoor", sum := "88bbb0324842555b75d9ae483d9642c4c99c7febbfe6f152d874d2dc01eef541", func := "concordat/concordatlaw14.CompatAll", spec := "compatAll", named := ["unicode/utf8.first", "unicode/utf8.acceptRanges"], plainKeys := false, apart := false, laid := [("unicode/utf8.acceptRanges", laid_unicode_utf8_acceptRanges), ("unicode/utf8.first", laid_unicode_utf8_first)] }
def CompatAllSaid : Prop := compatAllRow.holds Tryd.pinned (OpenSpec.ofChange compatAllSpec)

/-- ITS FALSE NEIGHBOUR: 'it returns false'. Refute it at one input. -/
def compatAllWrong : ChangeSpec := { name := "compatAll", fn := fun _ => fun
  | [d1, d2, d3, d4] => { results := [.lit (.bool false)], args := [d1, d2, d3, d4] }
  | _ => none }
def CompatAllWrongFalsely : Prop := compatAllRow.holds Tryd.pinned (OpenSpec.ofChange compatAllWrong)

/-- 'concordatlaw14.CompatSelf': WHATEVER THE INPUT: true; the input reads as it did. -/
def compatSelfSpec : ChangeSpec := { name := "compatSelf", fn := fun _ => fun
  | [d] => { results := [.lit (.bool true)], args := [d] }
  | _ => none }
def compatSelfRow : OpenClaim := { program := "ytmeplhcfjihafaadoor", sum := "88bbb0324842555b75d9ae483d9642c4c99c7febbfe6f152d874d2dc01eef541", func := "concordat/concordatlaw14.CompatSelf", spec := "compatSelf", named := ["unicode/utf8.first", "unicode/utf8.acceptRanges"], plainKeys := false, apart := false, laid := [("unicode/utf8.acceptRanges", laid_unicode_utf8_acceptRanges), ("unicode/utf8.first", laid_unicode_utf8_first)] }
def CompatSelfSaid : Prop := compatSelfRow.holds Tryd.pinned (OpenSpec.ofChange compatSelfSpec)

/-- ITS FALSE NEIGHBOUR: 'it returns false'. Refute it at one input. -/
def compatSelfWrong : ChangeSpec := { name := "compatSelf", fn := fun _ => fun
  | [d] => { results := [.lit (.bool false)], args := [d] }
  | _ => none }
def CompatSelfWrongFalsely : Prop := compatSelfRow.holds Tryd.pinned (OpenSpec.ofChange compatSelfWrong)

/-- 'concordatlaw14.CompatChains': WHATEVER THE INPUT: true; the input reads as it did. -/
def compatChainsSpec : ChangeSpec := { name := "compatChains", fn := fun _ => fun
  | [d1, d2, d3] => { results := [.lit (.bool true)], args := [d1, d2, d3] }
  | _ => none }
def compatChainsRow : OpenClaim := { program := "ytmeplhcfjihafaadoor", sum := "88bbb0324842555b75d9ae483d9642c4c99c7febbfe6f152d874d2dc01eef541", func := "concordat/concordatlaw14.CompatChains", spec := "compatChains", named := ["unicode/utf8.first", "unicode/utf8.acceptRanges"], plainKeys := false, apart := false, laid := [("unicode/utf8.acceptRanges", laid_unicode_utf8_acceptRanges), ("unicode/utf8.first", laid_unicode_utf8_first)] }
def CompatChainsSaid : Prop := compatChainsRow.holds Tryd.pinned (OpenSpec.ofChange compatChainsSpec)

/-- ITS FALSE NEIGHBOUR: 'it returns false'. Refute it at one input. -/
def compatChainsWrong : ChangeSpec := { name := "compatChains", fn := fun _ => fun
  | [d1, d2, d3] => { results := [.lit (.bool false)], args := [d1, d2, d3] }
  | _ => none }
def CompatChainsWrongFalsely : Prop := compatChainsRow.holds Tryd.pinned (OpenSpec.ofChange compatChainsWrong)

/-- 'concordatlaw14.CompatGrows': WHATEVER THE INPUT: true; the input reads as it did. -/
def compatGrowsSpec : ChangeSpec := { name := "compatGrows", fn := fun _ => fun
  | [d1, d2, d3, d4] => { results := [.lit (.bool true)], args := [d1, d2, d3, d4] }
  | _ => none }
def compatGrowsRow : OpenClaim := { program := "ytmeplhcfjihafaadoor", sum := "88bbb0324842555b75d9ae483d9642c4c99c7febbfe6f152d874d2dc01eef541", func := "concordat/concordatlaw14.CompatGrows", spec := "compatGrows", named := ["unicode/utf8.first", "unicode/utf8.acceptRanges"], plainKeys := false, apart := false, laid := [("unicode/utf8.acceptRanges", laid_unicode_utf8_acceptRanges), ("unicode/utf8.first", laid_unicode_utf8_first)] }
def CompatGrowsSaid : Prop := compatGrowsRow.holds Tryd.pinned (OpenSpec.ofChange compatGrowsSpec)

/-- ITS FALSE NEIGHBOUR: 'it returns false'. Refute it at one input. -/
def compatGrowsWrong : ChangeSpec := { name := "compatGrows", fn := fun _ => fun
  | [d1, d2, d3, d4] => { results := [.lit (.bool false)], args := [d1, d2, d3, d4] }
  | _ => none }
def CompatGrowsWrongFalsely : Prop := compatGrowsRow.holds Tryd.pinned (OpenSpec.ofChange compatGrowsWrong)

/-- 'concordatlaw14.CompatBreaks': WHATEVER THE INPUT: true; the input reads as it did. -/
def compatBreaksSpec : ChangeSpec := { name := "compatBreaks", fn := fun _ => fun
  | [d1, d2, d3, d4] => { results := [.lit (.bool true)], args := [d1, d2, d3, d4] }
  | _ => none }
def compatBreaksRow : OpenClaim := { program := "ytmeplhcfjihafaadoor", sum := "88bbb0324842555b75d9ae483d9642c4c99c7febbfe6f152d874d2dc01eef541", func := "concordat/concordatlaw14.CompatBreaks", spec := "compatBreaks", named := ["unicode/utf8.first", "unicode/utf8.acceptRanges"], plainKeys := false, apart := false, laid := [("unicode/utf8.acceptRanges", laid_unicode_utf8_acceptRanges), ("unicode/utf8.first", laid_unicode_utf8_first)] }
def CompatBreaksSaid : Prop := compatBreaksRow.holds Tryd.pinned (OpenSpec.ofChange compatBreaksSpec)

/-- ITS FALSE NEIGHBOUR: 'it returns false'. Refute it at one input. -/
def compatBreaksWrong : ChangeSpec := { name := "compatBreaks", fn := fun _ => fun
  | [d1, d2, d3, d4] => { results := [.lit (.bool false)], args := [d1, d2, d3, d4] }
  | _ => none }
def CompatBreaksWrongFalsely : Prop := compatBreaksRow.holds Tryd.pinned (OpenSpec.ofChange compatBreaksWrong)

/-- 'concordatlaw14.CompatTypes': WHATEVER THE INPUT: true; the input reads as it did. -/
def compatTypesSpec : ChangeSpec := { name := "compatTypes", fn := fun _ => fun
  | [] => { results := [.lit (.bool true)], args := [] }
  | _ => none }
def compatTypesRow : OpenClaim := { program := "ytmeplhcfjihafaadoor", sum := "88bbb0324842555b75d9ae483d9642c4c99c7febbfe6f152d874d2dc01eef541", func := "concordat/concordatlaw14.CompatTypes", spec := "compatTypes", named := ["unicode/utf8.first", "unicode/utf8.acceptRanges"], plainKeys := false, apart := false, laid := [("unicode/utf8.acceptRanges", laid_unicode_utf8_acceptRanges), ("unicode/utf8.first", laid_unicode_utf8_first)] }
def CompatTypesSaid : Prop := compatTypesRow.holds Tryd.pinned (OpenSpec.ofChange compatTypesSpec)

/-- ITS FALSE NEIGHBOUR: 'it returns false'. Refute it at one input. -/
def compatTypesWrong : ChangeSpec := { name := "compatTypes", fn := fun _ => fun
  | [] => { results := [.lit (.bool false)], args := [] }
  | _ => none }
def CompatTypesWrongFalsely : Prop := compatTypesRow.holds Tryd.pinned (OpenSpec.ofChange compatTypesWrong)

/-- 'concordatlaw14.CompatEnums': WHATEVER THE INPUT: true; the input reads as it did. -/
def compatEnumsSpec : ChangeSpec := { name := "compatEnums", fn := fun _ => fun
  | [d1, d2, d3] => { results := [.lit (.bool true)], args := [d1, d2, d3] }
  | _ => none }
def compatEnumsRow : OpenClaim := { program := "ytmeplhcfjihafaadoor", sum := "88bbb0324842555b75d9ae483d9642c4c99c7febbfe6f152d874d2dc01eef541", func := "concordat/concordatlaw14.CompatEnums", spec := "compatEnums", unfollowed := true, recurses := true, named := ["unicode/utf8.first", "unicode/utf8.acceptRanges"], plainKeys := false, apart := false, laid := [("unicode/utf8.acceptRanges", laid_unicode_utf8_acceptRanges), ("unicode/utf8.first", laid_unicode_utf8_first)] }
def CompatEnumsSaid : Prop := compatEnumsRow.holds Tryd.pinned (OpenSpec.ofChange compatEnumsSpec)

/-- ITS FALSE NEIGHBOUR: 'it returns false'. Refute it at one input. -/
def compatEnumsWrong : ChangeSpec := { name := "compatEnums", fn := fun _ => fun
  | [d1, d2, d3] => { results := [.lit (.bool false)], args := [d1, d2, d3] }
  | _ => none }
def CompatEnumsWrongFalsely : Prop := compatEnumsRow.holds Tryd.pinned (OpenSpec.ofChange compatEnumsWrong)

/-- 'concordatlaw14.CompatCalls': WHATEVER THE INPUT: true; the input reads as it did. -/
def compatCallsSpec : ChangeSpec := { name := "compatCalls", fn := fun _ => fun
  | [d1, d2] => { results := [.lit (.bool true)], args := [d1, d2] }
  | _ => none }
def compatCallsRow : OpenClaim := { program := "ytmeplhcfjihafaadoor", sum := "88bbb0324842555b75d9ae483d9642c4c99c7febbfe6f152d874d2dc01eef541", func := "concordat/concordatlaw14.CompatCalls", spec := "compatCalls", named := ["unicode/utf8.first", "unicode/utf8.acceptRanges"], plainKeys := false, apart := false, laid := [("unicode/utf8.acceptRanges", laid_unicode_utf8_acceptRanges), ("unicode/utf8.first", laid_unicode_utf8_first)] }
def CompatCallsSaid : Prop := compatCallsRow.holds Tryd.pinned (OpenSpec.ofChange compatCallsSpec)

/-- ITS FALSE NEIGHBOUR: 'it returns false'. Refute it at one input. -/
def compatCallsWrong : ChangeSpec := { name := "compatCalls", fn := fun _ => fun
  | [d1, d2] => { results := [.lit (.bool false)], args := [d1, d2] }
  | _ => none }
def CompatCallsWrongFalsely : Prop := compatCallsRow.holds Tryd.pinned (OpenSpec.ofChange compatCallsWrong)

/-- 'concordatlaw15.AdaptRight': WHATEVER THE INPUT: true; the input reads as it did. -/
def adaptRightSpec : ChangeSpec := { name := "adaptRight", fn := fun _ => fun
  | [d1, d2, d3, d4] => { results := [.lit (.bool true)], args := [d1, d2, d3, d4] }
  | _ => none }
def adaptRightRow : OpenClaim := { program := "ytmeplhcfjihafaadoor", sum := "88bbb0324842555b75d9ae483d9642c4c99c7febbfe6f152d874d2dc01eef541", func := "concordat/concordatlaw15.AdaptRight", spec := "adaptRight", named := ["unicode/utf8.first", "unicode/utf8.acceptRanges"], plainKeys := false, apart := false, laid := [("unicode/utf8.acceptRanges", laid_unicode_utf8_acceptRanges), ("unicode/utf8.first", laid_unicode_utf8_first)] }
def AdaptRightSaid : Prop := adaptRightRow.holds Tryd.pinned (OpenSpec.ofChange adaptRightSpec)

/-- ITS FALSE NEIGHBOUR: 'it returns false'. Refute it at one input. -/
def adaptRightWrong : ChangeSpec := { name := "adaptRight", fn := fun _ => fun
  | [d1, d2, d3, d4] => { results := [.lit (.bool false)], args := [d1, d2, d3, d4] }
  | _ => none }
def AdaptRightWrongFalsely : Prop := adaptRightRow.holds Tryd.pinned (OpenSpec.ofChange adaptRightWrong)

/-- 'concordatlaw15.AdaptSelf': WHATEVER THE INPUT: true; the input reads as it did. -/
def adaptSelfSpec : ChangeSpec := { name := "adaptSelf", fn := fun _ => fun
  | [d1, d2] => { results := [.lit (.bool true)], args := [d1, d2] }
  | _ => none }
def adaptSelfRow : OpenClaim := { program := "ytmeplhcfjihafaadoor", sum := "88bbb0324842555b75d9ae483d9642c4c99c7febbfe6f152d874d2dc01eef541", func := "concordat/concordatlaw15.AdaptSelf", spec := "adaptSelf", named := ["unicode/utf8.first", "unicode/utf8.acceptRanges"], plainKeys := false, apart := false, laid := [("unicode/utf8.acceptRanges", laid_unicode_utf8_acceptRanges), ("unicode/utf8.first", laid_unicode_utf8_first)] }
def AdaptSelfSaid : Prop := adaptSelfRow.holds Tryd.pinned (OpenSpec.ofChange adaptSelfSpec)

/-- ITS FALSE NEIGHBOUR: 'it returns false'. Refute it at one input. -/
def adaptSelfWrong : ChangeSpec := { name := "adaptSelf", fn := fun _ => fun
  | [d1, d2] => { results := [.lit (.bool false)], args := [d1, d2] }
  | _ => none }
def AdaptSelfWrongFalsely : Prop := adaptSelfRow.holds Tryd.pinned (OpenSpec.ofChange adaptSelfWrong)

/-- 'concordatlaw15.AdaptLimits': WHATEVER THE INPUT: true; the input reads as it did. -/
def adaptLimitsSpec : ChangeSpec := { name := "adaptLimits", fn := fun _ => fun
  | [] => { results := [.lit (.bool true)], args := [] }
  | _ => none }
def adaptLimitsRow : OpenClaim := { program := "ytmeplhcfjihafaadoor", sum := "88bbb0324842555b75d9ae483d9642c4c99c7febbfe6f152d874d2dc01eef541", func := "concordat/concordatlaw15.AdaptLimits", spec := "adaptLimits", unfollowed := true, recurses := true, named := ["unicode/utf8.first", "unicode/utf8.acceptRanges"], plainKeys := false, apart := false, laid := [("unicode/utf8.acceptRanges", laid_unicode_utf8_acceptRanges), ("unicode/utf8.first", laid_unicode_utf8_first)] }
def AdaptLimitsSaid : Prop := adaptLimitsRow.holds Tryd.pinned (OpenSpec.ofChange adaptLimitsSpec)

/-- ITS FALSE NEIGHBOUR: 'it returns false'. Refute it at one input. -/
def adaptLimitsWrong : ChangeSpec := { name := "adaptLimits", fn := fun _ => fun
  | [] => { results := [.lit (.bool false)], args := [] }
  | _ => none }
def AdaptLimitsWrongFalsely : Prop := adaptLimitsRow.holds Tryd.pinned (OpenSpec.ofChange adaptLimitsWrong)

/-- 'concordatlaw15.AdaptAll': WHATEVER THE INPUT: true; the input reads as it did. -/
def adaptAllSpec : ChangeSpec := { name := "adaptAll", fn := fun _ => fun
  | [d1, d2, d3, d4, d5] => { results := [.lit (.bool true)], args := [d1, d2, d3, d4, d5] }
  | _ => none }
def adaptAllRow : OpenClaim := { program := "ytmeplhcfjihafaadoor", sum := "88bbb0324842555b75d9ae483d9642c4c99c7febbfe6f152d874d2dc01eef541", func := "concordat/concordatlaw15.AdaptAll", spec := "adaptAll", unfollowed := true, recurses := true, named := ["unicode/utf8.first", "unicode/utf8.acceptRanges"], plainKeys := false, apart := false, laid := [("unicode/utf8.acceptRanges", laid_unicode_utf8_acceptRanges), ("unicode/utf8.first", laid_unicode_utf8_first)] }
def AdaptAllSaid : Prop := adaptAllRow.holds Tryd.pinned (OpenSpec.ofChange adaptAllSpec)

/-- ITS FALSE NEIGHBOUR: 'it returns false'. Refute it at one input. -/
def adaptAllWrong : ChangeSpec := { name := "adaptAll", fn := fun _ => fun
  | [d1, d2, d3, d4, d5] => { results := [.lit (.bool false)], args := [d1, d2, d3, d4, d5] }
  | _ => none }
def AdaptAllWrongFalsely : Prop := adaptAllRow.holds Tryd.pinned (OpenSpec.ofChange adaptAllWrong)

/-- 'concordatlaw15.AdaptSame': WHATEVER THE INPUT: true; the input reads as it did. -/
def adaptSameSpec : ChangeSpec := { name := "adaptSame", fn := fun _ => fun
  | [d1, d2, d3, d4] => { results := [.lit (.bool true)], args := [d1, d2, d3, d4] }
  | _ => none }
def adaptSameRow : OpenClaim := { program := "ytmeplhcfjihafaadoor", sum := "88bbb0324842555b75d9ae483d9642c4c99c7febbfe6f152d874d2dc01eef541", func := "concordat/concordatlaw15.AdaptSame", spec := "adaptSame", unfollowed := true, recurses := true, named := ["unicode/utf8.first", "unicode/utf8.acceptRanges"], plainKeys := false, apart := false, laid := [("unicode/utf8.acceptRanges", laid_unicode_utf8_acceptRanges), ("unicode/utf8.first", laid_unicode_utf8_first)] }
def AdaptSameSaid : Prop := adaptSameRow.holds Tryd.pinned (OpenSpec.ofChange adaptSameSpec)

/-- ITS FALSE NEIGHBOUR: 'it returns false'. Refute it at one input. -/
def adaptSameWrong : ChangeSpec := { name := "adaptSame", fn := fun _ => fun
  | [d1, d2, d3, d4] => { results := [.lit (.bool false)], args := [d1, d2, d3, d4] }
  | _ => none }
def AdaptSameWrongFalsely : Prop := adaptSameRow.holds Tryd.pinned (OpenSpec.ofChange adaptSameWrong)

/- THE SECOND FORM. 'bulk': how many values and letters a reading holds, each counted each time it is reached (what is shared counts as often as it is met; a slice's spare places count too). A statement '..UptoSaid' is the law's where the arguments, and the package variables that the reading takes, are together of bulk at most 1048576: NARROWER than '..Said'. Prove '..Said' where nothing that the law and all that it calls make is longer than what came in: it says more and counts as full. Else prove '..UptoSaid'. A law counts once. -/
mutual
def uptoBulk {H : Type} : DataW H → Nat
  | .lit (.string bytes) => bytes.length + 1
  | .lit _ => 1
  | .nil => 1
  | .ptr d => uptoBulk d + 1
  | .slice elems spare => uptoBulkAll elems + uptoBulkAll spare + 1
  | .agg parts => uptoBulkAll parts + 1
  | .iface _ d => uptoBulk d + 1
  | .map entries => uptoBulkEntries entries + 1
  | .held _ => 1
def uptoBulkAll {H : Type} : List (DataW H) → Nat
  | [] => 0
  | d :: r => uptoBulk d + uptoBulkAll r
def uptoBulkEntries {H : Type} : List (Lit × DataW H) → Nat
  | [] => 0
  | x :: r => uptoBulkEntry x + uptoBulkEntries r
def uptoBulkEntry {H : Type} : Lit × DataW H → Nat
  | (.string bytes, d) => bytes.length + uptoBulk d + 1
  | (_, d) => uptoBulk d + 1
 end
def uptoSmall : (H : Type) → List (DataW H) → Bool := fun _ ds => decide (uptoBulkAll ds ≤ 1048576)
def OpenSpec.upto (s : _root_.Go.ChangeSpec) : _root_.Go.OpenSpec := { _root_.Go.OpenSpec.ofChange s with cond := some uptoSmall }

/-- 'concordatlaw07.CheckOrder', WHERE WHAT IT READS IS OF BULK AT MOST 1048576: true; the input reads as it did. -/
def checkOrderUptoRow : OpenClaim := { program := "ytmeplhcfjihafaadoor", sum := "88bbb0324842555b75d9ae483d9642c4c99c7febbfe6f152d874d2dc01eef541", func := "concordat/concordatlaw07.CheckOrder", spec := "checkOrder", named := ["unicode/utf8.first", "unicode/utf8.acceptRanges"], plainKeys := false, apart := false, laid := [("unicode/utf8.acceptRanges", laid_unicode_utf8_acceptRanges), ("unicode/utf8.first", laid_unicode_utf8_first)], narrowed := true }
def CheckOrderUptoSaid : Prop := checkOrderUptoRow.holds Tryd.pinned (OpenSpec.upto checkOrderSpec)

/-- 'concordatlaw07.CheckSpoilt', WHERE WHAT IT READS IS OF BULK AT MOST 1048576: true; the input reads as it did. -/
def checkSpoiltUptoRow : OpenClaim := { program := "ytmeplhcfjihafaadoor", sum := "88bbb0324842555b75d9ae483d9642c4c99c7febbfe6f152d874d2dc01eef541", func := "concordat/concordatlaw07.CheckSpoilt", spec := "checkSpoilt", named := ["unicode/utf8.first", "unicode/utf8.acceptRanges"], plainKeys := false, apart := false, laid := [("unicode/utf8.acceptRanges", laid_unicode_utf8_acceptRanges), ("unicode/utf8.first", laid_unicode_utf8_first)], narrowed := true }
def CheckSpoiltUptoSaid : Prop := checkSpoiltUptoRow.holds Tryd.pinned (OpenSpec.upto checkSpoiltSpec)

/-- 'concordatlaw07.CheckLimits', WHERE WHAT IT READS IS OF BULK AT MOST 1048576: true; the input reads as it did. -/
def checkLimitsUptoRow : OpenClaim := { program := "ytmeplhcfjihafaadoor", sum := "88bbb0324842555b75d9ae483d9642c4c99c7febbfe6f152d874d2dc01eef541", func := "concordat/concordatlaw07.CheckLimits", spec := "checkLimits", unfollowed := true, recurses := true, named := ["unicode/utf8.first", "unicode/utf8.acceptRanges"], plainKeys := false, apart := false, laid := [("unicode/utf8.acceptRanges", laid_unicode_utf8_acceptRanges), ("unicode/utf8.first", laid_unicode_utf8_first)], narrowed := true }
def CheckLimitsUptoSaid : Prop := checkLimitsUptoRow.holds Tryd.pinned (OpenSpec.upto checkLimitsSpec)

/-- 'concordatlaw07.CheckAll', WHERE WHAT IT READS IS OF BULK AT MOST 1048576: true; the input reads as it did. -/
def checkAllUptoRow : OpenClaim := { program := "ytmeplhcfjihafaadoor", sum := "88bbb0324842555b75d9ae483d9642c4c99c7febbfe6f152d874d2dc01eef541", func := "concordat/concordatlaw07.CheckAll", spec := "checkAll", named := ["unicode/utf8.first", "unicode/utf8.acceptRanges"], plainKeys := false, apart := false, laid := [("unicode/utf8.acceptRanges", laid_unicode_utf8_acceptRanges), ("unicode/utf8.first", laid_unicode_utf8_first)], narrowed := true }
def CheckAllUptoSaid : Prop := checkAllUptoRow.holds Tryd.pinned (OpenSpec.upto checkAllSpec)

/-- 'concordatlaw07.CheckFinds', WHERE WHAT IT READS IS OF BULK AT MOST 1048576: true; the input reads as it did. -/
def checkFindsUptoRow : OpenClaim := { program := "ytmeplhcfjihafaadoor", sum := "88bbb0324842555b75d9ae483d9642c4c99c7febbfe6f152d874d2dc01eef541", func := "concordat/concordatlaw07.CheckFinds", spec := "checkFinds", named := ["unicode/utf8.first", "unicode/utf8.acceptRanges"], plainKeys := false, apart := false, laid := [("unicode/utf8.acceptRanges", laid_unicode_utf8_acceptRanges), ("unicode/utf8.first", laid_unicode_utf8_first)], narrowed := true }
def CheckFindsUptoSaid : Prop := checkFindsUptoRow.holds Tryd.pinned (OpenSpec.upto checkFindsSpec)

/-- 'concordatlaw14.CompatAll', WHERE WHAT IT READS IS OF BULK AT MOST 1048576: true; the input reads as it did. -/
def compatAllUptoRow : OpenClaim := { program := "ytmeplhcfjihafaadoor", sum := "88bbb0324842555b75d9ae483d9642c4c99c7febbfe6f152d874d2dc01eef541", func := "concordat/concordatlaw14.CompatAll", spec := "compatAll", named := ["unicode/utf8.first", "unicode/utf8.acceptRanges"], plainKeys := false, apart := false, laid := [("unicode/utf8.acceptRanges", laid_unicode_utf8_acceptRanges), ("unicode/utf8.first", laid_unicode_utf8_first)], narrowed := true }
def CompatAllUptoSaid : Prop := compatAllUptoRow.holds Tryd.pinned (OpenSpec.upto compatAllSpec)

/-- 'concordatlaw14.CompatSelf', WHERE WHAT IT READS IS OF BULK AT MOST 1048576: true; the input reads as it did. -/
def compatSelfUptoRow : OpenClaim := { program := "ytmeplhcfjihafaadoor", sum := "88bbb0324842555b75d9ae483d9642c4c99c7febbfe6f152d874d2dc01eef541", func := "concordat/concordatlaw14.CompatSelf", spec := "compatSelf", named := ["unicode/utf8.first", "unicode/utf8.acceptRanges"], plainKeys := false, apart := false, laid := [("unicode/utf8.acceptRanges", laid_unicode_utf8_acceptRanges), ("unicode/utf8.first", laid_unicode_utf8_first)], narrowed := true }
def CompatSelfUptoSaid : Prop := compatSelfUptoRow.holds Tryd.pinned (OpenSpec.upto compatSelfSpec)

/-- 'concordatlaw14.CompatChains', WHERE WHAT IT READS IS OF BULK AT MOST 1048576: true; the input reads as it did. -/
def compatChainsUptoRow : OpenClaim := { program := "ytmeplhcfjihafaadoor", sum := "88bbb0324842555b75d9ae483d9642c4c99c7febbfe6f152d874d2dc01eef541", func := "concordat/concordatlaw14.CompatChains", spec := "compatChains", named := ["unicode/utf8.first", "unicode/utf8.acceptRanges"], plainKeys := false, apart := false, laid := [("unicode/utf8.acceptRanges", laid_unicode_utf8_acceptRanges), ("unicode/utf8.first", laid_unicode_utf8_first)], narrowed := true }
def CompatChainsUptoSaid : Prop := compatChainsUptoRow.holds Tryd.pinned (OpenSpec.upto compatChainsSpec)

/-- 'concordatlaw14.CompatGrows', WHERE WHAT IT READS IS OF BULK AT MOST 1048576: true; the input reads as it did. -/
def compatGrowsUptoRow : OpenClaim := { program := "ytmeplhcfjihafaadoor", sum := "88bbb0324842555b75d9ae483d9642c4c99c7febbfe6f152d874d2dc01eef541", func := "concordat/concordatlaw14.CompatGrows", spec := "compatGrows", named := ["unicode/utf8.first", "unicode/utf8.acceptRanges"], plainKeys := false, apart := false, laid := [("unicode/utf8.acceptRanges", laid_unicode_utf8_acceptRanges), ("unicode/utf8.first", laid_unicode_utf8_first)], narrowed := true }
def CompatGrowsUptoSaid : Prop := compatGrowsUptoRow.holds Tryd.pinned (OpenSpec.upto compatGrowsSpec)

/-- 'concordatlaw14.CompatBreaks', WHERE WHAT IT READS IS OF BULK AT MOST 1048576: true; the input reads as it did. -/
def compatBreaksUptoRow : OpenClaim := { program := "ytmeplhcfjihafaadoor", sum := "88bbb0324842555b75d9ae483d9642c4c99c7febbfe6f152d874d2dc01eef541", func := "concordat/concordatlaw14.CompatBreaks", spec := "compatBreaks", named := ["unicode/utf8.first", "unicode/utf8.acceptRanges"], plainKeys := false, apart := false, laid := [("unicode/utf8.acceptRanges", laid_unicode_utf8_acceptRanges), ("unicode/utf8.first", laid_unicode_utf8_first)], narrowed := true }
def CompatBreaksUptoSaid : Prop := compatBreaksUptoRow.holds Tryd.pinned (OpenSpec.upto compatBreaksSpec)

/-- 'concordatlaw14.CompatTypes', WHERE WHAT IT READS IS OF BULK AT MOST 1048576: true; the input reads as it did. -/
def compatTypesUptoRow : OpenClaim := { program := "ytmeplhcfjihafaadoor", sum := "88bbb0324842555b75d9ae483d9642c4c99c7febbfe6f152d874d2dc01eef541", func := "concordat/concordatlaw14.CompatTypes", spec := "compatTypes", named := ["unicode/utf8.first", "unicode/utf8.acceptRanges"], plainKeys := false, apart := false, laid := [("unicode/utf8.acceptRanges", laid_unicode_utf8_acceptRanges), ("unicode/utf8.first", laid_unicode_utf8_first)], narrowed := true }
def CompatTypesUptoSaid : Prop := compatTypesUptoRow.holds Tryd.pinned (OpenSpec.upto compatTypesSpec)

/-- 'concordatlaw14.CompatEnums', WHERE WHAT IT READS IS OF BULK AT MOST 1048576: true; the input reads as it did. -/
def compatEnumsUptoRow : OpenClaim := { program := "ytmeplhcfjihafaadoor", sum := "88bbb0324842555b75d9ae483d9642c4c99c7febbfe6f152d874d2dc01eef541", func := "concordat/concordatlaw14.CompatEnums", spec := "compatEnums", unfollowed := true, recurses := true, named := ["unicode/utf8.first", "unicode/utf8.acceptRanges"], plainKeys := false, apart := false, laid := [("unicode/utf8.acceptRanges", laid_unicode_utf8_acceptRanges), ("unicode/utf8.first", laid_unicode_utf8_first)], narrowed := true }
def CompatEnumsUptoSaid : Prop := compatEnumsUptoRow.holds Tryd.pinned (OpenSpec.upto compatEnumsSpec)

/-- 'concordatlaw14.CompatCalls', WHERE WHAT IT READS IS OF BULK AT MOST 1048576: true; the input reads as it did. -/
def compatCallsUptoRow : OpenClaim := { program := "ytmeplhcfjihafaadoor", sum := "88bbb0324842555b75d9ae483d9642c4c99c7febbfe6f152d874d2dc01eef541", func := "concordat/concordatlaw14.CompatCalls", spec := "compatCalls", named := ["unicode/utf8.first", "unicode/utf8.acceptRanges"], plainKeys := false, apart := false, laid := [("unicode/utf8.acceptRanges", laid_unicode_utf8_acceptRanges), ("unicode/utf8.first", laid_unicode_utf8_first)], narrowed := true }
def CompatCallsUptoSaid : Prop := compatCallsUptoRow.holds Tryd.pinned (OpenSpec.upto compatCallsSpec)

/-- 'concordatlaw15.AdaptRight', WHERE WHAT IT READS IS OF BULK AT MOST 1048576: true; the input reads as it did. -/
def adaptRightUptoRow : OpenClaim := { program := "ytmeplhcfjihafaadoor", sum := "88bbb0324842555b75d9ae483d9642c4c99c7febbfe6f152d874d2dc01eef541", func := "concordat/concordatlaw15.AdaptRight", spec := "adaptRight", named := ["unicode/utf8.first", "unicode/utf8.acceptRanges"], plainKeys := false, apart := false, laid := [("unicode/utf8.acceptRanges", laid_unicode_utf8_acceptRanges), ("unicode/utf8.first", laid_unicode_utf8_first)], narrowed := true }
def AdaptRightUptoSaid : Prop := adaptRightUptoRow.holds Tryd.pinned (OpenSpec.upto adaptRightSpec)

/-- 'concordatlaw15.AdaptSelf', WHERE WHAT IT READS IS OF BULK AT MOST 1048576: true; the input reads as it did. -/
def adaptSelfUptoRow : OpenClaim := { program := "ytmeplhcfjihafaadoor", sum := "88bbb0324842555b75d9ae483d9642c4c99c7febbfe6f152d874d2dc01eef541", func := "concordat/concordatlaw15.AdaptSelf", spec := "adaptSelf", named := ["unicode/utf8.first", "unicode/utf8.acceptRanges"], plainKeys := false, apart := false, laid := [("unicode/utf8.acceptRanges", laid_unicode_utf8_acceptRanges), ("unicode/utf8.first", laid_unicode_utf8_first)], narrowed := true }
def AdaptSelfUptoSaid : Prop := adaptSelfUptoRow.holds Tryd.pinned (OpenSpec.upto adaptSelfSpec)

/-- 'concordatlaw15.AdaptLimits', WHERE WHAT IT READS IS OF BULK AT MOST 1048576: true; the input reads as it did. -/
def adaptLimitsUptoRow : OpenClaim := { program := "ytmeplhcfjihafaadoor", sum := "88bbb0324842555b75d9ae483d9642c4c99c7febbfe6f152d874d2dc01eef541", func := "concordat/concordatlaw15.AdaptLimits", spec := "adaptLimits", unfollowed := true, recurses := true, named := ["unicode/utf8.first", "unicode/utf8.acceptRanges"], plainKeys := false, apart := false, laid := [("unicode/utf8.acceptRanges", laid_unicode_utf8_acceptRanges), ("unicode/utf8.first", laid_unicode_utf8_first)], narrowed := true }
def AdaptLimitsUptoSaid : Prop := adaptLimitsUptoRow.holds Tryd.pinned (OpenSpec.upto adaptLimitsSpec)

/-- 'concordatlaw15.AdaptAll', WHERE WHAT IT READS IS OF BULK AT MOST 1048576: true; the input reads as it did. -/
def adaptAllUptoRow : OpenClaim := { program := "ytmeplhcfjihafaadoor", sum := "88bbb0324842555b75d9ae483d9642c4c99c7febbfe6f152d874d2dc01eef541", func := "concordat/concordatlaw15.AdaptAll", spec := "adaptAll", unfollowed := true, recurses := true, named := ["unicode/utf8.first", "unicode/utf8.acceptRanges"], plainKeys := false, apart := false, laid := [("unicode/utf8.acceptRanges", laid_unicode_utf8_acceptRanges), ("unicode/utf8.first", laid_unicode_utf8_first)], narrowed := true }
def AdaptAllUptoSaid : Prop := adaptAllUptoRow.holds Tryd.pinned (OpenSpec.upto adaptAllSpec)

/-- 'concordatlaw15.AdaptSame', WHERE WHAT IT READS IS OF BULK AT MOST 1048576: true; the input reads as it did. -/
def adaptSameUptoRow : OpenClaim := { program := "ytmeplhcfjihafaadoor", sum := "88bbb0324842555b75d9ae483d9642c4c99c7febbfe6f152d874d2dc01eef541", func := "concordat/concordatlaw15.AdaptSame", spec := "adaptSame", unfollowed := true, recurses := true, named := ["unicode/utf8.first", "unicode/utf8.acceptRanges"], plainKeys := false, apart := false, laid := [("unicode/utf8.acceptRanges", laid_unicode_utf8_acceptRanges), ("unicode/utf8.first", laid_unicode_utf8_first)], narrowed := true }
def AdaptSameUptoSaid : Prop := adaptSameUptoRow.holds Tryd.pinned (OpenSpec.upto adaptSameSpec)

end Rows
end Go.Proofs.YtmeplhcfjihafaaDoor
