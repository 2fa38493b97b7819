/-
  NARROWER THAN 'FOR EVERY INPUT', by the rows' own cells (each row's printed sentence says how): ValidFits: laid · ValidNumbers: laid · ValidGets: laid · ValidOther: laid · ValidAll: loops, laid · ValidBare: loops, laid · ProjectAll: loops, laid · ProjectKeeps: laid · ProjectDrops: laid · ProjectWire: loops, laid · ProjectLast: laid · ProjectFits: loops, laid · InterpSelf: laid · InterpThere: laid · InterpChains: laid · InterpProjects: laid.
  DERIVED. THE GIVEN ROWS OF THIS SEAT. 16 by the template 'for every input the law returns true; each argument reads behind the call as it read before'; 0 by the template 'total and deterministic' (their statements: YtpbangopjdlfcaaDoorTotals.lean).
  GIVEN WITH THE SEED: the statements are not yours to turn. If you find one false, say at which input.
  Laid BY PROGRAM, IN A SANDBOX (cutbox-rows.mjs): the forced cells as the released guide's own fill.sh prints them over the translation fd9a73f7dbeaa887… (all of the seat's roots in one cut). By AI agents, Wed Nov 11 2026. No macro, syntax, notation, axiom, sorry.
-/
import Derived.Test.YtpbangopjdlfcaaDoorChecked
import GoSem.PinnedTables
import GoSem.Claim
import GoSem.ClaimJoined
import GoSem.ClaimMapViews
import Derived.JoinedTies
import Derived.KernelRfl
namespace Go.Proofs.YtpbangopjdlfcaaDoor
/- THE CELL 'sum', in the pinned program and in every row, IS THE sha256 OF THE DUMP (.gsa) THAT YtpbangopjdlfcaaDoorProg.lean LOADS. Nothing in Lean hashes anything: it is a label: what it is worth is what the hold of that sum in a sandbox is worth. -/
noncomputable def Tryd.pinned : Pinned := { name := "ytpbangopjdlfcaadoor", sum := "fd9a73f7dbeaa8878d034fd3c18d0c6044e020467fd12221272f42953859071a", checked := Tryd.checked }
namespace Rows
def none {H : Type} : Left H := { results := [], args := [] }

/- WHAT THE LISTED PACKAGE-LEVEL VARIABLES READ AS WHEN THE CALL BEGINS. Each datum BY PROGRAM (the guide's laid-datum.mjs) off the statement by which the dump's own 'gosem.cut.vars' lays the variable. In a bare row this is a premise. The card (YtpbangopjdlfcaaDoorCards.lean) ties it to the program's text. -/
def laid_unicode_utf8_acceptRanges {H : Type} : DataW H := .agg [.agg [.lit (.int .u8 128), .lit (.int .u8 191)], .agg [.lit (.int .u8 160), .lit (.int .u8 191)], .agg [.lit (.int .u8 128), .lit (.int .u8 159)], .agg [.lit (.int .u8 144), .lit (.int .u8 191)], .agg [.lit (.int .u8 128), .lit (.int .u8 143)], .agg [.lit (.int .u8 0), .lit (.int .u8 0)], .agg [.lit (.int .u8 0), .lit (.int .u8 0)], .agg [.lit (.int .u8 0), .lit (.int .u8 0)], .agg [.lit (.int .u8 0), .lit (.int .u8 0)], .agg [.lit (.int .u8 0), .lit (.int .u8 0)], .agg [.lit (.int .u8 0), .lit (.int .u8 0)], .agg [.lit (.int .u8 0), .lit (.int .u8 0)], .agg [.lit (.int .u8 0), .lit (.int .u8 0)], .agg [.lit (.int .u8 0), .lit (.int .u8 0)], .agg [.lit (.int .u8 0), .lit (.int .u8 0)], .agg [.lit (.int .u8 0), .lit (.int .u8 0)]]
/-- One of Go's own tables, pinned by name: the form's constant. -/
def laid_unicode_utf8_first : DataW Unit := Go.Pinned.utf8First

/-- 'concordatlaw10.ValidFits': WHATEVER THE INPUT: true; the input reads as it did. -/
def validFitsSpec : ChangeSpec := { name := "validFits", fn := fun _ => fun
  | [d1, d2, d3, d4] => { results := [.lit (.bool true)], args := [d1, d2, d3, d4] }
  | _ => none }
def validFitsRow : OpenClaim := { program := "ytpbangopjdlfcaadoor", sum := "fd9a73f7dbeaa8878d034fd3c18d0c6044e020467fd12221272f42953859071a", func := "concordat/concordatlaw10.ValidFits", spec := "validFits", recurses := true, named := ["unicode/utf8.first", "unicode/utf8.acceptRanges"], plainKeys := false, apart := false, laid := [("unicode/utf8.acceptRanges", laid_unicode_utf8_acceptRanges), ("unicode/utf8.first", laid_unicode_utf8_first)] }
def ValidFitsSaid : Prop := validFitsRow.holds Tryd.pinned (OpenSpec.ofChange validFitsSpec)

/-- ITS FALSE NEIGHBOUR: 'it returns false'. Refute it at one input. -/
def validFitsWrong : ChangeSpec := { name := "validFits", fn := fun _ => fun
  | [d1, d2, d3, d4] => { results := [.lit (.bool false)], args := [d1, d2, d3, d4] }
  | _ => none }
def ValidFitsWrongFalsely : Prop := validFitsRow.holds Tryd.pinned (OpenSpec.ofChange validFitsWrong)

/-- 'concordatlaw10.ValidNumbers': WHATEVER THE INPUT: true; the input reads as it did. -/
def validNumbersSpec : ChangeSpec := { name := "validNumbers", fn := fun _ => fun
  | [] => { results := [.lit (.bool true)], args := [] }
  | _ => none }
def validNumbersRow : OpenClaim := { program := "ytpbangopjdlfcaadoor", sum := "fd9a73f7dbeaa8878d034fd3c18d0c6044e020467fd12221272f42953859071a", func := "concordat/concordatlaw10.ValidNumbers", spec := "validNumbers", unfollowed := true, recurses := true, named := ["unicode/utf8.first", "unicode/utf8.acceptRanges"], plainKeys := false, apart := false, laid := [("unicode/utf8.acceptRanges", laid_unicode_utf8_acceptRanges), ("unicode/utf8.first", laid_unicode_utf8_first)] }
def ValidNumbersSaid : Prop := validNumbersRow.holds Tryd.pinned (OpenSpec.ofChange validNumbersSpec)

/-- ITS FALSE NEIGHBOUR: 'it returns false'. Refute it at one input. -/
def validNumbersWrong : ChangeSpec := { name := "validNumbers", fn := fun _ => fun
  | [] => { results := [.lit (.bool false)], args := [] }
  | _ => none }
def ValidNumbersWrongFalsely : Prop := validNumbersRow.holds Tryd.pinned (OpenSpec.ofChange validNumbersWrong)

/-- 'concordatlaw10.ValidGets': WHATEVER THE INPUT: true; the input reads as it did. -/
def validGetsSpec : ChangeSpec := { name := "validGets", fn := fun _ => fun
  | [d1, d2, d3] => { results := [.lit (.bool true)], args := [d1, d2, d3] }
  | _ => none }
def validGetsRow : OpenClaim := { program := "ytpbangopjdlfcaadoor", sum := "fd9a73f7dbeaa8878d034fd3c18d0c6044e020467fd12221272f42953859071a", func := "concordat/concordatlaw10.ValidGets", spec := "validGets", recurses := true, named := ["unicode/utf8.first", "unicode/utf8.acceptRanges"], plainKeys := false, apart := false, laid := [("unicode/utf8.acceptRanges", laid_unicode_utf8_acceptRanges), ("unicode/utf8.first", laid_unicode_utf8_first)] }
def ValidGetsSaid : Prop := validGetsRow.holds Tryd.pinned (OpenSpec.ofChange validGetsSpec)

/-- ITS FALSE NEIGHBOUR: 'it returns false'. Refute it at one input. -/
def validGetsWrong : ChangeSpec := { name := "validGets", fn := fun _ => fun
  | [d1, d2, d3] => { results := [.lit (.bool false)], args := [d1, d2, d3] }
  | _ => none }
def ValidGetsWrongFalsely : Prop := validGetsRow.holds Tryd.pinned (OpenSpec.ofChange validGetsWrong)

/-- 'concordatlaw10.ValidOther': WHATEVER THE INPUT: true; the input reads as it did. -/
def validOtherSpec : ChangeSpec := { name := "validOther", fn := fun _ => fun
  | [d1, d2, d3, d4] => { results := [.lit (.bool true)], args := [d1, d2, d3, d4] }
  | _ => none }
def validOtherRow : OpenClaim := { program := "ytpbangopjdlfcaadoor", sum := "fd9a73f7dbeaa8878d034fd3c18d0c6044e020467fd12221272f42953859071a", func := "concordat/concordatlaw10.ValidOther", spec := "validOther", recurses := true, named := ["unicode/utf8.first", "unicode/utf8.acceptRanges"], plainKeys := false, apart := false, laid := [("unicode/utf8.acceptRanges", laid_unicode_utf8_acceptRanges), ("unicode/utf8.first", laid_unicode_utf8_first)] }
def ValidOtherSaid : Prop := validOtherRow.holds Tryd.pinned (OpenSpec.ofChange validOtherSpec)

/-- ITS FALSE NEIGHBOUR: 'it returns false'. Refute it at one input. -/
def validOtherWrong : ChangeSpec := { name := "validOther", fn := fun _ => fun
  | [d1, d2, d3, d4] => { results := [.lit (.bool false)], args := [d1, d2, d3, d4] }
  | _ => none }
def ValidOtherWrongFalsely : Prop := validOtherRow.holds Tryd.pinned (OpenSpec.ofChange validOtherWrong)

/-- 'concordatlaw10.ValidAll': WHATEVER THE INPUT: true; the input reads as it did. -/
def validAllSpec : ChangeSpec := { name := "validAll", fn := fun _ => fun
  | [d1, d2, d3, d4, d5, d6] => { results := [.lit (.bool true)], args := [d1, d2, d3, d4, d5, d6] }
  | _ => none }
def validAllRow : OpenClaim := { program := "ytpbangopjdlfcaadoor", sum := "fd9a73f7dbeaa8878d034fd3c18d0c6044e020467fd12221272f42953859071a", func := "concordat/concordatlaw10.ValidAll", spec := "validAll", recurses := true, named := ["unicode/utf8.first", "unicode/utf8.acceptRanges"], loops := true, plainKeys := false, apart := false, laid := [("unicode/utf8.acceptRanges", laid_unicode_utf8_acceptRanges), ("unicode/utf8.first", laid_unicode_utf8_first)] }
def ValidAllSaid : Prop := validAllRow.holds Tryd.pinned (OpenSpec.ofChange validAllSpec)

/-- ITS FALSE NEIGHBOUR: 'it returns false'. Refute it at one input. -/
def validAllWrong : ChangeSpec := { name := "validAll", fn := fun _ => fun
  | [d1, d2, d3, d4, d5, d6] => { results := [.lit (.bool false)], args := [d1, d2, d3, d4, d5, d6] }
  | _ => none }
def ValidAllWrongFalsely : Prop := validAllRow.holds Tryd.pinned (OpenSpec.ofChange validAllWrong)

/-- 'concordatlaw10.ValidBare': WHATEVER THE INPUT: true; the input reads as it did. -/
def validBareSpec : ChangeSpec := { name := "validBare", fn := fun _ => fun
  | [d1, d2, d3] => { results := [.lit (.bool true)], args := [d1, d2, d3] }
  | _ => none }
def validBareRow : OpenClaim := { program := "ytpbangopjdlfcaadoor", sum := "fd9a73f7dbeaa8878d034fd3c18d0c6044e020467fd12221272f42953859071a", func := "concordat/concordatlaw10.ValidBare", spec := "validBare", recurses := true, named := ["unicode/utf8.first", "unicode/utf8.acceptRanges"], loops := true, plainKeys := false, apart := false, laid := [("unicode/utf8.acceptRanges", laid_unicode_utf8_acceptRanges), ("unicode/utf8.first", laid_unicode_utf8_first)] }
def ValidBareSaid : Prop := validBareRow.holds Tryd.pinned (OpenSpec.ofChange validBareSpec)

/-- ITS FALSE NEIGHBOUR: 'it returns false'. Refute it at one input. -/
def validBareWrong : ChangeSpec := { name := "validBare", fn := fun _ => fun
  | [d1, d2, d3] => { results := [.lit (.bool false)], args := [d1, d2, d3] }
  | _ => none }
def ValidBareWrongFalsely : Prop := validBareRow.holds Tryd.pinned (OpenSpec.ofChange validBareWrong)

/-- 'concordatlaw13.ProjectAll': WHATEVER THE INPUT: true; the input reads as it did. -/
def projectAllSpec : ChangeSpec := { name := "projectAll", fn := fun _ => fun
  | [d1, d2, d3, d4] => { results := [.lit (.bool true)], args := [d1, d2, d3, d4] }
  | _ => none }
def projectAllRow : OpenClaim := { program := "ytpbangopjdlfcaadoor", sum := "fd9a73f7dbeaa8878d034fd3c18d0c6044e020467fd12221272f42953859071a", func := "concordat/concordatlaw13.ProjectAll", spec := "projectAll", recurses := true, named := ["unicode/utf8.first", "unicode/utf8.acceptRanges"], loops := true, plainKeys := false, apart := false, laid := [("unicode/utf8.acceptRanges", laid_unicode_utf8_acceptRanges), ("unicode/utf8.first", laid_unicode_utf8_first)] }
def ProjectAllSaid : Prop := projectAllRow.holds Tryd.pinned (OpenSpec.ofChange projectAllSpec)

/-- ITS FALSE NEIGHBOUR: 'it returns false'. Refute it at one input. -/
def projectAllWrong : ChangeSpec := { name := "projectAll", fn := fun _ => fun
  | [d1, d2, d3, d4] => { results := [.lit (.bool false)], args := [d1, d2, d3, d4] }
  | _ => none }
def ProjectAllWrongFalsely : Prop := projectAllRow.holds Tryd.pinned (OpenSpec.ofChange projectAllWrong)

/-- 'concordatlaw13.ProjectKeeps': WHATEVER THE INPUT: true; the input reads as it did. -/
def projectKeepsSpec : ChangeSpec := { name := "projectKeeps", fn := fun _ => fun
  | [d1, d2, d3] => { results := [.lit (.bool true)], args := [d1, d2, d3] }
  | _ => none }
def projectKeepsRow : OpenClaim := { program := "ytpbangopjdlfcaadoor", sum := "fd9a73f7dbeaa8878d034fd3c18d0c6044e020467fd12221272f42953859071a", func := "concordat/concordatlaw13.ProjectKeeps", spec := "projectKeeps", recurses := true, named := ["unicode/utf8.first", "unicode/utf8.acceptRanges"], plainKeys := false, apart := false, laid := [("unicode/utf8.acceptRanges", laid_unicode_utf8_acceptRanges), ("unicode/utf8.first", laid_unicode_utf8_first)] }
def ProjectKeepsSaid : Prop := projectKeepsRow.holds Tryd.pinned (OpenSpec.ofChange projectKeepsSpec)

/-- ITS FALSE NEIGHBOUR: 'it returns false'. Refute it at one input. -/
def projectKeepsWrong : ChangeSpec := { name := "projectKeeps", fn := fun _ => fun
  | [d1, d2, d3] => { results := [.lit (.bool false)], args := [d1, d2, d3] }
  | _ => none }
def ProjectKeepsWrongFalsely : Prop := projectKeepsRow.holds Tryd.pinned (OpenSpec.ofChange projectKeepsWrong)

/-- 'concordatlaw13.ProjectDrops': WHATEVER THE INPUT: true; the input reads as it did. -/
def projectDropsSpec : ChangeSpec := { name := "projectDrops", fn := fun _ => fun
  | [d1, d2, d3, d4] => { results := [.lit (.bool true)], args := [d1, d2, d3, d4] }
  | _ => none }
def projectDropsRow : OpenClaim := { program := "ytpbangopjdlfcaadoor", sum := "fd9a73f7dbeaa8878d034fd3c18d0c6044e020467fd12221272f42953859071a", func := "concordat/concordatlaw13.ProjectDrops", spec := "projectDrops", recurses := true, named := ["unicode/utf8.first", "unicode/utf8.acceptRanges"], plainKeys := false, apart := false, laid := [("unicode/utf8.acceptRanges", laid_unicode_utf8_acceptRanges), ("unicode/utf8.first", laid_unicode_utf8_first)] }
def ProjectDropsSaid : Prop := projectDropsRow.holds Tryd.pinned (OpenSpec.ofChange projectDropsSpec)

/-- ITS FALSE NEIGHBOUR: 'it returns false'. Refute it at one input. -/
def projectDropsWrong : ChangeSpec := { name := "projectDrops", fn := fun _ => fun
  | [d1, d2, d3, d4] => { results := [.lit (.bool false)], args := [d1, d2, d3, d4] }
  | _ => none }
def ProjectDropsWrongFalsely : Prop := projectDropsRow.holds Tryd.pinned (OpenSpec.ofChange projectDropsWrong)

/-- 'concordatlaw13.ProjectWire': WHATEVER THE INPUT: true; the input reads as it did. -/
def projectWireSpec : ChangeSpec := { name := "projectWire", fn := fun _ => fun
  | [d1, d2, d3] => { results := [.lit (.bool true)], args := [d1, d2, d3] }
  | _ => none }
def projectWireRow : OpenClaim := { program := "ytpbangopjdlfcaadoor", sum := "fd9a73f7dbeaa8878d034fd3c18d0c6044e020467fd12221272f42953859071a", func := "concordat/concordatlaw13.ProjectWire", spec := "projectWire", recurses := true, named := ["unicode/utf8.first", "unicode/utf8.acceptRanges"], loops := true, plainKeys := false, apart := false, laid := [("unicode/utf8.acceptRanges", laid_unicode_utf8_acceptRanges), ("unicode/utf8.first", laid_unicode_utf8_first)] }
def ProjectWireSaid : Prop := projectWireRow.holds Tryd.pinned (OpenSpec.ofChange projectWireSpec)

/-- ITS FALSE NEIGHBOUR: 'it returns false'. Refute it at one input. -/
def projectWireWrong : ChangeSpec := { name := "projectWire", fn := fun _ => fun
  | [d1, d2, d3] => { results := [.lit (.bool false)], args := [d1, d2, d3] }
  | _ => none }
def ProjectWireWrongFalsely : Prop := projectWireRow.holds Tryd.pinned (OpenSpec.ofChange projectWireWrong)

/-- 'concordatlaw13.ProjectLast': WHATEVER THE INPUT: true; the input reads as it did. -/
def projectLastSpec : ChangeSpec := { name := "projectLast", fn := fun _ => fun
  | [d1, d2] => { results := [.lit (.bool true)], args := [d1, d2] }
  | _ => none }
def projectLastRow : OpenClaim := { program := "ytpbangopjdlfcaadoor", sum := "fd9a73f7dbeaa8878d034fd3c18d0c6044e020467fd12221272f42953859071a", func := "concordat/concordatlaw13.ProjectLast", spec := "projectLast", recurses := true, named := ["unicode/utf8.first", "unicode/utf8.acceptRanges"], plainKeys := false, apart := false, laid := [("unicode/utf8.acceptRanges", laid_unicode_utf8_acceptRanges), ("unicode/utf8.first", laid_unicode_utf8_first)] }
def ProjectLastSaid : Prop := projectLastRow.holds Tryd.pinned (OpenSpec.ofChange projectLastSpec)

/-- ITS FALSE NEIGHBOUR: 'it returns false'. Refute it at one input. -/
def projectLastWrong : ChangeSpec := { name := "projectLast", fn := fun _ => fun
  | [d1, d2] => { results := [.lit (.bool false)], args := [d1, d2] }
  | _ => none }
def ProjectLastWrongFalsely : Prop := projectLastRow.holds Tryd.pinned (OpenSpec.ofChange projectLastWrong)

/-- 'concordatlaw13.ProjectFits': WHATEVER THE INPUT: true; the input reads as it did. -/
def projectFitsSpec : ChangeSpec := { name := "projectFits", fn := fun _ => fun
  | [d1, d2, d3] => { results := [.lit (.bool true)], args := [d1, d2, d3] }
  | _ => none }
def projectFitsRow : OpenClaim := { program := "ytpbangopjdlfcaadoor", sum := "fd9a73f7dbeaa8878d034fd3c18d0c6044e020467fd12221272f42953859071a", func := "concordat/concordatlaw13.ProjectFits", spec := "projectFits", recurses := true, named := ["unicode/utf8.first", "unicode/utf8.acceptRanges"], loops := true, plainKeys := false, apart := false, laid := [("unicode/utf8.acceptRanges", laid_unicode_utf8_acceptRanges), ("unicode/utf8.first", laid_unicode_utf8_first)] }
def ProjectFitsSaid : Prop := projectFitsRow.holds Tryd.pinned (OpenSpec.ofChange projectFitsSpec)

/-- ITS FALSE NEIGHBOUR: 'it returns false'. Refute it at one input. -/
def projectFitsWrong : ChangeSpec := { name := "projectFits", fn := fun _ => fun
  | [d1, d2, d3] => { results := [.lit (.bool false)], args := [d1, d2, d3] }
  | _ => none }
def ProjectFitsWrongFalsely : Prop := projectFitsRow.holds Tryd.pinned (OpenSpec.ofChange projectFitsWrong)

/-- 'concordatlaw16.InterpSelf': WHATEVER THE INPUT: true; the input reads as it did. -/
def interpSelfSpec : ChangeSpec := { name := "interpSelf", fn := fun _ => fun
  | [d1, d2, d3] => { results := [.lit (.bool true)], args := [d1, d2, d3] }
  | _ => none }
def interpSelfRow : OpenClaim := { program := "ytpbangopjdlfcaadoor", sum := "fd9a73f7dbeaa8878d034fd3c18d0c6044e020467fd12221272f42953859071a", func := "concordat/concordatlaw16.InterpSelf", spec := "interpSelf", unfollowed := true, recurses := true, named := ["unicode/utf8.first", "unicode/utf8.acceptRanges"], plainKeys := false, apart := false, laid := [("unicode/utf8.acceptRanges", laid_unicode_utf8_acceptRanges), ("unicode/utf8.first", laid_unicode_utf8_first)] }
def InterpSelfSaid : Prop := interpSelfRow.holds Tryd.pinned (OpenSpec.ofChange interpSelfSpec)

/-- ITS FALSE NEIGHBOUR: 'it returns false'. Refute it at one input. -/
def interpSelfWrong : ChangeSpec := { name := "interpSelf", fn := fun _ => fun
  | [d1, d2, d3] => { results := [.lit (.bool false)], args := [d1, d2, d3] }
  | _ => none }
def InterpSelfWrongFalsely : Prop := interpSelfRow.holds Tryd.pinned (OpenSpec.ofChange interpSelfWrong)

/-- 'concordatlaw16.InterpThere': WHATEVER THE INPUT: true; the input reads as it did. -/
def interpThereSpec : ChangeSpec := { name := "interpThere", fn := fun _ => fun
  | [d1, d2, d3, d4] => { results := [.lit (.bool true)], args := [d1, d2, d3, d4] }
  | _ => none }
def interpThereRow : OpenClaim := { program := "ytpbangopjdlfcaadoor", sum := "fd9a73f7dbeaa8878d034fd3c18d0c6044e020467fd12221272f42953859071a", func := "concordat/concordatlaw16.InterpThere", spec := "interpThere", unfollowed := true, recurses := true, named := ["unicode/utf8.first", "unicode/utf8.acceptRanges"], plainKeys := false, apart := false, laid := [("unicode/utf8.acceptRanges", laid_unicode_utf8_acceptRanges), ("unicode/utf8.first", laid_unicode_utf8_first)] }
def InterpThereSaid : Prop := interpThereRow.holds Tryd.pinned (OpenSpec.ofChange interpThereSpec)

/-- ITS FALSE NEIGHBOUR: 'it returns false'. Refute it at one input. -/
def interpThereWrong : ChangeSpec := { name := "interpThere", fn := fun _ => fun
  | [d1, d2, d3, d4] => { results := [.lit (.bool false)], args := [d1, d2, d3, d4] }
  | _ => none }
def InterpThereWrongFalsely : Prop := interpThereRow.holds Tryd.pinned (OpenSpec.ofChange interpThereWrong)

/-- 'concordatlaw16.InterpChains': WHATEVER THE INPUT: true; the input reads as it did. -/
def interpChainsSpec : ChangeSpec := { name := "interpChains", fn := fun _ => fun
  | [d1, d2, d3, d4, d5] => { results := [.lit (.bool true)], args := [d1, d2, d3, d4, d5] }
  | _ => none }
def interpChainsRow : OpenClaim := { program := "ytpbangopjdlfcaadoor", sum := "fd9a73f7dbeaa8878d034fd3c18d0c6044e020467fd12221272f42953859071a", func := "concordat/concordatlaw16.InterpChains", spec := "interpChains", unfollowed := true, recurses := true, named := ["unicode/utf8.first", "unicode/utf8.acceptRanges"], plainKeys := false, apart := false, laid := [("unicode/utf8.acceptRanges", laid_unicode_utf8_acceptRanges), ("unicode/utf8.first", laid_unicode_utf8_first)] }
def InterpChainsSaid : Prop := interpChainsRow.holds Tryd.pinned (OpenSpec.ofChange interpChainsSpec)

/-- ITS FALSE NEIGHBOUR: 'it returns false'. Refute it at one input. -/
def interpChainsWrong : ChangeSpec := { name := "interpChains", fn := fun _ => fun
  | [d1, d2, d3, d4, d5] => { results := [.lit (.bool false)], args := [d1, d2, d3, d4, d5] }
  | _ => none }
def InterpChainsWrongFalsely : Prop := interpChainsRow.holds Tryd.pinned (OpenSpec.ofChange interpChainsWrong)

/-- 'concordatlaw16.InterpProjects': WHATEVER THE INPUT: true; the input reads as it did. -/
def interpProjectsSpec : ChangeSpec := { name := "interpProjects", fn := fun _ => fun
  | [d1, d2, d3, d4, d5] => { results := [.lit (.bool true)], args := [d1, d2, d3, d4, d5] }
  | _ => none }
def interpProjectsRow : OpenClaim := { program := "ytpbangopjdlfcaadoor", sum := "fd9a73f7dbeaa8878d034fd3c18d0c6044e020467fd12221272f42953859071a", func := "concordat/concordatlaw16.InterpProjects", spec := "interpProjects", unfollowed := true, recurses := true, named := ["unicode/utf8.first", "unicode/utf8.acceptRanges"], plainKeys := false, apart := false, laid := [("unicode/utf8.acceptRanges", laid_unicode_utf8_acceptRanges), ("unicode/utf8.first", laid_unicode_utf8_first)] }
def InterpProjectsSaid : Prop := interpProjectsRow.holds Tryd.pinned (OpenSpec.ofChange interpProjectsSpec)

/-- ITS FALSE NEIGHBOUR: 'it returns false'. Refute it at one input. -/
def interpProjectsWrong : ChangeSpec := { name := "interpProjects", fn := fun _ => fun
  | [d1, d2, d3, d4, d5] => { results := [.lit (.bool false)], args := [d1, d2, d3, d4, d5] }
  | _ => none }
def InterpProjectsWrongFalsely : Prop := interpProjectsRow.holds Tryd.pinned (OpenSpec.ofChange interpProjectsWrong)

/- THE SECOND FORM. 'bulk': how many values and letters a reading holds, each counted each time it is reached (what is shared counts as often as it is met; a slice's spare places count too). A statement '..UptoSaid' is the law's where the arguments, and the package variables that the reading takes, are together of bulk at most 1048576: NARROWER than '..Said'. Prove '..Said' where nothing that the law and all that it calls make is longer than what came in: it says more and counts as full. Else prove '..UptoSaid'. A law counts once. -/
mutual
def uptoBulk {H : Type} : DataW H → Nat
  | .lit (.string bytes) => bytes.length + 1
  | .lit _ => 1
  | .nil => 1
  | .ptr d => uptoBulk d + 1
  | .slice elems spare => uptoBulkAll elems + uptoBulkAll spare + 1
  | .agg parts => uptoBulkAll parts + 1
  | .iface _ d => uptoBulk d + 1
  | .map entries => uptoBulkEntries entries + 1
  | .held _ => 1
def uptoBulkAll {H : Type} : List (DataW H) → Nat
  | [] => 0
  | d :: r => uptoBulk d + uptoBulkAll r
def uptoBulkEntries {H : Type} : List (Lit × DataW H) → Nat
  | [] => 0
  | x :: r => uptoBulkEntry x + uptoBulkEntries r
def uptoBulkEntry {H : Type} : Lit × DataW H → Nat
  | (.string bytes, d) => bytes.length + uptoBulk d + 1
  | (_, d) => uptoBulk d + 1
 end
def uptoSmall : (H : Type) → List (DataW H) → Bool := fun _ ds => decide (uptoBulkAll ds ≤ 1048576)
def OpenSpec.upto (s : _root_.Go.ChangeSpec) : _root_.Go.OpenSpec := { _root_.Go.OpenSpec.ofChange s with cond := some uptoSmall }

/-- 'concordatlaw10.ValidFits', WHERE WHAT IT READS IS OF BULK AT MOST 1048576: true; the input reads as it did. -/
def validFitsUptoRow : OpenClaim := { program := "ytpbangopjdlfcaadoor", sum := "fd9a73f7dbeaa8878d034fd3c18d0c6044e020467fd12221272f42953859071a", func := "concordat/concordatlaw10.ValidFits", spec := "validFits", recurses := true, named := ["unicode/utf8.first", "unicode/utf8.acceptRanges"], plainKeys := false, apart := false, laid := [("unicode/utf8.acceptRanges", laid_unicode_utf8_acceptRanges), ("unicode/utf8.first", laid_unicode_utf8_first)], narrowed := true }
def ValidFitsUptoSaid : Prop := validFitsUptoRow.holds Tryd.pinned (OpenSpec.upto validFitsSpec)

/-- 'concordatlaw10.ValidNumbers', WHERE WHAT IT READS IS OF BULK AT MOST 1048576: true; the input reads as it did. -/
def validNumbersUptoRow : OpenClaim := { program := "ytpbangopjdlfcaadoor", sum := "fd9a73f7dbeaa8878d034fd3c18d0c6044e020467fd12221272f42953859071a", func := "concordat/concordatlaw10.ValidNumbers", spec := "validNumbers", unfollowed := true, recurses := true, named := ["unicode/utf8.first", "unicode/utf8.acceptRanges"], plainKeys := false, apart := false, laid := [("unicode/utf8.acceptRanges", laid_unicode_utf8_acceptRanges), ("unicode/utf8.first", laid_unicode_utf8_first)], narrowed := true }
def ValidNumbersUptoSaid : Prop := validNumbersUptoRow.holds Tryd.pinned (OpenSpec.upto validNumbersSpec)

/-- 'concordatlaw10.ValidGets', WHERE WHAT IT READS IS OF BULK AT MOST 1048576: true; the input reads as it did. -/
def validGetsUptoRow : OpenClaim := { program := "ytpbangopjdlfcaadoor", sum := "fd9a73f7dbeaa8878d034fd3c18d0c6044e020467fd12221272f42953859071a", func := "concordat/concordatlaw10.ValidGets", spec := "validGets", recurses := true, named := ["unicode/utf8.first", "unicode/utf8.acceptRanges"], plainKeys := false, apart := false, laid := [("unicode/utf8.acceptRanges", laid_unicode_utf8_acceptRanges), ("unicode/utf8.first", laid_unicode_utf8_first)], narrowed := true }
def ValidGetsUptoSaid : Prop := validGetsUptoRow.holds Tryd.pinned (OpenSpec.upto validGetsSpec)

/-- 'concordatlaw10.ValidOther', WHERE WHAT IT READS IS OF BULK AT MOST 1048576: true; the input reads as it did. -/
def validOtherUptoRow : OpenClaim := { program := "ytpbangopjdlfcaadoor", sum := "fd9a73f7dbeaa8878d034fd3c18d0c6044e020467fd12221272f42953859071a", func := "concordat/concordatlaw10.ValidOther", spec := "validOther", recurses := true, named := ["unicode/utf8.first", "unicode/utf8.acceptRanges"], plainKeys := false, apart := false, laid := [("unicode/utf8.acceptRanges", laid_unicode_utf8_acceptRanges), ("unicode/utf8.first", laid_unicode_utf8_first)], narrowed := true }
def ValidOtherUptoSaid : Prop := validOtherUptoRow.holds Tryd.pinned (OpenSpec.upto validOtherSpec)

/-- 'concordatlaw10.ValidAll', WHERE WHAT IT READS IS OF BULK AT MOST 1048576: true; the input reads as it did. -/
def validAllUptoRow : OpenClaim := { program := "ytpbangopjdlfcaadoor", sum := "fd9a73f7dbeaa8878d034fd3c18d0c6044e020467fd12221272f42953859071a", func := "concordat/concordatlaw10.ValidAll", spec := "validAll", recurses := true, named := ["unicode/utf8.first", "unicode/utf8.acceptRanges"], loops := true, plainKeys := false, apart := false, laid := [("unicode/utf8.acceptRanges", laid_unicode_utf8_acceptRanges), ("unicode/utf8.first", laid_unicode_utf8_first)], narrowed := true }
def ValidAllUptoSaid : Prop := validAllUptoRow.holds Tryd.pinned (OpenSpec.upto validAllSpec)

/-- 'concordatlaw10.ValidBare', WHERE WHAT IT READS IS OF BULK AT MOST 1048576: true; the input reads as it did. -/
def validBareUptoRow : OpenClaim := { program := "ytpbangopjdlfcaadoor", sum := "fd9a73f7dbeaa8878d034fd3c18d0c6044e020467fd12221272f42953859071a", func := "concordat/concordatlaw10.ValidBare", spec := "validBare", recurses := true, named := ["unicode/utf8.first", "unicode/utf8.acceptRanges"], loops := true, plainKeys := false, apart := false, laid := [("unicode/utf8.acceptRanges", laid_unicode_utf8_acceptRanges), ("unicode/utf8.first", laid_unicode_utf8_first)], narrowed := true }
def ValidBareUptoSaid : Prop := validBareUptoRow.holds Tryd.pinned (OpenSpec.upto validBareSpec)

/-- 'concordatlaw13.ProjectAll', WHERE WHAT IT READS IS OF BULK AT MOST 1048576: true; the input reads as it did. -/
def projectAllUptoRow : OpenClaim := { program := "ytpbangopjdlfcaadoor", sum := "fd9a73f7dbeaa8878d034fd3c18d0c6044e020467fd12221272f42953859071a", func := "concordat/concordatlaw13.ProjectAll", spec := "projectAll", recurses := true, named := ["unicode/utf8.first", "unicode/utf8.acceptRanges"], loops := true, plainKeys := false, apart := false, laid := [("unicode/utf8.acceptRanges", laid_unicode_utf8_acceptRanges), ("unicode/utf8.first", laid_unicode_utf8_first)], narrowed := true }
def ProjectAllUptoSaid : Prop := projectAllUptoRow.holds Tryd.pinned (OpenSpec.upto projectAllSpec)

/-- 'concordatlaw13.ProjectKeeps', WHERE WHAT IT READS IS OF BULK AT MOST 1048576: true; the input reads as it did. -/
def projectKeepsUptoRow : OpenClaim := { program := "ytpbangopjdlfcaadoor", sum := "fd9a73f7dbeaa8878d034fd3c18d0c6044e020467fd12221272f42953859071a", func := "concordat/concordatlaw13.ProjectKeeps", spec := "projectKeeps", recurses := true, named := ["unicode/utf8.first", "unicode/utf8.acceptRanges"], plainKeys := false, apart := false, laid := [("unicode/utf8.acceptRanges", laid_unicode_utf8_acceptRanges), ("unicode/utf8.first", laid_unicode_utf8_first)], narrowed := true }
def ProjectKeepsUptoSaid : Prop := projectKeepsUptoRow.holds Tryd.pinned (OpenSpec.upto projectKeepsSpec)

/-- 'concordatlaw13.ProjectDrops', WHERE WHAT IT READS IS OF BULK AT MOST 1048576: true; the input reads as it did. -/
def projectDropsUptoRow : OpenClaim := { program := "ytpbangopjdlfcaadoor", sum := "fd9a73f7dbeaa8878d034fd3c18d0c6044e020467fd12221272f42953859071a", func := "concordat/concordatlaw13.ProjectDrops", spec := "projectDrops", recurses := true, named := ["unicode/utf8.first", "unicode/utf8.acceptRanges"], plainKeys := false, apart := false, laid := [("unicode/utf8.acceptRanges", laid_unicode_utf8_acceptRanges), ("unicode/utf8.first", laid_unicode_utf8_first)], narrowed := true }
def ProjectDropsUptoSaid : Prop := projectDropsUptoRow.holds Tryd.pinned (OpenSpec.upto projectDropsSpec)

/-- 'concordatlaw13.ProjectWire', WHERE WHAT IT READS IS OF BULK AT MOST 1048576: true; the input reads as it did. -/
def projectWireUptoRow : OpenClaim := { program := "ytpbangopjdlfcaadoor", sum := "fd9a73f7dbeaa8878d034fd3c18d0c6044e020467fd12221272f42953859071a", func := "concordat/concordatlaw13.ProjectWire", spec := "projectWire", recurses := true, named := ["unicode/utf8.first", "unicode/utf8.acceptRanges"], loops := true, plainKeys := false, apart := false, laid := [("unicode/utf8.acceptRanges", laid_unicode_utf8_acceptRanges), ("unicode/utf8.first", laid_unicode_utf8_first)], narrowed := true }
def ProjectWireUptoSaid : Prop := projectWireUptoRow.holds Tryd.pinned (OpenSpec.upto projectWireSpec)

/-- 'concordatlaw13.ProjectLast', WHERE WHAT IT READS IS OF BULK AT MOST 1048576: true; the input reads as it did. -/
def projectLastUptoRow : OpenClaim := { program := "ytpbangopjdlfcaadoor", sum := "fd9a73f7dbeaa8878d034fd3c18d0c6044e020467fd12221272f42953859071a", func := "concordat/concordatlaw13.ProjectLast", spec := "projectLast", recurses := true, named := ["unicode/utf8.first", "unicode/utf8.acceptRanges"], plainKeys := false, apart := false, laid := [("unicode/utf8.acceptRanges", laid_unicode_utf8_acceptRanges), ("unicode/utf8.first", laid_unicode_utf8_first)], narrowed := true }
def ProjectLastUptoSaid : Prop := projectLastUptoRow.holds Tryd.pinned (OpenSpec.upto projectLastSpec)

/-- 'concordatlaw13.ProjectFits', WHERE WHAT IT READS IS OF BULK AT MOST 1048576: true; the input reads as it did. -/
def projectFitsUptoRow : OpenClaim := { program := "ytpbangopjdlfcaadoor", sum := "fd9a73f7dbeaa8878d034fd3c18d0c6044e020467fd12221272f42953859071a", func := "concordat/concordatlaw13.ProjectFits", spec := "projectFits", recurses := true, named := ["unicode/utf8.first", "unicode/utf8.acceptRanges"], loops := true, plainKeys := false, apart := false, laid := [("unicode/utf8.acceptRanges", laid_unicode_utf8_acceptRanges), ("unicode/utf8.first", laid_unicode_utf8_first)], narrowed := true }
def ProjectFitsUptoSaid : Prop := projectFitsUptoRow.holds Tryd.pinned (OpenSpec.upto projectFitsSpec)

/-- 'concordatlaw16.InterpSelf', WHERE WHAT IT READS IS OF BULK AT MOST 1048576: true; the input reads as it did. -/
def interpSelfUptoRow : OpenClaim := { program := "ytpbangopjdlfcaadoor", sum := "fd9a73f7dbeaa8878d034fd3c18d0c6044e020467fd12221272f42953859071a", func := "concordat/concordatlaw16.InterpSelf", spec := "interpSelf", unfollowed := true, recurses := true, named := ["unicode/utf8.first", "unicode/utf8.acceptRanges"], plainKeys := false, apart := false, laid := [("unicode/utf8.acceptRanges", laid_unicode_utf8_acceptRanges), ("unicode/utf8.first", laid_unicode_utf8_first)], narrowed := true }
def InterpSelfUptoSaid : Prop := interpSelfUptoRow.holds Tryd.pinned (OpenSpec.upto interpSelfSpec)

/-- 'concordatlaw16.InterpThere', WHERE WHAT IT READS IS OF BULK AT MOST 1048576: true; the input reads as it did. -/
def interpThereUptoRow : OpenClaim := { program := "ytpbangopjdlfcaadoor", sum := "fd9a73f7dbeaa8878d034fd3c18d0c6044e020467fd12221272f42953859071a", func := "concordat/concordatlaw16.InterpThere", spec := "interpThere", unfollowed := true, recurses := true, named := ["unicode/utf8.first", "unicode/utf8.acceptRanges"], plainKeys := false, apart := false, laid := [("unicode/utf8.acceptRanges", laid_unicode_utf8_acceptRanges), ("unicode/utf8.first", laid_unicode_utf8_first)], narrowed := true }
def InterpThereUptoSaid : Prop := interpThereUptoRow.holds Tryd.pinned (OpenSpec.upto interpThereSpec)

/-- 'concordatlaw16.InterpChains', WHERE WHAT IT READS IS OF BULK AT MOST 1048576: true; the input reads as it did. -/
def interpChainsUptoRow : OpenClaim := { program := "ytpbangopjdlfcaadoor", sum := "fd9a73f7dbeaa8878d034fd3c18d0c6044e020467fd12221272f42953859071a", func := "concordat/concordatlaw16.InterpChains", spec := "interpChains", unfollowed := true, recurses := true, named := ["unicode/utf8.first", "unicode/utf8.acceptRanges"], plainKeys := false, apart := false, laid := [("unicode/utf8.acceptRanges", laid_unicode_utf8_acceptRanges), ("unicode/utf8.first", laid_unicode_utf8_first)], narrowed := true }
def InterpChainsUptoSaid : Prop := interpChainsUptoRow.holds Tryd.pinned (OpenSpec.upto interpChainsSpec)

/-- 'concordatlaw16.InterpProjects', WHERE WHAT IT READS IS OF BULK AT MOST 1048576: true; the input reads as it did. -/
def interpProjectsUptoRow : OpenClaim := { program := "ytpbangopjdlfcaadoor", sum := "fd9a73f7dbeaa8878d034fd3c18d0c6044e020467fd12221272f42953859071a", func := "concordat/concordatlaw16.InterpProjects", spec := "interpProjects", unfollowed := true, recurses := true, named := ["unicode/utf8.first", "unicode/utf8.acceptRanges"], plainKeys := false, apart := false, laid := [("unicode/utf8.acceptRanges", laid_unicode_utf8_acceptRanges), ("unicode/utf8.first", laid_unicode_utf8_first)], narrowed := true }
def InterpProjectsUptoSaid : Prop := interpProjectsUptoRow.holds Tryd.pinned (OpenSpec.upto interpProjectsSpec)

end Rows
end Go.Proofs.YtpbangopjdlfcaaDoor
