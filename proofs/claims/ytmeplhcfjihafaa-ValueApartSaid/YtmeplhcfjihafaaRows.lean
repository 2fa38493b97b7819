/-
  NARROWER THAN 'FOR EVERY INPUT', by the rows' own cells (each row's printed sentence says how): ValueSame: loops · ValueChecks: loops · ValueAsserts: loops · ValueBack: loops · ValueApart: loops · ValueNodes: loops · EncodeFlat: loops · EncodeJoins: loops · EncodeRest: loops · EncodeAll: loops · EncodeRises: loops.
  DERIVED. THE GIVEN ROWS OF THIS SEAT. 21 by the template 'for every input the law returns true; each argument reads behind the call as it read before'; 0 by the template 'total and deterministic' (their statements: YtmeplhcfjihafaaTotals.lean).
  GIVEN WITH THE SEED: the statements are not yours to turn. If you find one false, say at which input.
  Laid BY PROGRAM, IN A SANDBOX (cutbox-rows.mjs): the forced cells as the released guide's own fill.sh prints them over the translation 614f7eade9628343… (all of the seat's roots in one cut). By AI agents, Wed Nov 11 2026. No macro, syntax, notation, axiom, sorry.
-/
import Derived.Test.YtmeplhcfjihafaaChecked
import GoSem.Claim
import GoSem.ClaimJoined
import GoSem.ClaimMapViews
import Derived.JoinedTies
import Derived.KernelRfl
namespace Go.Proofs.Ytmeplhcfjihafaa
/- THE CELL 'sum', in the pinned program and in every row, IS THE sha256 OF THE DUMP (.gsa) THAT YtmeplhcfjihafaaProg.lean LOADS. Nothing in Lean hashes anything: it is a label: what it is worth is what the hold of that sum in a sandbox is worth. -/
noncomputable def Try.pinned : Pinned := { name := "ytmeplhcfjihafaa", sum := "614f7eade96283438ed183d576f4a8106413f9e3a768000bc5cd943b514aff1b", checked := Try.checked }
namespace Rows
def none {H : Type} : Left H := { results := [], args := [] }

/-- 'concordatlaw04.WireStable': WHATEVER THE INPUT: true; the input reads as it did. -/
def wireStableSpec : ChangeSpec := { name := "wireStable", fn := fun _ => fun
  | [d1, d2] => { results := [.lit (.bool true)], args := [d1, d2] }
  | _ => none }
def wireStableRow : OpenClaim := { program := "ytmeplhcfjihafaa", sum := "614f7eade96283438ed183d576f4a8106413f9e3a768000bc5cd943b514aff1b", func := "concordat/concordatlaw04.WireStable", spec := "wireStable", apart := false }
def WireStableSaid : Prop := wireStableRow.holds Try.pinned (OpenSpec.ofChange wireStableSpec)

/-- ITS FALSE NEIGHBOUR: 'it returns false'. Refute it at one input. -/
def wireStableWrong : ChangeSpec := { name := "wireStable", fn := fun _ => fun
  | [d1, d2] => { results := [.lit (.bool false)], args := [d1, d2] }
  | _ => none }
def WireStableWrongFalsely : Prop := wireStableRow.holds Try.pinned (OpenSpec.ofChange wireStableWrong)

/-- 'concordatlaw04.WirePuts': WHATEVER THE INPUT: true; the input reads as it did. -/
def wirePutsSpec : ChangeSpec := { name := "wirePuts", fn := fun _ => fun
  | [d1, d2, d3] => { results := [.lit (.bool true)], args := [d1, d2, d3] }
  | _ => none }
def wirePutsRow : OpenClaim := { program := "ytmeplhcfjihafaa", sum := "614f7eade96283438ed183d576f4a8106413f9e3a768000bc5cd943b514aff1b", func := "concordat/concordatlaw04.WirePuts", spec := "wirePuts", apart := false }
def WirePutsSaid : Prop := wirePutsRow.holds Try.pinned (OpenSpec.ofChange wirePutsSpec)

/-- ITS FALSE NEIGHBOUR: 'it returns false'. Refute it at one input. -/
def wirePutsWrong : ChangeSpec := { name := "wirePuts", fn := fun _ => fun
  | [d1, d2, d3] => { results := [.lit (.bool false)], args := [d1, d2, d3] }
  | _ => none }
def WirePutsWrongFalsely : Prop := wirePutsRow.holds Try.pinned (OpenSpec.ofChange wirePutsWrong)

/-- 'concordatlaw04.WireJoins': WHATEVER THE INPUT: true; the input reads as it did. -/
def wireJoinsSpec : ChangeSpec := { name := "wireJoins", fn := fun _ => fun
  | [d1, d2] => { results := [.lit (.bool true)], args := [d1, d2] }
  | _ => none }
def wireJoinsRow : OpenClaim := { program := "ytmeplhcfjihafaa", sum := "614f7eade96283438ed183d576f4a8106413f9e3a768000bc5cd943b514aff1b", func := "concordat/concordatlaw04.WireJoins", spec := "wireJoins", apart := false }
def WireJoinsSaid : Prop := wireJoinsRow.holds Try.pinned (OpenSpec.ofChange wireJoinsSpec)

/-- ITS FALSE NEIGHBOUR: 'it returns false'. Refute it at one input. -/
def wireJoinsWrong : ChangeSpec := { name := "wireJoins", fn := fun _ => fun
  | [d1, d2] => { results := [.lit (.bool false)], args := [d1, d2] }
  | _ => none }
def WireJoinsWrongFalsely : Prop := wireJoinsRow.holds Try.pinned (OpenSpec.ofChange wireJoinsWrong)

/-- 'concordatlaw04.WireSorts': WHATEVER THE INPUT: true; the input reads as it did. -/
def wireSortsSpec : ChangeSpec := { name := "wireSorts", fn := fun _ => fun
  | [d] => { results := [.lit (.bool true)], args := [d] }
  | _ => none }
def wireSortsRow : OpenClaim := { program := "ytmeplhcfjihafaa", sum := "614f7eade96283438ed183d576f4a8106413f9e3a768000bc5cd943b514aff1b", func := "concordat/concordatlaw04.WireSorts", spec := "wireSorts", apart := false }
def WireSortsSaid : Prop := wireSortsRow.holds Try.pinned (OpenSpec.ofChange wireSortsSpec)

/-- ITS FALSE NEIGHBOUR: 'it returns false'. Refute it at one input. -/
def wireSortsWrong : ChangeSpec := { name := "wireSorts", fn := fun _ => fun
  | [d] => { results := [.lit (.bool false)], args := [d] }
  | _ => none }
def WireSortsWrongFalsely : Prop := wireSortsRow.holds Try.pinned (OpenSpec.ofChange wireSortsWrong)

/-- 'concordatlaw04.WireBack': WHATEVER THE INPUT: true; the input reads as it did. -/
def wireBackSpec : ChangeSpec := { name := "wireBack", fn := fun _ => fun
  | [d1, d2] => { results := [.lit (.bool true)], args := [d1, d2] }
  | _ => none }
def wireBackRow : OpenClaim := { program := "ytmeplhcfjihafaa", sum := "614f7eade96283438ed183d576f4a8106413f9e3a768000bc5cd943b514aff1b", func := "concordat/concordatlaw04.WireBack", spec := "wireBack", apart := false }
def WireBackSaid : Prop := wireBackRow.holds Try.pinned (OpenSpec.ofChange wireBackSpec)

/-- ITS FALSE NEIGHBOUR: 'it returns false'. Refute it at one input. -/
def wireBackWrong : ChangeSpec := { name := "wireBack", fn := fun _ => fun
  | [d1, d2] => { results := [.lit (.bool false)], args := [d1, d2] }
  | _ => none }
def WireBackWrongFalsely : Prop := wireBackRow.holds Try.pinned (OpenSpec.ofChange wireBackWrong)

/-- 'concordatlaw04.WireCuts': WHATEVER THE INPUT: true; the input reads as it did. -/
def wireCutsSpec : ChangeSpec := { name := "wireCuts", fn := fun _ => fun
  | [d1, d2] => { results := [.lit (.bool true)], args := [d1, d2] }
  | _ => none }
def wireCutsRow : OpenClaim := { program := "ytmeplhcfjihafaa", sum := "614f7eade96283438ed183d576f4a8106413f9e3a768000bc5cd943b514aff1b", func := "concordat/concordatlaw04.WireCuts", spec := "wireCuts", apart := false }
def WireCutsSaid : Prop := wireCutsRow.holds Try.pinned (OpenSpec.ofChange wireCutsSpec)

/-- ITS FALSE NEIGHBOUR: 'it returns false'. Refute it at one input. -/
def wireCutsWrong : ChangeSpec := { name := "wireCuts", fn := fun _ => fun
  | [d1, d2] => { results := [.lit (.bool false)], args := [d1, d2] }
  | _ => none }
def WireCutsWrongFalsely : Prop := wireCutsRow.holds Try.pinned (OpenSpec.ofChange wireCutsWrong)

/-- 'concordatlaw04.WireLimits': WHATEVER THE INPUT: true; the input reads as it did. -/
def wireLimitsSpec : ChangeSpec := { name := "wireLimits", fn := fun _ => fun
  | [] => { results := [.lit (.bool true)], args := [] }
  | _ => none }
def wireLimitsRow : OpenClaim := { program := "ytmeplhcfjihafaa", sum := "614f7eade96283438ed183d576f4a8106413f9e3a768000bc5cd943b514aff1b", func := "concordat/concordatlaw04.WireLimits", spec := "wireLimits", apart := false }
def WireLimitsSaid : Prop := wireLimitsRow.holds Try.pinned (OpenSpec.ofChange wireLimitsSpec)

/-- ITS FALSE NEIGHBOUR: 'it returns false'. Refute it at one input. -/
def wireLimitsWrong : ChangeSpec := { name := "wireLimits", fn := fun _ => fun
  | [] => { results := [.lit (.bool false)], args := [] }
  | _ => none }
def WireLimitsWrongFalsely : Prop := wireLimitsRow.holds Try.pinned (OpenSpec.ofChange wireLimitsWrong)

/-- 'concordatlaw09.ValueSame': WHATEVER THE INPUT: true; the input reads as it did. -/
def valueSameSpec : ChangeSpec := { name := "valueSame", fn := fun _ => fun
  | [d1, d2, d3] => { results := [.lit (.bool true)], args := [d1, d2, d3] }
  | _ => none }
def valueSameRow : OpenClaim := { program := "ytmeplhcfjihafaa", sum := "614f7eade96283438ed183d576f4a8106413f9e3a768000bc5cd943b514aff1b", func := "concordat/concordatlaw09.ValueSame", spec := "valueSame", unfollowed := true, recurses := true, loops := true, apart := false }
def ValueSameSaid : Prop := valueSameRow.holds Try.pinned (OpenSpec.ofChange valueSameSpec)

/-- ITS FALSE NEIGHBOUR: 'it returns false'. Refute it at one input. -/
def valueSameWrong : ChangeSpec := { name := "valueSame", fn := fun _ => fun
  | [d1, d2, d3] => { results := [.lit (.bool false)], args := [d1, d2, d3] }
  | _ => none }
def ValueSameWrongFalsely : Prop := valueSameRow.holds Try.pinned (OpenSpec.ofChange valueSameWrong)

/-- 'concordatlaw09.ValueChecks': WHATEVER THE INPUT: true; the input reads as it did. -/
def valueChecksSpec : ChangeSpec := { name := "valueChecks", fn := fun _ => fun
  | [d1, d2] => { results := [.lit (.bool true)], args := [d1, d2] }
  | _ => none }
def valueChecksRow : OpenClaim := { program := "ytmeplhcfjihafaa", sum := "614f7eade96283438ed183d576f4a8106413f9e3a768000bc5cd943b514aff1b", func := "concordat/concordatlaw09.ValueChecks", spec := "valueChecks", unfollowed := true, recurses := true, loops := true, apart := false }
def ValueChecksSaid : Prop := valueChecksRow.holds Try.pinned (OpenSpec.ofChange valueChecksSpec)

/-- ITS FALSE NEIGHBOUR: 'it returns false'. Refute it at one input. -/
def valueChecksWrong : ChangeSpec := { name := "valueChecks", fn := fun _ => fun
  | [d1, d2] => { results := [.lit (.bool false)], args := [d1, d2] }
  | _ => none }
def ValueChecksWrongFalsely : Prop := valueChecksRow.holds Try.pinned (OpenSpec.ofChange valueChecksWrong)

/-- 'concordatlaw09.ValueAsserts': WHATEVER THE INPUT: true; the input reads as it did. -/
def valueAssertsSpec : ChangeSpec := { name := "valueAsserts", fn := fun _ => fun
  | [d] => { results := [.lit (.bool true)], args := [d] }
  | _ => none }
def valueAssertsRow : OpenClaim := { program := "ytmeplhcfjihafaa", sum := "614f7eade96283438ed183d576f4a8106413f9e3a768000bc5cd943b514aff1b", func := "concordat/concordatlaw09.ValueAsserts", spec := "valueAsserts", unfollowed := true, recurses := true, loops := true, apart := false }
def ValueAssertsSaid : Prop := valueAssertsRow.holds Try.pinned (OpenSpec.ofChange valueAssertsSpec)

/-- ITS FALSE NEIGHBOUR: 'it returns false'. Refute it at one input. -/
def valueAssertsWrong : ChangeSpec := { name := "valueAsserts", fn := fun _ => fun
  | [d] => { results := [.lit (.bool false)], args := [d] }
  | _ => none }
def ValueAssertsWrongFalsely : Prop := valueAssertsRow.holds Try.pinned (OpenSpec.ofChange valueAssertsWrong)

/-- 'concordatlaw09.ValueLeaves': WHATEVER THE INPUT: true; the input reads as it did. -/
def valueLeavesSpec : ChangeSpec := { name := "valueLeaves", fn := fun _ => fun
  | [d1, d2] => { results := [.lit (.bool true)], args := [d1, d2] }
  | _ => none }
def valueLeavesRow : OpenClaim := { program := "ytmeplhcfjihafaa", sum := "614f7eade96283438ed183d576f4a8106413f9e3a768000bc5cd943b514aff1b", func := "concordat/concordatlaw09.ValueLeaves", spec := "valueLeaves", unfollowed := true, recurses := true, apart := false }
def ValueLeavesSaid : Prop := valueLeavesRow.holds Try.pinned (OpenSpec.ofChange valueLeavesSpec)

/-- ITS FALSE NEIGHBOUR: 'it returns false'. Refute it at one input. -/
def valueLeavesWrong : ChangeSpec := { name := "valueLeaves", fn := fun _ => fun
  | [d1, d2] => { results := [.lit (.bool false)], args := [d1, d2] }
  | _ => none }
def ValueLeavesWrongFalsely : Prop := valueLeavesRow.holds Try.pinned (OpenSpec.ofChange valueLeavesWrong)

/-- 'concordatlaw09.ValueDepths': WHATEVER THE INPUT: true; the input reads as it did. -/
def valueDepthsSpec : ChangeSpec := { name := "valueDepths", fn := fun _ => fun
  | [d] => { results := [.lit (.bool true)], args := [d] }
  | _ => none }
def valueDepthsRow : OpenClaim := { program := "ytmeplhcfjihafaa", sum := "614f7eade96283438ed183d576f4a8106413f9e3a768000bc5cd943b514aff1b", func := "concordat/concordatlaw09.ValueDepths", spec := "valueDepths", unfollowed := true, recurses := true, apart := false }
def ValueDepthsSaid : Prop := valueDepthsRow.holds Try.pinned (OpenSpec.ofChange valueDepthsSpec)

/-- ITS FALSE NEIGHBOUR: 'it returns false'. Refute it at one input. -/
def valueDepthsWrong : ChangeSpec := { name := "valueDepths", fn := fun _ => fun
  | [d] => { results := [.lit (.bool false)], args := [d] }
  | _ => none }
def ValueDepthsWrongFalsely : Prop := valueDepthsRow.holds Try.pinned (OpenSpec.ofChange valueDepthsWrong)

/-- 'concordatlaw09.ValueBack': WHATEVER THE INPUT: true; the input reads as it did. -/
def valueBackSpec : ChangeSpec := { name := "valueBack", fn := fun _ => fun
  | [d] => { results := [.lit (.bool true)], args := [d] }
  | _ => none }
def valueBackRow : OpenClaim := { program := "ytmeplhcfjihafaa", sum := "614f7eade96283438ed183d576f4a8106413f9e3a768000bc5cd943b514aff1b", func := "concordat/concordatlaw09.ValueBack", spec := "valueBack", unfollowed := true, recurses := true, loops := true, apart := false }
def ValueBackSaid : Prop := valueBackRow.holds Try.pinned (OpenSpec.ofChange valueBackSpec)

/-- ITS FALSE NEIGHBOUR: 'it returns false'. Refute it at one input. -/
def valueBackWrong : ChangeSpec := { name := "valueBack", fn := fun _ => fun
  | [d] => { results := [.lit (.bool false)], args := [d] }
  | _ => none }
def ValueBackWrongFalsely : Prop := valueBackRow.holds Try.pinned (OpenSpec.ofChange valueBackWrong)

/-- 'concordatlaw09.ValueApart': WHATEVER THE INPUT: true; the input reads as it did. -/
def valueApartSpec : ChangeSpec := { name := "valueApart", fn := fun _ => fun
  | [d] => { results := [.lit (.bool true)], args := [d] }
  | _ => none }
def valueApartRow : OpenClaim := { program := "ytmeplhcfjihafaa", sum := "614f7eade96283438ed183d576f4a8106413f9e3a768000bc5cd943b514aff1b", func := "concordat/concordatlaw09.ValueApart", spec := "valueApart", unfollowed := true, recurses := true, loops := true, apart := false }
def ValueApartSaid : Prop := valueApartRow.holds Try.pinned (OpenSpec.ofChange valueApartSpec)

/-- ITS FALSE NEIGHBOUR: 'it returns false'. Refute it at one input. -/
def valueApartWrong : ChangeSpec := { name := "valueApart", fn := fun _ => fun
  | [d] => { results := [.lit (.bool false)], args := [d] }
  | _ => none }
def ValueApartWrongFalsely : Prop := valueApartRow.holds Try.pinned (OpenSpec.ofChange valueApartWrong)

/-- 'concordatlaw09.ValueNodes': WHATEVER THE INPUT: true; the input reads as it did. -/
def valueNodesSpec : ChangeSpec := { name := "valueNodes", fn := fun _ => fun
  | [d1, d2] => { results := [.lit (.bool true)], args := [d1, d2] }
  | _ => none }
def valueNodesRow : OpenClaim := { program := "ytmeplhcfjihafaa", sum := "614f7eade96283438ed183d576f4a8106413f9e3a768000bc5cd943b514aff1b", func := "concordat/concordatlaw09.ValueNodes", spec := "valueNodes", unfollowed := true, recurses := true, loops := true, apart := false }
def ValueNodesSaid : Prop := valueNodesRow.holds Try.pinned (OpenSpec.ofChange valueNodesSpec)

/-- ITS FALSE NEIGHBOUR: 'it returns false'. Refute it at one input. -/
def valueNodesWrong : ChangeSpec := { name := "valueNodes", fn := fun _ => fun
  | [d1, d2] => { results := [.lit (.bool false)], args := [d1, d2] }
  | _ => none }
def ValueNodesWrongFalsely : Prop := valueNodesRow.holds Try.pinned (OpenSpec.ofChange valueNodesWrong)

/-- 'concordatlaw11.EncodeFlat': WHATEVER THE INPUT: true; the input reads as it did. -/
def encodeFlatSpec : ChangeSpec := { name := "encodeFlat", fn := fun _ => fun
  | [d1, d2] => { results := [.lit (.bool true)], args := [d1, d2] }
  | _ => none }
def encodeFlatRow : OpenClaim := { program := "ytmeplhcfjihafaa", sum := "614f7eade96283438ed183d576f4a8106413f9e3a768000bc5cd943b514aff1b", func := "concordat/concordatlaw11.EncodeFlat", spec := "encodeFlat", recurses := true, loops := true, apart := false }
def EncodeFlatSaid : Prop := encodeFlatRow.holds Try.pinned (OpenSpec.ofChange encodeFlatSpec)

/-- ITS FALSE NEIGHBOUR: 'it returns false'. Refute it at one input. -/
def encodeFlatWrong : ChangeSpec := { name := "encodeFlat", fn := fun _ => fun
  | [d1, d2] => { results := [.lit (.bool false)], args := [d1, d2] }
  | _ => none }
def EncodeFlatWrongFalsely : Prop := encodeFlatRow.holds Try.pinned (OpenSpec.ofChange encodeFlatWrong)

/-- 'concordatlaw11.EncodeJoins': WHATEVER THE INPUT: true; the input reads as it did. -/
def encodeJoinsSpec : ChangeSpec := { name := "encodeJoins", fn := fun _ => fun
  | [d1, d2] => { results := [.lit (.bool true)], args := [d1, d2] }
  | _ => none }
def encodeJoinsRow : OpenClaim := { program := "ytmeplhcfjihafaa", sum := "614f7eade96283438ed183d576f4a8106413f9e3a768000bc5cd943b514aff1b", func := "concordat/concordatlaw11.EncodeJoins", spec := "encodeJoins", recurses := true, loops := true, apart := false }
def EncodeJoinsSaid : Prop := encodeJoinsRow.holds Try.pinned (OpenSpec.ofChange encodeJoinsSpec)

/-- ITS FALSE NEIGHBOUR: 'it returns false'. Refute it at one input. -/
def encodeJoinsWrong : ChangeSpec := { name := "encodeJoins", fn := fun _ => fun
  | [d1, d2] => { results := [.lit (.bool false)], args := [d1, d2] }
  | _ => none }
def EncodeJoinsWrongFalsely : Prop := encodeJoinsRow.holds Try.pinned (OpenSpec.ofChange encodeJoinsWrong)

/-- 'concordatlaw11.EncodeRest': WHATEVER THE INPUT: true; the input reads as it did. -/
def encodeRestSpec : ChangeSpec := { name := "encodeRest", fn := fun _ => fun
  | [d] => { results := [.lit (.bool true)], args := [d] }
  | _ => none }
def encodeRestRow : OpenClaim := { program := "ytmeplhcfjihafaa", sum := "614f7eade96283438ed183d576f4a8106413f9e3a768000bc5cd943b514aff1b", func := "concordat/concordatlaw11.EncodeRest", spec := "encodeRest", recurses := true, loops := true, apart := false }
def EncodeRestSaid : Prop := encodeRestRow.holds Try.pinned (OpenSpec.ofChange encodeRestSpec)

/-- ITS FALSE NEIGHBOUR: 'it returns false'. Refute it at one input. -/
def encodeRestWrong : ChangeSpec := { name := "encodeRest", fn := fun _ => fun
  | [d] => { results := [.lit (.bool false)], args := [d] }
  | _ => none }
def EncodeRestWrongFalsely : Prop := encodeRestRow.holds Try.pinned (OpenSpec.ofChange encodeRestWrong)

/-- 'concordatlaw11.EncodeAll': WHATEVER THE INPUT: true; the input reads as it did. -/
def encodeAllSpec : ChangeSpec := { name := "encodeAll", fn := fun _ => fun
  | [d] => { results := [.lit (.bool true)], args := [d] }
  | _ => none }
def encodeAllRow : OpenClaim := { program := "ytmeplhcfjihafaa", sum := "614f7eade96283438ed183d576f4a8106413f9e3a768000bc5cd943b514aff1b", func := "concordat/concordatlaw11.EncodeAll", spec := "encodeAll", recurses := true, loops := true, apart := false }
def EncodeAllSaid : Prop := encodeAllRow.holds Try.pinned (OpenSpec.ofChange encodeAllSpec)

/-- ITS FALSE NEIGHBOUR: 'it returns false'. Refute it at one input. -/
def encodeAllWrong : ChangeSpec := { name := "encodeAll", fn := fun _ => fun
  | [d] => { results := [.lit (.bool false)], args := [d] }
  | _ => none }
def EncodeAllWrongFalsely : Prop := encodeAllRow.holds Try.pinned (OpenSpec.ofChange encodeAllWrong)

/-- 'concordatlaw11.EncodeBig': WHATEVER THE INPUT: true; the input reads as it did. -/
def encodeBigSpec : ChangeSpec := { name := "encodeBig", fn := fun _ => fun
  | [] => { results := [.lit (.bool true)], args := [] }
  | _ => none }
def encodeBigRow : OpenClaim := { program := "ytmeplhcfjihafaa", sum := "614f7eade96283438ed183d576f4a8106413f9e3a768000bc5cd943b514aff1b", func := "concordat/concordatlaw11.EncodeBig", spec := "encodeBig", unfollowed := true, recurses := true, apart := false }
def EncodeBigSaid : Prop := encodeBigRow.holds Try.pinned (OpenSpec.ofChange encodeBigSpec)

/-- ITS FALSE NEIGHBOUR: 'it returns false'. Refute it at one input. -/
def encodeBigWrong : ChangeSpec := { name := "encodeBig", fn := fun _ => fun
  | [] => { results := [.lit (.bool false)], args := [] }
  | _ => none }
def EncodeBigWrongFalsely : Prop := encodeBigRow.holds Try.pinned (OpenSpec.ofChange encodeBigWrong)

/-- 'concordatlaw11.EncodeRises': WHATEVER THE INPUT: true; the input reads as it did. -/
def encodeRisesSpec : ChangeSpec := { name := "encodeRises", fn := fun _ => fun
  | [d] => { results := [.lit (.bool true)], args := [d] }
  | _ => none }
def encodeRisesRow : OpenClaim := { program := "ytmeplhcfjihafaa", sum := "614f7eade96283438ed183d576f4a8106413f9e3a768000bc5cd943b514aff1b", func := "concordat/concordatlaw11.EncodeRises", spec := "encodeRises", recurses := true, loops := true, apart := false }
def EncodeRisesSaid : Prop := encodeRisesRow.holds Try.pinned (OpenSpec.ofChange encodeRisesSpec)

/-- ITS FALSE NEIGHBOUR: 'it returns false'. Refute it at one input. -/
def encodeRisesWrong : ChangeSpec := { name := "encodeRises", fn := fun _ => fun
  | [d] => { results := [.lit (.bool false)], args := [d] }
  | _ => none }
def EncodeRisesWrongFalsely : Prop := encodeRisesRow.holds Try.pinned (OpenSpec.ofChange encodeRisesWrong)

/- THE SECOND FORM. 'bulk': how many values and letters a reading holds, each counted each time it is reached (what is shared counts as often as it is met; a slice's spare places count too). A statement '..UptoSaid' is the law's where the arguments, and the package variables that the reading takes, are together of bulk at most 1048576: NARROWER than '..Said'. Prove '..Said' where nothing that the law and all that it calls make is longer than what came in: it says more and counts as full. Else prove '..UptoSaid'. A law counts once. -/
mutual
def uptoBulk {H : Type} : DataW H → Nat
  | .lit (.string bytes) => bytes.length + 1
  | .lit _ => 1
  | .nil => 1
  | .ptr d => uptoBulk d + 1
  | .slice elems spare => uptoBulkAll elems + uptoBulkAll spare + 1
  | .agg parts => uptoBulkAll parts + 1
  | .iface _ d => uptoBulk d + 1
  | .map entries => uptoBulkEntries entries + 1
  | .held _ => 1
def uptoBulkAll {H : Type} : List (DataW H) → Nat
  | [] => 0
  | d :: r => uptoBulk d + uptoBulkAll r
def uptoBulkEntries {H : Type} : List (Lit × DataW H) → Nat
  | [] => 0
  | x :: r => uptoBulkEntry x + uptoBulkEntries r
def uptoBulkEntry {H : Type} : Lit × DataW H → Nat
  | (.string bytes, d) => bytes.length + uptoBulk d + 1
  | (_, d) => uptoBulk d + 1
 end
def uptoSmall : (H : Type) → List (DataW H) → Bool := fun _ ds => decide (uptoBulkAll ds ≤ 1048576)
def OpenSpec.upto (s : _root_.Go.ChangeSpec) : _root_.Go.OpenSpec := { _root_.Go.OpenSpec.ofChange s with cond := some uptoSmall }

/-- 'concordatlaw04.WireStable', WHERE WHAT IT READS IS OF BULK AT MOST 1048576: true; the input reads as it did. -/
def wireStableUptoRow : OpenClaim := { program := "ytmeplhcfjihafaa", sum := "614f7eade96283438ed183d576f4a8106413f9e3a768000bc5cd943b514aff1b", func := "concordat/concordatlaw04.WireStable", spec := "wireStable", apart := false, narrowed := true }
def WireStableUptoSaid : Prop := wireStableUptoRow.holds Try.pinned (OpenSpec.upto wireStableSpec)

/-- 'concordatlaw04.WirePuts', WHERE WHAT IT READS IS OF BULK AT MOST 1048576: true; the input reads as it did. -/
def wirePutsUptoRow : OpenClaim := { program := "ytmeplhcfjihafaa", sum := "614f7eade96283438ed183d576f4a8106413f9e3a768000bc5cd943b514aff1b", func := "concordat/concordatlaw04.WirePuts", spec := "wirePuts", apart := false, narrowed := true }
def WirePutsUptoSaid : Prop := wirePutsUptoRow.holds Try.pinned (OpenSpec.upto wirePutsSpec)

/-- 'concordatlaw04.WireJoins', WHERE WHAT IT READS IS OF BULK AT MOST 1048576: true; the input reads as it did. -/
def wireJoinsUptoRow : OpenClaim := { program := "ytmeplhcfjihafaa", sum := "614f7eade96283438ed183d576f4a8106413f9e3a768000bc5cd943b514aff1b", func := "concordat/concordatlaw04.WireJoins", spec := "wireJoins", apart := false, narrowed := true }
def WireJoinsUptoSaid : Prop := wireJoinsUptoRow.holds Try.pinned (OpenSpec.upto wireJoinsSpec)

/-- 'concordatlaw04.WireSorts', WHERE WHAT IT READS IS OF BULK AT MOST 1048576: true; the input reads as it did. -/
def wireSortsUptoRow : OpenClaim := { program := "ytmeplhcfjihafaa", sum := "614f7eade96283438ed183d576f4a8106413f9e3a768000bc5cd943b514aff1b", func := "concordat/concordatlaw04.WireSorts", spec := "wireSorts", apart := false, narrowed := true }
def WireSortsUptoSaid : Prop := wireSortsUptoRow.holds Try.pinned (OpenSpec.upto wireSortsSpec)

/-- 'concordatlaw04.WireBack', WHERE WHAT IT READS IS OF BULK AT MOST 1048576: true; the input reads as it did. -/
def wireBackUptoRow : OpenClaim := { program := "ytmeplhcfjihafaa", sum := "614f7eade96283438ed183d576f4a8106413f9e3a768000bc5cd943b514aff1b", func := "concordat/concordatlaw04.WireBack", spec := "wireBack", apart := false, narrowed := true }
def WireBackUptoSaid : Prop := wireBackUptoRow.holds Try.pinned (OpenSpec.upto wireBackSpec)

/-- 'concordatlaw04.WireCuts', WHERE WHAT IT READS IS OF BULK AT MOST 1048576: true; the input reads as it did. -/
def wireCutsUptoRow : OpenClaim := { program := "ytmeplhcfjihafaa", sum := "614f7eade96283438ed183d576f4a8106413f9e3a768000bc5cd943b514aff1b", func := "concordat/concordatlaw04.WireCuts", spec := "wireCuts", apart := false, narrowed := true }
def WireCutsUptoSaid : Prop := wireCutsUptoRow.holds Try.pinned (OpenSpec.upto wireCutsSpec)

/-- 'concordatlaw04.WireLimits', WHERE WHAT IT READS IS OF BULK AT MOST 1048576: true; the input reads as it did. -/
def wireLimitsUptoRow : OpenClaim := { program := "ytmeplhcfjihafaa", sum := "614f7eade96283438ed183d576f4a8106413f9e3a768000bc5cd943b514aff1b", func := "concordat/concordatlaw04.WireLimits", spec := "wireLimits", apart := false, narrowed := true }
def WireLimitsUptoSaid : Prop := wireLimitsUptoRow.holds Try.pinned (OpenSpec.upto wireLimitsSpec)

/-- 'concordatlaw09.ValueSame', WHERE WHAT IT READS IS OF BULK AT MOST 1048576: true; the input reads as it did. -/
def valueSameUptoRow : OpenClaim := { program := "ytmeplhcfjihafaa", sum := "614f7eade96283438ed183d576f4a8106413f9e3a768000bc5cd943b514aff1b", func := "concordat/concordatlaw09.ValueSame", spec := "valueSame", unfollowed := true, recurses := true, loops := true, apart := false, narrowed := true }
def ValueSameUptoSaid : Prop := valueSameUptoRow.holds Try.pinned (OpenSpec.upto valueSameSpec)

/-- 'concordatlaw09.ValueChecks', WHERE WHAT IT READS IS OF BULK AT MOST 1048576: true; the input reads as it did. -/
def valueChecksUptoRow : OpenClaim := { program := "ytmeplhcfjihafaa", sum := "614f7eade96283438ed183d576f4a8106413f9e3a768000bc5cd943b514aff1b", func := "concordat/concordatlaw09.ValueChecks", spec := "valueChecks", unfollowed := true, recurses := true, loops := true, apart := false, narrowed := true }
def ValueChecksUptoSaid : Prop := valueChecksUptoRow.holds Try.pinned (OpenSpec.upto valueChecksSpec)

/-- 'concordatlaw09.ValueAsserts', WHERE WHAT IT READS IS OF BULK AT MOST 1048576: true; the input reads as it did. -/
def valueAssertsUptoRow : OpenClaim := { program := "ytmeplhcfjihafaa", sum := "614f7eade96283438ed183d576f4a8106413f9e3a768000bc5cd943b514aff1b", func := "concordat/concordatlaw09.ValueAsserts", spec := "valueAsserts", unfollowed := true, recurses := true, loops := true, apart := false, narrowed := true }
def ValueAssertsUptoSaid : Prop := valueAssertsUptoRow.holds Try.pinned (OpenSpec.upto valueAssertsSpec)

/-- 'concordatlaw09.ValueLeaves', WHERE WHAT IT READS IS OF BULK AT MOST 1048576: true; the input reads as it did. -/
def valueLeavesUptoRow : OpenClaim := { program := "ytmeplhcfjihafaa", sum := "614f7eade96283438ed183d576f4a8106413f9e3a768000bc5cd943b514aff1b", func := "concordat/concordatlaw09.ValueLeaves", spec := "valueLeaves", unfollowed := true, recurses := true, apart := false, narrowed := true }
def ValueLeavesUptoSaid : Prop := valueLeavesUptoRow.holds Try.pinned (OpenSpec.upto valueLeavesSpec)

/-- 'concordatlaw09.ValueDepths', WHERE WHAT IT READS IS OF BULK AT MOST 1048576: true; the input reads as it did. -/
def valueDepthsUptoRow : OpenClaim := { program := "ytmeplhcfjihafaa", sum := "614f7eade96283438ed183d576f4a8106413f9e3a768000bc5cd943b514aff1b", func := "concordat/concordatlaw09.ValueDepths", spec := "valueDepths", unfollowed := true, recurses := true, apart := false, narrowed := true }
def ValueDepthsUptoSaid : Prop := valueDepthsUptoRow.holds Try.pinned (OpenSpec.upto valueDepthsSpec)

/-- 'concordatlaw09.ValueBack', WHERE WHAT IT READS IS OF BULK AT MOST 1048576: true; the input reads as it did. -/
def valueBackUptoRow : OpenClaim := { program := "ytmeplhcfjihafaa", sum := "614f7eade96283438ed183d576f4a8106413f9e3a768000bc5cd943b514aff1b", func := "concordat/concordatlaw09.ValueBack", spec := "valueBack", unfollowed := true, recurses := true, loops := true, apart := false, narrowed := true }
def ValueBackUptoSaid : Prop := valueBackUptoRow.holds Try.pinned (OpenSpec.upto valueBackSpec)

/-- 'concordatlaw09.ValueApart', WHERE WHAT IT READS IS OF BULK AT MOST 1048576: true; the input reads as it did. -/
def valueApartUptoRow : OpenClaim := { program := "ytmeplhcfjihafaa", sum := "614f7eade96283438ed183d576f4a8106413f9e3a768000bc5cd943b514aff1b", func := "concordat/concordatlaw09.ValueApart", spec := "valueApart", unfollowed := true, recurses := true, loops := true, apart := false, narrowed := true }
def ValueApartUptoSaid : Prop := valueApartUptoRow.holds Try.pinned (OpenSpec.upto valueApartSpec)

/-- 'concordatlaw09.ValueNodes', WHERE WHAT IT READS IS OF BULK AT MOST 1048576: true; the input reads as it did. -/
def valueNodesUptoRow : OpenClaim := { program := "ytmeplhcfjihafaa", sum := "614f7eade96283438ed183d576f4a8106413f9e3a768000bc5cd943b514aff1b", func := "concordat/concordatlaw09.ValueNodes", spec := "valueNodes", unfollowed := true, recurses := true, loops := true, apart := false, narrowed := true }
def ValueNodesUptoSaid : Prop := valueNodesUptoRow.holds Try.pinned (OpenSpec.upto valueNodesSpec)

/-- 'concordatlaw11.EncodeFlat', WHERE WHAT IT READS IS OF BULK AT MOST 1048576: true; the input reads as it did. -/
def encodeFlatUptoRow : OpenClaim := { program := "ytmeplhcfjihafaa", sum := "614f7eade96283438ed183d576f4a8106413f9e3a768000bc5cd943b514aff1b", func := "concordat/concordatlaw11.EncodeFlat", spec := "encodeFlat", recurses := true, loops := true, apart := false, narrowed := true }
def EncodeFlatUptoSaid : Prop := encodeFlatUptoRow.holds Try.pinned (OpenSpec.upto encodeFlatSpec)

/-- 'concordatlaw11.EncodeJoins', WHERE WHAT IT READS IS OF BULK AT MOST 1048576: true; the input reads as it did. -/
def encodeJoinsUptoRow : OpenClaim := { program := "ytmeplhcfjihafaa", sum := "614f7eade96283438ed183d576f4a8106413f9e3a768000bc5cd943b514aff1b", func := "concordat/concordatlaw11.EncodeJoins", spec := "encodeJoins", recurses := true, loops := true, apart := false, narrowed := true }
def EncodeJoinsUptoSaid : Prop := encodeJoinsUptoRow.holds Try.pinned (OpenSpec.upto encodeJoinsSpec)

/-- 'concordatlaw11.EncodeRest', WHERE WHAT IT READS IS OF BULK AT MOST 1048576: true; the input reads as it did. -/
def encodeRestUptoRow : OpenClaim := { program := "ytmeplhcfjihafaa", sum := "614f7eade96283438ed183d576f4a8106413f9e3a768000bc5cd943b514aff1b", func := "concordat/concordatlaw11.EncodeRest", spec := "encodeRest", recurses := true, loops := true, apart := false, narrowed := true }
def EncodeRestUptoSaid : Prop := encodeRestUptoRow.holds Try.pinned (OpenSpec.upto encodeRestSpec)

/-- 'concordatlaw11.EncodeAll', WHERE WHAT IT READS IS OF BULK AT MOST 1048576: true; the input reads as it did. -/
def encodeAllUptoRow : OpenClaim := { program := "ytmeplhcfjihafaa", sum := "614f7eade96283438ed183d576f4a8106413f9e3a768000bc5cd943b514aff1b", func := "concordat/concordatlaw11.EncodeAll", spec := "encodeAll", recurses := true, loops := true, apart := false, narrowed := true }
def EncodeAllUptoSaid : Prop := encodeAllUptoRow.holds Try.pinned (OpenSpec.upto encodeAllSpec)

/-- 'concordatlaw11.EncodeBig', WHERE WHAT IT READS IS OF BULK AT MOST 1048576: true; the input reads as it did. -/
def encodeBigUptoRow : OpenClaim := { program := "ytmeplhcfjihafaa", sum := "614f7eade96283438ed183d576f4a8106413f9e3a768000bc5cd943b514aff1b", func := "concordat/concordatlaw11.EncodeBig", spec := "encodeBig", unfollowed := true, recurses := true, apart := false, narrowed := true }
def EncodeBigUptoSaid : Prop := encodeBigUptoRow.holds Try.pinned (OpenSpec.upto encodeBigSpec)

/-- 'concordatlaw11.EncodeRises', WHERE WHAT IT READS IS OF BULK AT MOST 1048576: true; the input reads as it did. -/
def encodeRisesUptoRow : OpenClaim := { program := "ytmeplhcfjihafaa", sum := "614f7eade96283438ed183d576f4a8106413f9e3a768000bc5cd943b514aff1b", func := "concordat/concordatlaw11.EncodeRises", spec := "encodeRises", recurses := true, loops := true, apart := false, narrowed := true }
def EncodeRisesUptoSaid : Prop := encodeRisesUptoRow.holds Try.pinned (OpenSpec.upto encodeRisesSpec)

end Rows
end Go.Proofs.Ytmeplhcfjihafaa
