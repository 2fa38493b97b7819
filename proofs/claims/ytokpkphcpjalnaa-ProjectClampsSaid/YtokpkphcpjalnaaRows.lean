/-
  No cell of these rows narrows 'for every input' (looked for: loops, veiled, ifaces, maps, wideKeys, modest, calm, conditions, laid).
  DERIVED. THE GIVEN ROWS OF THIS SEAT. 8 by the template 'for every input the law returns true; each argument reads behind the call as it read before'; 0 by the template 'total and deterministic' (their statements: YtokpkphcpjalnaaTotals.lean).
  GIVEN WITH THE SEED: the statements are not yours to turn. If you find one false, say at which input.
  Laid BY PROGRAM, IN A SANDBOX (cutbox-rows.mjs): the forced cells as the released guide's own fill.sh prints them over the translation fa503665e30ddc52… (all of the seat's roots in one cut). By AI agents, Wed Nov 11 2026. No macro, syntax, notation, axiom, sorry.
-/
import Derived.Test.YtokpkphcpjalnaaChecked
import GoSem.Claim
import GoSem.ClaimJoined
import GoSem.ClaimMapViews
import Derived.JoinedTies
import Derived.KernelRfl
namespace Go.Proofs.Ytokpkphcpjalnaa
/- THE CELL 'sum', in the pinned program and in every row, IS THE sha256 OF THE DUMP (.gsa) THAT YtokpkphcpjalnaaProg.lean LOADS. Nothing in Lean hashes anything: it is a label: what it is worth is what the hold of that sum in a sandbox is worth. -/
noncomputable def Try.pinned : Pinned := { name := "ytokpkphcpjalnaa", sum := "fa503665e30ddc527df5b2aff3eb977ce9372890908ea625dbf3bc17153bf1ba", checked := Try.checked }
namespace Rows
def none {H : Type} : Left H := { results := [], args := [] }

/-- 'concordatlaw13.ProjectClamps': WHATEVER THE INPUT: true; the input reads as it did. -/
def projectClampsSpec : ChangeSpec := { name := "projectClamps", fn := fun _ => fun
  | [d1, d2] => { results := [.lit (.bool true)], args := [d1, d2] }
  | _ => none }
def projectClampsRow : OpenClaim := { program := "ytokpkphcpjalnaa", sum := "fa503665e30ddc527df5b2aff3eb977ce9372890908ea625dbf3bc17153bf1ba", func := "concordat/concordatlaw13.ProjectClamps", spec := "projectClamps", apart := false }
def ProjectClampsSaid : Prop := projectClampsRow.holds Try.pinned (OpenSpec.ofChange projectClampsSpec)

/-- ITS FALSE NEIGHBOUR: 'it returns false'. Refute it at one input. -/
def projectClampsWrong : ChangeSpec := { name := "projectClamps", fn := fun _ => fun
  | [d1, d2] => { results := [.lit (.bool false)], args := [d1, d2] }
  | _ => none }
def ProjectClampsWrongFalsely : Prop := projectClampsRow.holds Try.pinned (OpenSpec.ofChange projectClampsWrong)

/-- 'concordatlaw04.WireStable': WHATEVER THE INPUT: true; the input reads as it did. -/
def wireStableSpec : ChangeSpec := { name := "wireStable", fn := fun _ => fun
  | [d1, d2] => { results := [.lit (.bool true)], args := [d1, d2] }
  | _ => none }
def wireStableRow : OpenClaim := { program := "ytokpkphcpjalnaa", sum := "fa503665e30ddc527df5b2aff3eb977ce9372890908ea625dbf3bc17153bf1ba", func := "concordat/concordatlaw04.WireStable", spec := "wireStable", apart := false }
def WireStableSaid : Prop := wireStableRow.holds Try.pinned (OpenSpec.ofChange wireStableSpec)

/-- ITS FALSE NEIGHBOUR: 'it returns false'. Refute it at one input. -/
def wireStableWrong : ChangeSpec := { name := "wireStable", fn := fun _ => fun
  | [d1, d2] => { results := [.lit (.bool false)], args := [d1, d2] }
  | _ => none }
def WireStableWrongFalsely : Prop := wireStableRow.holds Try.pinned (OpenSpec.ofChange wireStableWrong)

/-- 'concordatlaw04.WirePuts': WHATEVER THE INPUT: true; the input reads as it did. -/
def wirePutsSpec : ChangeSpec := { name := "wirePuts", fn := fun _ => fun
  | [d1, d2, d3] => { results := [.lit (.bool true)], args := [d1, d2, d3] }
  | _ => none }
def wirePutsRow : OpenClaim := { program := "ytokpkphcpjalnaa", sum := "fa503665e30ddc527df5b2aff3eb977ce9372890908ea625dbf3bc17153bf1ba", func := "concordat/concordatlaw04.WirePuts", spec := "wirePuts", apart := false }
def WirePutsSaid : Prop := wirePutsRow.holds Try.pinned (OpenSpec.ofChange wirePutsSpec)

/-- ITS FALSE NEIGHBOUR: 'it returns false'. Refute it at one input. -/
def wirePutsWrong : ChangeSpec := { name := "wirePuts", fn := fun _ => fun
  | [d1, d2, d3] => { results := [.lit (.bool false)], args := [d1, d2, d3] }
  | _ => none }
def WirePutsWrongFalsely : Prop := wirePutsRow.holds Try.pinned (OpenSpec.ofChange wirePutsWrong)

/-- 'concordatlaw04.WireJoins': WHATEVER THE INPUT: true; the input reads as it did. -/
def wireJoinsSpec : ChangeSpec := { name := "wireJoins", fn := fun _ => fun
  | [d1, d2] => { results := [.lit (.bool true)], args := [d1, d2] }
  | _ => none }
def wireJoinsRow : OpenClaim := { program := "ytokpkphcpjalnaa", sum := "fa503665e30ddc527df5b2aff3eb977ce9372890908ea625dbf3bc17153bf1ba", func := "concordat/concordatlaw04.WireJoins", spec := "wireJoins", apart := false }
def WireJoinsSaid : Prop := wireJoinsRow.holds Try.pinned (OpenSpec.ofChange wireJoinsSpec)

/-- ITS FALSE NEIGHBOUR: 'it returns false'. Refute it at one input. -/
def wireJoinsWrong : ChangeSpec := { name := "wireJoins", fn := fun _ => fun
  | [d1, d2] => { results := [.lit (.bool false)], args := [d1, d2] }
  | _ => none }
def WireJoinsWrongFalsely : Prop := wireJoinsRow.holds Try.pinned (OpenSpec.ofChange wireJoinsWrong)

/-- 'concordatlaw04.WireSorts': WHATEVER THE INPUT: true; the input reads as it did. -/
def wireSortsSpec : ChangeSpec := { name := "wireSorts", fn := fun _ => fun
  | [d] => { results := [.lit (.bool true)], args := [d] }
  | _ => none }
def wireSortsRow : OpenClaim := { program := "ytokpkphcpjalnaa", sum := "fa503665e30ddc527df5b2aff3eb977ce9372890908ea625dbf3bc17153bf1ba", func := "concordat/concordatlaw04.WireSorts", spec := "wireSorts", apart := false }
def WireSortsSaid : Prop := wireSortsRow.holds Try.pinned (OpenSpec.ofChange wireSortsSpec)

/-- ITS FALSE NEIGHBOUR: 'it returns false'. Refute it at one input. -/
def wireSortsWrong : ChangeSpec := { name := "wireSorts", fn := fun _ => fun
  | [d] => { results := [.lit (.bool false)], args := [d] }
  | _ => none }
def WireSortsWrongFalsely : Prop := wireSortsRow.holds Try.pinned (OpenSpec.ofChange wireSortsWrong)

/-- 'concordatlaw04.WireBack': WHATEVER THE INPUT: true; the input reads as it did. -/
def wireBackSpec : ChangeSpec := { name := "wireBack", fn := fun _ => fun
  | [d1, d2] => { results := [.lit (.bool true)], args := [d1, d2] }
  | _ => none }
def wireBackRow : OpenClaim := { program := "ytokpkphcpjalnaa", sum := "fa503665e30ddc527df5b2aff3eb977ce9372890908ea625dbf3bc17153bf1ba", func := "concordat/concordatlaw04.WireBack", spec := "wireBack", apart := false }
def WireBackSaid : Prop := wireBackRow.holds Try.pinned (OpenSpec.ofChange wireBackSpec)

/-- ITS FALSE NEIGHBOUR: 'it returns false'. Refute it at one input. -/
def wireBackWrong : ChangeSpec := { name := "wireBack", fn := fun _ => fun
  | [d1, d2] => { results := [.lit (.bool false)], args := [d1, d2] }
  | _ => none }
def WireBackWrongFalsely : Prop := wireBackRow.holds Try.pinned (OpenSpec.ofChange wireBackWrong)

/-- 'concordatlaw04.WireCuts': WHATEVER THE INPUT: true; the input reads as it did. -/
def wireCutsSpec : ChangeSpec := { name := "wireCuts", fn := fun _ => fun
  | [d1, d2] => { results := [.lit (.bool true)], args := [d1, d2] }
  | _ => none }
def wireCutsRow : OpenClaim := { program := "ytokpkphcpjalnaa", sum := "fa503665e30ddc527df5b2aff3eb977ce9372890908ea625dbf3bc17153bf1ba", func := "concordat/concordatlaw04.WireCuts", spec := "wireCuts", apart := false }
def WireCutsSaid : Prop := wireCutsRow.holds Try.pinned (OpenSpec.ofChange wireCutsSpec)

/-- ITS FALSE NEIGHBOUR: 'it returns false'. Refute it at one input. -/
def wireCutsWrong : ChangeSpec := { name := "wireCuts", fn := fun _ => fun
  | [d1, d2] => { results := [.lit (.bool false)], args := [d1, d2] }
  | _ => none }
def WireCutsWrongFalsely : Prop := wireCutsRow.holds Try.pinned (OpenSpec.ofChange wireCutsWrong)

/-- 'concordatlaw04.WireLimits': WHATEVER THE INPUT: true; the input reads as it did. -/
def wireLimitsSpec : ChangeSpec := { name := "wireLimits", fn := fun _ => fun
  | [] => { results := [.lit (.bool true)], args := [] }
  | _ => none }
def wireLimitsRow : OpenClaim := { program := "ytokpkphcpjalnaa", sum := "fa503665e30ddc527df5b2aff3eb977ce9372890908ea625dbf3bc17153bf1ba", func := "concordat/concordatlaw04.WireLimits", spec := "wireLimits", apart := false }
def WireLimitsSaid : Prop := wireLimitsRow.holds Try.pinned (OpenSpec.ofChange wireLimitsSpec)

/-- ITS FALSE NEIGHBOUR: 'it returns false'. Refute it at one input. -/
def wireLimitsWrong : ChangeSpec := { name := "wireLimits", fn := fun _ => fun
  | [] => { results := [.lit (.bool false)], args := [] }
  | _ => none }
def WireLimitsWrongFalsely : Prop := wireLimitsRow.holds Try.pinned (OpenSpec.ofChange wireLimitsWrong)

/- THE SECOND FORM. 'bulk': how many values and letters a reading holds, each counted each time it is reached (what is shared counts as often as it is met; a slice's spare places count too). A statement '..UptoSaid' is the law's where the arguments, and the package variables that the reading takes, are together of bulk at most 1048576: NARROWER than '..Said'. Prove '..Said' where nothing that the law and all that it calls make is longer than what came in: it says more and counts as full. Else prove '..UptoSaid'. A law counts once. -/
mutual
def uptoBulk {H : Type} : DataW H → Nat
  | .lit (.string bytes) => bytes.length + 1
  | .lit _ => 1
  | .nil => 1
  | .ptr d => uptoBulk d + 1
  | .slice elems spare => uptoBulkAll elems + uptoBulkAll spare + 1
  | .agg parts => uptoBulkAll parts + 1
  | .iface _ d => uptoBulk d + 1
  | .map entries => uptoBulkEntries entries + 1
  | .held _ => 1
def uptoBulkAll {H : Type} : List (DataW H) → Nat
  | [] => 0
  | d :: r => uptoBulk d + uptoBulkAll r
def uptoBulkEntries {H : Type} : List (Lit × DataW H) → Nat
  | [] => 0
  | x :: r => uptoBulkEntry x + uptoBulkEntries r
def uptoBulkEntry {H : Type} : Lit × DataW H → Nat
  | (.string bytes, d) => bytes.length + uptoBulk d + 1
  | (_, d) => uptoBulk d + 1
 end
def uptoSmall : (H : Type) → List (DataW H) → Bool := fun _ ds => decide (uptoBulkAll ds ≤ 1048576)
def OpenSpec.upto (s : _root_.Go.ChangeSpec) : _root_.Go.OpenSpec := { _root_.Go.OpenSpec.ofChange s with cond := some uptoSmall }

/-- 'concordatlaw13.ProjectClamps', WHERE WHAT IT READS IS OF BULK AT MOST 1048576: true; the input reads as it did. -/
def projectClampsUptoRow : OpenClaim := { program := "ytokpkphcpjalnaa", sum := "fa503665e30ddc527df5b2aff3eb977ce9372890908ea625dbf3bc17153bf1ba", func := "concordat/concordatlaw13.ProjectClamps", spec := "projectClamps", apart := false, narrowed := true }
def ProjectClampsUptoSaid : Prop := projectClampsUptoRow.holds Try.pinned (OpenSpec.upto projectClampsSpec)

/-- 'concordatlaw04.WireStable', WHERE WHAT IT READS IS OF BULK AT MOST 1048576: true; the input reads as it did. -/
def wireStableUptoRow : OpenClaim := { program := "ytokpkphcpjalnaa", sum := "fa503665e30ddc527df5b2aff3eb977ce9372890908ea625dbf3bc17153bf1ba", func := "concordat/concordatlaw04.WireStable", spec := "wireStable", apart := false, narrowed := true }
def WireStableUptoSaid : Prop := wireStableUptoRow.holds Try.pinned (OpenSpec.upto wireStableSpec)

/-- 'concordatlaw04.WirePuts', WHERE WHAT IT READS IS OF BULK AT MOST 1048576: true; the input reads as it did. -/
def wirePutsUptoRow : OpenClaim := { program := "ytokpkphcpjalnaa", sum := "fa503665e30ddc527df5b2aff3eb977ce9372890908ea625dbf3bc17153bf1ba", func := "concordat/concordatlaw04.WirePuts", spec := "wirePuts", apart := false, narrowed := true }
def WirePutsUptoSaid : Prop := wirePutsUptoRow.holds Try.pinned (OpenSpec.upto wirePutsSpec)

/-- 'concordatlaw04.WireJoins', WHERE WHAT IT READS IS OF BULK AT MOST 1048576: true; the input reads as it did. -/
def wireJoinsUptoRow : OpenClaim := { program := "ytokpkphcpjalnaa", sum := "fa503665e30ddc527df5b2aff3eb977ce9372890908ea625dbf3bc17153bf1ba", func := "concordat/concordatlaw04.WireJoins", spec := "wireJoins", apart := false, narrowed := true }
def WireJoinsUptoSaid : Prop := wireJoinsUptoRow.holds Try.pinned (OpenSpec.upto wireJoinsSpec)

/-- 'concordatlaw04.WireSorts', WHERE WHAT IT READS IS OF BULK AT MOST 1048576: true; the input reads as it did. -/
def wireSortsUptoRow : OpenClaim := { program := "ytokpkphcpjalnaa", sum := "fa503665e30ddc527df5b2aff3eb977ce9372890908ea625dbf3bc17153bf1ba", func := "concordat/concordatlaw04.WireSorts", spec := "wireSorts", apart := false, narrowed := true }
def WireSortsUptoSaid : Prop := wireSortsUptoRow.holds Try.pinned (OpenSpec.upto wireSortsSpec)

/-- 'concordatlaw04.WireBack', WHERE WHAT IT READS IS OF BULK AT MOST 1048576: true; the input reads as it did. -/
def wireBackUptoRow : OpenClaim := { program := "ytokpkphcpjalnaa", sum := "fa503665e30ddc527df5b2aff3eb977ce9372890908ea625dbf3bc17153bf1ba", func := "concordat/concordatlaw04.WireBack", spec := "wireBack", apart := false, narrowed := true }
def WireBackUptoSaid : Prop := wireBackUptoRow.holds Try.pinned (OpenSpec.upto wireBackSpec)

/-- 'concordatlaw04.WireCuts', WHERE WHAT IT READS IS OF BULK AT MOST 1048576: true; the input reads as it did. -/
def wireCutsUptoRow : OpenClaim := { program := "ytokpkphcpjalnaa", sum := "fa503665e30ddc527df5b2aff3eb977ce9372890908ea625dbf3bc17153bf1ba", func := "concordat/concordatlaw04.WireCuts", spec := "wireCuts", apart := false, narrowed := true }
def WireCutsUptoSaid : Prop := wireCutsUptoRow.holds Try.pinned (OpenSpec.upto wireCutsSpec)

/-- 'concordatlaw04.WireLimits', WHERE WHAT IT READS IS OF BULK AT MOST 1048576: true; the input reads as it did. -/
def wireLimitsUptoRow : OpenClaim := { program := "ytokpkphcpjalnaa", sum := "fa503665e30ddc527df5b2aff3eb977ce9372890908ea625dbf3bc17153bf1ba", func := "concordat/concordatlaw04.WireLimits", spec := "wireLimits", apart := false, narrowed := true }
def WireLimitsUptoSaid : Prop := wireLimitsUptoRow.holds Try.pinned (OpenSpec.upto wireLimitsSpec)

end Rows
end Go.Proofs.Ytokpkphcpjalnaa
