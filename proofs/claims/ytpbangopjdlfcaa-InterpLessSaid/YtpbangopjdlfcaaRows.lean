/-
  NARROWER THAN 'FOR EVERY INPUT', by the rows' own cells (each row's printed sentence says how): InterpLess: loops · InterpRuns: loops.
  DERIVED. THE GIVEN ROWS OF THIS SEAT. 2 by the template 'for every input the law returns true; each argument reads behind the call as it read before'; 0 by the template 'total and deterministic' (their statements: YtpbangopjdlfcaaTotals.lean).
  GIVEN WITH THE SEED: the statements are not yours to turn. If you find one false, say at which input.
  Laid BY PROGRAM, IN A SANDBOX (cutbox-rows.mjs): the forced cells as the released guide's own fill.sh prints them over the translation 0816752e73cfa040… (all of the seat's roots in one cut). By AI agents, Wed Nov 11 2026. No macro, syntax, notation, axiom, sorry.
-/
import Derived.Test.YtpbangopjdlfcaaChecked
import GoSem.Claim
import GoSem.ClaimJoined
import GoSem.ClaimMapViews
import Derived.JoinedTies
import Derived.KernelRfl
namespace Go.Proofs.Ytpbangopjdlfcaa
/- THE CELL 'sum', in the pinned program and in every row, IS THE sha256 OF THE DUMP (.gsa) THAT YtpbangopjdlfcaaProg.lean LOADS. Nothing in Lean hashes anything: it is a label: what it is worth is what the hold of that sum in a sandbox is worth. -/
noncomputable def Try.pinned : Pinned := { name := "ytpbangopjdlfcaa", sum := "0816752e73cfa040af13d1fb538a194d503ea51f4aab04295748facc32f1a1a1", checked := Try.checked }
namespace Rows
def none {H : Type} : Left H := { results := [], args := [] }

/-- 'concordatlaw16.InterpLess': WHATEVER THE INPUT: true; the input reads as it did. -/
def interpLessSpec : ChangeSpec := { name := "interpLess", fn := fun _ => fun
  | [d1, d2] => { results := [.lit (.bool true)], args := [d1, d2] }
  | _ => none }
def interpLessRow : OpenClaim := { program := "ytpbangopjdlfcaa", sum := "0816752e73cfa040af13d1fb538a194d503ea51f4aab04295748facc32f1a1a1", func := "concordat/concordatlaw16.InterpLess", spec := "interpLess", unfollowed := true, recurses := true, loops := true, apart := false }
def InterpLessSaid : Prop := interpLessRow.holds Try.pinned (OpenSpec.ofChange interpLessSpec)

/-- ITS FALSE NEIGHBOUR: 'it returns false'. Refute it at one input. -/
def interpLessWrong : ChangeSpec := { name := "interpLess", fn := fun _ => fun
  | [d1, d2] => { results := [.lit (.bool false)], args := [d1, d2] }
  | _ => none }
def InterpLessWrongFalsely : Prop := interpLessRow.holds Try.pinned (OpenSpec.ofChange interpLessWrong)

/-- 'concordatlaw16.InterpRuns': WHATEVER THE INPUT: true; the input reads as it did. -/
def interpRunsSpec : ChangeSpec := { name := "interpRuns", fn := fun _ => fun
  | [d1, d2] => { results := [.lit (.bool true)], args := [d1, d2] }
  | _ => none }
def interpRunsRow : OpenClaim := { program := "ytpbangopjdlfcaa", sum := "0816752e73cfa040af13d1fb538a194d503ea51f4aab04295748facc32f1a1a1", func := "concordat/concordatlaw16.InterpRuns", spec := "interpRuns", unfollowed := true, recurses := true, loops := true, apart := false }
def InterpRunsSaid : Prop := interpRunsRow.holds Try.pinned (OpenSpec.ofChange interpRunsSpec)

/-- ITS FALSE NEIGHBOUR: 'it returns false'. Refute it at one input. -/
def interpRunsWrong : ChangeSpec := { name := "interpRuns", fn := fun _ => fun
  | [d1, d2] => { results := [.lit (.bool false)], args := [d1, d2] }
  | _ => none }
def InterpRunsWrongFalsely : Prop := interpRunsRow.holds Try.pinned (OpenSpec.ofChange interpRunsWrong)

/- THE SECOND FORM. 'bulk': how many values and letters a reading holds, each counted each time it is reached (what is shared counts as often as it is met; a slice's spare places count too). A statement '..UptoSaid' is the law's where the arguments, and the package variables that the reading takes, are together of bulk at most 1048576: NARROWER than '..Said'. Prove '..Said' where nothing that the law and all that it calls make is longer than what came in: it says more and counts as full. Else prove '..UptoSaid'. A law counts once. -/
mutual
def uptoBulk {H : Type} : DataW H → Nat
  | .lit (.string bytes) => bytes.length + 1
  | .lit _ => 1
  | .nil => 1
  | .ptr d => uptoBulk d + 1
  | .slice elems spare => uptoBulkAll elems + uptoBulkAll spare + 1
  | .agg parts => uptoBulkAll parts + 1
  | .iface _ d => uptoBulk d + 1
  | .map entries => uptoBulkEntries entries + 1
  | .held _ => 1
def uptoBulkAll {H : Type} : List (DataW H) → Nat
  | [] => 0
  | d :: r => uptoBulk d + uptoBulkAll r
def uptoBulkEntries {H : Type} : List (Lit × DataW H) → Nat
  | [] => 0
  | x :: r => uptoBulkEntry x + uptoBulkEntries r
def uptoBulkEntry {H : Type} : Lit × DataW H → Nat
  | (.string bytes, d) => bytes.length + uptoBulk d + 1
  | (_, d) => uptoBulk d + 1
 end
def uptoSmall : (H : Type) → List (DataW H) → Bool := fun _ ds => decide (uptoBulkAll ds ≤ 1048576)
def OpenSpec.upto (s : _root_.Go.ChangeSpec) : _root_.Go.OpenSpec := { _root_.Go.OpenSpec.ofChange s with cond := some uptoSmall }

/-- 'concordatlaw16.InterpLess', WHERE WHAT IT READS IS OF BULK AT MOST 1048576: true; the input reads as it did. -/
def interpLessUptoRow : OpenClaim := { program := "ytpbangopjdlfcaa", sum := "0816752e73cfa040af13d1fb538a194d503ea51f4aab04295748facc32f1a1a1", func := "concordat/concordatlaw16.InterpLess", spec := "interpLess", unfollowed := true, recurses := true, loops := true, apart := false, narrowed := true }
def InterpLessUptoSaid : Prop := interpLessUptoRow.holds Try.pinned (OpenSpec.upto interpLessSpec)

/-- 'concordatlaw16.InterpRuns', WHERE WHAT IT READS IS OF BULK AT MOST 1048576: true; the input reads as it did. -/
def interpRunsUptoRow : OpenClaim := { program := "ytpbangopjdlfcaa", sum := "0816752e73cfa040af13d1fb538a194d503ea51f4aab04295748facc32f1a1a1", func := "concordat/concordatlaw16.InterpRuns", spec := "interpRuns", unfollowed := true, recurses := true, loops := true, apart := false, narrowed := true }
def InterpRunsUptoSaid : Prop := interpRunsUptoRow.holds Try.pinned (OpenSpec.upto interpRunsSpec)

end Rows
end Go.Proofs.Ytpbangopjdlfcaa
