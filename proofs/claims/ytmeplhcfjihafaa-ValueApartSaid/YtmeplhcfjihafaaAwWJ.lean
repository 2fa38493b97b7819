/- The word that the program begins with, in parts: so that the kernel need not spell it at once. -/
import Derived.Test.YtmeplhcfjihafaaRows
import Derived.WalkKit
import Derived.ProofKit
namespace Go.Aw
open Go.Proofs
theorem tryOrder : Ytmeplhcfjihafaa.Try.pinned.checked.prog.initOrder = "harness 813a2ea43746fea4707abc22a2fe404aacf05651174d7fcc7e5cd88c9b481410 cut " ++ "at concordat/concordatlaw04.WireStable concordat/concordatlaw04.WirePuts concordat/concordatlaw04.WireJoins concordat/concordatlaw04.WireSorts concordat/concordatlaw04.WireBack concordat/concordatlaw04.WireCuts concordat/concordatlaw04.WireLimits concordat/concordatlaw09.ValueSame concordat/concordatlaw09.ValueChecks concordat/concordatlaw09.ValueAsserts concordat/concordatlaw09.ValueLeaves concordat/concordatlaw09.ValueDepths concordat/concordatlaw09.ValueBack concordat/concordatlaw09.ValueApart concordat/concordatlaw09.ValueNodes concordat/concordatlaw11.EncodeFlat concordat/concordatlaw11.EncodeJoins concordat/concordatlaw11.EncodeRest concordat/concordatlaw11.EncodeAll concordat/concordatlaw11.EncodeBig concordat/concordatlaw11.EncodeRises" := by kernel_rfl
theorem tryWords0 (t : List Char) : wordsSigns ("harness 813a2ea43746fea4707abc22a2fe404aacf05651174d7fcc7e5cd88c9b481410 cut ".toList ++ t) = "harness".toList :: "813a2ea43746fea4707abc22a2fe404aacf05651174d7fcc7e5cd88c9b481410".toList :: "cut".toList :: wordsSigns t := by kernel_rfl
theorem words_of {s a b : String} {l : List (List Char)} (h : s = a ++ b) (hw : ∀ t, wordsSigns (a.toList ++ t) = l ++ wordsSigns t) : ∃ ws, wordsSigns s.toList = l ++ ws := by
  subst h
  rw [String.toList_append]
  exact ⟨_, hw _⟩
theorem tryWords : ∃ ws, wordsSigns Ytmeplhcfjihafaa.Try.pinned.checked.prog.initOrder.toList = ["harness".toList, "813a2ea43746fea4707abc22a2fe404aacf05651174d7fcc7e5cd88c9b481410".toList, "cut".toList] ++ ws := words_of tryOrder tryWords0
theorem headLifts_of {P : Program} {S : String} {ws : List (List Char)} (e : wordsSigns P.initOrder.toList = ["harness".toList, S.toList, "cut".toList] ++ ws) (hs : isSumSigns S.toList = true) : behindMainWord (wordsSigns P.initOrder.toList) = "cut".toList :: ws ∧ P.headLifts = [] := by
  have h1 : behindMainWord (wordsSigns P.initOrder.toList) = "cut".toList :: ws := by
    rw [e]
    show (if ("harness".toList == "harness".toList || "harness".toList == "ownmain".toList) && isSumSigns S.toList then "cut".toList :: ws else _) = _
    rw [hs]
    rfl
  refine ⟨h1, ?_⟩
  unfold Program.headLifts
  rw [h1]
  have h2 : stripLifts liftWords ("cut".toList :: ws) = ([], "cut".toList :: ws) := by kernel_rfl
  rw [h2]
  rfl
theorem trySum : isSumSigns "813a2ea43746fea4707abc22a2fe404aacf05651174d7fcc7e5cd88c9b481410".toList = true := by kernel_rfl
theorem final_of {P : Program} {ws : List (List Char)} (h1 : behindMainWord (wordsSigns P.initOrder.toList) = "cut".toList :: ws) (h2 : P.headLifts = []) : P.liftsFinal = false := by
  unfold Program.liftsFinal
  rw [h1, h2]
  kernel_rfl
theorem make_of {P : Program} {ws : List (List Char)} (h1 : behindMainWord (wordsSigns P.initOrder.toList) = "cut".toList :: ws) : P.make = some .cut := by
  unfold Program.make
  rw [h1]
  kernel_rfl
theorem tryFinal : Ytmeplhcfjihafaa.Try.pinned.checked.prog.liftsFinal = false := by
  obtain ⟨ws, e⟩ := tryWords
  obtain ⟨h1, h2⟩ := headLifts_of e trySum
  exact final_of h1 h2
theorem tryMake : Ytmeplhcfjihafaa.Try.pinned.checked.prog.make = some .cut := by
  obtain ⟨ws, e⟩ := tryWords
  obtain ⟨h1, h2⟩ := headLifts_of e trySum
  exact make_of h1
theorem enter_of {P : Program} {ws : List (List Char)} (h1 : behindMainWord (wordsSigns P.initOrder.toList) = "cut".toList :: ws) (a : P.laysLater = false) (b : P.bearsReflect = false) (c : P.doorFits [] = true) : P.mayEnter = true := by
  unfold Program.mayEnter
  rw [h1]
  have h2 : stripLifts liftWords ("cut".toList :: ws) = ([], "cut".toList :: ws) := by kernel_rfl
  dsimp only
  rw [h2, a, b, c]
  rfl
theorem tryEnter : Ytmeplhcfjihafaa.Try.pinned.checked.prog.mayEnter = true := by
  obtain ⟨ws, e⟩ := tryWords
  obtain ⟨h1, h2⟩ := headLifts_of e trySum
  exact enter_of h1 (by kernel_rfl) (by kernel_rfl) (by kernel_rfl)
end Go.Aw
