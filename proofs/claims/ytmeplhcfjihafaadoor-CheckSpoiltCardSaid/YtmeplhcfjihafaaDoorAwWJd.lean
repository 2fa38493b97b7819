/- The word that the program begins with, in parts: so that the kernel need not spell it at once. -/
import Derived.Test.YtmeplhcfjihafaaDoorRows
import Derived.WalkKit
import Derived.ProofKit
namespace Go.Aw
open Go.Proofs
theorem tryOrder : YtmeplhcfjihafaaDoor.Tryd.pinned.checked.prog.initOrder = "harness 1d73239fb53afe4eaa9ee63e6f3acfbc26c7621079c5c09ba904e14af8bcbaf9 cut " ++ "at concordat/concordatlaw07.CheckOrder concordat/concordatlaw07.CheckSpoilt concordat/concordatlaw07.CheckLimits concordat/concordatlaw07.CheckAll concordat/concordatlaw07.CheckFinds concordat/concordatlaw14.CompatAll concordat/concordatlaw14.CompatSelf concordat/concordatlaw14.CompatChains concordat/concordatlaw14.CompatGrows concordat/concordatlaw14.CompatBreaks concordat/concordatlaw14.CompatTypes concordat/concordatlaw14.CompatEnums concordat/concordatlaw14.CompatCalls concordat/concordatlaw15.AdaptRight concordat/concordatlaw15.AdaptSelf concordat/concordatlaw15.AdaptLimits concordat/concordatlaw15.AdaptAll concordat/concordatlaw15.AdaptSame" := by kernel_rfl
theorem tryWords0 (t : List Char) : wordsSigns ("harness 1d73239fb53afe4eaa9ee63e6f3acfbc26c7621079c5c09ba904e14af8bcbaf9 cut ".toList ++ t) = "harness".toList :: "1d73239fb53afe4eaa9ee63e6f3acfbc26c7621079c5c09ba904e14af8bcbaf9".toList :: "cut".toList :: wordsSigns t := by kernel_rfl
theorem words_of {s a b : String} {l : List (List Char)} (h : s = a ++ b) (hw : ∀ t, wordsSigns (a.toList ++ t) = l ++ wordsSigns t) : ∃ ws, wordsSigns s.toList = l ++ ws := by
  subst h
  rw [String.toList_append]
  exact ⟨_, hw _⟩
theorem tryWords : ∃ ws, wordsSigns YtmeplhcfjihafaaDoor.Tryd.pinned.checked.prog.initOrder.toList = ["harness".toList, "1d73239fb53afe4eaa9ee63e6f3acfbc26c7621079c5c09ba904e14af8bcbaf9".toList, "cut".toList] ++ ws := words_of tryOrder tryWords0
theorem headLifts_of {P : Program} {S : String} {ws : List (List Char)} (e : wordsSigns P.initOrder.toList = ["harness".toList, S.toList, "cut".toList] ++ ws) (hs : isSumSigns S.toList = true) : behindMainWord (wordsSigns P.initOrder.toList) = "cut".toList :: ws ∧ P.headLifts = [] := by
  have h1 : behindMainWord (wordsSigns P.initOrder.toList) = "cut".toList :: ws := by
    rw [e]
    show (if ("harness".toList == "harness".toList || "harness".toList == "ownmain".toList) && isSumSigns S.toList then "cut".toList :: ws else _) = _
    rw [hs]
    rfl
  refine ⟨h1, ?_⟩
  unfold Program.headLifts
  rw [h1]
  have h2 : stripLifts liftWords ("cut".toList :: ws) = ([], "cut".toList :: ws) := by kernel_rfl
  rw [h2]
  rfl
theorem trySum : isSumSigns "1d73239fb53afe4eaa9ee63e6f3acfbc26c7621079c5c09ba904e14af8bcbaf9".toList = true := by kernel_rfl
theorem final_of {P : Program} {ws : List (List Char)} (h1 : behindMainWord (wordsSigns P.initOrder.toList) = "cut".toList :: ws) (h2 : P.headLifts = []) : P.liftsFinal = false := by
  unfold Program.liftsFinal
  rw [h1, h2]
  kernel_rfl
theorem make_of {P : Program} {ws : List (List Char)} (h1 : behindMainWord (wordsSigns P.initOrder.toList) = "cut".toList :: ws) : P.make = some .cut := by
  unfold Program.make
  rw [h1]
  kernel_rfl
theorem tryFinal : YtmeplhcfjihafaaDoor.Tryd.pinned.checked.prog.liftsFinal = false := by
  obtain ⟨ws, e⟩ := tryWords
  obtain ⟨h1, h2⟩ := headLifts_of e trySum
  exact final_of h1 h2
theorem tryMake : YtmeplhcfjihafaaDoor.Tryd.pinned.checked.prog.make = some .cut := by
  obtain ⟨ws, e⟩ := tryWords
  obtain ⟨h1, h2⟩ := headLifts_of e trySum
  exact make_of h1
theorem enter_of {P : Program} {ws : List (List Char)} (h1 : behindMainWord (wordsSigns P.initOrder.toList) = "cut".toList :: ws) (a : P.laysLater = false) (b : P.bearsReflect = false) (c : P.doorFits [] = true) : P.mayEnter = true := by
  unfold Program.mayEnter
  rw [h1]
  have h2 : stripLifts liftWords ("cut".toList :: ws) = ([], "cut".toList :: ws) := by kernel_rfl
  dsimp only
  rw [h2, a, b, c]
  rfl
theorem tryEnter : YtmeplhcfjihafaaDoor.Tryd.pinned.checked.prog.mayEnter = true := by
  obtain ⟨ws, e⟩ := tryWords
  obtain ⟨h1, h2⟩ := headLifts_of e trySum
  exact enter_of h1 (by kernel_rfl) (by kernel_rfl) (by kernel_rfl)
theorem main_of {P : Program} {S : String} {ws : List (List Char)} (e : wordsSigns P.initOrder.toList = ["harness".toList, S.toList, "cut".toList] ++ ws) (hs : isSumSigns S.toList = true) : P.mainIs = some (true, S.toList) := by
  unfold Program.mainIs
  rw [e]
  show (if (!isSumSigns S.toList) = true then none else _) = _
  rw [hs]
  rfl
theorem tryMain : YtmeplhcfjihafaaDoor.Tryd.pinned.checked.prog.mainIs = some (true, "1d73239fb53afe4eaa9ee63e6f3acfbc26c7621079c5c09ba904e14af8bcbaf9".toList) := by
  obtain ⟨ws, e⟩ := tryWords
  exact main_of e trySum
end Go.Aw
