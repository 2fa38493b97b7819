/- Rising and Sorted, the program's and the document's. -/
import Derived.Test.YtmeplhcfjihafaaAwW3
import Derived.Test.YtmeplhcfjihafaaAwW4
namespace Go.Aw
open Go.Proofs
set_option linter.unusedSimpArgs false
set_option linter.unusedVariables false
def rising : List Raw → Bool
  | a :: b :: r => if b.tag < a.tag then false else rising (b :: r)
  | _ => true
theorem rising_drop (l : List Raw) (i : Nat) (a b : Raw) (ha : l[i]? = some a) (hb : l[i+1]? = some b) : rising (l.drop i) = if b.tag < a.tag then false else rising (l.drop (i+1)) := by
  obtain ⟨h1, h2⟩ := List.getElem?_eq_some_iff.1 ha
  obtain ⟨h3, h4⟩ := List.getElem?_eq_some_iff.1 hb
  rw [List.drop_eq_getElem_cons h1, List.drop_eq_getElem_cons h3, h2, h4]
  simp [rising]
theorem rising_end (l : List Raw) (i : Nat) (h : l.length ≤ i + 1) : rising (l.drop i) = true := by
  match he : l.drop i with
  | [] => rfl
  | [a] => rfl
  | a :: b :: r =>
    have := congrArg List.length he
    simp at this
    omega
theorem wire_Rising (l : List Raw) (hl : l.length ≤ maxLen) : PFn Try.prog 36 [.slice (l.map encRaw)] (.bool (rising l)) := by
  have hm : maxLen = 9223372036854775807 := by decide
  refine PFn.of Try.func36 rfl (by decide) Try.ntmps36 Try.results36 (Nat.le_of_ble_eq_true rfl) ?_
  simp only [argsT]
  refine AW.rT (by rfl) fun K hK => ?_
  simp -implicitDefEqProofs only [go_sem, decide_true, decide_false, not_true_eq_false, not_false_eq_true, Bool.false_eq_true, Bool.true_eq_false, ↓reduceIte, Nat.reduceAdd, Nat.reduceSub, Nat.reduceMul, Nat.reduceEqDiff, Nat.reduceLeDiff, Int.reduceNeg, reduceCtorEq, Int.reduceToNat, Int.toNat_natCast, Nat.reduceDiv, Nat.reduceMod, Nat.succ_ne_self, beq_self_eq_true, Bool.not_true, Bool.not_false, Option.some.injEq, exists_eq_left']
  refine hK _ ?_; clear hK K
  refine AW.seq ?_
  refine AW.rT (by rfl) fun K hK => ?_
  simp -implicitDefEqProofs only [go_sem, decide_true, decide_false, not_true_eq_false, not_false_eq_true, Bool.false_eq_true, Bool.true_eq_false, ↓reduceIte, Nat.reduceAdd, Nat.reduceSub, Nat.reduceMul, Nat.reduceEqDiff, Nat.reduceLeDiff, Int.reduceNeg, reduceCtorEq, Int.reduceToNat, Int.toNat_natCast, Nat.reduceDiv, Nat.reduceMod, Nat.succ_ne_self, beq_self_eq_true, Bool.not_true, Bool.not_false, Option.some.injEq, exists_eq_left']
  refine hK _ ?_; clear hK K
  refine AW.block ?_
  refine AW.loop (α := Nat) (fun i => ⟨ofL [(0, .p (.slice (l.map encRaw))), (3, .p (.int .i64 ((i : Int) + 1)))], ofH [], 0⟩) (fun i => rising (l.drop i) = rising l) (fun i => l.length - i) 0 ?_ (by simp) fun i hi => ?_
  · refine Ghost.sub ?_ ?_ <;> simp -implicitDefEqProofs only [go_sem, decide_true, decide_false, not_true_eq_false, not_false_eq_true, Bool.false_eq_true, Bool.true_eq_false, ↓reduceIte, Nat.reduceAdd, Nat.reduceSub, Nat.reduceMul, Nat.reduceEqDiff, Nat.reduceLeDiff, Int.reduceNeg, reduceCtorEq, Int.reduceToNat, Int.toNat_natCast, Nat.reduceDiv, Nat.reduceMod, Nat.succ_ne_self, beq_self_eq_true, Bool.not_true, Bool.not_false, Option.some.injEq, exists_eq_left',  List.forall_mem_cons, List.not_mem_nil, false_implies, implies_true, and_self, labsIn_lift, List.all_append, List.all_cons, List.all_nil, Nat.reduceLT, labsInL, AV.labsIn]
    simp
  refine AW.seq ?_
  refine AW.rT (by rfl) fun K hK => ?_
  simp -implicitDefEqProofs only [go_sem, decide_true, decide_false, not_true_eq_false, not_false_eq_true, Bool.false_eq_true, Bool.true_eq_false, ↓reduceIte, Nat.reduceAdd, Nat.reduceSub, Nat.reduceMul, Nat.reduceEqDiff, Nat.reduceLeDiff, Int.reduceNeg, reduceCtorEq, Int.reduceToNat, Int.toNat_natCast, Nat.reduceDiv, Nat.reduceMod, Nat.succ_ne_self, beq_self_eq_true, Bool.not_true, Bool.not_false, Option.some.injEq, exists_eq_left']
  refine hK _ ?_; clear hK K
  refine AW.cond _ (by simp -implicitDefEqProofs only [go_sem, decide_true, decide_false, not_true_eq_false, not_false_eq_true, Bool.false_eq_true, Bool.true_eq_false, ↓reduceIte, Nat.reduceAdd, Nat.reduceSub, Nat.reduceMul, Nat.reduceEqDiff, Nat.reduceLeDiff, Int.reduceNeg, reduceCtorEq, Int.reduceToNat, Int.toNat_natCast, Nat.reduceDiv, Nat.reduceMod, Nat.succ_ne_self, beq_self_eq_true, Bool.not_true, Bool.not_false, Option.some.injEq, exists_eq_left']; rfl) (fun hc => ?_) (fun hc => ?_)
  · refine AW.skip ?_
    simp only [andThen]
    simp at hc
    refine AW.seq ?_
    refine AW.block ?_
    obtain ⟨a, ha⟩ : ∃ a, l[i]? = some a := ⟨_, List.getElem?_eq_getElem (by omega)⟩
    obtain ⟨b, hb⟩ : ∃ a, l[i+1]? = some a := ⟨_, List.getElem?_eq_getElem (by omega)⟩
    have w1 : IntKind.wrap .i64 ((i : Int) + 1 - 1) = i := by rw [w64] <;> omega
    have ⟨hb1, hb2, hb3⟩ := at_map encRaw hb (i := (i : Int) + 1) (by omega)
    have ⟨ha1, ha2, ha3⟩ := at_map' encRaw ha
    refine AW.dT mixed (by rfl) (by decide +kernel) fun K hK => ?_
    simp -implicitDefEqProofs only [go_sem, decide_true, decide_false, not_true_eq_false, not_false_eq_true, Bool.false_eq_true, Bool.true_eq_false, ↓reduceIte, Nat.reduceAdd, Nat.reduceSub, Nat.reduceMul, Nat.reduceEqDiff, Nat.reduceLeDiff, Int.reduceNeg, reduceCtorEq, Int.reduceToNat, Int.toNat_natCast, Nat.reduceDiv, Nat.reduceMod, Nat.succ_ne_self, beq_self_eq_true, Bool.not_true, Bool.not_false, Option.some.injEq, exists_eq_left', w1, hb1, hb2, hb3, ha1, ha2, ha3, encRaw]
    refine ⟨heapOK_nil rfl, ?_⟩
    refine hK _ ?_; clear hK K
    have hr := rising_drop l i a b ha hb
    refine AW.cond _ (by simp -implicitDefEqProofs only [go_sem, decide_true, decide_false, not_true_eq_false, not_false_eq_true, Bool.false_eq_true, Bool.true_eq_false, ↓reduceIte, Nat.reduceAdd, Nat.reduceSub, Nat.reduceMul, Nat.reduceEqDiff, Nat.reduceLeDiff, Int.reduceNeg, reduceCtorEq, Int.reduceToNat, Int.toNat_natCast, Nat.reduceDiv, Nat.reduceMod, Nat.succ_ne_self, beq_self_eq_true, Bool.not_true, Bool.not_false, Option.some.injEq, exists_eq_left']; rfl) (fun hc => ?_) (fun hc => ?_)
    · simp at hc
      refine AW.rT (by rfl) fun K hK => ?_
      simp -implicitDefEqProofs only [go_sem, decide_true, decide_false, not_true_eq_false, not_false_eq_true, Bool.false_eq_true, Bool.true_eq_false, ↓reduceIte, Nat.reduceAdd, Nat.reduceSub, Nat.reduceMul, Nat.reduceEqDiff, Nat.reduceLeDiff, Int.reduceNeg, reduceCtorEq, Int.reduceToNat, Int.toNat_natCast, Nat.reduceDiv, Nat.reduceMod, Nat.succ_ne_self, beq_self_eq_true, Bool.not_true, Bool.not_false, Option.some.injEq, exists_eq_left']
      refine hK _ ?_; clear hK K
      refine AW.ret ?_
      simp -implicitDefEqProofs only [go_sem, decide_true, decide_false, not_true_eq_false, not_false_eq_true, Bool.false_eq_true, Bool.true_eq_false, ↓reduceIte, Nat.reduceAdd, Nat.reduceSub, Nat.reduceMul, Nat.reduceEqDiff, Nat.reduceLeDiff, Int.reduceNeg, reduceCtorEq, Int.reduceToNat, Int.toNat_natCast, Nat.reduceDiv, Nat.reduceMod, Nat.succ_ne_self, beq_self_eq_true, Bool.not_true, Bool.not_false, Option.some.injEq, exists_eq_left']
      simp [hc] at hr
      rw [← hi, hr]
    · refine AW.skip ?_
      simp only [andThen, inBlk, reduceCtorEq, ↓reduceIte, if_t, if_f]
      have w2 : IntKind.wrap .i64 ((i : Int) + 1 + 1) = ((i + 1 : Nat) : Int) + 1 := by rw [w64] <;> omega
      refine AW.rE (by rfl) fun K hK => ?_
      simp -implicitDefEqProofs only [go_sem, decide_true, decide_false, not_true_eq_false, not_false_eq_true, Bool.false_eq_true, Bool.true_eq_false, ↓reduceIte, Nat.reduceAdd, Nat.reduceSub, Nat.reduceMul, Nat.reduceEqDiff, Nat.reduceLeDiff, Int.reduceNeg, reduceCtorEq, Int.reduceToNat, Int.toNat_natCast, Nat.reduceDiv, Nat.reduceMod, Nat.succ_ne_self, beq_self_eq_true, Bool.not_true, Bool.not_false, Option.some.injEq, exists_eq_left', w2]
      refine hK _ ?_; clear hK K
      refine ⟨i + 1, ?_, by omega, ?_⟩
      · simp at hc
        rw [if_neg (by omega)] at hr
        rw [← hr, hi]
      · refine Ghost.sub ?_ ?_ <;> simp -implicitDefEqProofs only [go_sem, decide_true, decide_false, not_true_eq_false, not_false_eq_true, Bool.false_eq_true, Bool.true_eq_false, ↓reduceIte, Nat.reduceAdd, Nat.reduceSub, Nat.reduceMul, Nat.reduceEqDiff, Nat.reduceLeDiff, Int.reduceNeg, reduceCtorEq, Int.reduceToNat, Int.toNat_natCast, Nat.reduceDiv, Nat.reduceMod, Nat.succ_ne_self, beq_self_eq_true, Bool.not_true, Bool.not_false, Option.some.injEq, exists_eq_left',  List.forall_mem_cons, List.not_mem_nil, false_implies, implies_true, and_self, labsIn_lift, List.all_append, List.all_cons, List.all_nil, Nat.reduceLT, labsInL, AV.labsIn]
  · refine AW.exit ?_
    simp -implicitDefEqProofs only [go_sem, decide_true, decide_false, not_true_eq_false, not_false_eq_true, Bool.false_eq_true, Bool.true_eq_false, ↓reduceIte, Nat.reduceAdd, Nat.reduceSub, Nat.reduceMul, Nat.reduceEqDiff, Nat.reduceLeDiff, Int.reduceNeg, reduceCtorEq, Int.reduceToNat, Int.toNat_natCast, Nat.reduceDiv, Nat.reduceMod, Nat.succ_ne_self, beq_self_eq_true, Bool.not_true, Bool.not_false, Option.some.injEq, exists_eq_left']
    refine AW.rT (by rfl) fun K hK => ?_
    simp -implicitDefEqProofs only [go_sem, decide_true, decide_false, not_true_eq_false, not_false_eq_true, Bool.false_eq_true, Bool.true_eq_false, ↓reduceIte, Nat.reduceAdd, Nat.reduceSub, Nat.reduceMul, Nat.reduceEqDiff, Nat.reduceLeDiff, Int.reduceNeg, reduceCtorEq, Int.reduceToNat, Int.toNat_natCast, Nat.reduceDiv, Nat.reduceMod, Nat.succ_ne_self, beq_self_eq_true, Bool.not_true, Bool.not_false, Option.some.injEq, exists_eq_left']
    refine hK _ ?_; clear hK K
    refine AW.ret ?_
    simp -implicitDefEqProofs only [go_sem, decide_true, decide_false, not_true_eq_false, not_false_eq_true, Bool.false_eq_true, Bool.true_eq_false, ↓reduceIte, Nat.reduceAdd, Nat.reduceSub, Nat.reduceMul, Nat.reduceEqDiff, Nat.reduceLeDiff, Int.reduceNeg, reduceCtorEq, Int.reduceToNat, Int.toNat_natCast, Nat.reduceDiv, Nat.reduceMod, Nat.succ_ne_self, beq_self_eq_true, Bool.not_true, Bool.not_false, Option.some.injEq, exists_eq_left']
    simp at hc
    rw [← hi, rising_end l i (by omega)]
theorem ref04_Rising (l : List Raw) (hl : l.length ≤ maxLen) : PFn Try.prog 37 [.slice (l.map encRaw)] (.bool (rising l)) := by
  have hm : maxLen = 9223372036854775807 := by decide
  refine PFn.of Try.func37 rfl (by decide) Try.ntmps37 Try.results37 (Nat.le_of_ble_eq_true rfl) ?_
  simp only [argsT]
  refine AW.rT (by rfl) fun K hK => ?_
  simp -implicitDefEqProofs only [go_sem, decide_true, decide_false, not_true_eq_false, not_false_eq_true, Bool.false_eq_true, Bool.true_eq_false, ↓reduceIte, Nat.reduceAdd, Nat.reduceSub, Nat.reduceMul, Nat.reduceEqDiff, Nat.reduceLeDiff, Int.reduceNeg, reduceCtorEq, Int.reduceToNat, Int.toNat_natCast, Nat.reduceDiv, Nat.reduceMod, Nat.succ_ne_self, beq_self_eq_true, Bool.not_true, Bool.not_false, Option.some.injEq, exists_eq_left']
  refine hK _ ?_; clear hK K
  refine AW.seq ?_
  refine AW.rT (by rfl) fun K hK => ?_
  simp -implicitDefEqProofs only [go_sem, decide_true, decide_false, not_true_eq_false, not_false_eq_true, Bool.false_eq_true, Bool.true_eq_false, ↓reduceIte, Nat.reduceAdd, Nat.reduceSub, Nat.reduceMul, Nat.reduceEqDiff, Nat.reduceLeDiff, Int.reduceNeg, reduceCtorEq, Int.reduceToNat, Int.toNat_natCast, Nat.reduceDiv, Nat.reduceMod, Nat.succ_ne_self, beq_self_eq_true, Bool.not_true, Bool.not_false, Option.some.injEq, exists_eq_left']
  refine hK _ ?_; clear hK K
  refine AW.block ?_
  refine AW.loop (α := Nat) (fun i => ⟨ofL [(0, .p (.slice (l.map encRaw))), (3, .p (.int .i64 ((i : Int) + 1)))], ofH [], 0⟩) (fun i => rising (l.drop i) = rising l) (fun i => l.length - i) 0 ?_ (by simp) fun i hi => ?_
  · refine Ghost.sub ?_ ?_ <;> simp -implicitDefEqProofs only [go_sem, decide_true, decide_false, not_true_eq_false, not_false_eq_true, Bool.false_eq_true, Bool.true_eq_false, ↓reduceIte, Nat.reduceAdd, Nat.reduceSub, Nat.reduceMul, Nat.reduceEqDiff, Nat.reduceLeDiff, Int.reduceNeg, reduceCtorEq, Int.reduceToNat, Int.toNat_natCast, Nat.reduceDiv, Nat.reduceMod, Nat.succ_ne_self, beq_self_eq_true, Bool.not_true, Bool.not_false, Option.some.injEq, exists_eq_left',  List.forall_mem_cons, List.not_mem_nil, false_implies, implies_true, and_self, labsIn_lift, List.all_append, List.all_cons, List.all_nil, Nat.reduceLT, labsInL, AV.labsIn]
    simp
  refine AW.seq ?_
  refine AW.rT (by rfl) fun K hK => ?_
  simp -implicitDefEqProofs only [go_sem, decide_true, decide_false, not_true_eq_false, not_false_eq_true, Bool.false_eq_true, Bool.true_eq_false, ↓reduceIte, Nat.reduceAdd, Nat.reduceSub, Nat.reduceMul, Nat.reduceEqDiff, Nat.reduceLeDiff, Int.reduceNeg, reduceCtorEq, Int.reduceToNat, Int.toNat_natCast, Nat.reduceDiv, Nat.reduceMod, Nat.succ_ne_self, beq_self_eq_true, Bool.not_true, Bool.not_false, Option.some.injEq, exists_eq_left']
  refine hK _ ?_; clear hK K
  refine AW.cond _ (by simp -implicitDefEqProofs only [go_sem, decide_true, decide_false, not_true_eq_false, not_false_eq_true, Bool.false_eq_true, Bool.true_eq_false, ↓reduceIte, Nat.reduceAdd, Nat.reduceSub, Nat.reduceMul, Nat.reduceEqDiff, Nat.reduceLeDiff, Int.reduceNeg, reduceCtorEq, Int.reduceToNat, Int.toNat_natCast, Nat.reduceDiv, Nat.reduceMod, Nat.succ_ne_self, beq_self_eq_true, Bool.not_true, Bool.not_false, Option.some.injEq, exists_eq_left']; rfl) (fun hc => ?_) (fun hc => ?_)
  · refine AW.skip ?_
    simp only [andThen]
    simp at hc
    refine AW.seq ?_
    refine AW.block ?_
    obtain ⟨a, ha⟩ : ∃ a, l[i]? = some a := ⟨_, List.getElem?_eq_getElem (by omega)⟩
    obtain ⟨b, hb⟩ : ∃ a, l[i+1]? = some a := ⟨_, List.getElem?_eq_getElem (by omega)⟩
    have w1 : IntKind.wrap .i64 ((i : Int) + 1 - 1) = i := by rw [w64] <;> omega
    have ⟨hb1, hb2, hb3⟩ := at_map encRaw hb (i := (i : Int) + 1) (by omega)
    have ⟨ha1, ha2, ha3⟩ := at_map' encRaw ha
    refine AW.dT mixed (by rfl) (by decide +kernel) fun K hK => ?_
    simp -implicitDefEqProofs only [go_sem, decide_true, decide_false, not_true_eq_false, not_false_eq_true, Bool.false_eq_true, Bool.true_eq_false, ↓reduceIte, Nat.reduceAdd, Nat.reduceSub, Nat.reduceMul, Nat.reduceEqDiff, Nat.reduceLeDiff, Int.reduceNeg, reduceCtorEq, Int.reduceToNat, Int.toNat_natCast, Nat.reduceDiv, Nat.reduceMod, Nat.succ_ne_self, beq_self_eq_true, Bool.not_true, Bool.not_false, Option.some.injEq, exists_eq_left', w1, hb1, hb2, hb3, ha1, ha2, ha3, encRaw]
    refine ⟨heapOK_nil rfl, ?_⟩
    refine hK _ ?_; clear hK K
    have hr := rising_drop l i a b ha hb
    refine AW.cond _ (by simp -implicitDefEqProofs only [go_sem, decide_true, decide_false, not_true_eq_false, not_false_eq_true, Bool.false_eq_true, Bool.true_eq_false, ↓reduceIte, Nat.reduceAdd, Nat.reduceSub, Nat.reduceMul, Nat.reduceEqDiff, Nat.reduceLeDiff, Int.reduceNeg, reduceCtorEq, Int.reduceToNat, Int.toNat_natCast, Nat.reduceDiv, Nat.reduceMod, Nat.succ_ne_self, beq_self_eq_true, Bool.not_true, Bool.not_false, Option.some.injEq, exists_eq_left']; rfl) (fun hc => ?_) (fun hc => ?_)
    · simp at hc
      refine AW.rT (by rfl) fun K hK => ?_
      simp -implicitDefEqProofs only [go_sem, decide_true, decide_false, not_true_eq_false, not_false_eq_true, Bool.false_eq_true, Bool.true_eq_false, ↓reduceIte, Nat.reduceAdd, Nat.reduceSub, Nat.reduceMul, Nat.reduceEqDiff, Nat.reduceLeDiff, Int.reduceNeg, reduceCtorEq, Int.reduceToNat, Int.toNat_natCast, Nat.reduceDiv, Nat.reduceMod, Nat.succ_ne_self, beq_self_eq_true, Bool.not_true, Bool.not_false, Option.some.injEq, exists_eq_left']
      refine hK _ ?_; clear hK K
      refine AW.ret ?_
      simp -implicitDefEqProofs only [go_sem, decide_true, decide_false, not_true_eq_false, not_false_eq_true, Bool.false_eq_true, Bool.true_eq_false, ↓reduceIte, Nat.reduceAdd, Nat.reduceSub, Nat.reduceMul, Nat.reduceEqDiff, Nat.reduceLeDiff, Int.reduceNeg, reduceCtorEq, Int.reduceToNat, Int.toNat_natCast, Nat.reduceDiv, Nat.reduceMod, Nat.succ_ne_self, beq_self_eq_true, Bool.not_true, Bool.not_false, Option.some.injEq, exists_eq_left']
      simp [hc] at hr
      rw [← hi, hr]
    · refine AW.skip ?_
      simp only [andThen, inBlk, reduceCtorEq, ↓reduceIte, if_t, if_f]
      have w2 : IntKind.wrap .i64 ((i : Int) + 1 + 1) = ((i + 1 : Nat) : Int) + 1 := by rw [w64] <;> omega
      refine AW.rE (by rfl) fun K hK => ?_
      simp -implicitDefEqProofs only [go_sem, decide_true, decide_false, not_true_eq_false, not_false_eq_true, Bool.false_eq_true, Bool.true_eq_false, ↓reduceIte, Nat.reduceAdd, Nat.reduceSub, Nat.reduceMul, Nat.reduceEqDiff, Nat.reduceLeDiff, Int.reduceNeg, reduceCtorEq, Int.reduceToNat, Int.toNat_natCast, Nat.reduceDiv, Nat.reduceMod, Nat.succ_ne_self, beq_self_eq_true, Bool.not_true, Bool.not_false, Option.some.injEq, exists_eq_left', w2]
      refine hK _ ?_; clear hK K
      refine ⟨i + 1, ?_, by omega, ?_⟩
      · simp at hc
        rw [if_neg (by omega)] at hr
        rw [← hr, hi]
      · refine Ghost.sub ?_ ?_ <;> simp -implicitDefEqProofs only [go_sem, decide_true, decide_false, not_true_eq_false, not_false_eq_true, Bool.false_eq_true, Bool.true_eq_false, ↓reduceIte, Nat.reduceAdd, Nat.reduceSub, Nat.reduceMul, Nat.reduceEqDiff, Nat.reduceLeDiff, Int.reduceNeg, reduceCtorEq, Int.reduceToNat, Int.toNat_natCast, Nat.reduceDiv, Nat.reduceMod, Nat.succ_ne_self, beq_self_eq_true, Bool.not_true, Bool.not_false, Option.some.injEq, exists_eq_left',  List.forall_mem_cons, List.not_mem_nil, false_implies, implies_true, and_self, labsIn_lift, List.all_append, List.all_cons, List.all_nil, Nat.reduceLT, labsInL, AV.labsIn]
  · refine AW.exit ?_
    simp -implicitDefEqProofs only [go_sem, decide_true, decide_false, not_true_eq_false, not_false_eq_true, Bool.false_eq_true, Bool.true_eq_false, ↓reduceIte, Nat.reduceAdd, Nat.reduceSub, Nat.reduceMul, Nat.reduceEqDiff, Nat.reduceLeDiff, Int.reduceNeg, reduceCtorEq, Int.reduceToNat, Int.toNat_natCast, Nat.reduceDiv, Nat.reduceMod, Nat.succ_ne_self, beq_self_eq_true, Bool.not_true, Bool.not_false, Option.some.injEq, exists_eq_left']
    refine AW.rT (by rfl) fun K hK => ?_
    simp -implicitDefEqProofs only [go_sem, decide_true, decide_false, not_true_eq_false, not_false_eq_true, Bool.false_eq_true, Bool.true_eq_false, ↓reduceIte, Nat.reduceAdd, Nat.reduceSub, Nat.reduceMul, Nat.reduceEqDiff, Nat.reduceLeDiff, Int.reduceNeg, reduceCtorEq, Int.reduceToNat, Int.toNat_natCast, Nat.reduceDiv, Nat.reduceMod, Nat.succ_ne_self, beq_self_eq_true, Bool.not_true, Bool.not_false, Option.some.injEq, exists_eq_left']
    refine hK _ ?_; clear hK K
    refine AW.ret ?_
    simp -implicitDefEqProofs only [go_sem, decide_true, decide_false, not_true_eq_false, not_false_eq_true, Bool.false_eq_true, Bool.true_eq_false, ↓reduceIte, Nat.reduceAdd, Nat.reduceSub, Nat.reduceMul, Nat.reduceEqDiff, Nat.reduceLeDiff, Int.reduceNeg, reduceCtorEq, Int.reduceToNat, Int.toNat_natCast, Nat.reduceDiv, Nat.reduceMod, Nat.succ_ne_self, beq_self_eq_true, Bool.not_true, Bool.not_false, Option.some.injEq, exists_eq_left']
    simp at hc
    rw [← hi, rising_end l i (by omega)]
theorem eqP_bool (a b : Bool) : EqP Try.prog 4 (.bool a) (.bool b) (a == b) := by
  intro w I u v hu hv
  cases hu; cases hv
  have e : (Op.equalIn 10000 4 (.bool a) (.bool b)).run Try.prog w = .ok (a == b) w := run_equalIn_bool' w 9999 4 a b Try.underlying4
  refine ⟨?_, ?_, fun op x y => by cases op <;> rfl⟩
  · simp only [binOp]; simp [Op.equal, Op.maxDepth, e]
  · simp only [binOp]; simp [Op.equal, Op.maxDepth, e]
end Go.Aw
