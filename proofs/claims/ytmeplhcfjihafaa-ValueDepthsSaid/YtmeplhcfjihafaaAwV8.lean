/- Which trees may be: the program's right, entries, rest. -/
import Derived.Test.YtmeplhcfjihafaaAwV7
import Derived.Test.YtmeplhcfjihafaaAwW6
namespace Go.Aw
open Go.Proofs
set_option linter.unusedSimpArgs false
set_option linter.unusedVariables false
def headK : List Tr → Int
  | [] => 0
  | x :: _ => x.kind
def restT (es : List (Int × List Tr)) (rest : List Raw) : Bool := rest.all (fun r => checkR r && es.all (fun e => e.1 != r.tag)) && rising rest
mutual
def rightT : Tr → Bool
  | .mk k n s es rest => if k = 1 then decide (s = []) && es.isEmpty && decide (rest = []) else if k = 2 then decide (n = 0) && es.isEmpty && decide (rest = []) else if k = 3 then decide (n = 0) && decide (s = []) && rightE es 0 && restT es rest else false
def rightE : List (Int × List Tr) → Int → Bool
  | [], _ => true
  | (t, l) :: r, last => if t ≤ last ∨ 500 < t ∨ l.length < 1 ∨ 64 < l.length then false else if rightTs l (headK l) = true then rightE r t else false
def rightTs : List Tr → Int → Bool
  | [], _ => true
  | x :: l, k => if x.kind ≠ k then false else if rightT x = true then rightTs l k else false
end
theorem rightT_mk (t : Tr) : rightT t = if t.kind = 1 then decide (t.s = []) && t.ents.isEmpty && decide (t.rest = []) else if t.kind = 2 then decide (t.n = 0) && t.ents.isEmpty && decide (t.rest = []) else if t.kind = 3 then decide (t.n = 0) && decide (t.s = []) && rightE t.ents 0 && restT t.ents t.rest else false := by
  cases t; rw [rightT]; rfl
theorem rightE_at {es : List (Int × List Tr)} {i : Nat} {e : Int × List Tr} (h : es[i]? = some e) (last : Int) :
    rightE (es.drop i) last = if e.1 ≤ last ∨ 500 < e.1 ∨ e.2.length < 1 ∨ 64 < e.2.length then false else if rightTs e.2 (headK e.2) = true then rightE (es.drop (i + 1)) e.1 else false := by
  rw [List.drop_eq_getElem_cons (List.getElem?_eq_some_iff.1 h).1, (List.getElem?_eq_some_iff.1 h).2]
  obtain ⟨a, l⟩ := e
  rw [rightE]
theorem rightTs_at {l : List Tr} {k : Nat} {x : Tr} (h : l[k]? = some x) (c : Int) : rightTs (l.drop k) c = if x.kind ≠ c then false else if rightT x = true then rightTs (l.drop (k + 1)) c else false := by
  rw [List.drop_eq_getElem_cons (List.getElem?_eq_some_iff.1 h).1, (List.getElem?_eq_some_iff.1 h).2, rightTs]
def subOK (f : FuncId) (es : List (Int × List Tr)) : Prop := ∀ (i : Nat) e (k : Nat) x, es[i]? = some e → e.2[k]? = some x → PFn Try.prog f [.agg (encTr x)] (.bool (rightT x))
def eS (t : Tr) (i : Nat) (last : Int) : St := ⟨ofL [(1, .ptr 0 0 0), (3, .p (.int .i64 last)), (9, .p (.slice (t.ents.map encEn))), (10, .p (.int .i64 (t.ents.length : Int))), (11, .p (.int .i64 (i : Int)))], ofH [(0, .row 5 [cellsT t])], 1⟩
def eT (t : Tr) (i : Nat) (e : Int × List Tr) (k : Nat) : St := ⟨ofL [(1, .ptr 0 0 0), (3, .p (.int .i64 e.1)), (5, .ptr 1 0 0), (9, .p (.slice (t.ents.map encEn))), (10, .p (.int .i64 (t.ents.length : Int))), (11, .p (.int .i64 (i : Int))), (39, .p (.slice (e.2.map encTr))), (40, .p (.int .i64 (e.2.length : Int))), (41, .p (.int .i64 (k : Int)))],
  ofH [(0, .row 5 [cellsT t]), (1, .row 2 [[.p (.int .i64 e.1), .p (.slice (e.2.map encTr))]])], 2⟩
set_option maxRecDepth 100000 in
set_option maxHeartbeats 4000000 in
theorem value_entries (t : Tr) (hlt : lensT t = true) (ih : subOK 82 t.ents) : PFn Try.prog 96 [.agg (encTr t)] (.bool (rightE t.ents 0)) := by
  obtain ⟨la1, la2, la3⟩ := lensT_mk hlt
  refine PFn.of Try.func96 rfl (by decide) Try.ntmps96 Try.results96 (Nat.le_of_ble_eq_true rfl) ?_
  simp only [argsT]
  refine AW.rT (by rfl) fun K hK => ?_
  simp -implicitDefEqProofs only [go_sem, decide_true, decide_false, not_true_eq_false, not_false_eq_true, Bool.false_eq_true, Bool.true_eq_false, ↓reduceIte, Nat.reduceAdd, Nat.reduceSub, Nat.reduceMul, Nat.reduceEqDiff, Nat.reduceLeDiff, Int.reduceNeg, reduceCtorEq, Int.reduceToNat, Int.toNat_natCast, Nat.reduceDiv, Nat.reduceMod, Nat.succ_ne_self, beq_self_eq_true, Bool.not_true, Bool.not_false, Option.some.injEq, exists_eq_left', encTr_eq]
  refine hK _ ?_; clear hK K
  refine AW.rT (by rfl) fun K hK => ?_
  simp -implicitDefEqProofs only [go_sem, decide_true, decide_false, not_true_eq_false, not_false_eq_true, Bool.false_eq_true, Bool.true_eq_false, ↓reduceIte, Nat.reduceAdd, Nat.reduceSub, Nat.reduceMul, Nat.reduceEqDiff, Nat.reduceLeDiff, Int.reduceNeg, reduceCtorEq, Int.reduceToNat, Int.toNat_natCast, Nat.reduceDiv, Nat.reduceMod, Nat.succ_ne_self, beq_self_eq_true, Bool.not_true, Bool.not_false, Option.some.injEq, exists_eq_left']
  refine hK _ ?_; clear hK K
  refine AW.seq ?_
  refine AW.rT (by rfl) fun K hK => ?_
  simp -implicitDefEqProofs only [go_sem, decide_true, decide_false, not_true_eq_false, not_false_eq_true, Bool.false_eq_true, Bool.true_eq_false, ↓reduceIte, Nat.reduceAdd, Nat.reduceSub, Nat.reduceMul, Nat.reduceEqDiff, Nat.reduceLeDiff, Int.reduceNeg, reduceCtorEq, Int.reduceToNat, Int.toNat_natCast, Nat.reduceDiv, Nat.reduceMod, Nat.succ_ne_self, beq_self_eq_true, Bool.not_true, Bool.not_false, Option.some.injEq, exists_eq_left', List.length_map]
  refine hK _ ?_; clear hK K
  refine AW.block ?_
  refine AW.loop (fun x : Nat × Int => eS t x.1 x.2) (fun x => x.1 ≤ t.ents.length ∧ rightE t.ents 0 = rightE (t.ents.drop x.1) x.2) (fun x => t.ents.length - x.1) (0, 0) ?_ ⟨by simp, by rw [List.drop_zero]⟩ fun x hx => ?_
  · simp only [eS, cellsT]
    refine Ghost.sub ?_ ?_ <;> simp -implicitDefEqProofs only [go_sem, decide_true, decide_false, not_true_eq_false, not_false_eq_true, Bool.false_eq_true, Bool.true_eq_false, ↓reduceIte, Nat.reduceAdd, Nat.reduceSub, Nat.reduceMul, Nat.reduceEqDiff, Nat.reduceLeDiff, Int.reduceNeg, reduceCtorEq, Int.reduceToNat, Int.toNat_natCast, Nat.reduceDiv, Nat.reduceMod, Nat.succ_ne_self, beq_self_eq_true, Bool.not_true, Bool.not_false, Option.some.injEq, exists_eq_left',  List.forall_mem_cons, List.not_mem_nil, false_implies, implies_true, and_self, labsIn_lift, List.all_append, List.all_cons, List.all_nil, Nat.reduceLT, labsInL, AV.labsIn]
    rfl
  obtain ⟨i, last⟩ := x
  obtain ⟨e1, e2⟩ := hx
  dsimp only at e1 e2
  simp only [eS, cellsT]
  by_cases hil : i < t.ents.length
  case neg =>
    have hc1 : ((i : Int) < (t.ents.length : Int)) = False := by simp; omega
    rw [List.drop_of_length_le (by omega), rightE] at e2
    refine AW.rT (by rfl) fun K hK => ?_
    simp -implicitDefEqProofs only [go_sem, decide_true, decide_false, not_true_eq_false, not_false_eq_true, Bool.false_eq_true, Bool.true_eq_false, ↓reduceIte, Nat.reduceAdd, Nat.reduceSub, Nat.reduceMul, Nat.reduceEqDiff, Nat.reduceLeDiff, Int.reduceNeg, reduceCtorEq, Int.reduceToNat, Int.toNat_natCast, Nat.reduceDiv, Nat.reduceMod, Nat.succ_ne_self, beq_self_eq_true, Bool.not_true, Bool.not_false, Option.some.injEq, exists_eq_left', hc1]
    refine hK _ ?_; clear hK K
    refine AW.seq ?_
    refine AW.cond _ (by simp -implicitDefEqProofs only [go_sem, decide_true, decide_false, not_true_eq_false, not_false_eq_true, Bool.false_eq_true, Bool.true_eq_false, ↓reduceIte, Nat.reduceAdd, Nat.reduceSub, Nat.reduceMul, Nat.reduceEqDiff, Nat.reduceLeDiff, Int.reduceNeg, reduceCtorEq, Int.reduceToNat, Int.toNat_natCast, Nat.reduceDiv, Nat.reduceMod, Nat.succ_ne_self, beq_self_eq_true, Bool.not_true, Bool.not_false, Option.some.injEq, exists_eq_left']; rfl) (fun hc => ?_) (fun hc => ?_)
    · simp at hc
    refine AW.exit ?_
    simp only [andThen, inBlk, reduceCtorEq, ↓reduceIte, if_t, if_f]
    refine AW.rT (by rfl) fun K hK => ?_
    simp -implicitDefEqProofs only [go_sem, decide_true, decide_false, not_true_eq_false, not_false_eq_true, Bool.false_eq_true, Bool.true_eq_false, ↓reduceIte, Nat.reduceAdd, Nat.reduceSub, Nat.reduceMul, Nat.reduceEqDiff, Nat.reduceLeDiff, Int.reduceNeg, reduceCtorEq, Int.reduceToNat, Int.toNat_natCast, Nat.reduceDiv, Nat.reduceMod, Nat.succ_ne_self, beq_self_eq_true, Bool.not_true, Bool.not_false, Option.some.injEq, exists_eq_left']
    refine hK _ ?_; clear hK K
    refine AW.ret ?_
    simp -implicitDefEqProofs only [go_sem, decide_true, decide_false, not_true_eq_false, not_false_eq_true, Bool.false_eq_true, Bool.true_eq_false, ↓reduceIte, Nat.reduceAdd, Nat.reduceSub, Nat.reduceMul, Nat.reduceEqDiff, Nat.reduceLeDiff, Int.reduceNeg, reduceCtorEq, Int.reduceToNat, Int.toNat_natCast, Nat.reduceDiv, Nat.reduceMod, Nat.succ_ne_self, beq_self_eq_true, Bool.not_true, Bool.not_false, Option.some.injEq, exists_eq_left', e2]
  obtain ⟨e, he⟩ : ∃ e, t.ents[i]? = some e := ⟨_, List.getElem?_eq_getElem hil⟩
  have ⟨he1, he2, he3⟩ := at_map' encEn he
  have ⟨le1, le2⟩ := lensE_at la3 he
  have hc1 : ((i : Int) < (t.ents.length : Int)) = True := by simp; omega
  have sE := rightE_at he last
  refine AW.rT (by rfl) fun K hK => ?_
  simp -implicitDefEqProofs only [go_sem, decide_true, decide_false, not_true_eq_false, not_false_eq_true, Bool.false_eq_true, Bool.true_eq_false, ↓reduceIte, Nat.reduceAdd, Nat.reduceSub, Nat.reduceMul, Nat.reduceEqDiff, Nat.reduceLeDiff, Int.reduceNeg, reduceCtorEq, Int.reduceToNat, Int.toNat_natCast, Nat.reduceDiv, Nat.reduceMod, Nat.succ_ne_self, beq_self_eq_true, Bool.not_true, Bool.not_false, Option.some.injEq, exists_eq_left', hc1]
  refine hK _ ?_; clear hK K
  refine AW.seq ?_
  refine AW.cond _ (by simp -implicitDefEqProofs only [go_sem, decide_true, decide_false, not_true_eq_false, not_false_eq_true, Bool.false_eq_true, Bool.true_eq_false, ↓reduceIte, Nat.reduceAdd, Nat.reduceSub, Nat.reduceMul, Nat.reduceEqDiff, Nat.reduceLeDiff, Int.reduceNeg, reduceCtorEq, Int.reduceToNat, Int.toNat_natCast, Nat.reduceDiv, Nat.reduceMod, Nat.succ_ne_self, beq_self_eq_true, Bool.not_true, Bool.not_false, Option.some.injEq, exists_eq_left']; rfl) (fun hc => ?_) (fun hc => ?_)
  rotate_left
  · simp at hc
  refine AW.skip ?_
  simp only [andThen, inBlk, reduceCtorEq, ↓reduceIte, if_t, if_f]
  refine AW.seq ?_
  refine AW.block ?_
  refine AW.rT (by rfl) fun K hK => ?_
  simp -implicitDefEqProofs only [go_sem, decide_true, decide_false, not_true_eq_false, not_false_eq_true, Bool.false_eq_true, Bool.true_eq_false, ↓reduceIte, Nat.reduceAdd, Nat.reduceSub, Nat.reduceMul, Nat.reduceEqDiff, Nat.reduceLeDiff, Int.reduceNeg, reduceCtorEq, Int.reduceToNat, Int.toNat_natCast, Nat.reduceDiv, Nat.reduceMod, Nat.succ_ne_self, beq_self_eq_true, Bool.not_true, Bool.not_false, Option.some.injEq, exists_eq_left', he1, he2, he3, hc1, encEn, List.length_map]
  refine hK _ ?_; clear hK K
  refine AW.seq ?_
  by_cases d1 : e.1 ≤ last
  · rw [if_pos (.inl d1)] at sE
    have HH := e2.trans sE
    refine AW.rT (by rfl) fun K hK => ?_
    simp -implicitDefEqProofs only [go_sem, decide_true, decide_false, not_true_eq_false, not_false_eq_true, Bool.false_eq_true, Bool.true_eq_false, ↓reduceIte, Nat.reduceAdd, Nat.reduceSub, Nat.reduceMul, Nat.reduceEqDiff, Nat.reduceLeDiff, Int.reduceNeg, reduceCtorEq, Int.reduceToNat, Int.toNat_natCast, Nat.reduceDiv, Nat.reduceMod, Nat.succ_ne_self, beq_self_eq_true, Bool.not_true, Bool.not_false, Option.some.injEq, exists_eq_left', d1]
    refine hK _ ?_; clear hK K
    refine AW.cond _ (by simp -implicitDefEqProofs only [go_sem, decide_true, decide_false, not_true_eq_false, not_false_eq_true, Bool.false_eq_true, Bool.true_eq_false, ↓reduceIte, Nat.reduceAdd, Nat.reduceSub, Nat.reduceMul, Nat.reduceEqDiff, Nat.reduceLeDiff, Int.reduceNeg, reduceCtorEq, Int.reduceToNat, Int.toNat_natCast, Nat.reduceDiv, Nat.reduceMod, Nat.succ_ne_self, beq_self_eq_true, Bool.not_true, Bool.not_false, Option.some.injEq, exists_eq_left']; rfl) (fun hc => ?_) (fun hc => ?_)
    · refine AW.rT (by rfl) fun K hK => ?_
      simp -implicitDefEqProofs only [go_sem, decide_true, decide_false, not_true_eq_false, not_false_eq_true, Bool.false_eq_true, Bool.true_eq_false, ↓reduceIte, Nat.reduceAdd, Nat.reduceSub, Nat.reduceMul, Nat.reduceEqDiff, Nat.reduceLeDiff, Int.reduceNeg, reduceCtorEq, Int.reduceToNat, Int.toNat_natCast, Nat.reduceDiv, Nat.reduceMod, Nat.succ_ne_self, beq_self_eq_true, Bool.not_true, Bool.not_false, Option.some.injEq, exists_eq_left']
      refine hK _ ?_; clear hK K
      refine AW.ret ?_
      simp -implicitDefEqProofs only [go_sem, decide_true, decide_false, not_true_eq_false, not_false_eq_true, Bool.false_eq_true, Bool.true_eq_false, ↓reduceIte, Nat.reduceAdd, Nat.reduceSub, Nat.reduceMul, Nat.reduceEqDiff, Nat.reduceLeDiff, Int.reduceNeg, reduceCtorEq, Int.reduceToNat, Int.toNat_natCast, Nat.reduceDiv, Nat.reduceMod, Nat.succ_ne_self, beq_self_eq_true, Bool.not_true, Bool.not_false, Option.some.injEq, exists_eq_left', HH]
    · simp at hc
  by_cases d2 : 500 < e.1
  · have b2 : (e.1 > 500) = True := by simp; omega
    rw [if_pos (.inr (.inl d2))] at sE
    have HH := e2.trans sE
    refine AW.rT (by rfl) fun K hK => ?_
    simp -implicitDefEqProofs only [go_sem, decide_true, decide_false, not_true_eq_false, not_false_eq_true, Bool.false_eq_true, Bool.true_eq_false, ↓reduceIte, Nat.reduceAdd, Nat.reduceSub, Nat.reduceMul, Nat.reduceEqDiff, Nat.reduceLeDiff, Int.reduceNeg, reduceCtorEq, Int.reduceToNat, Int.toNat_natCast, Nat.reduceDiv, Nat.reduceMod, Nat.succ_ne_self, beq_self_eq_true, Bool.not_true, Bool.not_false, Option.some.injEq, exists_eq_left', d1, b2]
    refine hK _ ?_; clear hK K
    refine AW.cond _ (by simp -implicitDefEqProofs only [go_sem, decide_true, decide_false, not_true_eq_false, not_false_eq_true, Bool.false_eq_true, Bool.true_eq_false, ↓reduceIte, Nat.reduceAdd, Nat.reduceSub, Nat.reduceMul, Nat.reduceEqDiff, Nat.reduceLeDiff, Int.reduceNeg, reduceCtorEq, Int.reduceToNat, Int.toNat_natCast, Nat.reduceDiv, Nat.reduceMod, Nat.succ_ne_self, beq_self_eq_true, Bool.not_true, Bool.not_false, Option.some.injEq, exists_eq_left']; rfl) (fun hc => ?_) (fun hc => ?_)
    · refine AW.rT (by rfl) fun K hK => ?_
      simp -implicitDefEqProofs only [go_sem, decide_true, decide_false, not_true_eq_false, not_false_eq_true, Bool.false_eq_true, Bool.true_eq_false, ↓reduceIte, Nat.reduceAdd, Nat.reduceSub, Nat.reduceMul, Nat.reduceEqDiff, Nat.reduceLeDiff, Int.reduceNeg, reduceCtorEq, Int.reduceToNat, Int.toNat_natCast, Nat.reduceDiv, Nat.reduceMod, Nat.succ_ne_self, beq_self_eq_true, Bool.not_true, Bool.not_false, Option.some.injEq, exists_eq_left']
      refine hK _ ?_; clear hK K
      refine AW.ret ?_
      simp -implicitDefEqProofs only [go_sem, decide_true, decide_false, not_true_eq_false, not_false_eq_true, Bool.false_eq_true, Bool.true_eq_false, ↓reduceIte, Nat.reduceAdd, Nat.reduceSub, Nat.reduceMul, Nat.reduceEqDiff, Nat.reduceLeDiff, Int.reduceNeg, reduceCtorEq, Int.reduceToNat, Int.toNat_natCast, Nat.reduceDiv, Nat.reduceMod, Nat.succ_ne_self, beq_self_eq_true, Bool.not_true, Bool.not_false, Option.some.injEq, exists_eq_left', HH]
    · simp at hc
  have b2 : (e.1 > 500) = False := by simp; omega
  by_cases d3 : e.2.length < 1
  · have b3 : ((e.2.length : Int) < 1) = True := by simp; omega
    rw [if_pos (.inr (.inr (.inl d3)))] at sE
    have HH := e2.trans sE
    refine AW.rT (by rfl) fun K hK => ?_
    simp -implicitDefEqProofs only [go_sem, decide_true, decide_false, not_true_eq_false, not_false_eq_true, Bool.false_eq_true, Bool.true_eq_false, ↓reduceIte, Nat.reduceAdd, Nat.reduceSub, Nat.reduceMul, Nat.reduceEqDiff, Nat.reduceLeDiff, Int.reduceNeg, reduceCtorEq, Int.reduceToNat, Int.toNat_natCast, Nat.reduceDiv, Nat.reduceMod, Nat.succ_ne_self, beq_self_eq_true, Bool.not_true, Bool.not_false, Option.some.injEq, exists_eq_left', d1, b2, b3, List.length_map]
    refine hK _ ?_; clear hK K
    refine AW.cond _ (by simp -implicitDefEqProofs only [go_sem, decide_true, decide_false, not_true_eq_false, not_false_eq_true, Bool.false_eq_true, Bool.true_eq_false, ↓reduceIte, Nat.reduceAdd, Nat.reduceSub, Nat.reduceMul, Nat.reduceEqDiff, Nat.reduceLeDiff, Int.reduceNeg, reduceCtorEq, Int.reduceToNat, Int.toNat_natCast, Nat.reduceDiv, Nat.reduceMod, Nat.succ_ne_self, beq_self_eq_true, Bool.not_true, Bool.not_false, Option.some.injEq, exists_eq_left']; rfl) (fun hc => ?_) (fun hc => ?_)
    · refine AW.rT (by rfl) fun K hK => ?_
      simp -implicitDefEqProofs only [go_sem, decide_true, decide_false, not_true_eq_false, not_false_eq_true, Bool.false_eq_true, Bool.true_eq_false, ↓reduceIte, Nat.reduceAdd, Nat.reduceSub, Nat.reduceMul, Nat.reduceEqDiff, Nat.reduceLeDiff, Int.reduceNeg, reduceCtorEq, Int.reduceToNat, Int.toNat_natCast, Nat.reduceDiv, Nat.reduceMod, Nat.succ_ne_self, beq_self_eq_true, Bool.not_true, Bool.not_false, Option.some.injEq, exists_eq_left']
      refine hK _ ?_; clear hK K
      refine AW.ret ?_
      simp -implicitDefEqProofs only [go_sem, decide_true, decide_false, not_true_eq_false, not_false_eq_true, Bool.false_eq_true, Bool.true_eq_false, ↓reduceIte, Nat.reduceAdd, Nat.reduceSub, Nat.reduceMul, Nat.reduceEqDiff, Nat.reduceLeDiff, Int.reduceNeg, reduceCtorEq, Int.reduceToNat, Int.toNat_natCast, Nat.reduceDiv, Nat.reduceMod, Nat.succ_ne_self, beq_self_eq_true, Bool.not_true, Bool.not_false, Option.some.injEq, exists_eq_left', HH]
    · simp at hc
  have b3 : ((e.2.length : Int) < 1) = False := by simp; omega
  by_cases d4 : 64 < e.2.length
  · have b4 : ((e.2.length : Int) > 64) = True := by simp; omega
    rw [if_pos (.inr (.inr (.inr d4)))] at sE
    have HH := e2.trans sE
    refine AW.rT (by rfl) fun K hK => ?_
    simp -implicitDefEqProofs only [go_sem, decide_true, decide_false, not_true_eq_false, not_false_eq_true, Bool.false_eq_true, Bool.true_eq_false, ↓reduceIte, Nat.reduceAdd, Nat.reduceSub, Nat.reduceMul, Nat.reduceEqDiff, Nat.reduceLeDiff, Int.reduceNeg, reduceCtorEq, Int.reduceToNat, Int.toNat_natCast, Nat.reduceDiv, Nat.reduceMod, Nat.succ_ne_self, beq_self_eq_true, Bool.not_true, Bool.not_false, Option.some.injEq, exists_eq_left', d1, b2, b3, b4, List.length_map]
    refine hK _ ?_; clear hK K
    refine AW.cond _ (by simp -implicitDefEqProofs only [go_sem, decide_true, decide_false, not_true_eq_false, not_false_eq_true, Bool.false_eq_true, Bool.true_eq_false, ↓reduceIte, Nat.reduceAdd, Nat.reduceSub, Nat.reduceMul, Nat.reduceEqDiff, Nat.reduceLeDiff, Int.reduceNeg, reduceCtorEq, Int.reduceToNat, Int.toNat_natCast, Nat.reduceDiv, Nat.reduceMod, Nat.succ_ne_self, beq_self_eq_true, Bool.not_true, Bool.not_false, Option.some.injEq, exists_eq_left']; rfl) (fun hc => ?_) (fun hc => ?_)
    · refine AW.rT (by rfl) fun K hK => ?_
      simp -implicitDefEqProofs only [go_sem, decide_true, decide_false, not_true_eq_false, not_false_eq_true, Bool.false_eq_true, Bool.true_eq_false, ↓reduceIte, Nat.reduceAdd, Nat.reduceSub, Nat.reduceMul, Nat.reduceEqDiff, Nat.reduceLeDiff, Int.reduceNeg, reduceCtorEq, Int.reduceToNat, Int.toNat_natCast, Nat.reduceDiv, Nat.reduceMod, Nat.succ_ne_self, beq_self_eq_true, Bool.not_true, Bool.not_false, Option.some.injEq, exists_eq_left']
      refine hK _ ?_; clear hK K
      refine AW.ret ?_
      simp -implicitDefEqProofs only [go_sem, decide_true, decide_false, not_true_eq_false, not_false_eq_true, Bool.false_eq_true, Bool.true_eq_false, ↓reduceIte, Nat.reduceAdd, Nat.reduceSub, Nat.reduceMul, Nat.reduceEqDiff, Nat.reduceLeDiff, Int.reduceNeg, reduceCtorEq, Int.reduceToNat, Int.toNat_natCast, Nat.reduceDiv, Nat.reduceMod, Nat.succ_ne_self, beq_self_eq_true, Bool.not_true, Bool.not_false, Option.some.injEq, exists_eq_left', HH]
    · simp at hc
  have b4 : ((e.2.length : Int) > 64) = False := by simp; omega
  rw [if_neg (by omega)] at sE
  refine AW.rT (by rfl) fun K hK => ?_
  simp -implicitDefEqProofs only [go_sem, decide_true, decide_false, not_true_eq_false, not_false_eq_true, Bool.false_eq_true, Bool.true_eq_false, ↓reduceIte, Nat.reduceAdd, Nat.reduceSub, Nat.reduceMul, Nat.reduceEqDiff, Nat.reduceLeDiff, Int.reduceNeg, reduceCtorEq, Int.reduceToNat, Int.toNat_natCast, Nat.reduceDiv, Nat.reduceMod, Nat.succ_ne_self, beq_self_eq_true, Bool.not_true, Bool.not_false, Option.some.injEq, exists_eq_left', d1, b2, b3, b4, List.length_map]
  refine hK _ ?_; clear hK K
  refine AW.cond _ (by simp -implicitDefEqProofs only [go_sem, decide_true, decide_false, not_true_eq_false, not_false_eq_true, Bool.false_eq_true, Bool.true_eq_false, ↓reduceIte, Nat.reduceAdd, Nat.reduceSub, Nat.reduceMul, Nat.reduceEqDiff, Nat.reduceLeDiff, Int.reduceNeg, reduceCtorEq, Int.reduceToNat, Int.toNat_natCast, Nat.reduceDiv, Nat.reduceMod, Nat.succ_ne_self, beq_self_eq_true, Bool.not_true, Bool.not_false, Option.some.injEq, exists_eq_left']; rfl) (fun hc => ?_) (fun hc => ?_)
  · simp at hc
  refine AW.skip ?_
  simp only [andThen, inBlk, reduceCtorEq, ↓reduceIte, if_t, if_f]
  refine AW.rT (by rfl) fun K hK => ?_
  simp -implicitDefEqProofs only [go_sem, decide_true, decide_false, not_true_eq_false, not_false_eq_true, Bool.false_eq_true, Bool.true_eq_false, ↓reduceIte, Nat.reduceAdd, Nat.reduceSub, Nat.reduceMul, Nat.reduceEqDiff, Nat.reduceLeDiff, Int.reduceNeg, reduceCtorEq, Int.reduceToNat, Int.toNat_natCast, Nat.reduceDiv, Nat.reduceMod, Nat.succ_ne_self, beq_self_eq_true, Bool.not_true, Bool.not_false, Option.some.injEq, exists_eq_left']
  refine hK _ ?_; clear hK K
  refine AW.rT (by rfl) fun K hK => ?_
  simp -implicitDefEqProofs only [go_sem, decide_true, decide_false, not_true_eq_false, not_false_eq_true, Bool.false_eq_true, Bool.true_eq_false, ↓reduceIte, Nat.reduceAdd, Nat.reduceSub, Nat.reduceMul, Nat.reduceEqDiff, Nat.reduceLeDiff, Int.reduceNeg, reduceCtorEq, Int.reduceToNat, Int.toNat_natCast, Nat.reduceDiv, Nat.reduceMod, Nat.succ_ne_self, beq_self_eq_true, Bool.not_true, Bool.not_false, Option.some.injEq, exists_eq_left', List.length_map]
  refine hK _ ?_; clear hK K
  refine AW.block ?_
  refine AW.loop (fun k : Nat => eT t i e k) (fun k => k ≤ e.2.length ∧ rightTs e.2 (headK e.2) = rightTs (e.2.drop k) (headK e.2)) (fun k => e.2.length - k) 0 ?_ ⟨by simp, by rw [List.drop_zero]⟩ fun k hk => ?_
  · simp only [eT, cellsT]
    refine Ghost.ent (fun l => if l = 1 then 4 else l) ?_ ?_ ?_ <;> simp -implicitDefEqProofs only [go_sem, decide_true, decide_false, not_true_eq_false, not_false_eq_true, Bool.false_eq_true, Bool.true_eq_false, ↓reduceIte, Nat.reduceAdd, Nat.reduceSub, Nat.reduceMul, Nat.reduceEqDiff, Nat.reduceLeDiff, Int.reduceNeg, reduceCtorEq, Int.reduceToNat, Int.toNat_natCast, Nat.reduceDiv, Nat.reduceMod, Nat.succ_ne_self, beq_self_eq_true, Bool.not_true, Bool.not_false, Option.some.injEq, exists_eq_left',  List.forall_mem_cons, List.not_mem_nil, false_implies, implies_true, and_self, map_renL_lift, labsIn_lift, List.all_append, List.all_cons, List.all_nil, List.map_append, Nat.reduceLT, labsInL, AV.labsIn]
    rfl
  obtain ⟨f1, f2⟩ := hk
  simp only [eT, cellsT]
  obtain ⟨x0, hx0⟩ : ∃ x, e.2[0]? = some x := ⟨_, List.getElem?_eq_getElem (by omega)⟩
  have ⟨_, _, h03⟩ := at_map' encTr hx0
  have hk0 : headK e.2 = x0.kind := by
    cases hq : e.2 with
    | nil => rw [hq] at hx0; simp at hx0
    | cons y l => rw [hq] at hx0; simp at hx0; subst hx0; rfl
  rw [hk0] at f2 sE
  have hz : ((0 : Int) < (e.2.length : Int)) = True := by simp; omega
  have hz0 : ((0 : Int) ≤ 0) = True := by simp
  by_cases hkl : k < e.2.length
  · obtain ⟨x, hx⟩ : ∃ x, e.2[k]? = some x := ⟨_, List.getElem?_eq_getElem hkl⟩
    have ⟨hx1, hx2, hx3⟩ := at_map' encTr hx
    have hc2 : ((k : Int) < (e.2.length : Int)) = True := by simp; omega
    have sK := rightTs_at hx x0.kind
    have IH := ih i e k x he hx
    rw [encTr_eq] at IH
    refine AW.rT (by rfl) fun K hK => ?_
    simp -implicitDefEqProofs only [go_sem, decide_true, decide_false, not_true_eq_false, not_false_eq_true, Bool.false_eq_true, Bool.true_eq_false, ↓reduceIte, Nat.reduceAdd, Nat.reduceSub, Nat.reduceMul, Nat.reduceEqDiff, Nat.reduceLeDiff, Int.reduceNeg, reduceCtorEq, Int.reduceToNat, Int.toNat_natCast, Nat.reduceDiv, Nat.reduceMod, Nat.succ_ne_self, beq_self_eq_true, Bool.not_true, Bool.not_false, Option.some.injEq, exists_eq_left', hc2]
    refine hK _ ?_; clear hK K
    refine AW.seq ?_
    refine AW.cond _ (by simp -implicitDefEqProofs only [go_sem, decide_true, decide_false, not_true_eq_false, not_false_eq_true, Bool.false_eq_true, Bool.true_eq_false, ↓reduceIte, Nat.reduceAdd, Nat.reduceSub, Nat.reduceMul, Nat.reduceEqDiff, Nat.reduceLeDiff, Int.reduceNeg, reduceCtorEq, Int.reduceToNat, Int.toNat_natCast, Nat.reduceDiv, Nat.reduceMod, Nat.succ_ne_self, beq_self_eq_true, Bool.not_true, Bool.not_false, Option.some.injEq, exists_eq_left']; rfl) (fun hc => ?_) (fun hc => ?_)
    rotate_left
    · simp at hc
    refine AW.skip ?_
    simp only [andThen, inBlk, reduceCtorEq, ↓reduceIte, if_t, if_f]
    refine AW.seq ?_
    refine AW.block ?_
    refine AW.rT (by rfl) fun K hK => ?_
    simp -implicitDefEqProofs only [go_sem, decide_true, decide_false, not_true_eq_false, not_false_eq_true, Bool.false_eq_true, Bool.true_eq_false, ↓reduceIte, Nat.reduceAdd, Nat.reduceSub, Nat.reduceMul, Nat.reduceEqDiff, Nat.reduceLeDiff, Int.reduceNeg, reduceCtorEq, Int.reduceToNat, Int.toNat_natCast, Nat.reduceDiv, Nat.reduceMod, Nat.succ_ne_self, beq_self_eq_true, Bool.not_true, Bool.not_false, Option.some.injEq, exists_eq_left', hx1, hx2, hx3, hc2, encTr_eq, List.length_map]
    refine hK _ ?_; clear hK K
    by_cases hkk : x.kind = x0.kind
    · have bk : (x.kind != x0.kind) = false := by simpa using hkk
      rw [if_neg (by simpa using hkk)] at sK
      refine AW.dT mixed (by rfl) (by decide +kernel) fun K hK => ?_
      simp -implicitDefEqProofs only [go_sem, decide_true, decide_false, not_true_eq_false, not_false_eq_true, Bool.false_eq_true, Bool.true_eq_false, ↓reduceIte, Nat.reduceAdd, Nat.reduceSub, Nat.reduceMul, Nat.reduceEqDiff, Nat.reduceLeDiff, Int.reduceNeg, reduceCtorEq, Int.reduceToNat, Int.toNat_natCast, Nat.reduceDiv, Nat.reduceMod, Nat.succ_ne_self, beq_self_eq_true, Bool.not_true, Bool.not_false, Option.some.injEq, exists_eq_left', hx1, hx2, hx3, hc2, h03, hz, hz0, encTr_eq, List.length_map, bk]
      refine ⟨.pure _, IH, ?_⟩
      try simp -implicitDefEqProofs only [go_sem, decide_true, decide_false, not_true_eq_false, not_false_eq_true, Bool.false_eq_true, Bool.true_eq_false, ↓reduceIte, Nat.reduceAdd, Nat.reduceSub, Nat.reduceMul, Nat.reduceEqDiff, Nat.reduceLeDiff, Int.reduceNeg, reduceCtorEq, Int.reduceToNat, Int.toNat_natCast, Nat.reduceDiv, Nat.reduceMod, Nat.succ_ne_self, beq_self_eq_true, Bool.not_true, Bool.not_false, Option.some.injEq, exists_eq_left']
      refine ⟨heapOK_nil rfl, ?_⟩
      refine hK _ ?_; clear hK K
      cases hq : rightT x with
      | false =>
        rw [if_neg (by rw [hq]; simp)] at sK
        rw [if_neg (by rw [f2, sK]; simp)] at sE
        have HH := e2.trans sE
        refine AW.cond _ (by simp -implicitDefEqProofs only [go_sem, decide_true, decide_false, not_true_eq_false, not_false_eq_true, Bool.false_eq_true, Bool.true_eq_false, ↓reduceIte, Nat.reduceAdd, Nat.reduceSub, Nat.reduceMul, Nat.reduceEqDiff, Nat.reduceLeDiff, Int.reduceNeg, reduceCtorEq, Int.reduceToNat, Int.toNat_natCast, Nat.reduceDiv, Nat.reduceMod, Nat.succ_ne_self, beq_self_eq_true, Bool.not_true, Bool.not_false, Option.some.injEq, exists_eq_left']; rfl) (fun hc => ?_) (fun hc => ?_)
        · refine AW.rT (by rfl) fun K hK => ?_
          simp -implicitDefEqProofs only [go_sem, decide_true, decide_false, not_true_eq_false, not_false_eq_true, Bool.false_eq_true, Bool.true_eq_false, ↓reduceIte, Nat.reduceAdd, Nat.reduceSub, Nat.reduceMul, Nat.reduceEqDiff, Nat.reduceLeDiff, Int.reduceNeg, reduceCtorEq, Int.reduceToNat, Int.toNat_natCast, Nat.reduceDiv, Nat.reduceMod, Nat.succ_ne_self, beq_self_eq_true, Bool.not_true, Bool.not_false, Option.some.injEq, exists_eq_left']
          refine hK _ ?_; clear hK K
          refine AW.ret ?_
          simp -implicitDefEqProofs only [go_sem, decide_true, decide_false, not_true_eq_false, not_false_eq_true, Bool.false_eq_true, Bool.true_eq_false, ↓reduceIte, Nat.reduceAdd, Nat.reduceSub, Nat.reduceMul, Nat.reduceEqDiff, Nat.reduceLeDiff, Int.reduceNeg, reduceCtorEq, Int.reduceToNat, Int.toNat_natCast, Nat.reduceDiv, Nat.reduceMod, Nat.succ_ne_self, beq_self_eq_true, Bool.not_true, Bool.not_false, Option.some.injEq, exists_eq_left', HH]
        · simp at hc
      | true =>
        rw [if_pos hq] at sK
        refine AW.cond _ (by simp -implicitDefEqProofs only [go_sem, decide_true, decide_false, not_true_eq_false, not_false_eq_true, Bool.false_eq_true, Bool.true_eq_false, ↓reduceIte, Nat.reduceAdd, Nat.reduceSub, Nat.reduceMul, Nat.reduceEqDiff, Nat.reduceLeDiff, Int.reduceNeg, reduceCtorEq, Int.reduceToNat, Int.toNat_natCast, Nat.reduceDiv, Nat.reduceMod, Nat.succ_ne_self, beq_self_eq_true, Bool.not_true, Bool.not_false, Option.some.injEq, exists_eq_left']; rfl) (fun hc => ?_) (fun hc => ?_)
        · simp at hc
        refine AW.skip ?_
        simp only [andThen, inBlk, reduceCtorEq, ↓reduceIte, if_t, if_f]
        have w1 : IntKind.wrap .i64 ((k : Int) + 1) = ((k + 1 : Nat) : Int) := by rw [w64] <;> omega
        refine AW.rE (by rfl) fun K hK => ?_
        simp -implicitDefEqProofs only [go_sem, decide_true, decide_false, not_true_eq_false, not_false_eq_true, Bool.false_eq_true, Bool.true_eq_false, ↓reduceIte, Nat.reduceAdd, Nat.reduceSub, Nat.reduceMul, Nat.reduceEqDiff, Nat.reduceLeDiff, Int.reduceNeg, reduceCtorEq, Int.reduceToNat, Int.toNat_natCast, Nat.reduceDiv, Nat.reduceMod, Nat.succ_ne_self, beq_self_eq_true, Bool.not_true, Bool.not_false, Option.some.injEq, exists_eq_left', w1]
        refine hK _ ?_; clear hK K
        refine ⟨k + 1, ⟨by omega, by rw [hk0]; exact f2.trans sK⟩, by omega, ?_⟩
        refine Ghost.sub ?_ ?_ <;> simp -implicitDefEqProofs only [go_sem, decide_true, decide_false, not_true_eq_false, not_false_eq_true, Bool.false_eq_true, Bool.true_eq_false, ↓reduceIte, Nat.reduceAdd, Nat.reduceSub, Nat.reduceMul, Nat.reduceEqDiff, Nat.reduceLeDiff, Int.reduceNeg, reduceCtorEq, Int.reduceToNat, Int.toNat_natCast, Nat.reduceDiv, Nat.reduceMod, Nat.succ_ne_self, beq_self_eq_true, Bool.not_true, Bool.not_false, Option.some.injEq, exists_eq_left',  List.forall_mem_cons, List.not_mem_nil, false_implies, implies_true, and_self, labsIn_lift, List.all_append, List.all_cons, List.all_nil, Nat.reduceLT, labsInL, AV.labsIn]
    · have bk : (x.kind != x0.kind) = true := by simpa using hkk
      rw [if_pos hkk] at sK
      rw [if_neg (by rw [f2, sK]; simp)] at sE
      have HH := e2.trans sE
      refine AW.dT mixed (by rfl) (by decide +kernel) fun K hK => ?_
      simp -implicitDefEqProofs only [go_sem, decide_true, decide_false, not_true_eq_false, not_false_eq_true, Bool.false_eq_true, Bool.true_eq_false, ↓reduceIte, Nat.reduceAdd, Nat.reduceSub, Nat.reduceMul, Nat.reduceEqDiff, Nat.reduceLeDiff, Int.reduceNeg, reduceCtorEq, Int.reduceToNat, Int.toNat_natCast, Nat.reduceDiv, Nat.reduceMod, Nat.succ_ne_self, beq_self_eq_true, Bool.not_true, Bool.not_false, Option.some.injEq, exists_eq_left', hx1, hx2, hx3, hc2, h03, hz, hz0, encTr_eq, List.length_map, bk]
      refine ⟨heapOK_nil rfl, ?_⟩
      refine hK _ ?_; clear hK K
      refine AW.cond _ (by simp -implicitDefEqProofs only [go_sem, decide_true, decide_false, not_true_eq_false, not_false_eq_true, Bool.false_eq_true, Bool.true_eq_false, ↓reduceIte, Nat.reduceAdd, Nat.reduceSub, Nat.reduceMul, Nat.reduceEqDiff, Nat.reduceLeDiff, Int.reduceNeg, reduceCtorEq, Int.reduceToNat, Int.toNat_natCast, Nat.reduceDiv, Nat.reduceMod, Nat.succ_ne_self, beq_self_eq_true, Bool.not_true, Bool.not_false, Option.some.injEq, exists_eq_left']; rfl) (fun hc => ?_) (fun hc => ?_)
      · refine AW.rT (by rfl) fun K hK => ?_
        simp -implicitDefEqProofs only [go_sem, decide_true, decide_false, not_true_eq_false, not_false_eq_true, Bool.false_eq_true, Bool.true_eq_false, ↓reduceIte, Nat.reduceAdd, Nat.reduceSub, Nat.reduceMul, Nat.reduceEqDiff, Nat.reduceLeDiff, Int.reduceNeg, reduceCtorEq, Int.reduceToNat, Int.toNat_natCast, Nat.reduceDiv, Nat.reduceMod, Nat.succ_ne_self, beq_self_eq_true, Bool.not_true, Bool.not_false, Option.some.injEq, exists_eq_left']
        refine hK _ ?_; clear hK K
        refine AW.ret ?_
        simp -implicitDefEqProofs only [go_sem, decide_true, decide_false, not_true_eq_false, not_false_eq_true, Bool.false_eq_true, Bool.true_eq_false, ↓reduceIte, Nat.reduceAdd, Nat.reduceSub, Nat.reduceMul, Nat.reduceEqDiff, Nat.reduceLeDiff, Int.reduceNeg, reduceCtorEq, Int.reduceToNat, Int.toNat_natCast, Nat.reduceDiv, Nat.reduceMod, Nat.succ_ne_self, beq_self_eq_true, Bool.not_true, Bool.not_false, Option.some.injEq, exists_eq_left', HH]
      · simp at hc
  · have hc2 : ((k : Int) < (e.2.length : Int)) = False := by simp; omega
    rw [List.drop_of_length_le (by omega), rightTs] at f2
    rw [if_pos f2] at sE
    refine AW.rT (by rfl) fun K hK => ?_
    simp -implicitDefEqProofs only [go_sem, decide_true, decide_false, not_true_eq_false, not_false_eq_true, Bool.false_eq_true, Bool.true_eq_false, ↓reduceIte, Nat.reduceAdd, Nat.reduceSub, Nat.reduceMul, Nat.reduceEqDiff, Nat.reduceLeDiff, Int.reduceNeg, reduceCtorEq, Int.reduceToNat, Int.toNat_natCast, Nat.reduceDiv, Nat.reduceMod, Nat.succ_ne_self, beq_self_eq_true, Bool.not_true, Bool.not_false, Option.some.injEq, exists_eq_left', hc2]
    refine hK _ ?_; clear hK K
    refine AW.seq ?_
    refine AW.cond _ (by simp -implicitDefEqProofs only [go_sem, decide_true, decide_false, not_true_eq_false, not_false_eq_true, Bool.false_eq_true, Bool.true_eq_false, ↓reduceIte, Nat.reduceAdd, Nat.reduceSub, Nat.reduceMul, Nat.reduceEqDiff, Nat.reduceLeDiff, Int.reduceNeg, reduceCtorEq, Int.reduceToNat, Int.toNat_natCast, Nat.reduceDiv, Nat.reduceMod, Nat.succ_ne_self, beq_self_eq_true, Bool.not_true, Bool.not_false, Option.some.injEq, exists_eq_left']; rfl) (fun hc => ?_) (fun hc => ?_)
    · simp at hc
    refine AW.exit ?_
    simp only [andThen, inBlk, reduceCtorEq, ↓reduceIte, if_t, if_f]
    have w1 : IntKind.wrap .i64 ((i : Int) + 1) = ((i + 1 : Nat) : Int) := by rw [w64] <;> omega
    refine AW.rE (by rfl) fun K hK => ?_
    simp -implicitDefEqProofs only [go_sem, decide_true, decide_false, not_true_eq_false, not_false_eq_true, Bool.false_eq_true, Bool.true_eq_false, ↓reduceIte, Nat.reduceAdd, Nat.reduceSub, Nat.reduceMul, Nat.reduceEqDiff, Nat.reduceLeDiff, Int.reduceNeg, reduceCtorEq, Int.reduceToNat, Int.toNat_natCast, Nat.reduceDiv, Nat.reduceMod, Nat.succ_ne_self, beq_self_eq_true, Bool.not_true, Bool.not_false, Option.some.injEq, exists_eq_left', w1]
    refine hK _ ?_; clear hK K
    refine ⟨(i + 1, e.1), ⟨by show i + 1 ≤ t.ents.length; omega, e2.trans sE⟩, by show t.ents.length - (i + 1) < t.ents.length - i; omega, ?_⟩
    refine Ghost.sub ?_ ?_ <;> simp -implicitDefEqProofs only [go_sem, decide_true, decide_false, not_true_eq_false, not_false_eq_true, Bool.false_eq_true, Bool.true_eq_false, ↓reduceIte, Nat.reduceAdd, Nat.reduceSub, Nat.reduceMul, Nat.reduceEqDiff, Nat.reduceLeDiff, Int.reduceNeg, reduceCtorEq, Int.reduceToNat, Int.toNat_natCast, Nat.reduceDiv, Nat.reduceMod, Nat.succ_ne_self, beq_self_eq_true, Bool.not_true, Bool.not_false, Option.some.injEq, exists_eq_left',  List.forall_mem_cons, List.not_mem_nil, false_implies, implies_true, and_self, labsIn_lift, List.all_append, List.all_cons, List.all_nil, Nat.reduceLT, labsInL, AV.labsIn]
end Go.Aw
