/- A value as a tree, its entries and one entry's trees the caller's own. -/
import Derived.Test.YtmeplhcfjihafaaAwTO
namespace Go.Aw
open Go.Proofs Go.RowKit
set_option linter.unusedSimpArgs false
set_option linter.unusedVariables false
def tv (t : Tr) (a : Nat) (e : Int × List Tr) (i : Nat) (m : List (Nat × AV)) (h : List (Nat × Blk)) (n : Nat) : St := ⟨ofL ((2, .ptr 1 0 0) :: (3, .ptr 2 0 0) :: (36, .p (.slice (t.ents.map encVn))) :: (37, .p (.int .i64 (t.ents.length : Int))) :: (38, .p (.int .i64 (i : Int))) :: m),
  ofH ((1, .row 5 [[.p (.int .i64 0), .p (.int .i64 0), .p (.str []), .ex [], .ex []]]) :: (2, .row 5 [[.p (.int .i64 3), .p (.int .i64 0), .p (.str []), .own 3, .p (.slice (t.rest.map encRaw))]]) ::
    (3, .row 2 (rowE t a e.1 4 i)) :: (4, .row 5 (liftE ((r5 e a i).map encTr))) :: h), n⟩
set_option maxRecDepth 100000 in
set_option maxHeartbeats 8000000 in
theorem value_TreeD (t : Tr) (hlt : lensT t = true) (hr : rightT t = true) (hk3 : t.kind = 3) (a : Nat) (e : Int × List Tr) (hea : t.ents[a]? = some e) : DFn Try.prog 59 [.p (.agg [encV t])] [] 0 [] (.agg [.p (.int .i64 t.kind), .p (.int .i64 t.n), .p (.str t.s), .own 0, .p (.slice (t.rest.map encRaw))])
    [(0, .row 2 (rowE t a e.1 1 t.ents.length)), (1, .row 5 (liftE (e.2.map encTr)))] 2 := by
  obtain ⟨la1, la2, la3⟩ := lensT_mk hlt
  have eV := encV_eq t
  rcases right_kinds hr with ⟨hk, ht⟩ | ⟨hk, ht⟩ | ⟨hk, hn, hs, hre, _⟩
  · omega
  · omega
  rw [if_neg (by omega), if_neg (by omega)] at eV
  have hre' := right_ents hre
  have R1 := node_Rest t (by omega)
  simp only [ndV] at R1
  rw [eV]
  refine DFn.of [] Try.func59 rfl (by decide) Try.ntmps59 Try.results59 (Nat.le_of_ble_eq_true rfl) (by simp) fun val => ?_
  simp only [avT]
  refine AW.rT (by rfl) fun K hK => ?_
  simp -implicitDefEqProofs only [go_sem, ↓reduceIte, Nat.reduceAdd, Nat.reduceMul, Nat.reduceEqDiff, Nat.reduceLeDiff, reduceCtorEq, Int.reduceToNat]
  refine hK _ ?_; clear hK K
  refine AW.rT (by rfl) fun K hK => ?_
  simp -implicitDefEqProofs only [go_sem, ↓reduceIte, Nat.reduceAdd, Nat.reduceMul, Nat.reduceEqDiff, Nat.reduceLeDiff, reduceCtorEq, Int.reduceToNat]
  refine ⟨.pure _, value_Kind (.node (ndV t)), ?_⟩
  try simp -implicitDefEqProofs only [go_sem, ↓reduceIte, Nat.reduceAdd, Nat.reduceMul, Nat.reduceEqDiff, Nat.reduceLeDiff, reduceCtorEq, Int.reduceToNat, kindIn]
  refine hK _ ?_; clear hK K
  refine AW.seq ?_
  refine AW.rT (by rfl) fun K hK => ?_
  simp -implicitDefEqProofs only [go_sem, ↓reduceIte, Nat.reduceAdd, Nat.reduceMul, Nat.reduceEqDiff, Nat.reduceLeDiff, reduceCtorEq, Int.reduceToNat]
  refine hK _ ?_; clear hK K
  refine AW.block ?_
  refine AW.rT (by rfl) fun K hK => ?_
  simp -implicitDefEqProofs only [go_sem, ↓reduceIte, Nat.reduceAdd, Nat.reduceMul, Nat.reduceEqDiff, Nat.reduceLeDiff, reduceCtorEq, Int.reduceToNat]
  refine hK _ ?_; clear hK K
  refine AW.cond _ (by simp -implicitDefEqProofs only [go_sem, ↓reduceIte, Nat.reduceAdd, Nat.reduceMul, Nat.reduceEqDiff, Nat.reduceLeDiff, reduceCtorEq, Int.reduceToNat]; rfl) (fun hc => ?_) (fun hc => ?_)
  · simp at hc
  refine AW.rT (by rfl) fun K hK => ?_
  simp -implicitDefEqProofs only [go_sem, ↓reduceIte, Nat.reduceAdd, Nat.reduceMul, Nat.reduceEqDiff, Nat.reduceLeDiff, reduceCtorEq, Int.reduceToNat]
  refine hK _ ?_; clear hK K
  refine AW.cond _ (by simp -implicitDefEqProofs only [go_sem, ↓reduceIte, Nat.reduceAdd, Nat.reduceMul, Nat.reduceEqDiff, Nat.reduceLeDiff, reduceCtorEq, Int.reduceToNat]; rfl) (fun hc => ?_) (fun hc => ?_)
  · simp at hc
  refine AW.rT (by rfl) fun K hK => ?_
  simp -implicitDefEqProofs only [go_sem, ↓reduceIte, Nat.reduceAdd, Nat.reduceMul, Nat.reduceEqDiff, Nat.reduceLeDiff, reduceCtorEq, Int.reduceToNat]
  refine hK _ ?_; clear hK K
  refine AW.cond _ (by simp -implicitDefEqProofs only [go_sem, ↓reduceIte, Nat.reduceAdd, Nat.reduceMul, Nat.reduceEqDiff, Nat.reduceLeDiff, reduceCtorEq, Int.reduceToNat]; rfl) (fun hc => ?_) (fun hc => ?_)
  rotate_left
  · simp at hc
  refine AW.rT (by rfl) fun K hK => ?_
  simp -implicitDefEqProofs only [go_sem, ↓reduceIte, Nat.reduceAdd, Nat.reduceMul, Nat.reduceEqDiff, Nat.reduceLeDiff, reduceCtorEq, Int.reduceToNat]
  refine hK _ ?_; clear hK K
  refine AW.rT (by rfl) fun K hK => ?_
  simp -implicitDefEqProofs only [go_sem, ↓reduceIte, Nat.reduceAdd, Nat.reduceMul, Nat.reduceEqDiff, Nat.reduceLeDiff, reduceCtorEq, Int.reduceToNat]
  refine ⟨.pure _, R1, ?_⟩
  try simp -implicitDefEqProofs only [go_sem, ↓reduceIte, Nat.reduceAdd, Nat.reduceMul, Nat.reduceEqDiff, Nat.reduceLeDiff, reduceCtorEq, Int.reduceToNat]
  refine hK _ ?_; clear hK K
  refine AW.rT (by rfl) fun K hK => ?_
  simp -implicitDefEqProofs only [go_sem, ↓reduceIte, Nat.reduceAdd, Nat.reduceMul, Nat.reduceEqDiff, Nat.reduceLeDiff, reduceCtorEq, Int.reduceToNat, List.length_map]
  refine hK _ ?_; clear hK K
  refine AW.block ?_
  refine AW.loop (fun i : Nat => tv t a e i [] [] 5) (fun i => i ≤ t.ents.length) (fun i => t.ents.length - i) 0 ?_ (by simp) fun i hi => ?_
  · refine Ghost.trans (Ghost.nilH (l := 5) (i := 0) (j := 3) (sz' := 2) rfl rfl rfl) (Ghost.trans (Ghost.new (sz := 5)) ?_)
    simp only [tv, rowE, r5, Nat.zero_le, if_true, List.take_zero, List.map_nil, liftE_nil]
    refine Ghost.ent (fun l => if l = 2 then 5 else if l = 3 then 29 else if l = 4 then 30 else l) ?_ ?_ ?_ <;> simp -implicitDefEqProofs only [go_sem, ↓reduceIte, Nat.reduceAdd, Nat.reduceMul, Nat.reduceEqDiff, Nat.reduceLeDiff, reduceCtorEq, Int.reduceToNat, List.set_cons_zero, List.set_cons_succ, List.forall_mem_cons, List.not_mem_nil, false_implies, implies_true, and_self, map_renL_lift, labsIn_lift, List.all_append, List.all_cons, List.all_nil, List.map_append, Nat.reduceLT, labsInL, AV.labsIn]
    all_goals first | rfl | decide | skip
  have hal : a < t.ents.length := (List.getElem?_eq_some_iff.1 hea).1
  simp only [tv]
  by_cases hil : i < t.ents.length
  case neg =>
    have hi' : i = t.ents.length := by omega
    have hc1 : ((i : Int) < (t.ents.length : Int)) = False := eq_false (by omega)
    have e5 : r5 e a i = e.2 := by unfold r5; rw [if_neg (by omega)]
    rw [e5]
    refine AW.rT (by rfl) fun K hK => ?_
    simp -implicitDefEqProofs only [go_sem, ↓reduceIte, Nat.reduceAdd, Nat.reduceMul, Nat.reduceEqDiff, Nat.reduceLeDiff, reduceCtorEq, Int.reduceToNat, hc1]
    refine hK _ ?_; clear hK K
    refine AW.seq ?_
    refine AW.cond _ (by simp -implicitDefEqProofs only [go_sem, ↓reduceIte, Nat.reduceAdd, Nat.reduceMul, Nat.reduceEqDiff, Nat.reduceLeDiff, reduceCtorEq, Int.reduceToNat]; rfl) (fun hc => ?_) (fun hc => ?_)
    · simp at hc
    refine AW.exit ?_
    simp only [andThen, inBlk, reduceCtorEq, ↓reduceIte, if_t, if_f]
    refine AW.rT (by rfl) fun K hK => ?_
    simp -implicitDefEqProofs only [go_sem, ↓reduceIte, Nat.reduceAdd, Nat.reduceMul, Nat.reduceEqDiff, Nat.reduceLeDiff, reduceCtorEq, Int.reduceToNat]
    refine hK _ ?_; clear hK K
    rw [hi']
    refine AW.ret ⟨fun k => k + 3, [.agg [.p (.int .i64 3), .p (.int .i64 0), .p (.str []), .own 3, .p (.slice (t.rest.map encRaw))]], ⟨?_, trivial⟩, ?_, ?_, ?_, ?_, ?_⟩
    · simp -implicitDefEqProofs only [go_sem, ↓reduceIte, Nat.reduceAdd, Nat.reduceMul, Nat.reduceEqDiff, Nat.reduceLeDiff, reduceCtorEq, Int.reduceToNat]
      done
    · rw [hk, hn, hs]
      rfl
    · rfl
    · simp -implicitDefEqProofs only [go_sem, ↓reduceIte, Nat.reduceAdd, Nat.reduceMul, Nat.reduceEqDiff, Nat.reduceLeDiff, reduceCtorEq, Int.reduceToNat, List.forall_mem_cons, List.not_mem_nil, false_implies, implies_true, and_self, labsIn_lift, map_renL_lift, rowE_ren, rowE_labs t a e.1 1 t.ents.length 2 (by decide)]
      exact ⟨by decide, by decide⟩
    · simp
    · simp
  obtain ⟨x, hx⟩ : ∃ x, t.ents[i]? = some x := ⟨_, List.getElem?_eq_getElem hil⟩
  have ⟨he1, he2, he3⟩ := at_map' encVn hx
  have ⟨le1, le2⟩ := lensE_at la3 hx
  have hc1 : ((i : Int) < (t.ents.length : Int)) = True := eq_true (by omega)
  have w1 : IntKind.wrap .i64 ((i : Int) + 1) = ((i + 1 : Nat) : Int) := by rw [w64] <;> omega
  have rl := rowE_len t a e.1 4 i hi
  refine AW.rT (by rfl) fun K hK => ?_
  simp -implicitDefEqProofs only [go_sem, ↓reduceIte, Nat.reduceAdd, Nat.reduceMul, Nat.reduceEqDiff, Nat.reduceLeDiff, reduceCtorEq, Int.reduceToNat, hc1]
  refine hK _ ?_; clear hK K
  refine AW.seq ?_
  refine AW.cond _ (by simp -implicitDefEqProofs only [go_sem, ↓reduceIte, Nat.reduceAdd, Nat.reduceMul, Nat.reduceEqDiff, Nat.reduceLeDiff, reduceCtorEq, Int.reduceToNat]; rfl) (fun hc => ?_) (fun hc => ?_)
  rotate_left
  · simp at hc
  refine AW.skip ?_
  simp only [andThen, inBlk, reduceCtorEq, ↓reduceIte, if_t, if_f]
  refine AW.seq ?_
  refine AW.block ?_
  refine AW.rT (by rfl) fun K hK => ?_
  simp -implicitDefEqProofs only [go_sem, ↓reduceIte, Nat.reduceAdd, Nat.reduceMul, Nat.reduceEqDiff, Nat.reduceLeDiff, reduceCtorEq, Int.reduceToNat, he1, he2, he3, hc1, encVn, List.length_map]
  refine hK _ ?_; clear hK K
  refine AW.rT (by rfl) fun K hK => ?_
  simp -implicitDefEqProofs only [go_sem, ↓reduceIte, Nat.reduceAdd, Nat.reduceMul, Nat.reduceEqDiff, Nat.reduceLeDiff, reduceCtorEq, Int.reduceToNat]
  refine hK _ ?_; clear hK K
  refine AW.cut (fun _ : Unit => tv t a e i [(9, .ptr 5 0 0)] [(5, .row 2 [[.p (.int .i64 x.1), .own 6]]), (6, .row 5 (liftE (x.2.map encTr)))] 7) (fun _ => True) ?_ fun _ _ => ?_
  · refine AW.rT (by rfl) fun K hK => ?_
    simp -implicitDefEqProofs only [go_sem, ↓reduceIte, Nat.reduceAdd, Nat.reduceMul, Nat.reduceEqDiff, Nat.reduceLeDiff, reduceCtorEq, Int.reduceToNat, List.length_map]
    refine hK _ ?_; clear hK K
    refine AW.block ?_
    refine AW.loop (fun k : Nat => tv t a e i [(9, .ptr 5 0 0), (46, .p (.slice (x.2.map encV1))), (47, .p (.int .i64 (x.2.length : Int))), (48, .p (.int .i64 (k : Int)))] [(5, .row 2 [[.p (.int .i64 x.1), .own 6]]), (6, .row 5 (liftE ((x.2.take k).map encTr)))] 7) (fun k => k ≤ x.2.length) (fun k => x.2.length - k) 0 ?_ (by simp) fun k hk => ?_
    · refine Ghost.trans (Ghost.nilH (l := 13) (i := 0) (j := 1) (sz' := 5) rfl rfl rfl) ?_
      simp only [tv, List.take_zero, List.map_nil, liftE_nil]
      refine Ghost.ent (fun l => if l = 5 then 13 else if l = 6 then 19 else l) ?_ ?_ ?_ <;> simp -implicitDefEqProofs only [go_sem, ↓reduceIte, Nat.reduceAdd, Nat.reduceMul, Nat.reduceEqDiff, Nat.reduceLeDiff, reduceCtorEq, Int.reduceToNat, List.set_cons_zero, List.set_cons_succ, rowE_ren, rowE_labs t a e.1 4 i 7 (by decide), List.forall_mem_cons, List.not_mem_nil, false_implies, implies_true, and_self, map_renL_lift, labsIn_lift, List.all_append, List.all_cons, List.all_nil, List.map_append, Nat.reduceLT, labsInL, AV.labsIn]
      all_goals first | rfl | decide | skip
    simp only [tv]
    by_cases hkl : k < x.2.length
    case neg =>
      have hk' : k = x.2.length := by omega
      subst hk'
      have hc2 : ((x.2.length : Int) < (x.2.length : Int)) = False := eq_false (by omega)
      rw [List.take_length]
      refine AW.rT (by rfl) fun K hK => ?_
      simp -implicitDefEqProofs only [go_sem, ↓reduceIte, Nat.reduceAdd, Nat.reduceMul, Nat.reduceEqDiff, Nat.reduceLeDiff, reduceCtorEq, Int.reduceToNat, hc2]
      refine hK _ ?_; clear hK K
      refine AW.seq ?_
      refine AW.cond _ (by simp -implicitDefEqProofs only [go_sem, ↓reduceIte, Nat.reduceAdd, Nat.reduceMul, Nat.reduceEqDiff, Nat.reduceLeDiff, reduceCtorEq, Int.reduceToNat]; rfl) (fun hc => ?_) (fun hc => ?_)
      · simp at hc
      refine AW.exit ?_
      simp only [andThen, inBlk, reduceCtorEq, ↓reduceIte, if_t, if_f]
      refine ⟨(), trivial, ?_⟩
      show Ghost _ _ (tv t a e i [(9, .ptr 5 0 0)] [(5, .row 2 [[.p (.int .i64 x.1), .own 6]]), (6, .row 5 (liftE (x.2.map encTr)))] 7)
      simp only [tv]
      refine Ghost.sub ?_ ?_ <;> simp -implicitDefEqProofs only [go_sem, ↓reduceIte, Nat.reduceAdd, Nat.reduceMul, Nat.reduceEqDiff, Nat.reduceLeDiff, reduceCtorEq, Int.reduceToNat, rowE_labs t a e.1 4 i 7 (by decide), List.forall_mem_cons, List.not_mem_nil, false_implies, implies_true, and_self, labsIn_lift, List.all_append, List.all_cons, List.all_nil, Nat.reduceLT, labsInL, AV.labsIn]
      done
    obtain ⟨y, hy⟩ : ∃ y, x.2[k]? = some y := ⟨_, List.getElem?_eq_getElem hkl⟩
    have ⟨hx1, hx2, hx3⟩ := at_map' encV1 hy
    have hc2 : ((k : Int) < (x.2.length : Int)) = True := eq_true (by omega)
    have IH := value_Tree y (lensTs_at le2 hy) (hre' x (List.mem_of_getElem? hx) y (List.mem_of_getElem? hy))
    rw [encTr_eq] at IH
    have eo := encV_one y
    refine AW.rT (by rfl) fun K hK => ?_
    simp -implicitDefEqProofs only [go_sem, ↓reduceIte, Nat.reduceAdd, Nat.reduceMul, Nat.reduceEqDiff, Nat.reduceLeDiff, reduceCtorEq, Int.reduceToNat, hc2]
    refine hK _ ?_; clear hK K
    refine AW.seq ?_
    refine AW.cond _ (by simp -implicitDefEqProofs only [go_sem, ↓reduceIte, Nat.reduceAdd, Nat.reduceMul, Nat.reduceEqDiff, Nat.reduceLeDiff, reduceCtorEq, Int.reduceToNat]; rfl) (fun hc => ?_) (fun hc => ?_)
    rotate_left
    · simp at hc
    refine AW.skip ?_
    simp only [andThen, inBlk, reduceCtorEq, ↓reduceIte, if_t, if_f]
    refine AW.seq ?_
    refine AW.block ?_
    refine AW.rT (by rfl) fun K hK => ?_
    simp -implicitDefEqProofs only [go_sem, ↓reduceIte, Nat.reduceAdd, Nat.reduceMul, Nat.reduceEqDiff, Nat.reduceLeDiff, reduceCtorEq, Int.reduceToNat, hc2, hx1, hx2, hx3, encV1, List.length_map]
    refine ⟨encV_one y, ?_⟩
    refine hK _ ?_; clear hK K
    refine AW.dE mixed (by rfl) (by decide +kernel) fun K hK => ?_
    simp -implicitDefEqProofs only [go_sem, ↓reduceIte, Nat.reduceAdd, Nat.reduceMul, Nat.reduceEqDiff, Nat.reduceLeDiff, reduceCtorEq, Int.reduceToNat]
    refine ⟨.pure _, IH, ?_⟩
    try simp -implicitDefEqProofs only [go_sem, ↓reduceIte, Nat.reduceAdd, Nat.reduceMul, Nat.reduceEqDiff, Nat.reduceLeDiff, reduceCtorEq, Int.reduceToNat]
    refine ⟨⟨by simp, by simp [oneAll, AV.one, PV.one], by simp⟩, by simp [liftE_length]; omega, by decide +kernel, ?_⟩
    refine hK _ ?_; clear hK K
    simp only [andThen, inBlk, reduceCtorEq, ↓reduceIte, if_t, if_f]
    have w2 : IntKind.wrap .i64 ((k : Int) + 1) = ((k + 1 : Nat) : Int) := by rw [w64] <;> omega
    have e7 : liftE ((x.2.take k).map encTr) ++ [[AV.p (.int .i64 y.kind), .p (.int .i64 y.n), .p (.str y.s), .p (.slice (y.ents.map encEn)), .p (.slice (y.rest.map encRaw))]] = liftE ((x.2.take (k + 1)).map encTr) := by
      rw [List.take_add_one, hy]
      simp [liftE, encTr_eq]
    refine AW.rE (by rfl) fun K hK => ?_
    simp -implicitDefEqProofs only [go_sem, ↓reduceIte, Nat.reduceAdd, Nat.reduceMul, Nat.reduceEqDiff, Nat.reduceLeDiff, reduceCtorEq, Int.reduceToNat, w2]
    refine hK _ ?_; clear hK K
    refine ⟨k + 1, by omega, by omega, ?_⟩
    show Ghost _ _ (tv t a e i [(9, .ptr 5 0 0), (46, .p (.slice (x.2.map encV1))), (47, .p (.int .i64 (x.2.length : Int))), (48, .p (.int .i64 ((k + 1 : Nat) : Int)))] [(5, .row 2 [[.p (.int .i64 x.1), .own 6]]), (6, .row 5 (liftE ((x.2.take (k + 1)).map encTr)))] 7)
    simp only [tv]
    rw [← e7]
    refine Ghost.ent (fun l => if l = 6 then 17 else l) ?_ ?_ ?_ <;> simp -implicitDefEqProofs only [go_sem, ↓reduceIte, Nat.reduceAdd, Nat.reduceMul, Nat.reduceEqDiff, Nat.reduceLeDiff, reduceCtorEq, Int.reduceToNat, rowE_ren, rowE_labs t a e.1 4 i 7 (by decide), List.set_cons_zero, List.set_cons_succ, List.all_append, List.forall_mem_cons, List.not_mem_nil, false_implies, implies_true, and_self, map_renL_lift, labsIn_lift, List.all_append, List.all_cons, List.all_nil, List.map_append, Nat.reduceLT, labsInL, AV.labsIn]
    all_goals first | rfl | decide | skip
  by_cases hia : i = a
  · subst hia
    have ex : x = e := by rw [hea] at hx; injection hx with hx; exact hx.symm
    subst ex
    have nx := rowE_this (l := 4) hx
    have e51 : r5 x i i = [] := by unfold r5; rw [if_pos (Nat.le_refl _)]
    have e52 : r5 x i (i + 1) = x.2 := by unfold r5; rw [if_neg (by omega)]
    simp only [tv, e51, List.map_nil, liftE_nil]
    refine AW.rE (by rfl) fun K hK => ?_
    simp -implicitDefEqProofs only [go_sem, ↓reduceIte, Nat.reduceAdd, Nat.reduceMul, Nat.reduceEqDiff, Nat.reduceLeDiff, reduceCtorEq, Int.reduceToNat]
    refine ⟨⟨by simp, by simp [oneAll, AV.one, PV.one], by simp⟩, by rw [rl]; omega, ?_⟩
    try simp -implicitDefEqProofs only [go_sem, ↓reduceIte, Nat.reduceAdd, Nat.reduceMul, Nat.reduceEqDiff, Nat.reduceLeDiff, reduceCtorEq, Int.reduceToNat]
    refine hK _ ?_; clear hK K
    simp only [andThen, inBlk, reduceCtorEq, ↓reduceIte, if_t, if_f]
    refine AW.rE (by rfl) fun K hK => ?_
    simp -implicitDefEqProofs only [go_sem, ↓reduceIte, Nat.reduceAdd, Nat.reduceMul, Nat.reduceEqDiff, Nat.reduceLeDiff, reduceCtorEq, Int.reduceToNat, w1]
    refine hK _ ?_; clear hK K
    refine ⟨i + 1, by omega, by omega, ?_⟩
    show Ghost _ _ (tv t i x (i + 1) [] [] 5)
    simp only [tv, e52]
    rw [← nx]
    refine Ghost.ent (fun l => if l = 3 then 11 else if l = 4 then 6 else l) ?_ ?_ ?_ <;> simp -implicitDefEqProofs only [go_sem, ↓reduceIte, Nat.reduceAdd, Nat.reduceMul, Nat.reduceEqDiff, Nat.reduceLeDiff, reduceCtorEq, Int.reduceToNat, rowE_ren, rowE_labs t i x.1 4 i 5 (by decide), List.map_append, List.all_append, List.forall_mem_cons, List.not_mem_nil, false_implies, implies_true, and_self, map_renL_lift, labsIn_lift, List.all_append, List.all_cons, List.all_nil, List.map_append, Nat.reduceLT, labsInL, AV.labsIn]
    rw [rowE_any t i x.1 4 6]
    done
  have nx := rowE_next (l := 4) (g := e.1) hx hia
  have e53 : r5 e a (i + 1) = r5 e a i := by
    unfold r5
    by_cases q : i + 1 ≤ a
    · rw [if_pos q, if_pos (by omega)]
    · rw [if_neg q, if_neg (by omega)]
  refine AW.ghost (s' := tv t a e i [(9, .ptr 5 0 0)] [(5, .row 2 [[.p (.int .i64 x.1), .p (.slice (x.2.map encTr))]])] 7) (Ghost.trans (Ghost.freeze (lb := 6) (sz := 5) (ps := x.2.map encTr) rfl (unlift_liftE _)) ?_) ?_
  · simp only [tv]
    refine Ghost.sub ?_ ?_ <;> simp -implicitDefEqProofs only [go_sem, ↓reduceIte, Nat.reduceAdd, Nat.reduceMul, Nat.reduceEqDiff, Nat.reduceLeDiff, reduceCtorEq, Int.reduceToNat, thaw, thaw1, Option.map_some, List.map_cons, List.map_nil, thaw_lift, rowE_thaw t a e.1 4 i 6 _ (by decide), rowE_labs t a e.1 4 i 7 (by decide), List.forall_mem_cons, List.not_mem_nil, false_implies, implies_true, and_self, labsIn_lift, List.all_append, List.all_cons, List.all_nil, Nat.reduceLT, labsInL, AV.labsIn]
    done
  simp only [tv]
  refine AW.rE (by rfl) fun K hK => ?_
  simp -implicitDefEqProofs only [go_sem, ↓reduceIte, Nat.reduceAdd, Nat.reduceMul, Nat.reduceEqDiff, Nat.reduceLeDiff, reduceCtorEq, Int.reduceToNat]
  refine ⟨⟨by simp, by simp [oneAll, AV.one, PV.one], by simp⟩, by rw [rl]; omega, ?_⟩
  try simp -implicitDefEqProofs only [go_sem, ↓reduceIte, Nat.reduceAdd, Nat.reduceMul, Nat.reduceEqDiff, Nat.reduceLeDiff, reduceCtorEq, Int.reduceToNat]
  refine hK _ ?_; clear hK K
  simp only [andThen, inBlk, reduceCtorEq, ↓reduceIte, if_t, if_f]
  refine AW.rE (by rfl) fun K hK => ?_
  simp -implicitDefEqProofs only [go_sem, ↓reduceIte, Nat.reduceAdd, Nat.reduceMul, Nat.reduceEqDiff, Nat.reduceLeDiff, reduceCtorEq, Int.reduceToNat, w1]
  refine hK _ ?_; clear hK K
  refine ⟨i + 1, by omega, by omega, ?_⟩
  show Ghost _ _ (tv t a e (i + 1) [] [] 5)
  simp only [tv, e53]
  rw [← nx]
  refine Ghost.ent (fun l => if l = 3 then 11 else l) ?_ ?_ ?_ <;> simp -implicitDefEqProofs only [go_sem, ↓reduceIte, Nat.reduceAdd, Nat.reduceMul, Nat.reduceEqDiff, Nat.reduceLeDiff, reduceCtorEq, Int.reduceToNat, rowE_ren, rowE_labs t a e.1 4 i 5 (by decide), List.map_append, List.all_append, List.forall_mem_cons, List.not_mem_nil, false_implies, implies_true, and_self, map_renL_lift, labsIn_lift, List.all_append, List.all_cons, List.all_nil, List.map_append, Nat.reduceLT, labsInL, AV.labsIn]
  all_goals first | rfl | decide | skip
  done
end Go.Aw
