/- A schema copied; its messages, and one message's fields, the caller's own. -/
import Derived.Test.YtmeplhcfjihafaaDoorAwX8
import Derived.Test.YtmeplhcfjihafaaDoorAwP3
namespace Go.Aw
open Go.Proofs Go.RowKit
set_option linter.unusedSimpArgs false
set_option linter.unusedVariables false
def mOpen (m : Ms) (l : Nat) : List AV := [.p (.str m.name), .own l, .p (.slice (m.res.map encI))]
/-- The first i messages; the a-th one's fields are the row l. -/
def rowA (S : Sc) (m : Ms) (a l i : Nat) : List (List AV) := liftE ((S.msgs.take a).map encMs) ++ mOpen m l :: liftE (((S.msgs.take i).drop (a + 1)).map encMs)
theorem rowA_next {S : Sc} {m x : Ms} {a l i : Nat} (h : S.msgs[i]? = some x) (hi : a < i) : rowA S m a l i ++ [(encMs x).map AV.p] = rowA S m a l (i + 1) := by
  have hl : i < S.msgs.length := (List.getElem?_eq_some_iff.1 h).1
  have e : (S.msgs.take (i + 1)).drop (a + 1) = (S.msgs.take i).drop (a + 1) ++ [x] := by
    rw [List.take_add_one, h, Option.toList_some, List.drop_append_of_le_length (by rw [List.length_take]; omega)]
  unfold rowA
  rw [e, List.map_append, List.append_assoc, List.cons_append]
  simp [liftE]
theorem rowA_len {S : Sc} {m : Ms} {a l i : Nat} (h : i ≤ S.msgs.length) (hi : a < i) : (rowA S m a l i).length = i := by
  unfold rowA
  simp [liftE_length]; omega
theorem rowA_first {S : Sc} {m : Ms} {a l : Nat} : rowA S m a l (a + 1) = liftE ((S.msgs.take a).map encMs) ++ [mOpen m l] := by
  unfold rowA
  rw [List.drop_of_length_le (by rw [List.length_take]; omega)]
  rfl
theorem rowA_ren {S : Sc} {m : Ms} {a l i : Nat} (ρ : Nat → Nat) : (rowA S m a l i).map (renL ρ) = rowA S m a (ρ l) i := by
  unfold rowA
  rw [List.map_append, List.map_cons, map_renL_lift, map_renL_lift]
  rfl
theorem rowA_labs {S : Sc} {m : Ms} {a l i n : Nat} : (rowA S m a l i).all (labsInL n) = decide (l < n) := by
  unfold rowA
  rw [List.all_append, List.all_cons, labsIn_lift, labsIn_lift, Bool.true_and, Bool.and_true]
  simp [mOpen, labsInL, AV.labsIn]
theorem rowA_thaw {S : Sc} {m : Ms} {a l i lb : Nat} {ps : List (List PV)} (h : lb ≠ l) : (rowA S m a l i).map (fun e => e.map (thaw1 lb ps)) = rowA S m a l i := by
  unfold rowA
  rw [List.map_append, List.map_cons, thaw_lift, thaw_lift]
  simp [mOpen, thaw1, Ne.symm h]
def sq (S : Sc) (m : Ms) (a i : Nat) : List (Nat × Blk) := if i ≤ a then [(3, .row 3 (liftE ((S.msgs.take i).map encMs)))] else [(3, .row 3 (rowA S m a 4 i)), (4, .row 5 (liftE (m.fields.map encFd)))]
def sp1 (S : Sc) (m : Ms) (a i : Nat) : St := ⟨ofL [(1, .ptr 0 0 0), (2, .ptr 1 0 0), (3, .ptr 2 0 0), (4, .p (.int .i64 (i : Int)))],
  ofH ([(0, .row 4 [cellsSc S]), (1, .row 4 [[.p (.str []), .ex [], .ex [], .ex []]]), (2, .row 4 [[.p (.str S.name), .own 3, .ex [], .p (.slice (S.meths.map encMt))]])] ++ sq S m a i), 5⟩
def spB (S : Sc) (x m : Ms) (a i : Nat) : St := ⟨ofL [(1, .ptr 0 0 0), (2, .ptr 1 0 0), (3, .ptr 2 0 0), (4, .p (.int .i64 (i : Int)))],
  ofH [(0, .row 4 [cellsSc S]), (1, .row 4 [[.p (.str []), .ex [], .ex [], .ex []]]), (2, .row 4 [[.p (.str S.name), .own 3, .ex [], .p (.slice (S.meths.map encMt))]]), (3, .row 3 (rowA S m a 4 i ++ [[.p (.str x.name), .own 5, .p (.slice (x.res.map encI))]])), (4, .row 5 (liftE (m.fields.map encFd))), (5, .row 5 (liftE (x.fields.map encFd)))], 6⟩
def spC' (S : Sc) (x m : Ms) (a i : Nat) : St := ⟨ofL [(1, .ptr 0 0 0), (2, .ptr 1 0 0), (3, .ptr 2 0 0), (4, .p (.int .i64 (i : Int)))],
  ofH [(0, .row 4 [cellsSc S]), (1, .row 4 [[.p (.str []), .ex [], .ex [], .ex []]]), (2, .row 4 [[.p (.str S.name), .own 3, .ex [], .p (.slice (S.meths.map encMt))]]), (3, .row 3 (rowA S m a 4 i ++ [[.p (.str x.name), .p (.slice (x.fields.map encFd)), .p (.slice (x.res.map encI))]])), (4, .row 5 (liftE (m.fields.map encFd)))], 6⟩
def spE (S : Sc) (m : Ms) (a i : Nat) : St := ⟨ofL [(1, .ptr 0 0 0), (2, .ptr 1 0 0), (3, .ptr 2 0 0), (6, .p (.int .i64 (i : Int)))],
  ofH [(0, .row 4 [cellsSc S]), (1, .row 4 [[.p (.str []), .ex [], .ex [], .ex []]]), (2, .row 4 [[.p (.str S.name), .own 3, .own 5, .p (.slice (S.meths.map encMt))]]), (3, .row 3 (rowA S m a 4 S.msgs.length)), (4, .row 5 (liftE (m.fields.map encFd))), (5, .row 2 (liftE ((S.enums.take i).map encEn)))], 6⟩
def spF' (S : Sc) (m : Ms) (x : En) (a i : Nat) : St := ⟨ofL [(1, .ptr 0 0 0), (2, .ptr 1 0 0), (3, .ptr 2 0 0), (6, .p (.int .i64 (i : Int)))],
  ofH [(0, .row 4 [cellsSc S]), (1, .row 4 [[.p (.str []), .ex [], .ex [], .ex []]]), (2, .row 4 [[.p (.str S.name), .own 3, .own 5, .p (.slice (S.meths.map encMt))]]), (3, .row 3 (rowA S m a 4 S.msgs.length)), (4, .row 5 (liftE (m.fields.map encFd))), (5, .row 2 (liftE ((S.enums.take i).map encEn) ++ [[.p (.str x.name), .own 6]])), (6, .row 2 (liftE (x.vals.map encNm)))], 7⟩
def spG (S : Sc) (m : Ms) (x : En) (a i : Nat) : St := ⟨ofL [(1, .ptr 0 0 0), (2, .ptr 1 0 0), (3, .ptr 2 0 0), (6, .p (.int .i64 (i : Int)))],
  ofH [(0, .row 4 [cellsSc S]), (1, .row 4 [[.p (.str []), .ex [], .ex [], .ex []]]), (2, .row 4 [[.p (.str S.name), .own 3, .own 5, .p (.slice (S.meths.map encMt))]]), (3, .row 3 (rowA S m a 4 S.msgs.length)), (4, .row 5 (liftE (m.fields.map encFd))), (5, .row 2 (liftE ((S.enums.take i).map encEn) ++ [[.p (.str x.name), .p (.slice (x.vals.map encNm))]]))], 7⟩
def spH (S : Sc) (m : Ms) (a : Nat) : St := ⟨ofL [(1, .ptr 0 0 0), (2, .ptr 1 0 0), (3, .ptr 2 0 0)],
  ofH [(0, .row 4 [cellsSc S]), (1, .row 4 [[.p (.str []), .ex [], .ex [], .ex []]]), (2, .row 4 [[.p (.str S.name), .own 3, .p (.slice (S.enums.map encEn)), .p (.slice (S.meths.map encMt))]]), (3, .row 3 (rowA S m a 4 S.msgs.length)), (4, .row 5 (liftE (m.fields.map encFd)))], 5⟩
def spZ (S : Sc) (m : Ms) (a : Nat) : St := ⟨ofL [(2, .ptr 1 0 0)],
  ofH [(1, .row 4 [[.p (.str S.name), .own 2, .p (.slice (S.enums.map encEn)), .p (.slice (S.meths.map encMt))]]), (2, .row 3 (rowA S m a 3 S.msgs.length)), (3, .row 5 (liftE (m.fields.map encFd)))], 4⟩
set_option maxRecDepth 100000 in
set_option maxHeartbeats 8000000 in
theorem law00_SchemaA (S : Sc) (F : FewS S) (a : Nat) (ma : Ms) (hma : S.msgs[a]? = some ma) : DFn Tryd.prog 23 [.p (.agg (encSc S))] [] 0 [] (.agg [.p (.str S.name), .own 0, .p (.slice (S.enums.map encEn)), .p (.slice (S.meths.map encMt))]) [(0, .row 3 (rowA S ma a 1 S.msgs.length)), (1, .row 5 (liftE (ma.fields.map encFd)))] 2 := by
  refine DFn.of [] Tryd.func23 rfl (by decide) Tryd.ntmps23 Tryd.results23 (Nat.le_of_ble_eq_true rfl) (by simp) fun val => ?_
  simp only [avT, encSc]
  have Fm := F.msgs
  have Fe := F.enums
  have Ft := F.meths
  have hal : a < S.msgs.length := (List.getElem?_eq_some_iff.1 hma).1
  refine AW.rT (by rfl) fun K hK => ?_
  simp -implicitDefEqProofs only [go_sem, ↓reduceIte, Nat.reduceAdd, Nat.reduceMul, Nat.reduceEqDiff, Nat.reduceLeDiff, reduceCtorEq, Int.reduceToNat]
  refine hK _ ?_; clear hK K
  refine AW.dT mixed (by rfl) (by decide +kernel) fun K hK => ?_
  simp -implicitDefEqProofs only [go_sem, ↓reduceIte, Nat.reduceAdd, Nat.reduceMul, Nat.reduceEqDiff, Nat.reduceLeDiff, reduceCtorEq, Int.reduceToNat]
  refine ⟨⟨lift_len (f := encMt) (fun _ => rfl) _, lift_one one_Mt _, by simp⟩, ⟨.inl trivial, by simp, by rw [liftE_length, List.length_map]; omega⟩, ?_⟩
  try simp -implicitDefEqProofs only [go_sem, ↓reduceIte, Nat.reduceAdd, Nat.reduceMul, Nat.reduceEqDiff, Nat.reduceLeDiff, reduceCtorEq, Int.reduceToNat]
  refine ⟨by decide +kernel, ?_⟩
  refine hK _ ?_; clear hK K
  refine AW.seq ?_
  refine AW.rT (by rfl) fun K hK => ?_
  simp -implicitDefEqProofs only [go_sem, ↓reduceIte, Nat.reduceAdd, Nat.reduceMul, Nat.reduceEqDiff, Nat.reduceLeDiff, reduceCtorEq, Int.reduceToNat]
  refine hK _ ?_; clear hK K
  refine AW.block ?_
  refine AW.loop (sp1 S ma a) (fun i => i ≤ S.msgs.length) (fun i => S.msgs.length - i) 0 ?_ (by omega) fun i i1 => ?_
  · refine Ghost.trans (s' := sc0 S) ?_ ?_
    · simp only [sc0, cellsSc]
      refine Ghost.ent (fun l => if l = 0 then 0 else if l = 1 then 1 else if l = 2 then 8 else 6) ?_ ?_ ?_ <;> simp -implicitDefEqProofs only [go_sem, ↓reduceIte, Nat.reduceAdd, Nat.reduceMul, Nat.reduceEqDiff, Nat.reduceLeDiff, reduceCtorEq, Int.reduceToNat,  List.forall_mem_cons, List.not_mem_nil, false_implies, implies_true, and_self, map_renL_lift, labsIn_lift, List.all_append, List.all_cons, List.all_nil, List.map_append, Nat.reduceLT, labsInL, AV.labsIn]
      all_goals first | rfl | decide | skip
    refine Ghost.trans (s' := scA S) (Ghost.trans (Ghost.freeze (lb := 3) (ps := S.meths.map encMt) rfl (unlift_liftE _)) ?_) (Ghost.trans (Ghost.nilH (l := 2) (i := 0) (j := 1) (sz' := 3) rfl rfl rfl) ?_)
    · simp only [sc0, scA, cellsSc]
      refine Ghost.sub ?_ ?_ <;> simp -implicitDefEqProofs only [go_sem, ↓reduceIte, Nat.reduceAdd, Nat.reduceMul, Nat.reduceEqDiff, Nat.reduceLeDiff, reduceCtorEq, Int.reduceToNat, thaw, thaw1, Option.map_some, List.map_cons, List.map_nil, List.forall_mem_cons, List.not_mem_nil, false_implies, implies_true, and_self, labsIn_lift, List.all_append, List.all_cons, List.all_nil, Nat.reduceLT, labsInL, AV.labsIn]
      all_goals first | rfl | decide | skip
    · simp only [scA, sp1, sq, cellsSc, Nat.zero_le, if_true, List.cons_append, List.nil_append]
      refine Ghost.sub ?_ ?_ <;> simp -implicitDefEqProofs only [go_sem, ↓reduceIte, Nat.reduceAdd, Nat.reduceMul, Nat.reduceEqDiff, Nat.reduceLeDiff, reduceCtorEq, Int.reduceToNat, List.take_zero, List.map_nil, liftE_nil, List.forall_mem_cons, List.not_mem_nil, false_implies, implies_true, and_self, labsIn_lift, List.all_append, List.all_cons, List.all_nil, Nat.reduceLT, labsInL, AV.labsIn]
      all_goals first | rfl | decide | skip
  by_cases hil : i < S.msgs.length
  · obtain ⟨m, hm⟩ : ∃ m, S.msgs[i]? = some m := ⟨_, List.getElem?_eq_getElem hil⟩
    have ⟨hm1, hm2, hm3⟩ := at_map' encMs hm
    have hm2' : (i : Int) < (S.msgs.length : Int) := by omega
    have hc1 : ((i : Int) < (S.msgs.length : Int)) = True := eq_true (by omega)
    have w1 : IntKind.wrap .i64 ((i : Int) + 1) = ((i + 1 : Nat) : Int) := by rw [w64] <;> omega
    have FM := F.ms m (List.mem_of_getElem? hm)
    have f1 := FM.fields
    have f2 := FM.res
    have CI := law00_Ints m.res (by omega)
    by_cases hia : i ≤ a
    · simp only [sp1, sq, if_pos hia, cellsSc, List.cons_append, List.nil_append]
      refine AW.seq ?_
      refine AW.rT (by rfl) fun K hK => ?_
      simp -implicitDefEqProofs only [go_sem, ↓reduceIte, Nat.reduceAdd, Nat.reduceMul, Nat.reduceEqDiff, Nat.reduceLeDiff, reduceCtorEq, Int.reduceToNat, hc1, List.length_map]
      refine hK _ ?_; clear hK K
      refine AW.cond _ (by simp -implicitDefEqProofs only [go_sem, ↓reduceIte, Nat.reduceAdd, Nat.reduceMul, Nat.reduceEqDiff, Nat.reduceLeDiff, reduceCtorEq, Int.reduceToNat]; rfl) (fun hc => ?_) (fun hc => ?_)
      rotate_left
      · simp at hc
      refine AW.skip ?_
      simp only [andThen, inBlk, reduceCtorEq, ↓reduceIte, if_t, if_f]
      refine AW.seq ?_
      refine AW.block ?_
      refine AW.rT (by rfl) fun K hK => ?_
      simp -implicitDefEqProofs only [go_sem, ↓reduceIte, Nat.reduceAdd, Nat.reduceMul, Nat.reduceEqDiff, Nat.reduceLeDiff, reduceCtorEq, Int.reduceToNat, hm1, hm2', hm3, encMs, List.length_map]
      refine hK _ ?_; clear hK K
      refine AW.dE mixed (by rfl) (by decide +kernel) fun K hK => ?_
      simp -implicitDefEqProofs only [go_sem, ↓reduceIte, Nat.reduceAdd, Nat.reduceMul, Nat.reduceEqDiff, Nat.reduceLeDiff, reduceCtorEq, Int.reduceToNat]
      refine ⟨⟨lift_len (f := encFd) (fun _ => rfl) _, lift_one one_Fd _, by simp⟩, ⟨.inl trivial, by simp, by rw [liftE_length, List.length_map]; omega⟩, ?_⟩
      try simp -implicitDefEqProofs only [go_sem, ↓reduceIte, Nat.reduceAdd, Nat.reduceMul, Nat.reduceEqDiff, Nat.reduceLeDiff, reduceCtorEq, Int.reduceToNat]
      refine ⟨.pure _, CI, ?_⟩
      try simp -implicitDefEqProofs only [go_sem, ↓reduceIte, Nat.reduceAdd, Nat.reduceMul, Nat.reduceEqDiff, Nat.reduceLeDiff, reduceCtorEq, Int.reduceToNat]
      refine ⟨⟨by simp, by simp [oneAll, AV.one, PV.one], by simp⟩, by simp [liftE_length]; omega, by decide +kernel, ?_⟩
      refine hK _ ?_; clear hK K
      simp only [andThen, inBlk, reduceCtorEq, ↓reduceIte, if_t, if_f]
      by_cases hea : i = a
      · subst hea
        have em : m = ma := by rw [hma] at hm; exact (Option.some.inj hm).symm
        subst em
        refine AW.rE (by rfl) fun K hK => ?_
        simp -implicitDefEqProofs only [go_sem, ↓reduceIte, Nat.reduceAdd, Nat.reduceMul, Nat.reduceEqDiff, Nat.reduceLeDiff, reduceCtorEq, Int.reduceToNat, w1]
        refine hK _ ?_; clear hK K
        refine ⟨i + 1, by omega, by omega, ?_⟩
        have hn : ¬ i + 1 ≤ i := by omega
        simp only [sp1, sq, if_neg hn, cellsSc, List.cons_append, List.nil_append, rowA_first, mOpen]
        refine Ghost.ent (fun l => if l < 3 then l else if l = 3 then 29 else 23) ?_ ?_ ?_ <;> simp -implicitDefEqProofs only [go_sem, ↓reduceIte, Nat.reduceAdd, Nat.reduceMul, Nat.reduceEqDiff, Nat.reduceLeDiff, reduceCtorEq, Int.reduceToNat, encMs, List.forall_mem_cons, List.not_mem_nil, false_implies, implies_true, and_self, map_renL_lift, labsIn_lift, List.all_append, List.all_cons, List.all_nil, List.map_append, Nat.reduceLT, labsInL, AV.labsIn]
        all_goals first | rfl | decide | skip
      refine AW.ghost (s' := scB S m i) ?_ (AW.ghost (s' := scC S m i) (Ghost.trans (Ghost.freeze (lb := 4) (ps := m.fields.map encFd) rfl (unlift_liftE _)) ?_) ?_)
      · simp only [scB, cellsSc]
        refine Ghost.ent (fun l => if l < 3 then l else if l = 3 then 29 else 23) ?_ ?_ ?_ <;> simp -implicitDefEqProofs only [go_sem, ↓reduceIte, Nat.reduceAdd, Nat.reduceMul, Nat.reduceEqDiff, Nat.reduceLeDiff, reduceCtorEq, Int.reduceToNat, encMs, List.forall_mem_cons, List.not_mem_nil, false_implies, implies_true, and_self, map_renL_lift, labsIn_lift, List.all_append, List.all_cons, List.all_nil, List.map_append, Nat.reduceLT, labsInL, AV.labsIn]
        all_goals first | rfl | decide | skip
      · simp only [scB, scC, cellsSc]
        refine Ghost.sub ?_ ?_ <;> simp -implicitDefEqProofs only [go_sem, ↓reduceIte, Nat.reduceAdd, Nat.reduceMul, Nat.reduceEqDiff, Nat.reduceLeDiff, reduceCtorEq, Int.reduceToNat, thaw, thaw1, Option.map_some, List.map_cons, List.map_nil, List.map_append, thaw_lift, List.forall_mem_cons, List.not_mem_nil, false_implies, implies_true, and_self, labsIn_lift, List.all_append, List.all_cons, List.all_nil, Nat.reduceLT, labsInL, AV.labsIn]
        all_goals first | rfl | decide | skip
      simp only [scC, cellsSc]
      have e8 : liftE ((S.msgs.take i).map encMs) ++ [[AV.p (.str m.name), .p (.slice (m.fields.map encFd)), .p (.slice (m.res.map encI))]] = liftE ((S.msgs.take (i + 1)).map encMs) := by
        rw [List.take_add_one, hm]
        simp [liftE, encMs]
      rw [e8]
      refine AW.rE (by rfl) fun K hK => ?_
      simp -implicitDefEqProofs only [go_sem, ↓reduceIte, Nat.reduceAdd, Nat.reduceMul, Nat.reduceEqDiff, Nat.reduceLeDiff, reduceCtorEq, Int.reduceToNat, w1]
      refine hK _ ?_; clear hK K
      refine ⟨i + 1, by omega, by omega, ?_⟩
      have hn : i + 1 ≤ a := by omega
      simp only [sp1, sq, if_pos hn, cellsSc, List.cons_append, List.nil_append]
      refine Ghost.sub ?_ ?_ <;> simp -implicitDefEqProofs only [go_sem, ↓reduceIte, Nat.reduceAdd, Nat.reduceMul, Nat.reduceEqDiff, Nat.reduceLeDiff, reduceCtorEq, Int.reduceToNat,  List.forall_mem_cons, List.not_mem_nil, false_implies, implies_true, and_self, labsIn_lift, List.all_append, List.all_cons, List.all_nil, Nat.reduceLT, labsInL, AV.labsIn]
    · have hai : a < i := by omega
      have rl := rowA_len (m := ma) (l := 4) i1 hai
      simp only [sp1, sq, if_neg hia, cellsSc, List.cons_append, List.nil_append]
      refine AW.seq ?_
      refine AW.rT (by rfl) fun K hK => ?_
      simp -implicitDefEqProofs only [go_sem, ↓reduceIte, Nat.reduceAdd, Nat.reduceMul, Nat.reduceEqDiff, Nat.reduceLeDiff, reduceCtorEq, Int.reduceToNat, hc1, List.length_map]
      refine hK _ ?_; clear hK K
      refine AW.cond _ (by simp -implicitDefEqProofs only [go_sem, ↓reduceIte, Nat.reduceAdd, Nat.reduceMul, Nat.reduceEqDiff, Nat.reduceLeDiff, reduceCtorEq, Int.reduceToNat]; rfl) (fun hc => ?_) (fun hc => ?_)
      rotate_left
      · simp at hc
      refine AW.skip ?_
      simp only [andThen, inBlk, reduceCtorEq, ↓reduceIte, if_t, if_f]
      refine AW.seq ?_
      refine AW.block ?_
      refine AW.rT (by rfl) fun K hK => ?_
      simp -implicitDefEqProofs only [go_sem, ↓reduceIte, Nat.reduceAdd, Nat.reduceMul, Nat.reduceEqDiff, Nat.reduceLeDiff, reduceCtorEq, Int.reduceToNat, hm1, hm2', hm3, encMs, List.length_map]
      refine hK _ ?_; clear hK K
      refine AW.dE mixed (by rfl) (by decide +kernel) fun K hK => ?_
      simp -implicitDefEqProofs only [go_sem, ↓reduceIte, Nat.reduceAdd, Nat.reduceMul, Nat.reduceEqDiff, Nat.reduceLeDiff, reduceCtorEq, Int.reduceToNat]
      refine ⟨⟨lift_len (f := encFd) (fun _ => rfl) _, lift_one one_Fd _, by simp⟩, ⟨.inl trivial, by simp, by rw [liftE_length, List.length_map]; omega⟩, ?_⟩
      try simp -implicitDefEqProofs only [go_sem, ↓reduceIte, Nat.reduceAdd, Nat.reduceMul, Nat.reduceEqDiff, Nat.reduceLeDiff, reduceCtorEq, Int.reduceToNat]
      refine ⟨.pure _, CI, ?_⟩
      try simp -implicitDefEqProofs only [go_sem, ↓reduceIte, Nat.reduceAdd, Nat.reduceMul, Nat.reduceEqDiff, Nat.reduceLeDiff, reduceCtorEq, Int.reduceToNat]
      refine ⟨⟨by simp, by simp [oneAll, AV.one, PV.one], by simp⟩, by rw [rl]; omega, by decide +kernel, ?_⟩
      refine hK _ ?_; clear hK K
      simp only [andThen, inBlk, reduceCtorEq, ↓reduceIte, if_t, if_f]
      refine AW.ghost (s' := spB S m ma a i) ?_ (AW.ghost (s' := spC' S m ma a i) (Ghost.trans (Ghost.freeze (lb := 5) (ps := m.fields.map encFd) rfl (unlift_liftE _)) ?_) ?_)
      · simp only [spB, cellsSc]
        refine Ghost.ent (fun l => if l < 3 then l else if l = 3 then 29 else if l = 4 then 4 else 23) ?_ ?_ ?_ <;> simp -implicitDefEqProofs only [go_sem, ↓reduceIte, Nat.reduceAdd, Nat.reduceMul, Nat.reduceEqDiff, Nat.reduceLeDiff, reduceCtorEq, Int.reduceToNat, encMs, rowA_ren, rowA_labs, List.map_append, List.forall_mem_cons, List.not_mem_nil, false_implies, implies_true, and_self, map_renL_lift, labsIn_lift, List.all_append, List.all_cons, List.all_nil, List.map_append, Nat.reduceLT, labsInL, AV.labsIn]
        all_goals first | rfl | decide | skip
      · simp only [spB, spC', cellsSc]
        refine Ghost.sub ?_ ?_ <;> simp -implicitDefEqProofs only [go_sem, ↓reduceIte, Nat.reduceAdd, Nat.reduceMul, Nat.reduceEqDiff, Nat.reduceLeDiff, reduceCtorEq, Int.reduceToNat, thaw, thaw1, Option.map_some, List.map_cons, List.map_nil, List.map_append, thaw_lift, rowA_thaw (show (5 : Nat) ≠ 4 by decide), rowA_labs, List.forall_mem_cons, List.not_mem_nil, false_implies, implies_true, and_self, labsIn_lift, List.all_append, List.all_cons, List.all_nil, Nat.reduceLT, labsInL, AV.labsIn]
        all_goals first | rfl | decide | skip
      simp only [spC', cellsSc]
      have e8 := rowA_next (m := ma) (l := 4) hm hai
      simp only [encMs, List.map_cons, List.map_nil] at e8
      rw [e8]
      refine AW.rE (by rfl) fun K hK => ?_
      simp -implicitDefEqProofs only [go_sem, ↓reduceIte, Nat.reduceAdd, Nat.reduceMul, Nat.reduceEqDiff, Nat.reduceLeDiff, reduceCtorEq, Int.reduceToNat, w1]
      refine hK _ ?_; clear hK K
      refine ⟨i + 1, by omega, by omega, ?_⟩
      have hn : ¬ i + 1 ≤ a := by omega
      simp only [sp1, sq, if_neg hn, cellsSc, List.cons_append, List.nil_append]
      refine Ghost.sub ?_ ?_ <;> simp -implicitDefEqProofs only [go_sem, ↓reduceIte, Nat.reduceAdd, Nat.reduceMul, Nat.reduceEqDiff, Nat.reduceLeDiff, reduceCtorEq, Int.reduceToNat, rowA_labs, List.forall_mem_cons, List.not_mem_nil, false_implies, implies_true, and_self, labsIn_lift, List.all_append, List.all_cons, List.all_nil, Nat.reduceLT, labsInL, AV.labsIn]
      all_goals first | rfl | decide | skip
  have hi : i = S.msgs.length := by omega
  subst hi
  have hia : ¬ S.msgs.length ≤ a := by omega
  have hc1 : ((S.msgs.length : Int) < (S.msgs.length : Int)) = False := eq_false (by omega)
  simp only [sp1, sq, if_neg hia, cellsSc, List.cons_append, List.nil_append]
  refine AW.seq ?_
  refine AW.rT (by rfl) fun K hK => ?_
  simp -implicitDefEqProofs only [go_sem, ↓reduceIte, Nat.reduceAdd, Nat.reduceMul, Nat.reduceEqDiff, Nat.reduceLeDiff, reduceCtorEq, Int.reduceToNat, hc1, List.length_map]
  refine hK _ ?_; clear hK K
  refine AW.cond _ (by simp -implicitDefEqProofs only [go_sem, ↓reduceIte, Nat.reduceAdd, Nat.reduceMul, Nat.reduceEqDiff, Nat.reduceLeDiff, reduceCtorEq, Int.reduceToNat]; rfl) (fun hc => ?_) (fun hc => ?_)
  · simp at hc
  refine AW.exit ?_
  simp only [andThen, inBlk, reduceCtorEq, ↓reduceIte, if_t, if_f]
  clear hc1 hil i1 hia
  refine AW.seq ?_
  refine AW.rT (by rfl) fun K hK => ?_
  simp -implicitDefEqProofs only [go_sem, ↓reduceIte, Nat.reduceAdd, Nat.reduceMul, Nat.reduceEqDiff, Nat.reduceLeDiff, reduceCtorEq, Int.reduceToNat]
  refine hK _ ?_; clear hK K
  refine AW.block ?_
  refine AW.loop (spE S ma a) (fun i => i ≤ S.enums.length) (fun i => S.enums.length - i) 0 ?_ (by omega) fun j j1 => ?_
  · refine Ghost.trans (Ghost.nilH (l := 2) (i := 0) (j := 2) (sz' := 2) rfl rfl rfl) ?_
    simp only [spE, cellsSc]
    refine Ghost.ent (fun l => if l = 5 then 11 else l) ?_ ?_ ?_ <;> simp -implicitDefEqProofs only [go_sem, ↓reduceIte, Nat.reduceAdd, Nat.reduceMul, Nat.reduceEqDiff, Nat.reduceLeDiff, reduceCtorEq, Int.reduceToNat, List.take_zero, List.map_nil, liftE_nil, rowA_ren, rowA_labs, List.forall_mem_cons, List.not_mem_nil, false_implies, implies_true, and_self, map_renL_lift, labsIn_lift, List.all_append, List.all_cons, List.all_nil, List.map_append, Nat.reduceLT, labsInL, AV.labsIn]
    all_goals first | rfl | decide | skip
  simp only [spE, cellsSc]
  refine AW.seq ?_
  by_cases hil : j < S.enums.length
  · obtain ⟨m, hm⟩ : ∃ m, S.enums[j]? = some m := ⟨_, List.getElem?_eq_getElem hil⟩
    have ⟨hm1, hm2, hm3⟩ := at_map' encEn hm
    have hm2' : (j : Int) < (S.enums.length : Int) := by omega
    have hc1 : ((j : Int) < (S.enums.length : Int)) = True := eq_true (by omega)
    have w1 : IntKind.wrap .i64 ((j : Int) + 1) = ((j + 1 : Nat) : Int) := by rw [w64] <;> omega
    have FE := F.en m (List.mem_of_getElem? hm)
    have f1 := FE.vals
    refine AW.rT (by rfl) fun K hK => ?_
    simp -implicitDefEqProofs only [go_sem, ↓reduceIte, Nat.reduceAdd, Nat.reduceMul, Nat.reduceEqDiff, Nat.reduceLeDiff, reduceCtorEq, Int.reduceToNat, hc1, List.length_map]
    refine hK _ ?_; clear hK K
    refine AW.cond _ (by simp -implicitDefEqProofs only [go_sem, ↓reduceIte, Nat.reduceAdd, Nat.reduceMul, Nat.reduceEqDiff, Nat.reduceLeDiff, reduceCtorEq, Int.reduceToNat]; rfl) (fun hc => ?_) (fun hc => ?_)
    rotate_left
    · simp at hc
    refine AW.skip ?_
    simp only [andThen, inBlk, reduceCtorEq, ↓reduceIte, if_t, if_f]
    refine AW.seq ?_
    refine AW.block ?_
    refine AW.dE mixed (by rfl) (by decide +kernel) fun K hK => ?_
    simp -implicitDefEqProofs only [go_sem, ↓reduceIte, Nat.reduceAdd, Nat.reduceMul, Nat.reduceEqDiff, Nat.reduceLeDiff, reduceCtorEq, Int.reduceToNat, hm1, hm2', hm3, encEn, List.length_map]
    refine ⟨⟨lift_len (f := encNm) (fun _ => rfl) _, lift_one one_Nm _, by simp⟩, ⟨.inl trivial, by simp, by rw [liftE_length, List.length_map]; omega⟩, ?_⟩
    try simp -implicitDefEqProofs only [go_sem, ↓reduceIte, Nat.reduceAdd, Nat.reduceMul, Nat.reduceEqDiff, Nat.reduceLeDiff, reduceCtorEq, Int.reduceToNat]
    refine ⟨⟨by simp, by simp [oneAll, AV.one, PV.one], by simp⟩, by simp [liftE_length]; omega, by decide +kernel, ?_⟩
    refine hK _ ?_; clear hK K
    simp only [andThen, inBlk, reduceCtorEq, ↓reduceIte, if_t, if_f]
    refine AW.ghost (s' := spF' S ma m a j) ?_ (AW.ghost (s' := spG S ma m a j) (Ghost.trans (Ghost.freeze (lb := 6) (ps := m.vals.map encNm) rfl (unlift_liftE _)) ?_) ?_)
    · simp only [spF', cellsSc]
      refine Ghost.ent (fun l => if l < 5 then l else if l = 5 then 28 else 25) ?_ ?_ ?_ <;> simp -implicitDefEqProofs only [go_sem, ↓reduceIte, Nat.reduceAdd, Nat.reduceMul, Nat.reduceEqDiff, Nat.reduceLeDiff, reduceCtorEq, Int.reduceToNat, encEn, rowA_ren, rowA_labs, List.forall_mem_cons, List.not_mem_nil, false_implies, implies_true, and_self, map_renL_lift, labsIn_lift, List.all_append, List.all_cons, List.all_nil, List.map_append, Nat.reduceLT, labsInL, AV.labsIn]
      all_goals first | rfl | decide | skip
    · simp only [spF', spG, cellsSc]
      refine Ghost.sub ?_ ?_ <;> simp -implicitDefEqProofs only [go_sem, ↓reduceIte, Nat.reduceAdd, Nat.reduceMul, Nat.reduceEqDiff, Nat.reduceLeDiff, reduceCtorEq, Int.reduceToNat, thaw, thaw1, Option.map_some, List.map_cons, List.map_nil, List.map_append, thaw_lift, rowA_thaw (show (6 : Nat) ≠ 4 by decide), rowA_labs, List.forall_mem_cons, List.not_mem_nil, false_implies, implies_true, and_self, labsIn_lift, List.all_append, List.all_cons, List.all_nil, Nat.reduceLT, labsInL, AV.labsIn]
      all_goals first | rfl | decide | skip
    simp only [spG, cellsSc]
    have e8 : liftE ((S.enums.take j).map encEn) ++ [[AV.p (.str m.name), .p (.slice (m.vals.map encNm))]] = liftE ((S.enums.take (j + 1)).map encEn) := by
      rw [List.take_add_one, hm]
      simp [liftE, encEn]
    rw [e8]
    refine AW.rE (by rfl) fun K hK => ?_
    simp -implicitDefEqProofs only [go_sem, ↓reduceIte, Nat.reduceAdd, Nat.reduceMul, Nat.reduceEqDiff, Nat.reduceLeDiff, reduceCtorEq, Int.reduceToNat, w1]
    refine hK _ ?_; clear hK K
    refine ⟨j + 1, by omega, by omega, ?_⟩
    refine Ghost.sub ?_ ?_ <;> simp -implicitDefEqProofs only [go_sem, ↓reduceIte, Nat.reduceAdd, Nat.reduceMul, Nat.reduceEqDiff, Nat.reduceLeDiff, reduceCtorEq, Int.reduceToNat, rowA_labs, List.forall_mem_cons, List.not_mem_nil, false_implies, implies_true, and_self, labsIn_lift, List.all_append, List.all_cons, List.all_nil, Nat.reduceLT, labsInL, AV.labsIn]
    all_goals first | rfl | decide | skip
  have hc1 : ((j : Int) < (S.enums.length : Int)) = False := eq_false (by omega)
  have ea : S.enums.take j = S.enums := List.take_of_length_le (by omega)
  rw [ea]
  clear ea
  refine AW.rT (by rfl) fun K hK => ?_
  simp -implicitDefEqProofs only [go_sem, ↓reduceIte, Nat.reduceAdd, Nat.reduceMul, Nat.reduceEqDiff, Nat.reduceLeDiff, reduceCtorEq, Int.reduceToNat, hc1, List.length_map]
  refine hK _ ?_; clear hK K
  refine AW.cond _ (by simp -implicitDefEqProofs only [go_sem, ↓reduceIte, Nat.reduceAdd, Nat.reduceMul, Nat.reduceEqDiff, Nat.reduceLeDiff, reduceCtorEq, Int.reduceToNat]; rfl) (fun hc => ?_) (fun hc => ?_)
  · simp at hc
  refine AW.exit ?_
  simp only [andThen, inBlk, reduceCtorEq, ↓reduceIte, if_t, if_f]
  refine AW.ghost (s' := spH S ma a) (Ghost.trans (Ghost.freeze (lb := 5) (ps := S.enums.map encEn) rfl (unlift_liftE _)) ?_) ?_
  · simp only [spH, cellsSc]
    refine Ghost.sub ?_ ?_ <;> simp -implicitDefEqProofs only [go_sem, ↓reduceIte, Nat.reduceAdd, Nat.reduceMul, Nat.reduceEqDiff, Nat.reduceLeDiff, reduceCtorEq, Int.reduceToNat, thaw, thaw1, Option.map_some, List.map_cons, List.map_nil, List.map_append, thaw_lift, rowA_thaw (show (5 : Nat) ≠ 4 by decide), rowA_labs, List.forall_mem_cons, List.not_mem_nil, false_implies, implies_true, and_self, labsIn_lift, List.all_append, List.all_cons, List.all_nil, Nat.reduceLT, labsInL, AV.labsIn]
    all_goals first | rfl | decide | skip
  simp only [spH, cellsSc]
  refine AW.rT (by rfl) fun K hK => ?_
  simp -implicitDefEqProofs only [go_sem, ↓reduceIte, Nat.reduceAdd, Nat.reduceMul, Nat.reduceEqDiff, Nat.reduceLeDiff, reduceCtorEq, Int.reduceToNat]
  refine hK _ ?_; clear hK K
  refine AW.ghost (s' := spZ S ma a) ?_ ?_
  · simp only [spZ]
    refine Ghost.ent (fun l => l + if l = 1 then 0 else 1) ?_ ?_ ?_ <;> simp -implicitDefEqProofs only [go_sem, ↓reduceIte, Nat.reduceAdd, Nat.reduceMul, Nat.reduceEqDiff, Nat.reduceLeDiff, reduceCtorEq, Int.reduceToNat, rowA_ren, rowA_labs, List.forall_mem_cons, List.not_mem_nil, false_implies, implies_true, and_self, map_renL_lift, labsIn_lift, List.all_append, List.all_cons, List.all_nil, List.map_append, Nat.reduceLT, labsInL, AV.labsIn]
    all_goals first | rfl | decide | skip
  refine AW.ret ⟨fun l => l + 2, [.agg [.p (.str S.name), .own 2, .p (.slice (S.enums.map encEn)), .p (.slice (S.meths.map encMt))]], ⟨?_, trivial⟩, rfl, rfl, ?_, ?_, ?_⟩
  · simp only [spZ]
    simp -implicitDefEqProofs only [go_sem, ↓reduceIte, Nat.reduceAdd, Nat.reduceMul, Nat.reduceEqDiff, Nat.reduceLeDiff, reduceCtorEq, Int.reduceToNat]
  · simp only [spZ]
    simp -implicitDefEqProofs only [go_sem, ↓reduceIte, Nat.reduceAdd, Nat.reduceMul, Nat.reduceEqDiff, Nat.reduceLeDiff, reduceCtorEq, Int.reduceToNat, List.forall_mem_cons, List.not_mem_nil, false_implies, implies_true, and_self, labsIn_lift, map_renL_lift, rowA_ren, rowA_labs]
    decide
  · simp
  · simp
end Go.Aw
