/- The law ValueApart. -/
import Derived.Test.YtmeplhcfjihafaaAwTV
import Derived.Test.YtmeplhcfjihafaaAwE0
namespace Go.Aw
open Go.Proofs Go.RowKit
set_option linter.unusedSimpArgs false
set_option linter.unusedVariables false
def apX (t : Tr) : List AV := [.p (.int .i64 t.kind), .p (.int .i64 t.n), .p (.str t.s), .own 2, .p (.slice (t.rest.map encRaw))]
def apS (t : Tr) (e : Int × List Tr) (m : List (Nat × AV)) (h : List (Nat × Blk)) (n : Nat) : St := ⟨ofL ((1, .ptr 0 0 0) :: (3, .ptr 1 0 0) :: m), ofH ((0, .row 5 [cellsT t]) :: (1, .row 5 [apX t]) :: (2, .row 2 (rowE t 0 e.1 3 t.ents.length)) :: (3, .row 5 (liftE (e.2.map encTr))) :: h), n⟩
def apA (t : Tr) (e : Int × List Tr) : St := ⟨ofL [(1, .ptr 0 0 0), (3, .ptr 1 0 0)], ofH [(0, .row 5 [cellsT t]), (1, .row 5 [[.p (.int .i64 t.kind), .p (.int .i64 t.n), .p (.str t.s), .own 2, .own 3]]), (2, .row 2 (rowE t 0 e.1 4 t.ents.length)), (3, .row 4 (liftE (t.rest.map encRaw))), (4, .row 5 (liftE (e.2.map encTr)))], 5⟩
def apB (t : Tr) (e : Int × List Tr) : St := ⟨ofL [(1, .ptr 0 0 0), (3, .ptr 1 0 0)], ofH [(0, .row 5 [cellsT t]), (1, .row 5 [apX t]), (2, .row 2 (rowE t 0 e.1 4 t.ents.length)), (4, .row 5 (liftE (e.2.map encTr)))], 5⟩
def apW (t : Tr) : St := ⟨ofL [(1, .ptr 0 0 0), (4, .ptr 1 0 0)], ofH [(0, .row 5 [cellsT t]), (1, .row 1 [[.p (encV t)]])], 2⟩
def apZ (t : Tr) : List AV := [.p (.int .i64 t.kind), .p (.int .i64 t.n), .p (.str t.s), .own 3, .p (.slice (t.rest.map encRaw))]
def apY (t : Tr) (e : Int × List Tr) (m : List (Nat × AV)) : St := ⟨ofL ((1, .ptr 0 0 0) :: (4, .ptr 1 0 0) :: (6, .ptr 2 0 0) :: m), ofH [(0, .row 5 [cellsT t]), (1, .row 1 [[.p (encV t)]]), (2, .row 5 [apZ t]), (3, .row 2 (rowE t 0 e.1 4 t.ents.length)), (4, .row 5 (liftE (e.2.map encTr)))], 5⟩
set_option maxRecDepth 100000 in
set_option maxHeartbeats 8000000 in
theorem law09_ValueApart (t : Tr) : PFn Try.prog 16 [.agg (encTr t)] (.bool true) := by
  refine PFn.of Try.func16 rfl (by decide) Try.ntmps16 Try.results16 (Nat.le_of_ble_eq_true rfl) ?_
  simp only [argsT, encTr_eq]
  have SM := law00_Small t
  rw [encTr_eq] at SM
  refine AW.rT (by rfl) fun K hK => ?_
  simp -implicitDefEqProofs only [go_sem, ↓reduceIte, Nat.reduceAdd, Nat.reduceMul, Nat.reduceEqDiff, Nat.reduceLeDiff, reduceCtorEq, Int.reduceToNat]
  refine hK _ ?_; clear hK K
  refine AW.seq ?_
  cases hs : smallB t with
  | false =>
    rw [hs] at SM
    refine AW.rT (by rfl) fun K hK => ?_
    simp -implicitDefEqProofs only [go_sem, ↓reduceIte, Nat.reduceAdd, Nat.reduceMul, Nat.reduceEqDiff, Nat.reduceLeDiff, reduceCtorEq, Int.reduceToNat]
    refine ⟨.pure _, SM, ?_⟩
    try simp -implicitDefEqProofs only [go_sem, ↓reduceIte, Nat.reduceAdd, Nat.reduceMul, Nat.reduceEqDiff, Nat.reduceLeDiff, reduceCtorEq, Int.reduceToNat]
    refine hK _ ?_; clear hK K
    refine AW.cond _ (by simp -implicitDefEqProofs only [go_sem, ↓reduceIte, Nat.reduceAdd, Nat.reduceMul, Nat.reduceEqDiff, Nat.reduceLeDiff, reduceCtorEq, Int.reduceToNat]; rfl) (fun hc => ?_) (fun hc => ?_)
    rotate_left
    · simp at hc
    refine AW.rT (by rfl) fun K hK => ?_
    simp -implicitDefEqProofs only [go_sem, ↓reduceIte, Nat.reduceAdd, Nat.reduceMul, Nat.reduceEqDiff, Nat.reduceLeDiff, reduceCtorEq, Int.reduceToNat]
    refine ⟨.pure _, law09_awake, ?_⟩
    try simp -implicitDefEqProofs only [go_sem, ↓reduceIte, Nat.reduceAdd, Nat.reduceMul, Nat.reduceEqDiff, Nat.reduceLeDiff, reduceCtorEq, Int.reduceToNat]
    refine hK _ ?_; clear hK K
    refine AW.ret ?_
    simp -implicitDefEqProofs only [go_sem, ↓reduceIte, Nat.reduceAdd, Nat.reduceMul, Nat.reduceEqDiff, Nat.reduceLeDiff, reduceCtorEq, Int.reduceToNat]
  | true =>
  rw [hs] at SM
  have hl : lensT t = true := lens_small t 0 0 hs
  have E47 := ref_Check t hl
  rw [encTr_eq] at E47
  by_cases hk : t.kind = 3
  case neg =>
    have k1 : (t.kind != 3) = true := by simp [hk]
    refine AW.rT (by rfl) fun K hK => ?_
    simp -implicitDefEqProofs only [go_sem, ↓reduceIte, Nat.reduceAdd, Nat.reduceMul, Nat.reduceEqDiff, Nat.reduceLeDiff, reduceCtorEq, Int.reduceToNat]
    refine ⟨.pure _, SM, ?_⟩
    try simp -implicitDefEqProofs only [go_sem, ↓reduceIte, Nat.reduceAdd, Nat.reduceMul, Nat.reduceEqDiff, Nat.reduceLeDiff, reduceCtorEq, Int.reduceToNat, k1]
    refine hK _ ?_; clear hK K
    refine AW.cond _ (by simp -implicitDefEqProofs only [go_sem, ↓reduceIte, Nat.reduceAdd, Nat.reduceMul, Nat.reduceEqDiff, Nat.reduceLeDiff, reduceCtorEq, Int.reduceToNat]; rfl) (fun hc => ?_) (fun hc => ?_)
    rotate_left
    · simp at hc
    refine AW.rT (by rfl) fun K hK => ?_
    simp -implicitDefEqProofs only [go_sem, ↓reduceIte, Nat.reduceAdd, Nat.reduceMul, Nat.reduceEqDiff, Nat.reduceLeDiff, reduceCtorEq, Int.reduceToNat]
    refine ⟨.pure _, law09_awake, ?_⟩
    try simp -implicitDefEqProofs only [go_sem, ↓reduceIte, Nat.reduceAdd, Nat.reduceMul, Nat.reduceEqDiff, Nat.reduceLeDiff, reduceCtorEq, Int.reduceToNat]
    refine hK _ ?_; clear hK K
    refine AW.ret ?_
    simp -implicitDefEqProofs only [go_sem, ↓reduceIte, Nat.reduceAdd, Nat.reduceMul, Nat.reduceEqDiff, Nat.reduceLeDiff, reduceCtorEq, Int.reduceToNat]
  have k1 : (t.kind != 3) = false := by simp [hk]
  cases hok : okT t with
  | false =>
    rw [hok] at E47
    refine AW.rT (by rfl) fun K hK => ?_
    simp -implicitDefEqProofs only [go_sem, ↓reduceIte, Nat.reduceAdd, Nat.reduceMul, Nat.reduceEqDiff, Nat.reduceLeDiff, reduceCtorEq, Int.reduceToNat]
    refine ⟨.pure _, SM, ?_⟩
    try simp -implicitDefEqProofs only [go_sem, ↓reduceIte, Nat.reduceAdd, Nat.reduceMul, Nat.reduceEqDiff, Nat.reduceLeDiff, reduceCtorEq, Int.reduceToNat, k1]
    refine ⟨.pure _, E47, ?_⟩
    try simp -implicitDefEqProofs only [go_sem, ↓reduceIte, Nat.reduceAdd, Nat.reduceMul, Nat.reduceEqDiff, Nat.reduceLeDiff, reduceCtorEq, Int.reduceToNat]
    refine hK _ ?_; clear hK K
    refine AW.cond _ (by simp -implicitDefEqProofs only [go_sem, ↓reduceIte, Nat.reduceAdd, Nat.reduceMul, Nat.reduceEqDiff, Nat.reduceLeDiff, reduceCtorEq, Int.reduceToNat]; rfl) (fun hc => ?_) (fun hc => ?_)
    rotate_left
    · simp at hc
    refine AW.rT (by rfl) fun K hK => ?_
    simp -implicitDefEqProofs only [go_sem, ↓reduceIte, Nat.reduceAdd, Nat.reduceMul, Nat.reduceEqDiff, Nat.reduceLeDiff, reduceCtorEq, Int.reduceToNat]
    refine ⟨.pure _, law09_awake, ?_⟩
    try simp -implicitDefEqProofs only [go_sem, ↓reduceIte, Nat.reduceAdd, Nat.reduceMul, Nat.reduceEqDiff, Nat.reduceLeDiff, reduceCtorEq, Int.reduceToNat]
    refine hK _ ?_; clear hK K
    refine AW.ret ?_
    simp -implicitDefEqProofs only [go_sem, ↓reduceIte, Nat.reduceAdd, Nat.reduceMul, Nat.reduceEqDiff, Nat.reduceLeDiff, reduceCtorEq, Int.reduceToNat]
  | true =>
  rw [hok] at E47
  by_cases h0 : t.ents.length = 0
  · have k2 : ((t.ents.length : Int) == 0) = true := by rw [beq_iff_eq]; omega
    refine AW.rT (by rfl) fun K hK => ?_
    simp -implicitDefEqProofs only [go_sem, ↓reduceIte, Nat.reduceAdd, Nat.reduceMul, Nat.reduceEqDiff, Nat.reduceLeDiff, reduceCtorEq, Int.reduceToNat]
    refine ⟨.pure _, SM, ?_⟩
    try simp -implicitDefEqProofs only [go_sem, ↓reduceIte, Nat.reduceAdd, Nat.reduceMul, Nat.reduceEqDiff, Nat.reduceLeDiff, reduceCtorEq, Int.reduceToNat, k1, k2, List.length_map]
    refine ⟨.pure _, E47, ?_⟩
    try simp -implicitDefEqProofs only [go_sem, ↓reduceIte, Nat.reduceAdd, Nat.reduceMul, Nat.reduceEqDiff, Nat.reduceLeDiff, reduceCtorEq, Int.reduceToNat, k1, k2, List.length_map]
    refine hK _ ?_; clear hK K
    refine AW.cond _ (by simp -implicitDefEqProofs only [go_sem, ↓reduceIte, Nat.reduceAdd, Nat.reduceMul, Nat.reduceEqDiff, Nat.reduceLeDiff, reduceCtorEq, Int.reduceToNat]; rfl) (fun hc => ?_) (fun hc => ?_)
    rotate_left
    · simp at hc
    refine AW.rT (by rfl) fun K hK => ?_
    simp -implicitDefEqProofs only [go_sem, ↓reduceIte, Nat.reduceAdd, Nat.reduceMul, Nat.reduceEqDiff, Nat.reduceLeDiff, reduceCtorEq, Int.reduceToNat]
    refine ⟨.pure _, law09_awake, ?_⟩
    try simp -implicitDefEqProofs only [go_sem, ↓reduceIte, Nat.reduceAdd, Nat.reduceMul, Nat.reduceEqDiff, Nat.reduceLeDiff, reduceCtorEq, Int.reduceToNat]
    refine hK _ ?_; clear hK K
    refine AW.ret ?_
    simp -implicitDefEqProofs only [go_sem, ↓reduceIte, Nat.reduceAdd, Nat.reduceMul, Nat.reduceEqDiff, Nat.reduceLeDiff, reduceCtorEq, Int.reduceToNat]
  have k2 : ((t.ents.length : Int) == 0) = false := beq_eq_false_iff_ne.2 (by omega)
  refine AW.rT (by rfl) fun K hK => ?_
  simp -implicitDefEqProofs only [go_sem, ↓reduceIte, Nat.reduceAdd, Nat.reduceMul, Nat.reduceEqDiff, Nat.reduceLeDiff, reduceCtorEq, Int.reduceToNat]
  refine ⟨.pure _, SM, ?_⟩
  try simp -implicitDefEqProofs only [go_sem, ↓reduceIte, Nat.reduceAdd, Nat.reduceMul, Nat.reduceEqDiff, Nat.reduceLeDiff, reduceCtorEq, Int.reduceToNat, k1, k2, List.length_map]
  refine ⟨.pure _, E47, ?_⟩
  try simp -implicitDefEqProofs only [go_sem, ↓reduceIte, Nat.reduceAdd, Nat.reduceMul, Nat.reduceEqDiff, Nat.reduceLeDiff, reduceCtorEq, Int.reduceToNat, k1, k2, List.length_map]
  refine hK _ ?_; clear hK K
  refine AW.cond _ (by simp -implicitDefEqProofs only [go_sem, ↓reduceIte, Nat.reduceAdd, Nat.reduceMul, Nat.reduceEqDiff, Nat.reduceLeDiff, reduceCtorEq, Int.reduceToNat]; rfl) (fun hc => ?_) (fun hc => ?_)
  · simp at hc
  refine AW.skip ?_
  simp only [andThen, inBlk, reduceCtorEq, ↓reduceIte, if_t, if_f]
  obtain ⟨la1, la2, la3⟩ := lensT_mk hl
  have hal : 0 < t.ents.length := by omega
  obtain ⟨e, he⟩ : ∃ e, t.ents[0]? = some e := ⟨_, List.getElem?_eq_getElem hal⟩
  obtain ⟨le1, le2⟩ := lensE_at la3 he
  have hr : rightT t = true := by
    unfold okT at hok
    rw [Bool.and_eq_true] at hok
    exact hok.2
  have hre : rightE t.ents 0 = true := by
    rcases right_kinds hr with ⟨q, _⟩ | ⟨q, _⟩ | ⟨_, _, _, q, _⟩
    · omega
    · omega
    · exact q
  have lp : 1 ≤ e.2.length := (right_len hre e (List.mem_of_getElem? he)).2.2.1
  have TA := law00_TreeA t hl 0 e he
  rw [encTr_eq] at TA
  have OD := Of_D t hl hk hok e he
  have TV := value_TreeD t hl hr hk 0 e he
  have VT := value_Tree t hl hr
  have S2 := ref09_Same t t hl
  rw [(sameT_iff t t).2 rfl] at S2
  rw [encTr_eq] at VT S2
  refine AW.rR (SeqR.ev 1 (by rfl) (by decide) ?_)
  simp -implicitDefEqProofs only [go_sem, ↓reduceIte, Nat.reduceAdd, Nat.reduceMul, Nat.reduceEqDiff, Nat.reduceLeDiff, reduceCtorEq, Int.reduceToNat]
  refine SeqR.call (fun k => k) rfl rfl TA ⟨?_, rfl, (fun x hx => by cases hx), rfl, rfl, rfl, rfl, rfl, ?_⟩ ?_
  · simp -implicitDefEqProofs only [go_sem, ↓reduceIte, Nat.reduceAdd, Nat.reduceMul, Nat.reduceEqDiff, Nat.reduceLeDiff, reduceCtorEq, Int.reduceToNat, argD]
  · have h1 := labsBy_lift (p := fun l => ([] : List Nat).contains l || decide (0 ≤ l)) (sz := 4) (es := t.rest.map encRaw)
    have h2 := labsBy_lift (p := fun l => ([] : List Nat).contains l || decide (0 ≤ l)) (sz := 5) (es := e.2.map encTr)
    have h3 := rowE_by (p := fun l => ([] : List Nat).contains l || decide (0 ≤ l)) t 0 e.1 2 t.ents.length rfl
    simp only [List.all_cons, List.all_nil, h1, h2, h3]
    rfl
  refine SeqR.ev 2 (by rfl) (by decide) ?_
  simp -implicitDefEqProofs only [go_sem, ↓reduceIte, Nat.reduceAdd, Nat.reduceMul, Nat.reduceEqDiff, Nat.reduceLeDiff, reduceCtorEq, Int.reduceToNat]
  refine SeqR.last rfl ?_
  refine AW.ghost (s' := apA t e) ?_ ?_
  · simp only [apA, cellsT]
    refine Ghost.ent (fun l => if l = 1 then 25 else if l = 2 then 22 else if l = 3 then 23 else if l = 4 then 24 else l) ?_ ?_ ?_ <;> simp -implicitDefEqProofs only [go_sem, ↓reduceIte, Nat.reduceAdd, Nat.reduceMul, Nat.reduceEqDiff, Nat.reduceLeDiff, reduceCtorEq, Int.reduceToNat, lift2, goneU, newU, Nat.reduceSub, rowE_ren, rowE_labs t 0 e.1 4 t.ents.length 5 (by decide), List.forall_mem_cons, List.not_mem_nil, false_implies, implies_true, and_self, map_renL_lift, labsIn_lift, List.all_append, List.all_cons, List.all_nil, List.map_append, Nat.reduceLT, labsInL, AV.labsIn]
    all_goals first | rfl | decide | skip
  refine AW.ghost (s' := apS t e [] [] 4) (Ghost.trans (s' := apB t e) (Ghost.freeze (lb := 3) (sz := 4) (ps := t.rest.map encRaw) rfl (unlift_liftE _) |>.trans ?_) ?_) ?_
  · simp only [apA, apB, apX, cellsT]
    refine Ghost.sub ?_ ?_ <;> simp -implicitDefEqProofs only [go_sem, ↓reduceIte, Nat.reduceAdd, Nat.reduceMul, Nat.reduceEqDiff, Nat.reduceLeDiff, reduceCtorEq, Int.reduceToNat, thaw, thaw1, mkAgg, allP, Option.map_some, List.map_cons, List.map_nil, thaw_lift, rowE_thaw t 0 e.1 4 t.ents.length 3 _ (by decide), rowE_labs t 0 e.1 4 t.ents.length 5 (by decide), List.forall_mem_cons, List.not_mem_nil, false_implies, implies_true, and_self, labsIn_lift, List.all_append, List.all_cons, List.all_nil, Nat.reduceLT, labsInL, AV.labsIn]
    done
  · simp only [apB, apS, apX, cellsT]
    refine Ghost.ent (fun l => if l = 3 then 4 else l) ?_ ?_ ?_ <;> simp -implicitDefEqProofs only [go_sem, ↓reduceIte, Nat.reduceAdd, Nat.reduceMul, Nat.reduceEqDiff, Nat.reduceLeDiff, reduceCtorEq, Int.reduceToNat, rowE_ren, rowE_labs t 0 e.1 3 t.ents.length 4 (by decide), List.forall_mem_cons, List.not_mem_nil, false_implies, implies_true, and_self, map_renL_lift, labsIn_lift, List.all_append, List.all_cons, List.all_nil, List.map_append, Nat.reduceLT, labsInL, AV.labsIn]
    all_goals first | rfl | decide | skip
  simp only [apS, apX, cellsT]
  refine AW.rR (SeqR.ev 1 (by rfl) (by decide) ?_)
  simp -implicitDefEqProofs only [go_sem, ↓reduceIte, Nat.reduceAdd, Nat.reduceMul, Nat.reduceEqDiff, Nat.reduceLeDiff, reduceCtorEq, Int.reduceToNat]
  refine SeqR.call (fun k => k + 2) rfl rfl OD ⟨?_, rfl, ?_, rfl, rfl, rfl, rfl, rfl, ?_⟩ ?_
  · simp -implicitDefEqProofs only [go_sem, ↓reduceIte, Nat.reduceAdd, Nat.reduceMul, Nat.reduceEqDiff, Nat.reduceLeDiff, reduceCtorEq, Int.reduceToNat, argD]
    done
  · simp only [hM]
    simp -implicitDefEqProofs only [go_sem, ↓reduceIte, Nat.reduceAdd, Nat.reduceMul, Nat.reduceEqDiff, Nat.reduceLeDiff, reduceCtorEq, Int.reduceToNat, List.forall_mem_cons, List.not_mem_nil, false_implies, implies_true, and_self, labsIn_lift, map_renL_lift, rowE_ren, rowE_labs t 0 e.1 1 t.ents.length 2 (by decide)]
    exact ⟨by decide, by decide⟩
  · have h2 := labsBy_lift (p := fun l => ([0] : List Nat).contains l || decide (2 ≤ l)) (sz := 5) (es := e.2.map encTr)
    have h3 := rowE_by (p := fun l => ([0] : List Nat).contains l || decide (2 ≤ l)) t 0 e.1 2 t.ents.length rfl
    simp only [hN, List.all_cons, List.all_nil, h2, h3]
    rfl
  refine SeqR.ev 6 (by rfl) (by decide) ?_
  simp -implicitDefEqProofs only [go_sem, ↓reduceIte, Nat.reduceAdd, Nat.reduceMul, Nat.reduceEqDiff, Nat.reduceLeDiff, reduceCtorEq, Int.reduceToNat, hM, hN, goneU, newU, lift2, Nat.reduceSub, rowE_ren]
  refine ⟨encV_one t, ?_⟩
  refine SeqR.last rfl ?_
  refine AW.ghost (s' := apS t e [(4, .ptr 4 0 0), (5, .p (.bool true))] [(4, .row 1 [[.p (encV t)]])] 5) ?_ ?_
  · simp only [apS, apX, cellsT]
    refine Ghost.ent (fun l => if l = 3 then 5 else if l = 4 then 9 else l) ?_ ?_ ?_ <;> simp -implicitDefEqProofs only [go_sem, ↓reduceIte, Nat.reduceAdd, Nat.reduceMul, Nat.reduceEqDiff, Nat.reduceLeDiff, reduceCtorEq, Int.reduceToNat, rowE_ren, rowE_labs t 0 e.1 3 t.ents.length 5 (by decide), List.forall_mem_cons, List.not_mem_nil, false_implies, implies_true, and_self, map_renL_lift, labsIn_lift, List.all_append, List.all_cons, List.all_nil, List.map_append, Nat.reduceLT, labsInL, AV.labsIn]
    all_goals first | rfl | decide | skip
  simp only [apS, apX, cellsT]
  refine AW.seq ?_
  refine AW.rT (by rfl) fun K hK => ?_
  simp -implicitDefEqProofs only [go_sem, ↓reduceIte, Nat.reduceAdd, Nat.reduceMul, Nat.reduceEqDiff, Nat.reduceLeDiff, reduceCtorEq, Int.reduceToNat]
  refine hK _ ?_; clear hK K
  refine AW.cond _ (by simp -implicitDefEqProofs only [go_sem, ↓reduceIte, Nat.reduceAdd, Nat.reduceMul, Nat.reduceEqDiff, Nat.reduceLeDiff, reduceCtorEq, Int.reduceToNat]; rfl) (fun hc => ?_) (fun hc => ?_)
  · simp at hc
  refine AW.skip ?_
  simp only [andThen, inBlk, reduceCtorEq, ↓reduceIte, if_t, if_f]
  have ra := rowE_at (g := e.1) (l := 3) hal
  have ra2 := rowE_at (g := 499) (l := 3) hal
  have rl := rowE_len t 0 e.1 3 t.ents.length (Nat.le_refl _)
  have rl2 := rowE_len t 0 499 3 t.ents.length (Nat.le_refl _)
  have rs := rowE_set (g := e.1) (g' := 499) (l := 3) hal
  have hc1 : ((0 : Int) < (t.ents.length : Int)) = True := eq_true (by omega)
  have el := lift_lens e.2
  obtain ⟨y, hy⟩ : ∃ y, e.2[0]? = some y := ⟨_, List.getElem?_eq_getElem (by omega)⟩
  have g0 := at_lift encTr hy
  rw [encTr_eq] at g0
  simp only [List.map_cons, List.map_nil] at g0
  have hc2 : ((0 : Int) < (e.2.length : Int)) = True := eq_true (by omega)
  have b00 : ((0 : Int) ≤ 0) = True := eq_true (Int.le_refl 0)
  refine AW.rT (by rfl) fun K hK => ?_
  simp -implicitDefEqProofs only [go_sem, ↓reduceIte, Nat.reduceAdd, Nat.reduceMul, Nat.reduceEqDiff, Nat.reduceLeDiff, reduceCtorEq, Int.reduceToNat, ra, rl, hc1, b00]
  refine hK _ ?_; clear hK K
  refine AW.rT (by rfl) fun K hK => ?_
  simp -implicitDefEqProofs only [go_sem, ↓reduceIte, Nat.reduceAdd, Nat.reduceMul, Nat.reduceEqDiff, Nat.reduceLeDiff, reduceCtorEq, Int.reduceToNat, rs, ra2, rl2, hc1, el, hc2, g0, b00]
  refine hK _ ?_; clear hK K
  refine AW.ghost (s' := apW t) ?_ ?_
  · simp only [apW, cellsT]
    refine Ghost.ent (fun l => if l = 1 then 4 else l) ?_ ?_ ?_ <;> simp -implicitDefEqProofs only [go_sem, ↓reduceIte, Nat.reduceAdd, Nat.reduceMul, Nat.reduceEqDiff, Nat.reduceLeDiff, reduceCtorEq, Int.reduceToNat,  List.forall_mem_cons, List.not_mem_nil, false_implies, implies_true, and_self, map_renL_lift, labsIn_lift, List.all_append, List.all_cons, List.all_nil, List.map_append, Nat.reduceLT, labsInL, AV.labsIn]
    all_goals first | rfl | decide | skip
  simp only [apW, cellsT]
  refine AW.rR (SeqR.ev 1 (by rfl) (by decide) ?_)
  simp -implicitDefEqProofs only [go_sem, ↓reduceIte, Nat.reduceAdd, Nat.reduceMul, Nat.reduceEqDiff, Nat.reduceLeDiff, reduceCtorEq, Int.reduceToNat]
  refine SeqR.call (fun k => k) rfl rfl TV ⟨?_, rfl, (fun x hx => by cases hx), rfl, rfl, rfl, rfl, rfl, ?_⟩ ?_
  · simp -implicitDefEqProofs only [go_sem, ↓reduceIte, Nat.reduceAdd, Nat.reduceMul, Nat.reduceEqDiff, Nat.reduceLeDiff, reduceCtorEq, Int.reduceToNat, argD]
    done
  · have h2 := labsBy_lift (p := fun l => ([] : List Nat).contains l || decide (0 ≤ l)) (sz := 5) (es := e.2.map encTr)
    have h3 := rowE_by (p := fun l => ([] : List Nat).contains l || decide (0 ≤ l)) t 0 e.1 1 t.ents.length rfl
    simp only [List.all_cons, List.all_nil, h2, h3]
    rfl
  refine SeqR.ev 2 (by rfl) (by decide) ?_
  simp -implicitDefEqProofs only [go_sem, ↓reduceIte, Nat.reduceAdd, Nat.reduceMul, Nat.reduceEqDiff, Nat.reduceLeDiff, reduceCtorEq, Int.reduceToNat]
  refine SeqR.last rfl ?_
  refine AW.ghost (s' := apY t e []) ?_ ?_
  · simp only [apY, apZ, cellsT]
    refine Ghost.ent (fun l => if l = 2 then 5 else l) ?_ ?_ ?_ <;> simp -implicitDefEqProofs only [go_sem, ↓reduceIte, Nat.reduceAdd, Nat.reduceMul, Nat.reduceEqDiff, Nat.reduceLeDiff, reduceCtorEq, Int.reduceToNat, lift2, goneU, newU, Nat.reduceSub, rowE_ren, rowE_labs t 0 e.1 4 t.ents.length 5 (by decide), List.forall_mem_cons, List.not_mem_nil, false_implies, implies_true, and_self, map_renL_lift, labsIn_lift, List.all_append, List.all_cons, List.all_nil, List.map_append, Nat.reduceLT, labsInL, AV.labsIn]
    all_goals first | rfl | decide | skip
  simp only [apY, apZ, cellsT]
  refine AW.seq ?_
  refine AW.rR (SeqR.ev 2 (by rfl) (by decide) ?_)
  simp -implicitDefEqProofs only [go_sem, ↓reduceIte, Nat.reduceAdd, Nat.reduceMul, Nat.reduceEqDiff, Nat.reduceLeDiff, reduceCtorEq, Int.reduceToNat]
  refine SeqR.ghost (s' := apY t e [(49, .agg (apZ t)), (50, .p (.agg [.int .i64 t.kind, .int .i64 t.n, .str t.s, .slice (t.ents.map encEn), .slice (t.rest.map encRaw)]))]) ?_ ?_
  · simp only [apY, apZ, cellsT]
    refine Ghost.sub ?_ ?_ <;> simp -implicitDefEqProofs only [go_sem, ↓reduceIte, Nat.reduceAdd, Nat.reduceMul, Nat.reduceEqDiff, Nat.reduceLeDiff, reduceCtorEq, Int.reduceToNat, rowE_labs t 0 e.1 4 t.ents.length 5 (by decide), List.forall_mem_cons, List.not_mem_nil, false_implies, implies_true, and_self, labsIn_lift, List.all_append, List.all_cons, List.all_nil, Nat.reduceLT, labsInL, AV.labsIn]
    done
  have u2 : unlift (vsE t 0 e) = some (t.ents.map encEn) := by unfold vsE; rw [rowE_full he]; exact unlift_liftE _
  simp only [apY, apZ, cellsT]
  refine SeqR.look (s0 := ⟨ofL [(49, .p (.agg [.int .i64 t.kind, .int .i64 t.n, .str t.s, .slice (t.ents.map encEn), .slice (t.rest.map encRaw)])), (50, .p (.agg [.int .i64 t.kind, .int .i64 t.n, .str t.s, .slice (t.ents.map encEn), .slice (t.rest.map encRaw)]))], ofH [], 5⟩) (Ghost.trans (Ghost.freeze (lb := 4) (sz := 5) (ps := e.2.map encTr) rfl (unlift_liftE _)) (Ghost.trans (s' := ⟨ofL [(49, .agg (apZ t)), (50, .p (.agg [.int .i64 t.kind, .int .i64 t.n, .str t.s, .slice (t.ents.map encEn), .slice (t.rest.map encRaw)]))], ofH [(3, .row 2 (vsE t 0 e))], 5⟩) ?_ (Ghost.trans (Ghost.freeze (lb := 3) (sz := 2) (ps := t.ents.map encEn) rfl u2) ?_))) rfl rfl rfl ?_ S2 rfl ?_
  · simp only [apZ]
    refine Ghost.sub ?_ ?_ <;> simp -implicitDefEqProofs only [go_sem, ↓reduceIte, Nat.reduceAdd, Nat.reduceMul, Nat.reduceEqDiff, Nat.reduceLeDiff, reduceCtorEq, Int.reduceToNat, thaw, thaw1, mkAgg, allP, Option.map_some, List.map_cons, List.map_nil, thaw_lift, rowE_shut hal, vsE_eq he, List.forall_mem_cons, List.not_mem_nil, false_implies, implies_true, and_self, labsIn_lift, List.all_append, List.all_cons, List.all_nil, Nat.reduceLT, labsInL, AV.labsIn]
    done
  · simp only [apZ]
    refine Ghost.sub ?_ ?_ <;> simp -implicitDefEqProofs only [go_sem, ↓reduceIte, Nat.reduceAdd, Nat.reduceMul, Nat.reduceEqDiff, Nat.reduceLeDiff, reduceCtorEq, Int.reduceToNat, thaw, thaw1, mkAgg, allP, Option.map_some, List.map_cons, List.map_nil, thaw_lift, vsE_eq he, List.forall_mem_cons, List.not_mem_nil, false_implies, implies_true, and_self, labsIn_lift, List.all_append, List.all_cons, List.all_nil, Nat.reduceLT, labsInL, AV.labsIn]
    done
  · simp -implicitDefEqProofs only [go_sem, ↓reduceIte, Nat.reduceAdd, Nat.reduceMul, Nat.reduceEqDiff, Nat.reduceLeDiff, reduceCtorEq, Int.reduceToNat, List.map_cons, List.map_nil]
    done
  refine SeqR.ev 1 (by rfl) (by decide) ?_
  simp -implicitDefEqProofs only [go_sem, ↓reduceIte, Nat.reduceAdd, Nat.reduceMul, Nat.reduceEqDiff, Nat.reduceLeDiff, reduceCtorEq, Int.reduceToNat]
  refine SeqR.last rfl ?_
  refine AW.cond _ (by simp -implicitDefEqProofs only [go_sem, ↓reduceIte, Nat.reduceAdd, Nat.reduceMul, Nat.reduceEqDiff, Nat.reduceLeDiff, reduceCtorEq, Int.reduceToNat]; rfl) (fun hc => ?_) (fun hc => ?_)
  · simp at hc
  refine AW.skip ?_
  simp only [andThen, inBlk, reduceCtorEq, ↓reduceIte, if_t, if_f]
  have ra3 := rowE_at (g := e.1) (l := 4) hal
  have rl3 := rowE_len t 0 e.1 4 t.ents.length (Nat.le_refl _)
  refine AW.rT (by rfl) fun K hK => ?_
  simp -implicitDefEqProofs only [go_sem, ↓reduceIte, Nat.reduceAdd, Nat.reduceMul, Nat.reduceEqDiff, Nat.reduceLeDiff, reduceCtorEq, Int.reduceToNat, ra3, rl3, hc1, el, hc2, g0, b00]
  refine hK _ ?_; clear hK K
  refine AW.ghost (s' := apW t) ?_ ?_
  · simp only [apW, cellsT]
    refine Ghost.sub ?_ ?_ <;> simp -implicitDefEqProofs only [go_sem, ↓reduceIte, Nat.reduceAdd, Nat.reduceMul, Nat.reduceEqDiff, Nat.reduceLeDiff, reduceCtorEq, Int.reduceToNat,  List.forall_mem_cons, List.not_mem_nil, false_implies, implies_true, and_self, labsIn_lift, List.all_append, List.all_cons, List.all_nil, Nat.reduceLT, labsInL, AV.labsIn]
    all_goals first | rfl | decide | skip
  simp only [apW, cellsT]
  refine AW.dT mixed (by rfl) (by decide +kernel) fun K hK => ?_
  simp -implicitDefEqProofs only [go_sem, ↓reduceIte, Nat.reduceAdd, Nat.reduceMul, Nat.reduceEqDiff, Nat.reduceLeDiff, reduceCtorEq, Int.reduceToNat]
  refine ⟨.pure _, VT, ?_⟩
  try simp -implicitDefEqProofs only [go_sem, ↓reduceIte, Nat.reduceAdd, Nat.reduceMul, Nat.reduceEqDiff, Nat.reduceLeDiff, reduceCtorEq, Int.reduceToNat]
  refine ⟨.pure _, S2, ?_⟩
  try simp -implicitDefEqProofs only [go_sem, ↓reduceIte, Nat.reduceAdd, Nat.reduceMul, Nat.reduceEqDiff, Nat.reduceLeDiff, reduceCtorEq, Int.reduceToNat]
  refine ⟨.pure _, law09_awake, ?_⟩
  try simp -implicitDefEqProofs only [go_sem, ↓reduceIte, Nat.reduceAdd, Nat.reduceMul, Nat.reduceEqDiff, Nat.reduceLeDiff, reduceCtorEq, Int.reduceToNat]
  refine ⟨by decide +kernel, ?_⟩
  refine hK _ ?_; clear hK K
  refine AW.ret ?_
  simp -implicitDefEqProofs only [go_sem, ↓reduceIte, Nat.reduceAdd, Nat.reduceMul, Nat.reduceEqDiff, Nat.reduceLeDiff, reduceCtorEq, Int.reduceToNat]
end Go.Aw
