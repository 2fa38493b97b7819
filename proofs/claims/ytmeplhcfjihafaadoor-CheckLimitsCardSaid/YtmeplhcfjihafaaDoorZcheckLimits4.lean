/- What the law LawCheckLimits leans on, joined (part 4). -/
import Derived.Test.YtmeplhcfjihafaaDoorZcheckLimits3
set_option linter.unusedSimpArgs false
set_option linter.unusedVariables false
namespace Go.Aw
open Go.Proofs Go.RowKit
set_option linter.unusedSimpArgs false
set_option linter.unusedVariables false
def bareN (i : Nat) : Ms := ⟨nmW i, [], []⟩
def bareR (k n : Nat) : List (List AV) := (List.range' k n).map fun i => [.p (.str (nmW i)), .ex [], .ex []]
theorem bareR_next (k n : Nat) : bareR k n ++ [[.p (.str (nmW (k + n))), .ex [], .ex []]] = bareR k (n + 1) := by
 unfold bareR
 rw [List.range'_concat, List.map_append, Nat.one_mul]
 rfl
theorem bareR_cons (k n : Nat) : bareR k (n + 1) = [.p (.str (nmW k)), .ex [], .ex []] :: bareR (k + 1) n := by
 unfold bareR
 rw [List.range'_succ]
 rfl
theorem bareR_len (k n : Nat) : (bareR k n).length = n := by unfold bareR; rw [List.length_map, List.length_range']
theorem bareR_ren (k n : Nat) (ρ : Nat → Nat) : (bareR k n).map (renL ρ) = bareR k n := by
 unfold bareR; rw [List.map_map]; rfl
theorem bareR_labs (k n m : Nat) : (bareR k n).all (labsInL m) = true := by
 unfold bareR
 rw [List.all_map]
 exact List.all_eq_true.2 fun x _ => rfl
theorem bareR_thaw (k n lb : Nat) (ps : List (List PV)) : (bareR k n).map (fun e => e.map (thaw1 lb ps)) = bareR k n := by
 unfold bareR; rw [List.map_map]; rfl
theorem bareR_unlift (n : Nat) : ∀ k : Nat, unlift (bareR k n) = some (((List.range' k n).map bareN).map encMs) := by
 induction n with
 | zero => intro k; rfl
 | succ n ih =>
  intro k
  rw [bareR_cons, unlift, ih (k + 1), List.range'_succ]
  rfl
def lmF (k : Nat) : Fd := ⟨nmW k, 1 + (k : Int), 1, ⟨1, []⟩⟩
def lmV (k : Nat) : Nm := ⟨nmW k, (k : Int)⟩
def lmE (k : Nat) : En := ⟨nmW k, [⟨[122], 0⟩]⟩
def lmT (k : Nat) : Mt := ⟨nmW k, nmW 0, nmW 0⟩
def lmM (ms fs rs : Nat) : List Ms := ⟨nmW 0, (List.range fs).map lmF, (List.range rs).map fun (k : Nat) => 100 + (k : Int)⟩ :: (List.range' 1 (ms - 1)).map bareN
def lmL (es vs : Nat) : List En := match es with
 | 0 => []
 | e + 1 => ⟨nmW 100, ⟨[122], 0⟩ :: (List.range' 1 (vs - 1)).map lmV⟩ :: (List.range' 101 e).map lmE
def lmS (ms fs rs es vs cs : Nat) : Sc := ⟨[97], lmM ms fs rs, lmL es vs, (List.range cs).map lmT⟩
def cbT (ms fs rs es vs cs : Nat) (m : List (Nat × AV)) : List (Nat × AV) := (0, .p (.int .i64 (ms : Int))) :: (1, .p (.int .i64 (fs : Int))) :: (2, .p (.int .i64 (rs : Int))) :: (3, .p (.int .i64 (es : Int))) :: (4, .p (.int .i64 (vs : Int))) :: (5, .p (.int .i64 (cs : Int))) :: (6, .p (.box [.cst (.func (.func 27) #[] #[])] 0)) :: (13, .ptr 0 0 0) :: (14, .ptr 1 0 0) :: m
def cbZ : Nat × Blk := (0, .row 4 [[.p (.str []), .ex [], .ex [], .ex []]])
def cb0 (ms fs rs es vs cs : Nat) : St := ⟨ofL (cbT ms fs rs es vs cs []), ofH [cbZ, (1, .row 4 [[.p (.str [97]), .ex [], .ex [], .ex []]])], 2⟩
def cb1 (ms fs rs es vs cs : Nat) (i : Nat) (m : List (Nat × AV)) : St := ⟨ofL (cbT ms fs rs es vs cs m), ofH [cbZ, (1, .row 4 [[.p (.str [97]), .own 2, .ex [], .ex []]]), (2, .row 3 (bareR 0 i))], 3⟩
def lmFs (n : Nat) : List Fd := (List.range n).map lmF
def lmRs (n : Nat) : List Int := (List.range n).map fun (k : Nat) => 100 + (k : Int)
theorem lmFs_next (n : Nat) : liftE ((lmFs n).map encFd) ++ [[.p (.str (nmW n)), .p (.int .i64 (1 + (n : Int))), .p (.int .i64 1), .p (.int .i64 1), .p (.str [])]] = liftE ((lmFs (n + 1)).map encFd) := by
 unfold lmFs
 rw [List.range_succ, List.map_append, List.map_append, liftE_append]
 rfl
theorem lmRs_next (n : Nat) : liftE ((lmRs n).map encI) ++ [[.p (.int .i64 (100 + (n : Int)))]] = liftE ((lmRs (n + 1)).map encI) := by
 unfold lmRs
 rw [List.range_succ, List.map_append, List.map_append, liftE_append]
 rfl
theorem lmFs_len (n : Nat) : (liftE ((lmFs n).map encFd)).length = n := by rw [liftE_length, List.length_map]; unfold lmFs; simp
theorem lmRs_len (n : Nat) : (liftE ((lmRs n).map encI)).length = n := by rw [liftE_length, List.length_map]; unfold lmRs; simp
theorem lm_flds (fs : Nat) (rs : Nat) (ms : Nat) : unlift ([.p (.str (nmW 0)), .p (.slice ((lmFs fs).map encFd)), .p (.slice ((lmRs rs).map encI))] :: bareR 1 (ms - 1)) = some ((lmM ms fs rs).map encMs) := by
 rw [unlift, bareR_unlift]
 rfl
def cb2 (ms fs rs es vs cs : Nat) (i : Nat) (m : List (Nat × AV)) : St := ⟨ofL (cbT ms fs rs es vs cs m), ofH [cbZ, (1, .row 4 [[.p (.str [97]), .own 2, .ex [], .ex []]]), (2, .row 3 ([.p (.str (nmW 0)), .own 3, .ex []] :: bareR 1 (ms - 1))), (3, .row 5 (liftE ((lmFs i).map encFd)))], 4⟩
def cb3 (ms fs rs es vs cs : Nat) (i : Nat) (m : List (Nat × AV)) : St := ⟨ofL (cbT ms fs rs es vs cs m), ofH [cbZ, (1, .row 4 [[.p (.str [97]), .own 2, .ex [], .ex []]]), (2, .row 3 ([.p (.str (nmW 0)), .p (.slice ((lmFs fs).map encFd)), .own 3] :: bareR 1 (ms - 1))), (3, .row 1 (liftE ((lmRs i).map encI)))], 4⟩
def cbM (ms fs rs es vs cs : Nat) : St := ⟨ofL (cbT ms fs rs es vs cs []), ofH [cbZ, (1, .row 4 [[.p (.str [97]), .own 2, .ex [], .ex []]]), (2, .row 3 ([.p (.str (nmW 0)), .p (.slice ((lmFs fs).map encFd)), .ex []] :: bareR 1 (ms - 1)))], 4⟩
def cbN (ms fs rs es vs cs : Nat) : St := ⟨ofL (cbT ms fs rs es vs cs []), ofH [cbZ, (1, .row 4 [[.p (.str [97]), .own 2, .ex [], .ex []]]), (2, .row 3 ([.p (.str (nmW 0)), .p (.slice ((lmFs fs).map encFd)), .p (.slice ((lmRs rs).map encI))] :: bareR 1 (ms - 1)))], 4⟩
def lmEs (n : Nat) : List En := (List.range' 101 n).map lmE
def lmVs (n : Nat) : List Nm := ⟨[122], 0⟩ :: (List.range' 1 (n - 1)).map lmV
def lmTs (n : Nat) : List Mt := (List.range n).map lmT
theorem lmEs_next (n : Nat) : liftE ((lmEs n).map encEn) ++ [[.p (.str (nmW (101 + n))), .p (.slice [[.str [122], .int .i64 0]])]] = liftE ((lmEs (n + 1)).map encEn) := by
 unfold lmEs
 rw [List.range'_concat, List.map_append, List.map_append, liftE_append, Nat.one_mul]
 rfl
theorem lmVs_next (n : Nat) (h : 1 ≤ n) : liftE ((lmVs n).map encNm) ++ [[.p (.str (nmW n)), .p (.int .i64 (n : Int))]] = liftE ((lmVs (n + 1)).map encNm) := by
 obtain ⟨k, rfl⟩ : ∃ k, n = k + 1 := ⟨n - 1, by omega⟩
 unfold lmVs
 rw [show k + 1 + 1 - 1 = k + 1 by omega, show k + 1 - 1 = k by omega, List.range'_concat, List.map_append, Nat.one_mul, Nat.add_comm 1 k, ← List.cons_append, List.map_append, liftE_append]
 rfl
theorem lmTs_next (n : Nat) : liftE ((lmTs n).map encMt) ++ [[.p (.str (nmW n)), .p (.str (nmW 0)), .p (.str (nmW 0))]] = liftE ((lmTs (n + 1)).map encMt) := by
 unfold lmTs
 rw [List.range_succ, List.map_append, List.map_append, liftE_append]
 rfl
theorem lmEs_len (n : Nat) : (liftE ((lmEs n).map encEn)).length = n := by rw [liftE_length, List.length_map]; unfold lmEs; simp
theorem lmVs_len (n : Nat) (h : 1 ≤ n) : (liftE ((lmVs n).map encNm)).length = n := by rw [liftE_length, List.length_map]; unfold lmVs; simp; omega
theorem lmTs_len (n : Nat) : (liftE ((lmTs n).map encMt)).length = n := by rw [liftE_length, List.length_map]; unfold lmTs; simp
theorem lm_enums (e vs : Nat) : unlift ([.p (.str (nmW 100)), .p (.slice ((lmVs vs).map encNm))] :: liftE ((lmEs e).map encEn)) = some ((lmL (e + 1) vs).map encEn) := by
 rw [unlift, unlift_liftE]
 rfl
def cbM1 (ms fs rs : Nat) : AV := .p (.slice ((lmM ms fs rs).map encMs))
def cb4 (ms fs rs es vs cs : Nat) (i : Nat) (m : List (Nat × AV)) : St := match i with
 | 0 => ⟨ofL (cbT ms fs rs es vs cs m), ofH [cbZ, (1, .row 4 [[.p (.str [97]), cbM1 ms fs rs, .own 2, .ex []]]), (2, .row 2 [])], 3⟩
 | i + 1 => ⟨ofL (cbT ms fs rs es vs cs m), ofH [cbZ, (1, .row 4 [[.p (.str [97]), cbM1 ms fs rs, .own 2, .ex []]]), (2, .row 2 ([.p (.str (nmW 100)), .own 3] :: liftE ((lmEs i).map encEn))), (3, .row 2 [[.p (.str [122]), .p (.int .i64 0)]])], 4⟩
def cb4M (ms fs rs es vs cs : Nat) (i : Nat) (x : List UInt8) (m : List (Nat × AV)) : St := ⟨ofL (cbT ms fs rs es vs cs m), ofH [cbZ, (1, .row 4 [[.p (.str [97]), cbM1 ms fs rs, .own 2, .ex []]]), (2, .row 2 (([.p (.str (nmW 100)), .own 3] :: liftE ((lmEs i).map encEn)) ++ [[.p (.str x), .own 4]])), (3, .row 2 [[.p (.str [122]), .p (.int .i64 0)]]), (4, .row 2 [[.p (.str [122]), .p (.int .i64 0)]])], 5⟩
def cb5 (ms fs rs es vs cs : Nat) (e i : Nat) (m : List (Nat × AV)) : St := ⟨ofL (cbT ms fs rs es vs cs m), ofH [cbZ, (1, .row 4 [[.p (.str [97]), cbM1 ms fs rs, .own 2, .ex []]]), (2, .row 2 ([.p (.str (nmW 100)), .own 3] :: liftE ((lmEs e).map encEn))), (3, .row 2 (liftE ((lmVs i).map encNm)))], 4⟩
def cb5N (ms fs rs es vs cs : Nat) (e : Nat) : St := ⟨ofL (cbT ms fs rs es vs cs []), ofH [cbZ, (1, .row 4 [[.p (.str [97]), cbM1 ms fs rs, .own 2, .ex []]]), (2, .row 2 ([.p (.str (nmW 100)), .p (.slice ((lmVs vs).map encNm))] :: liftE ((lmEs e).map encEn)))], 4⟩
def cbE (ms fs rs es vs cs : Nat) (E : List En) (m : List (Nat × AV)) : St := ⟨ofL (cbT ms fs rs es vs cs m), ofH [cbZ, (1, .row 4 [[.p (.str [97]), cbM1 ms fs rs, .p (.slice (E.map encEn)), .ex []]])], 4⟩
def cb6 (ms fs rs es vs cs : Nat) (i : Nat) (m : List (Nat × AV)) : St := ⟨ofL (cbT ms fs rs es vs cs m), ofH [cbZ, (1, .row 4 [[.p (.str [97]), cbM1 ms fs rs, .p (.slice ((lmL es vs).map encEn)), .own 2]]), (2, .row 3 (liftE ((lmTs i).map encMt)))], 4⟩
def cbU (ms fs rs es vs cs : Nat) : St := ⟨ofL (cbT ms fs rs es vs cs []), ofH [cbZ, (1, .row 4 [[.p (.str [97]), .p (.slice ((lmM ms fs rs).map encMs)), .ex [], .ex []]])], 4⟩
set_option maxRecDepth 100000 in
set_option maxHeartbeats 8000000 in
theorem law07_make (ms fs rs es vs cs : Nat) (h1 : 1 ≤ ms) (b1 : ms ≤ 100) (b2 : fs ≤ 100) (b3 : rs ≤ 100) (b4 : es ≤ 100) (b5 : vs ≤ 100) (b6 : cs ≤ 100) (hv : es = 0 → vs ≤ 1) :
  PFn Tryd.prog 28 [.int .i64 (ms : Int), .int .i64 (fs : Int), .int .i64 (rs : Int), .int .i64 (es : Int), .int .i64 (vs : Int), .int .i64 (cs : Int), .box [.cst (.func (.func 27) #[] #[])] 0] (.agg (encSc (lmS ms fs rs es vs cs))) := by
 refine PFn.of Tryd.func28 rfl (by decide) Tryd.ntmps28 Tryd.results28 (Nat.le_of_ble_eq_true rfl) ?_
 simp only [argsT]
 refine AW.rT (by rfl) fun K hK => ?_
 simp -implicitDefEqProofs only [go_sem, ↓reduceIte, Nat.reduceAdd, Nat.reduceMul, Nat.reduceEqDiff, Nat.reduceLeDiff, reduceCtorEq, Int.reduceToNat]
 refine hK _ ?_; clear hK K
 refine AW.rT (by rfl) fun K hK => ?_
 simp -implicitDefEqProofs only [go_sem, ↓reduceIte, Nat.reduceAdd, Nat.reduceMul, Nat.reduceEqDiff, Nat.reduceLeDiff, reduceCtorEq, Int.reduceToNat]
 refine hK _ ?_; clear hK K
 refine AW.ghost (s' := cb0 ms fs rs es vs cs) ?_ ?_
 ·simp only [cb0, cbT, cbZ]
  refine Ghost.ent (fun l => if l = 1 then 2 else l) ?_ ?_ ?_ <;> simp -implicitDefEqProofs only [go_sem, ↓reduceIte, Nat.reduceAdd, Nat.reduceMul, Nat.reduceEqDiff, Nat.reduceLeDiff, reduceCtorEq, Int.reduceToNat,  List.forall_mem_cons, List.not_mem_nil, false_implies, implies_true, and_self, map_renL_lift, labsIn_lift, List.all_append, List.all_cons, List.all_nil, List.map_append, Nat.reduceLT, labsInL, AV.labsIn]
  all_goals first | rfl | decide | skip
 refine AW.ghost (s' := cb1 ms fs rs es vs cs 0 []) (Ghost.trans (Ghost.nilH (l := 1) (i := 0) (j := 1) (sz' := 3) rfl rfl rfl) ?_) ?_
 ·simp only [cb0, cb1, cbT, cbZ, bareR, List.range'_zero, List.map_nil]
  refine Ghost.sub ?_ ?_ <;> simp -implicitDefEqProofs only [go_sem, ↓reduceIte, Nat.reduceAdd, Nat.reduceMul, Nat.reduceEqDiff, Nat.reduceLeDiff, reduceCtorEq, Int.reduceToNat,  List.forall_mem_cons, List.not_mem_nil, false_implies, implies_true, and_self, labsIn_lift, List.all_append, List.all_cons, List.all_nil, Nat.reduceLT, labsInL, AV.labsIn]
  done
 refine AW.cut (fun _ : Unit => cb1 ms fs rs es vs cs ms []) (fun _ => True) ?_ fun _ _ => ?_
 ·simp only [cb1, cbT, cbZ]
  refine AW.rT (by rfl) fun K hK => ?_
  simp -implicitDefEqProofs only [go_sem, ↓reduceIte, Nat.reduceAdd, Nat.reduceMul, Nat.reduceEqDiff, Nat.reduceLeDiff, reduceCtorEq, Int.reduceToNat]
  refine hK _ ?_; clear hK K
  refine AW.block ?_
  refine AW.loop (fun i : Nat => cb1 ms fs rs es vs cs i [(15, .p (.int .i64 (i : Int)))]) (fun i => i ≤ ms) (fun i => ms - i) 0 ?_ (by omega) fun i i1 => ?_
  ·simp only [cb1, cbT, cbZ]
   refine Ghost.sub ?_ ?_ <;> simp -implicitDefEqProofs only [go_sem, ↓reduceIte, Nat.reduceAdd, Nat.reduceMul, Nat.reduceEqDiff, Nat.reduceLeDiff, reduceCtorEq, Int.reduceToNat, bareR_labs, List.forall_mem_cons, List.not_mem_nil, false_implies, implies_true, and_self, labsIn_lift, List.all_append, List.all_cons, List.all_nil, Nat.reduceLT, labsInL, AV.labsIn]
   all_goals first | rfl | decide | skip
  simp only [cb1, cbT, cbZ]
  refine AW.seq ?_
  by_cases hil : i < ms
  case neg =>
   have e : i = ms := by omega
   subst e
   have c1 : ((i : Int) < (i : Int)) = False := eq_false (by omega)
   refine AW.rT (by rfl) fun K hK => ?_
   simp -implicitDefEqProofs only [go_sem, ↓reduceIte, Nat.reduceAdd, Nat.reduceMul, Nat.reduceEqDiff, Nat.reduceLeDiff, reduceCtorEq, Int.reduceToNat, c1]
   refine hK _ ?_; clear hK K
   refine AW.cond _ (by simp -implicitDefEqProofs only [go_sem, ↓reduceIte, Nat.reduceAdd, Nat.reduceMul, Nat.reduceEqDiff, Nat.reduceLeDiff, reduceCtorEq, Int.reduceToNat]; rfl) (fun hc => ?_) (fun hc => ?_)
   ·simp at hc
   refine AW.exit ?_
   simp only [andThen, inBlk, reduceCtorEq, ↓reduceIte, if_t, if_f]
   refine ⟨(), trivial, ?_⟩
   show Ghost _ _ (cb1 i fs rs es vs cs i [])
   simp only [cb1, cbT, cbZ]
   refine Ghost.sub ?_ ?_ <;> simp -implicitDefEqProofs only [go_sem, ↓reduceIte, Nat.reduceAdd, Nat.reduceMul, Nat.reduceEqDiff, Nat.reduceLeDiff, reduceCtorEq, Int.reduceToNat, bareR_labs, List.forall_mem_cons, List.not_mem_nil, false_implies, implies_true, and_self, labsIn_lift, List.all_append, List.all_cons, List.all_nil, Nat.reduceLT, labsInL, AV.labsIn]
   done
  have c1 : ((i : Int) < (ms : Int)) = True := eq_true (by omega)
  have w1 : IntKind.wrap .i64 ((i : Int) + 1) = ((i + 1 : Nat) : Int) := by rw [w64] <;> omega
  have NM := law07_name i (by omega)
  refine AW.rT (by rfl) fun K hK => ?_
  simp -implicitDefEqProofs only [go_sem, ↓reduceIte, Nat.reduceAdd, Nat.reduceMul, Nat.reduceEqDiff, Nat.reduceLeDiff, reduceCtorEq, Int.reduceToNat, c1]
  refine hK _ ?_; clear hK K
  refine AW.cond _ (by simp -implicitDefEqProofs only [go_sem, ↓reduceIte, Nat.reduceAdd, Nat.reduceMul, Nat.reduceEqDiff, Nat.reduceLeDiff, reduceCtorEq, Int.reduceToNat]; rfl) (fun hc => ?_) (fun hc => ?_)
  rotate_left
  ·simp at hc
  refine AW.skip ?_
  simp only [andThen, inBlk, reduceCtorEq, ↓reduceIte, if_t, if_f]
  refine AW.seq ?_
  refine AW.block ?_
  refine AW.dE mixed (by rfl) (by decide +kernel) fun K hK => ?_
  simp -implicitDefEqProofs only [go_sem, ↓reduceIte, Nat.reduceAdd, Nat.reduceMul, Nat.reduceEqDiff, Nat.reduceLeDiff, reduceCtorEq, Int.reduceToNat]
  refine ⟨.pure _, NM, ?_⟩
  try simp -implicitDefEqProofs only [go_sem, ↓reduceIte, Nat.reduceAdd, Nat.reduceMul, Nat.reduceEqDiff, Nat.reduceLeDiff, reduceCtorEq, Int.reduceToNat]
  refine ⟨⟨by simp, by simp [oneAll, AV.one, PV.one], by simp⟩, by rw [bareR_len]; omega, by decide +kernel, ?_⟩
  refine hK _ ?_; clear hK K
  have nx := bareR_next 0 i
  rw [Nat.zero_add] at nx
  rw [nx]
  simp only [andThen, inBlk, reduceCtorEq, ↓reduceIte, if_t, if_f]
  refine AW.rE (by rfl) fun K hK => ?_
  simp -implicitDefEqProofs only [go_sem, ↓reduceIte, Nat.reduceAdd, Nat.reduceMul, Nat.reduceEqDiff, Nat.reduceLeDiff, reduceCtorEq, Int.reduceToNat, w1]
  refine hK _ ?_; clear hK K
  refine ⟨i + 1, by omega, by omega, ?_⟩
  show Ghost _ _ (cb1 ms fs rs es vs cs (i + 1) [(15, .p (.int .i64 ((i + 1 : Nat) : Int)))])
  simp only [cb1, cbT, cbZ]
  refine Ghost.ent (fun l => if l = 2 then 13 else l) ?_ ?_ ?_ <;> simp -implicitDefEqProofs only [go_sem, ↓reduceIte, Nat.reduceAdd, Nat.reduceMul, Nat.reduceEqDiff, Nat.reduceLeDiff, reduceCtorEq, Int.reduceToNat, bareR_ren, bareR_labs, List.forall_mem_cons, List.not_mem_nil, false_implies, implies_true, and_self, map_renL_lift, labsIn_lift, List.all_append, List.all_cons, List.all_nil, List.map_append, Nat.reduceLT, labsInL, AV.labsIn]
  all_goals first | rfl | decide | skip
 have bz : bareR 0 ms = [.p (.str (nmW 0)), .ex [], .ex []] :: bareR 1 (ms - 1) := by
  obtain ⟨k, rfl⟩ : ∃ k, ms = k + 1 := ⟨ms - 1, by omega⟩
  exact bareR_cons 0 k
 have bl := bareR_len 1 (ms - 1)
 have t53 : tagg Tryd.prog 53 = some false := by kernel_rfl
 have z1 : (0 : Int) < ((bareR 1 (ms - 1)).length : Int) + 1 := by omega
 refine AW.cut (fun _ : Unit => cbM ms fs rs es vs cs) (fun _ => True) ?_ fun _ _ => ?_
 ·simp only [cb1, bz]
  refine AW.ghost (s' := cb2 ms fs rs es vs cs 0 []) (Ghost.trans (Ghost.nilH (l := 2) (i := 0) (j := 1) (sz' := 5) rfl rfl rfl) ?_) ?_
  ·simp only [cb2, cbT, cbZ]
   refine Ghost.sub ?_ ?_ <;> simp -implicitDefEqProofs only [go_sem, ↓reduceIte, Nat.reduceAdd, Nat.reduceMul, Nat.reduceEqDiff, Nat.reduceLeDiff, reduceCtorEq, Int.reduceToNat, bareR_labs, List.set_cons_zero, List.forall_mem_cons, List.not_mem_nil, false_implies, implies_true, and_self, labsIn_lift, List.all_append, List.all_cons, List.all_nil, Nat.reduceLT, labsInL, AV.labsIn]
   all_goals first | rfl | decide | skip
  simp only [cb2, cbT, cbZ]
  refine AW.rT (by rfl) fun K hK => ?_
  simp -implicitDefEqProofs only [go_sem, ↓reduceIte, Nat.reduceAdd, Nat.reduceMul, Nat.reduceEqDiff, Nat.reduceLeDiff, reduceCtorEq, Int.reduceToNat]
  refine hK _ ?_; clear hK K
  refine AW.block ?_
  refine AW.loop (fun i : Nat => cb2 ms fs rs es vs cs i [(16, .p (.int .i64 (i : Int)))]) (fun i => i ≤ fs) (fun i => fs - i) 0 ?_ (by omega) fun i i1 => ?_
  ·simp only [cb2, cbT, cbZ]
   refine Ghost.sub ?_ ?_ <;> simp -implicitDefEqProofs only [go_sem, ↓reduceIte, Nat.reduceAdd, Nat.reduceMul, Nat.reduceEqDiff, Nat.reduceLeDiff, reduceCtorEq, Int.reduceToNat, bareR_labs, List.forall_mem_cons, List.not_mem_nil, false_implies, implies_true, and_self, labsIn_lift, List.all_append, List.all_cons, List.all_nil, Nat.reduceLT, labsInL, AV.labsIn]
   all_goals first | rfl | decide | skip
  simp only [cb2, cbT, cbZ]
  refine AW.seq ?_
  by_cases hil : i < fs
  case neg =>
   have e : i = fs := by omega
   subst e
   have c1 : ((i : Int) < (i : Int)) = False := eq_false (by omega)
   refine AW.rT (by rfl) fun K hK => ?_
   simp -implicitDefEqProofs only [go_sem, ↓reduceIte, Nat.reduceAdd, Nat.reduceMul, Nat.reduceEqDiff, Nat.reduceLeDiff, reduceCtorEq, Int.reduceToNat, c1]
   refine hK _ ?_; clear hK K
   refine AW.cond _ (by simp -implicitDefEqProofs only [go_sem, ↓reduceIte, Nat.reduceAdd, Nat.reduceMul, Nat.reduceEqDiff, Nat.reduceLeDiff, reduceCtorEq, Int.reduceToNat]; rfl) (fun hc => ?_) (fun hc => ?_)
   ·simp at hc
   refine AW.exit ?_
   simp only [andThen, inBlk, reduceCtorEq, ↓reduceIte, if_t, if_f]
   refine ⟨(), trivial, ?_⟩
   refine Ghost.trans (Ghost.freeze (lb := 3) (sz := 5) (ps := (lmFs i).map encFd) rfl (unlift_liftE _)) ?_
   simp only [cbM, cbT, cbZ]
   refine Ghost.sub ?_ ?_ <;> simp -implicitDefEqProofs only [go_sem, ↓reduceIte, Nat.reduceAdd, Nat.reduceMul, Nat.reduceEqDiff, Nat.reduceLeDiff, reduceCtorEq, Int.reduceToNat, thaw, thaw1, Option.map_some, List.map_cons, List.map_nil, thaw_lift, bareR_thaw, bareR_labs, List.forall_mem_cons, List.not_mem_nil, false_implies, implies_true, and_self, labsIn_lift, List.all_append, List.all_cons, List.all_nil, Nat.reduceLT, labsInL, AV.labsIn]
   done
  have c1 : ((i : Int) < (fs : Int)) = True := eq_true (by omega)
  have w1 : IntKind.wrap .i64 ((i : Int) + 1) = ((i + 1 : Nat) : Int) := by rw [w64] <;> omega
  have w2 : IntKind.wrap .i64 (1 + (i : Int)) = 1 + (i : Int) := by rw [w64] <;> omega
  have NM := law07_name i (by omega)
  have nx := lmFs_next i
  have ll := lmFs_len i
  refine AW.rT (by rfl) fun K hK => ?_
  simp -implicitDefEqProofs only [go_sem, ↓reduceIte, Nat.reduceAdd, Nat.reduceMul, Nat.reduceEqDiff, Nat.reduceLeDiff, reduceCtorEq, Int.reduceToNat, c1]
  refine hK _ ?_; clear hK K
  refine AW.cond _ (by simp -implicitDefEqProofs only [go_sem, ↓reduceIte, Nat.reduceAdd, Nat.reduceMul, Nat.reduceEqDiff, Nat.reduceLeDiff, reduceCtorEq, Int.reduceToNat]; rfl) (fun hc => ?_) (fun hc => ?_)
  rotate_left
  ·simp at hc
  refine AW.skip ?_
  simp only [andThen, inBlk, reduceCtorEq, ↓reduceIte, if_t, if_f]
  refine AW.seq ?_
  refine AW.block ?_
  refine AW.dE mixed (by rfl) (by decide +kernel) fun K hK => ?_
  simp -implicitDefEqProofs only [go_sem, ↓reduceIte, Nat.reduceAdd, Nat.reduceMul, Nat.reduceEqDiff, Nat.reduceLeDiff, reduceCtorEq, Int.reduceToNat, t53, List.length_cons, List.getElem?_cons_zero, Int.natCast_add, Int.natCast_one, w2]
  refine ⟨⟨Int.le_refl 0, z1⟩, ?_⟩
  refine ⟨.pure _, NM, ?_⟩
  try simp -implicitDefEqProofs only [go_sem, ↓reduceIte, Nat.reduceAdd, Nat.reduceMul, Nat.reduceEqDiff, Nat.reduceLeDiff, reduceCtorEq, Int.reduceToNat, w2]
  refine ⟨⟨by simp, by simp [oneAll, AV.one, PV.one], by simp⟩, by rw [ll]; omega, ⟨Int.le_refl 0, by omega⟩, by decide +kernel, ?_⟩
  refine hK _ ?_; clear hK K
  rw [nx]
  simp only [andThen, inBlk, reduceCtorEq, ↓reduceIte, if_t, if_f]
  refine AW.rE (by rfl) fun K hK => ?_
  simp -implicitDefEqProofs only [go_sem, ↓reduceIte, Nat.reduceAdd, Nat.reduceMul, Nat.reduceEqDiff, Nat.reduceLeDiff, reduceCtorEq, Int.reduceToNat, w1]
  refine hK _ ?_; clear hK K
  refine ⟨i + 1, by omega, by omega, ?_⟩
  show Ghost _ _ (cb2 ms fs rs es vs cs (i + 1) [(16, .p (.int .i64 ((i + 1 : Nat) : Int)))])
  simp only [cb2, cbT, cbZ]
  refine Ghost.ent (fun l => if l = 3 then 22 else l) ?_ ?_ ?_ <;> simp -implicitDefEqProofs only [go_sem, ↓reduceIte, Nat.reduceAdd, Nat.reduceMul, Nat.reduceEqDiff, Nat.reduceLeDiff, reduceCtorEq, Int.reduceToNat, bareR_ren, bareR_labs, List.map_cons, List.set_cons_zero, List.forall_mem_cons, List.not_mem_nil, false_implies, implies_true, and_self, map_renL_lift, labsIn_lift, List.all_append, List.all_cons, List.all_nil, List.map_append, Nat.reduceLT, labsInL, AV.labsIn]
  all_goals first | rfl | decide | skip
 refine AW.cut (fun _ : Unit => cbU ms fs rs es vs cs) (fun _ => True) ?_ fun _ _ => ?_
 ·simp only [cbM]
  refine AW.ghost (s' := cb3 ms fs rs es vs cs 0 []) (Ghost.trans (Ghost.nilH (l := 2) (i := 0) (j := 2) (sz' := 1) rfl rfl rfl) ?_) ?_
  ·simp only [cb3, cbT, cbZ]
   refine Ghost.ent (fun l => if l = 3 then 4 else l) ?_ ?_ ?_ <;> simp -implicitDefEqProofs only [go_sem, ↓reduceIte, Nat.reduceAdd, Nat.reduceMul, Nat.reduceEqDiff, Nat.reduceLeDiff, reduceCtorEq, Int.reduceToNat, bareR_labs, bareR_ren, List.set_cons_zero, List.map_cons, List.forall_mem_cons, List.not_mem_nil, false_implies, implies_true, and_self, map_renL_lift, labsIn_lift, List.all_append, List.all_cons, List.all_nil, List.map_append, Nat.reduceLT, labsInL, AV.labsIn]
   all_goals first | rfl | decide | skip
  simp only [cb3, cbT, cbZ]
  refine AW.rT (by rfl) fun K hK => ?_
  simp -implicitDefEqProofs only [go_sem, ↓reduceIte, Nat.reduceAdd, Nat.reduceMul, Nat.reduceEqDiff, Nat.reduceLeDiff, reduceCtorEq, Int.reduceToNat]
  refine hK _ ?_; clear hK K
  refine AW.block ?_
  refine AW.loop (fun i : Nat => cb3 ms fs rs es vs cs i [(17, .p (.int .i64 (i : Int)))]) (fun i => i ≤ rs) (fun i => rs - i) 0 ?_ (by omega) fun i i1 => ?_
  ·simp only [cb3, cbT, cbZ]
   refine Ghost.sub ?_ ?_ <;> simp -implicitDefEqProofs only [go_sem, ↓reduceIte, Nat.reduceAdd, Nat.reduceMul, Nat.reduceEqDiff, Nat.reduceLeDiff, reduceCtorEq, Int.reduceToNat, bareR_labs, List.forall_mem_cons, List.not_mem_nil, false_implies, implies_true, and_self, labsIn_lift, List.all_append, List.all_cons, List.all_nil, Nat.reduceLT, labsInL, AV.labsIn]
   all_goals first | rfl | decide | skip
  simp only [cb3, cbT, cbZ]
  refine AW.seq ?_
  by_cases hil : i < rs
  case neg =>
   have e : i = rs := by omega
   subst e
   have c1 : ((i : Int) < (i : Int)) = False := eq_false (by omega)
   refine AW.rT (by rfl) fun K hK => ?_
   simp -implicitDefEqProofs only [go_sem, ↓reduceIte, Nat.reduceAdd, Nat.reduceMul, Nat.reduceEqDiff, Nat.reduceLeDiff, reduceCtorEq, Int.reduceToNat, c1]
   refine hK _ ?_; clear hK K
   refine AW.cond _ (by simp -implicitDefEqProofs only [go_sem, ↓reduceIte, Nat.reduceAdd, Nat.reduceMul, Nat.reduceEqDiff, Nat.reduceLeDiff, reduceCtorEq, Int.reduceToNat]; rfl) (fun hc => ?_) (fun hc => ?_)
   ·simp at hc
   refine AW.exit ?_
   simp only [andThen, inBlk, reduceCtorEq, ↓reduceIte, if_t, if_f]
   refine ⟨(), trivial, ?_⟩
   refine Ghost.trans (Ghost.freeze (lb := 3) (sz := 1) (ps := (lmRs i).map encI) rfl (unlift_liftE _)) ?_
   refine Ghost.trans (s' := cbN ms fs i es vs cs) ?_ (Ghost.trans (Ghost.freeze (lb := 2) (sz := 3) (ps := (lmM ms fs i).map encMs) rfl (lm_flds fs i ms)) ?_)
   ·simp only [cbN, cbT, cbZ]
    refine Ghost.sub ?_ ?_ <;> simp -implicitDefEqProofs only [go_sem, ↓reduceIte, Nat.reduceAdd, Nat.reduceMul, Nat.reduceEqDiff, Nat.reduceLeDiff, reduceCtorEq, Int.reduceToNat, thaw, thaw1, Option.map_some, List.map_cons, List.map_nil, thaw_lift, bareR_thaw, bareR_labs, List.forall_mem_cons, List.not_mem_nil, false_implies, implies_true, and_self, labsIn_lift, List.all_append, List.all_cons, List.all_nil, Nat.reduceLT, labsInL, AV.labsIn]
    done
   ·simp only [cbN, cbU, cbT, cbZ]
    refine Ghost.sub ?_ ?_ <;> simp -implicitDefEqProofs only [go_sem, ↓reduceIte, Nat.reduceAdd, Nat.reduceMul, Nat.reduceEqDiff, Nat.reduceLeDiff, reduceCtorEq, Int.reduceToNat, thaw, thaw1, Option.map_some, List.map_cons, List.map_nil, thaw_lift, bareR_thaw, bareR_labs, List.forall_mem_cons, List.not_mem_nil, false_implies, implies_true, and_self, labsIn_lift, List.all_append, List.all_cons, List.all_nil, Nat.reduceLT, labsInL, AV.labsIn]
    done
  have c1 : ((i : Int) < (rs : Int)) = True := eq_true (by omega)
  have w1 : IntKind.wrap .i64 ((i : Int) + 1) = ((i + 1 : Nat) : Int) := by rw [w64] <;> omega
  have w2 : IntKind.wrap .i64 (100 + (i : Int)) = 100 + (i : Int) := by rw [w64] <;> omega
  have nx := lmRs_next i
  have ll := lmRs_len i
  refine AW.rT (by rfl) fun K hK => ?_
  simp -implicitDefEqProofs only [go_sem, ↓reduceIte, Nat.reduceAdd, Nat.reduceMul, Nat.reduceEqDiff, Nat.reduceLeDiff, reduceCtorEq, Int.reduceToNat, c1]
  refine hK _ ?_; clear hK K
  refine AW.cond _ (by simp -implicitDefEqProofs only [go_sem, ↓reduceIte, Nat.reduceAdd, Nat.reduceMul, Nat.reduceEqDiff, Nat.reduceLeDiff, reduceCtorEq, Int.reduceToNat]; rfl) (fun hc => ?_) (fun hc => ?_)
  rotate_left
  ·simp at hc
  refine AW.skip ?_
  simp only [andThen, inBlk, reduceCtorEq, ↓reduceIte, if_t, if_f]
  refine AW.seq ?_
  refine AW.block ?_
  refine AW.dE mixed (by rfl) (by decide +kernel) fun K hK => ?_
  simp -implicitDefEqProofs only [go_sem, ↓reduceIte, Nat.reduceAdd, Nat.reduceMul, Nat.reduceEqDiff, Nat.reduceLeDiff, reduceCtorEq, Int.reduceToNat, t53, List.length_cons, List.getElem?_cons_zero, Int.natCast_add, Int.natCast_one, w2]
  refine ⟨⟨Int.le_refl 0, z1⟩, ?_⟩
  try simp -implicitDefEqProofs only [go_sem, ↓reduceIte, Nat.reduceAdd, Nat.reduceMul, Nat.reduceEqDiff, Nat.reduceLeDiff, reduceCtorEq, Int.reduceToNat]
  refine ⟨⟨by simp, by simp [oneAll, AV.one, PV.one], by simp⟩, by rw [ll]; omega, ⟨Int.le_refl 0, by omega⟩, by decide +kernel, ?_⟩
  refine hK _ ?_; clear hK K
  rw [nx]
  simp only [andThen, inBlk, reduceCtorEq, ↓reduceIte, if_t, if_f]
  refine AW.rE (by rfl) fun K hK => ?_
  simp -implicitDefEqProofs only [go_sem, ↓reduceIte, Nat.reduceAdd, Nat.reduceMul, Nat.reduceEqDiff, Nat.reduceLeDiff, reduceCtorEq, Int.reduceToNat, w1]
  refine hK _ ?_; clear hK K
  refine ⟨i + 1, by omega, by omega, ?_⟩
  show Ghost _ _ (cb3 ms fs rs es vs cs (i + 1) [(17, .p (.int .i64 ((i + 1 : Nat) : Int)))])
  simp only [cb3, cbT, cbZ]
  refine Ghost.ent (fun l => if l = 3 then 17 else l) ?_ ?_ ?_ <;> simp -implicitDefEqProofs only [go_sem, ↓reduceIte, Nat.reduceAdd, Nat.reduceMul, Nat.reduceEqDiff, Nat.reduceLeDiff, reduceCtorEq, Int.reduceToNat, bareR_ren, bareR_labs, List.map_cons, List.set_cons_zero, List.forall_mem_cons, List.not_mem_nil, false_implies, implies_true, and_self, map_renL_lift, labsIn_lift, List.all_append, List.all_cons, List.all_nil, List.map_append, Nat.reduceLT, labsInL, AV.labsIn]
  all_goals first | rfl | decide | skip
 have N0 : PFn Tryd.prog 27 [.int .i64 0] (.str (nmW 0)) := law07_name 0 (by decide)
 refine AW.cut (fun _ : Unit => cb4 ms fs rs es vs cs es []) (fun _ => True) ?_ fun _ _ => ?_
 ·refine AW.ghost (s' := cb4 ms fs rs es vs cs 0 []) (Ghost.trans (Ghost.nilH (l := 1) (i := 0) (j := 2) (sz' := 2) rfl rfl rfl) ?_) ?_
  ·simp only [cbU, cb4, cbT, cbZ, cbM1]
   refine Ghost.ent (fun l => if l = 2 then 4 else l) ?_ ?_ ?_ <;> simp -implicitDefEqProofs only [go_sem, ↓reduceIte, Nat.reduceAdd, Nat.reduceMul, Nat.reduceEqDiff, Nat.reduceLeDiff, reduceCtorEq, Int.reduceToNat, List.set_cons_zero, List.map_cons, List.map_nil, List.forall_mem_cons, List.not_mem_nil, false_implies, implies_true, and_self, map_renL_lift, labsIn_lift, List.all_append, List.all_cons, List.all_nil, List.map_append, Nat.reduceLT, labsInL, AV.labsIn]
   done
  simp only [cb4, cbT, cbZ, cbM1]
  refine AW.rT (by rfl) fun K hK => ?_
  simp -implicitDefEqProofs only [go_sem, ↓reduceIte, Nat.reduceAdd, Nat.reduceMul, Nat.reduceEqDiff, Nat.reduceLeDiff, reduceCtorEq, Int.reduceToNat]
  refine hK _ ?_; clear hK K
  refine AW.block ?_
  refine AW.loop (fun i : Nat => cb4 ms fs rs es vs cs i [(18, .p (.int .i64 (i : Int)))]) (fun i => i ≤ es) (fun i => es - i) 0 ?_ (by omega) fun i i1 => ?_
  ·simp only [cb4, cbT, cbZ, cbM1]
   refine Ghost.sub ?_ ?_ <;> simp -implicitDefEqProofs only [go_sem, ↓reduceIte, Nat.reduceAdd, Nat.reduceMul, Nat.reduceEqDiff, Nat.reduceLeDiff, reduceCtorEq, Int.reduceToNat,  List.forall_mem_cons, List.not_mem_nil, false_implies, implies_true, and_self, labsIn_lift, List.all_append, List.all_cons, List.all_nil, Nat.reduceLT, labsInL, AV.labsIn]
   all_goals first | rfl | decide | skip
  by_cases hil : i < es
  case neg =>
   have e : i = es := by omega
   subst e
   have c1 : ((i : Int) < (i : Int)) = False := eq_false (by omega)
   cases i with
   | zero =>
    simp only [cb4, cbT, cbZ, cbM1]
    refine AW.seq ?_
    refine AW.rT (by rfl) fun K hK => ?_
    simp -implicitDefEqProofs only [go_sem, ↓reduceIte, Nat.reduceAdd, Nat.reduceMul, Nat.reduceEqDiff, Nat.reduceLeDiff, reduceCtorEq, Int.reduceToNat, c1]
    refine hK _ ?_; clear hK K
    refine AW.cond _ (by simp -implicitDefEqProofs only [go_sem, ↓reduceIte, Nat.reduceAdd, Nat.reduceMul, Nat.reduceEqDiff, Nat.reduceLeDiff, reduceCtorEq, Int.reduceToNat]; rfl) (fun hc => ?_) (fun hc => ?_)
    ·simp at hc
    refine AW.exit ?_
    simp only [andThen, inBlk, reduceCtorEq, ↓reduceIte, if_t, if_f]
    refine ⟨(), trivial, ?_⟩
    refine Ghost.sub ?_ ?_ <;> simp -implicitDefEqProofs only [go_sem, ↓reduceIte, Nat.reduceAdd, Nat.reduceMul, Nat.reduceEqDiff, Nat.reduceLeDiff, reduceCtorEq, Int.reduceToNat,  List.forall_mem_cons, List.not_mem_nil, false_implies, implies_true, and_self, labsIn_lift, List.all_append, List.all_cons, List.all_nil, Nat.reduceLT, labsInL, AV.labsIn]
    done
   | succ i =>
    simp only [cb4, cbT, cbZ, cbM1]
    refine AW.seq ?_
    refine AW.rT (by rfl) fun K hK => ?_
    simp -implicitDefEqProofs only [go_sem, ↓reduceIte, Nat.reduceAdd, Nat.reduceMul, Nat.reduceEqDiff, Nat.reduceLeDiff, reduceCtorEq, Int.reduceToNat, c1]
    refine hK _ ?_; clear hK K
    refine AW.cond _ (by simp -implicitDefEqProofs only [go_sem, ↓reduceIte, Nat.reduceAdd, Nat.reduceMul, Nat.reduceEqDiff, Nat.reduceLeDiff, reduceCtorEq, Int.reduceToNat]; rfl) (fun hc => ?_) (fun hc => ?_)
    ·simp at hc
    refine AW.exit ?_
    simp only [andThen, inBlk, reduceCtorEq, ↓reduceIte, if_t, if_f]
    refine ⟨(), trivial, ?_⟩
    refine Ghost.sub ?_ ?_ <;> simp -implicitDefEqProofs only [go_sem, ↓reduceIte, Nat.reduceAdd, Nat.reduceMul, Nat.reduceEqDiff, Nat.reduceLeDiff, reduceCtorEq, Int.reduceToNat,  List.forall_mem_cons, List.not_mem_nil, false_implies, implies_true, and_self, labsIn_lift, List.all_append, List.all_cons, List.all_nil, Nat.reduceLT, labsInL, AV.labsIn]
    done
  have c1 : ((i : Int) < (es : Int)) = True := eq_true (by omega)
  have w1 : IntKind.wrap .i64 ((i : Int) + 1) = ((i + 1 : Nat) : Int) := by rw [w64] <;> omega
  have w2 : IntKind.wrap .i64 (100 + (i : Int)) = 100 + (i : Int) := by rw [w64] <;> omega
  have NM := law07_name (100 + i) (by omega)
  rw [show ((100 + i : Nat) : Int) = 100 + (i : Int) by omega] at NM
  cases i with
  | zero =>
   simp only [cb4, cbT, cbZ, cbM1]
   refine AW.seq ?_
   refine AW.rT (by rfl) fun K hK => ?_
   simp -implicitDefEqProofs only [go_sem, ↓reduceIte, Nat.reduceAdd, Nat.reduceMul, Nat.reduceEqDiff, Nat.reduceLeDiff, reduceCtorEq, Int.reduceToNat, c1]
   refine hK _ ?_; clear hK K
   refine AW.cond _ (by simp -implicitDefEqProofs only [go_sem, ↓reduceIte, Nat.reduceAdd, Nat.reduceMul, Nat.reduceEqDiff, Nat.reduceLeDiff, reduceCtorEq, Int.reduceToNat]; rfl) (fun hc => ?_) (fun hc => ?_)
   rotate_left
   ·simp at hc
   refine AW.skip ?_
   simp only [andThen, inBlk, reduceCtorEq, ↓reduceIte, if_t, if_f]
   refine AW.seq ?_
   refine AW.block ?_
   refine AW.dE mixed (by rfl) (by decide +kernel) fun K hK => ?_
   simp -implicitDefEqProofs only [go_sem, ↓reduceIte, Nat.reduceAdd, Nat.reduceMul, Nat.reduceEqDiff, Nat.reduceLeDiff, reduceCtorEq, Int.reduceToNat, t53, w2]
   refine ⟨.pure _, NM, ?_⟩
   try simp -implicitDefEqProofs only [go_sem, ↓reduceIte, Nat.reduceAdd, Nat.reduceMul, Nat.reduceEqDiff, Nat.reduceLeDiff, reduceCtorEq, Int.reduceToNat, w2]
   refine ⟨⟨by simp, by simp [oneAll, AV.one, PV.one], by simp⟩, by decide, by decide +kernel, ?_⟩
   refine hK _ ?_; clear hK K
   simp only [andThen, inBlk, reduceCtorEq, ↓reduceIte, if_t, if_f]
   refine AW.rE (by rfl) fun K hK => ?_
   simp -implicitDefEqProofs only [go_sem, ↓reduceIte, Nat.reduceAdd, Nat.reduceMul, Nat.reduceEqDiff, Nat.reduceLeDiff, reduceCtorEq, Int.reduceToNat, w1]
   refine hK _ ?_; clear hK K
   refine ⟨1, by omega, by omega, ?_⟩
   show Ghost _ _ (cb4 ms fs rs es vs cs 1 [(18, .p (.int .i64 ((1 : Nat) : Int)))])
   simp only [cb4, cbT, cbZ, cbM1, lmEs, List.range'_zero, List.map_nil, liftE_nil]
   refine Ghost.ent (fun l => if l = 2 then 16 else if l = 3 then 13 else l) ?_ ?_ ?_ <;> simp -implicitDefEqProofs only [go_sem, ↓reduceIte, Nat.reduceAdd, Nat.reduceMul, Nat.reduceEqDiff, Nat.reduceLeDiff, reduceCtorEq, Int.reduceToNat,  List.forall_mem_cons, List.not_mem_nil, false_implies, implies_true, and_self, map_renL_lift, labsIn_lift, List.all_append, List.all_cons, List.all_nil, List.map_append, Nat.reduceLT, labsInL, AV.labsIn]
   all_goals first | rfl | decide | skip
  | succ i =>
   have nx := lmEs_next i
   have ll := lmEs_len i
   simp only [cb4, cbT, cbZ, cbM1]
   refine AW.seq ?_
   refine AW.rT (by rfl) fun K hK => ?_
   simp -implicitDefEqProofs only [go_sem, ↓reduceIte, Nat.reduceAdd, Nat.reduceMul, Nat.reduceEqDiff, Nat.reduceLeDiff, reduceCtorEq, Int.reduceToNat, c1]
   refine hK _ ?_; clear hK K
   refine AW.cond _ (by simp -implicitDefEqProofs only [go_sem, ↓reduceIte, Nat.reduceAdd, Nat.reduceMul, Nat.reduceEqDiff, Nat.reduceLeDiff, reduceCtorEq, Int.reduceToNat]; rfl) (fun hc => ?_) (fun hc => ?_)
   rotate_left
   ·simp at hc
   refine AW.skip ?_
   simp only [andThen, inBlk, reduceCtorEq, ↓reduceIte, if_t, if_f]
   refine AW.seq ?_
   refine AW.block ?_
   refine AW.dE mixed (by rfl) (by decide +kernel) fun K hK => ?_
   simp -implicitDefEqProofs only [go_sem, ↓reduceIte, Nat.reduceAdd, Nat.reduceMul, Nat.reduceEqDiff, Nat.reduceLeDiff, reduceCtorEq, Int.reduceToNat, t53, w2]
   refine ⟨.pure _, NM, ?_⟩
   try simp -implicitDefEqProofs only [go_sem, ↓reduceIte, Nat.reduceAdd, Nat.reduceMul, Nat.reduceEqDiff, Nat.reduceLeDiff, reduceCtorEq, Int.reduceToNat, w2]
   refine ⟨⟨by simp, by simp [oneAll, AV.one, PV.one], by simp⟩, by rw [ll]; omega, by decide +kernel, ?_⟩
   refine hK _ ?_; clear hK K
   simp only [andThen, inBlk, reduceCtorEq, ↓reduceIte, if_t, if_f]
   refine AW.ghost (s' := cb4M ms fs rs es vs cs i (nmW (101 + i)) [(18, .p (.int .i64 ((i + 1 : Nat) : Int)))]) ?_ ?_
   ·rw [show 100 + (i + 1) = 101 + i by omega]
    simp only [cb4M, cbT, cbZ, cbM1]
    refine Ghost.ent (fun l => if l = 2 then 17 else if l = 4 then 14 else l) ?_ ?_ ?_ <;> simp -implicitDefEqProofs only [go_sem, ↓reduceIte, Nat.reduceAdd, Nat.reduceMul, Nat.reduceEqDiff, Nat.reduceLeDiff, reduceCtorEq, Int.reduceToNat, List.cons_append, List.forall_mem_cons, List.not_mem_nil, false_implies, implies_true, and_self, map_renL_lift, labsIn_lift, List.all_append, List.all_cons, List.all_nil, List.map_append, Nat.reduceLT, labsInL, AV.labsIn]
    all_goals first | rfl | decide | skip
   refine AW.ghost (s' := cb4 ms fs rs es vs cs (i + 2) [(18, .p (.int .i64 ((i + 1 : Nat) : Int)))]) (Ghost.trans (Ghost.freeze (lb := 4) (sz := 2) (ps := [[.str [122], .int .i64 0]]) rfl rfl) ?_) ?_
   ·simp only [cb4M, cb4, cbT, cbZ, cbM1]
    rw [← nx]
    refine Ghost.sub ?_ ?_ <;> simp -implicitDefEqProofs only [go_sem, ↓reduceIte, Nat.reduceAdd, Nat.reduceMul, Nat.reduceEqDiff, Nat.reduceLeDiff, reduceCtorEq, Int.reduceToNat, thaw, thaw1, Option.map_some, List.map_cons, List.map_nil, List.map_append, thaw_lift, List.cons_append, List.nil_append, List.forall_mem_cons, List.not_mem_nil, false_implies, implies_true, and_self, labsIn_lift, List.all_append, List.all_cons, List.all_nil, Nat.reduceLT, labsInL, AV.labsIn]
    done
   simp only [cb4, cbT, cbZ, cbM1]
   refine AW.rE (by rfl) fun K hK => ?_
   simp -implicitDefEqProofs only [go_sem, ↓reduceIte, Nat.reduceAdd, Nat.reduceMul, Nat.reduceEqDiff, Nat.reduceLeDiff, reduceCtorEq, Int.reduceToNat, w1]
   refine hK _ ?_; clear hK K
   refine ⟨i + 2, by omega, by omega, ?_⟩
   show Ghost _ _ (cb4 ms fs rs es vs cs (i + 2) [(18, .p (.int .i64 ((i + 2 : Nat) : Int)))])
   simp only [cb4, cbT, cbZ, cbM1]
   refine Ghost.sub ?_ ?_ <;> simp -implicitDefEqProofs only [go_sem, ↓reduceIte, Nat.reduceAdd, Nat.reduceMul, Nat.reduceEqDiff, Nat.reduceLeDiff, reduceCtorEq, Int.reduceToNat,  List.forall_mem_cons, List.not_mem_nil, false_implies, implies_true, and_self, labsIn_lift, List.all_append, List.all_cons, List.all_nil, Nat.reduceLT, labsInL, AV.labsIn]
   done
 refine AW.cut (fun _ : Unit => cbE ms fs rs es vs cs (lmL es vs) []) (fun _ => True) ?_ fun _ _ => ?_
 ·by_cases he : es = 0
  ·subst he
   have hv1 := hv rfl
   have c1 : ((1 : Int) < (vs : Int)) = False := eq_false (by omega)
   refine AW.ghost (s' := cbE ms fs rs 0 vs cs (lmL 0 vs) []) (Ghost.trans (Ghost.freeze (lb := 2) (sz := 2) (ps := []) rfl rfl) ?_) ?_
   ·simp only [cbE, cb4, cbT, cbZ, cbM1, lmL, List.map_nil]
    refine Ghost.sub ?_ ?_ <;> simp -implicitDefEqProofs only [go_sem, ↓reduceIte, Nat.reduceAdd, Nat.reduceMul, Nat.reduceEqDiff, Nat.reduceLeDiff, reduceCtorEq, Int.reduceToNat, thaw, thaw1, Option.map_some, List.map_cons, List.map_nil, List.map_append, thaw_lift, List.forall_mem_cons, List.not_mem_nil, false_implies, implies_true, and_self, labsIn_lift, List.all_append, List.all_cons, List.all_nil, Nat.reduceLT, labsInL, AV.labsIn]
    done
   simp only [cbE, cbT, cbZ, cbM1, lmL, List.map_nil]
   refine AW.rT (by rfl) fun K hK => ?_
   simp -implicitDefEqProofs only [go_sem, ↓reduceIte, Nat.reduceAdd, Nat.reduceMul, Nat.reduceEqDiff, Nat.reduceLeDiff, reduceCtorEq, Int.reduceToNat]
   refine hK _ ?_; clear hK K
   refine AW.block ?_
   refine AW.loop (fun _ : Unit => cbE ms fs rs 0 vs cs (lmL 0 vs) [(19, .p (.int .i64 1))]) (fun _ => True) (fun _ => 0) () ?_ trivial fun _ _ => ?_
   ·simp only [cbE, cbT, cbZ, cbM1, lmL, List.map_nil]
    refine Ghost.sub ?_ ?_ <;> simp -implicitDefEqProofs only [go_sem, ↓reduceIte, Nat.reduceAdd, Nat.reduceMul, Nat.reduceEqDiff, Nat.reduceLeDiff, reduceCtorEq, Int.reduceToNat,  List.forall_mem_cons, List.not_mem_nil, false_implies, implies_true, and_self, labsIn_lift, List.all_append, List.all_cons, List.all_nil, Nat.reduceLT, labsInL, AV.labsIn]
    done
   simp only [cbE, cbT, cbZ, cbM1, lmL, List.map_nil]
   refine AW.seq ?_
   refine AW.rT (by rfl) fun K hK => ?_
   simp -implicitDefEqProofs only [go_sem, ↓reduceIte, Nat.reduceAdd, Nat.reduceMul, Nat.reduceEqDiff, Nat.reduceLeDiff, reduceCtorEq, Int.reduceToNat, c1]
   refine hK _ ?_; clear hK K
   refine AW.cond _ (by simp -implicitDefEqProofs only [go_sem, ↓reduceIte, Nat.reduceAdd, Nat.reduceMul, Nat.reduceEqDiff, Nat.reduceLeDiff, reduceCtorEq, Int.reduceToNat]; rfl) (fun hc => ?_) (fun hc => ?_)
   ·simp at hc
   refine AW.exit ?_
   simp only [andThen, inBlk, reduceCtorEq, ↓reduceIte, if_t, if_f]
   refine ⟨(), trivial, ?_⟩
   refine Ghost.sub ?_ ?_ <;> simp -implicitDefEqProofs only [go_sem, ↓reduceIte, Nat.reduceAdd, Nat.reduceMul, Nat.reduceEqDiff, Nat.reduceLeDiff, reduceCtorEq, Int.reduceToNat,  List.forall_mem_cons, List.not_mem_nil, false_implies, implies_true, and_self, labsIn_lift, List.all_append, List.all_cons, List.all_nil, Nat.reduceLT, labsInL, AV.labsIn]
   done
  obtain ⟨e, rfl⟩ : ∃ e, es = e + 1 := ⟨es - 1, by omega⟩
  clear hv
  refine AW.ghost (s' := cb5 ms fs rs (e + 1) vs cs e 1 []) ?_ ?_
  ·simp only [cb5, cb4, cbT, cbZ, cbM1, lmVs, Nat.sub_self, List.range'_zero, List.map_nil, List.map_cons, encNm, liftE_cons, liftE_nil]
   refine Ghost.sub ?_ ?_ <;> simp -implicitDefEqProofs only [go_sem, ↓reduceIte, Nat.reduceAdd, Nat.reduceMul, Nat.reduceEqDiff, Nat.reduceLeDiff, reduceCtorEq, Int.reduceToNat,  List.forall_mem_cons, List.not_mem_nil, false_implies, implies_true, and_self, labsIn_lift, List.all_append, List.all_cons, List.all_nil, Nat.reduceLT, labsInL, AV.labsIn]
   done
  simp only [cb5, cbT, cbZ, cbM1]
  have bl2 := lmEs_len e
  have z2 : (0 : Int) < (((liftE ((lmEs e).map encEn)).length + 1 : Nat) : Int) := by omega
  refine AW.rT (by rfl) fun K hK => ?_
  simp -implicitDefEqProofs only [go_sem, ↓reduceIte, Nat.reduceAdd, Nat.reduceMul, Nat.reduceEqDiff, Nat.reduceLeDiff, reduceCtorEq, Int.reduceToNat]
  refine hK _ ?_; clear hK K
  refine AW.block ?_
  refine AW.loop (fun i : Nat => cb5 ms fs rs (e + 1) vs cs e i [(19, .p (.int .i64 (i : Int)))]) (fun i => 1 ≤ i ∧ (i ≤ vs ∨ i = 1)) (fun i => vs - i) 1 ?_ ⟨Nat.le_refl _, .inr rfl⟩ fun i i1 => ?_
  ·simp only [cb5, cbT, cbZ, cbM1]
   refine Ghost.sub ?_ ?_ <;> simp -implicitDefEqProofs only [go_sem, ↓reduceIte, Nat.reduceAdd, Nat.reduceMul, Nat.reduceEqDiff, Nat.reduceLeDiff, reduceCtorEq, Int.reduceToNat, Int.cast_ofNat_Int, List.forall_mem_cons, List.not_mem_nil, false_implies, implies_true, and_self, labsIn_lift, List.all_append, List.all_cons, List.all_nil, Nat.reduceLT, labsInL, AV.labsIn]
   done
  obtain ⟨i1, i2⟩ := i1
  simp only [cb5, cbT, cbZ, cbM1]
  refine AW.seq ?_
  by_cases hil : i < vs
  case neg =>
   have ev : i - 1 = vs - 1 := by omega
   have eV : lmVs i = lmVs vs := by unfold lmVs; rw [ev]
   have c1 : ((i : Int) < (vs : Int)) = False := eq_false (by omega)
   refine AW.rT (by rfl) fun K hK => ?_
   simp -implicitDefEqProofs only [go_sem, ↓reduceIte, Nat.reduceAdd, Nat.reduceMul, Nat.reduceEqDiff, Nat.reduceLeDiff, reduceCtorEq, Int.reduceToNat, c1]
   refine hK _ ?_; clear hK K
   refine AW.cond _ (by simp -implicitDefEqProofs only [go_sem, ↓reduceIte, Nat.reduceAdd, Nat.reduceMul, Nat.reduceEqDiff, Nat.reduceLeDiff, reduceCtorEq, Int.reduceToNat]; rfl) (fun hc => ?_) (fun hc => ?_)
   ·simp at hc
   refine AW.exit ?_
   simp only [andThen, inBlk, reduceCtorEq, ↓reduceIte, if_t, if_f]
   refine ⟨(), trivial, ?_⟩
   rw [eV]
   refine Ghost.trans (Ghost.freeze (lb := 3) (sz := 2) (ps := (lmVs vs).map encNm) rfl (unlift_liftE _)) ?_
   refine Ghost.trans (s' := cb5N ms fs rs (e + 1) vs cs e) ?_ (Ghost.trans (Ghost.freeze (lb := 2) (sz := 2) (ps := (lmL (e + 1) vs).map encEn) rfl (lm_enums e vs)) ?_)
   ·simp only [cb5N, cbT, cbZ, cbM1]
    refine Ghost.sub ?_ ?_ <;> simp -implicitDefEqProofs only [go_sem, ↓reduceIte, Nat.reduceAdd, Nat.reduceMul, Nat.reduceEqDiff, Nat.reduceLeDiff, reduceCtorEq, Int.reduceToNat, thaw, thaw1, Option.map_some, List.map_cons, List.map_nil, thaw_lift, List.forall_mem_cons, List.not_mem_nil, false_implies, implies_true, and_self, labsIn_lift, List.all_append, List.all_cons, List.all_nil, Nat.reduceLT, labsInL, AV.labsIn]
    done
   ·simp only [cb5N, cbE, cbT, cbZ, cbM1]
    refine Ghost.sub ?_ ?_ <;> simp -implicitDefEqProofs only [go_sem, ↓reduceIte, Nat.reduceAdd, Nat.reduceMul, Nat.reduceEqDiff, Nat.reduceLeDiff, reduceCtorEq, Int.reduceToNat, thaw, thaw1, Option.map_some, List.map_cons, List.map_nil, thaw_lift, List.forall_mem_cons, List.not_mem_nil, false_implies, implies_true, and_self, labsIn_lift, List.all_append, List.all_cons, List.all_nil, Nat.reduceLT, labsInL, AV.labsIn]
    done
  have c1 : ((i : Int) < (vs : Int)) = True := eq_true (by omega)
  have w1 : IntKind.wrap .i64 ((i : Int) + 1) = ((i + 1 : Nat) : Int) := by rw [w64] <;> omega
  have NM := law07_name i (by omega)
  have nx := lmVs_next i i1
  have ll := lmVs_len i i1
  refine AW.rT (by rfl) fun K hK => ?_
  simp -implicitDefEqProofs only [go_sem, ↓reduceIte, Nat.reduceAdd, Nat.reduceMul, Nat.reduceEqDiff, Nat.reduceLeDiff, reduceCtorEq, Int.reduceToNat, c1]
  refine hK _ ?_; clear hK K
  refine AW.cond _ (by simp -implicitDefEqProofs only [go_sem, ↓reduceIte, Nat.reduceAdd, Nat.reduceMul, Nat.reduceEqDiff, Nat.reduceLeDiff, reduceCtorEq, Int.reduceToNat]; rfl) (fun hc => ?_) (fun hc => ?_)
  rotate_left
  ·simp at hc
  refine AW.skip ?_
  simp only [andThen, inBlk, reduceCtorEq, ↓reduceIte, if_t, if_f]
  refine AW.seq ?_
  refine AW.block ?_
  refine AW.dE mixed (by rfl) (by decide +kernel) fun K hK => ?_
  simp -implicitDefEqProofs only [go_sem, ↓reduceIte, Nat.reduceAdd, Nat.reduceMul, Nat.reduceEqDiff, Nat.reduceLeDiff, reduceCtorEq, Int.reduceToNat, t53, List.length_cons, List.getElem?_cons_zero]
  refine ⟨⟨Int.le_refl 0, z2⟩, ?_⟩
  refine ⟨.pure _, NM, ?_⟩
  try simp -implicitDefEqProofs only [go_sem, ↓reduceIte, Nat.reduceAdd, Nat.reduceMul, Nat.reduceEqDiff, Nat.reduceLeDiff, reduceCtorEq, Int.reduceToNat]
  refine ⟨⟨by simp, by simp [oneAll, AV.one, PV.one], by simp⟩, by rw [ll]; omega, ⟨Int.le_refl 0, z2⟩, by decide +kernel, ?_⟩
  refine hK _ ?_; clear hK K
  rw [nx]
  simp only [andThen, inBlk, reduceCtorEq, ↓reduceIte, if_t, if_f]
  refine AW.rE (by rfl) fun K hK => ?_
  simp -implicitDefEqProofs only [go_sem, ↓reduceIte, Nat.reduceAdd, Nat.reduceMul, Nat.reduceEqDiff, Nat.reduceLeDiff, reduceCtorEq, Int.reduceToNat, w1]
  refine hK _ ?_; clear hK K
  refine ⟨i + 1, ⟨by omega, by omega⟩, by omega, ?_⟩
  show Ghost _ _ (cb5 ms fs rs (e + 1) vs cs e (i + 1) [(19, .p (.int .i64 ((i + 1 : Nat) : Int)))])
  simp only [cb5, cbT, cbZ, cbM1]
  refine Ghost.ent (fun l => if l = 3 then 20 else l) ?_ ?_ ?_ <;> simp -implicitDefEqProofs only [go_sem, ↓reduceIte, Nat.reduceAdd, Nat.reduceMul, Nat.reduceEqDiff, Nat.reduceLeDiff, reduceCtorEq, Int.reduceToNat, List.map_cons, List.set_cons_zero, List.forall_mem_cons, List.not_mem_nil, false_implies, implies_true, and_self, map_renL_lift, labsIn_lift, List.all_append, List.all_cons, List.all_nil, List.map_append, Nat.reduceLT, labsInL, AV.labsIn]
  all_goals first | rfl | decide | skip
 refine AW.cut (fun _ : Unit => cb6 ms fs rs es vs cs cs []) (fun _ => True) ?_ fun _ _ => ?_
 ·refine AW.ghost (s' := cb6 ms fs rs es vs cs 0 []) (Ghost.trans (Ghost.nilH (l := 1) (i := 0) (j := 3) (sz' := 3) rfl rfl rfl) ?_) ?_
  ·simp only [cbE, cb6, cbT, cbZ, cbM1]
   refine Ghost.ent (fun l => if l = 2 then 4 else l) ?_ ?_ ?_ <;> simp -implicitDefEqProofs only [go_sem, ↓reduceIte, Nat.reduceAdd, Nat.reduceMul, Nat.reduceEqDiff, Nat.reduceLeDiff, reduceCtorEq, Int.reduceToNat, List.set_cons_zero, List.map_cons, List.map_nil, lmTs, List.range_zero, liftE_nil, List.forall_mem_cons, List.not_mem_nil, false_implies, implies_true, and_self, map_renL_lift, labsIn_lift, List.all_append, List.all_cons, List.all_nil, List.map_append, Nat.reduceLT, labsInL, AV.labsIn]
   all_goals first | rfl | decide | skip
  simp only [cb6, cbT, cbZ, cbM1]
  refine AW.rT (by rfl) fun K hK => ?_
  simp -implicitDefEqProofs only [go_sem, ↓reduceIte, Nat.reduceAdd, Nat.reduceMul, Nat.reduceEqDiff, Nat.reduceLeDiff, reduceCtorEq, Int.reduceToNat]
  refine hK _ ?_; clear hK K
  refine AW.block ?_
  refine AW.loop (fun i : Nat => cb6 ms fs rs es vs cs i [(20, .p (.int .i64 (i : Int)))]) (fun i => i ≤ cs) (fun i => cs - i) 0 ?_ (by omega) fun i i1 => ?_
  ·simp only [cb6, cbT, cbZ, cbM1]
   refine Ghost.sub ?_ ?_ <;> simp -implicitDefEqProofs only [go_sem, ↓reduceIte, Nat.reduceAdd, Nat.reduceMul, Nat.reduceEqDiff, Nat.reduceLeDiff, reduceCtorEq, Int.reduceToNat,  List.forall_mem_cons, List.not_mem_nil, false_implies, implies_true, and_self, labsIn_lift, List.all_append, List.all_cons, List.all_nil, Nat.reduceLT, labsInL, AV.labsIn]
   all_goals first | rfl | decide | skip
  simp only [cb6, cbT, cbZ, cbM1]
  refine AW.seq ?_
  by_cases hil : i < cs
  case neg =>
   have e : i = cs := by omega
   subst e
   have c1 : ((i : Int) < (i : Int)) = False := eq_false (by omega)
   refine AW.rT (by rfl) fun K hK => ?_
   simp -implicitDefEqProofs only [go_sem, ↓reduceIte, Nat.reduceAdd, Nat.reduceMul, Nat.reduceEqDiff, Nat.reduceLeDiff, reduceCtorEq, Int.reduceToNat, c1]
   refine hK _ ?_; clear hK K
   refine AW.cond _ (by simp -implicitDefEqProofs only [go_sem, ↓reduceIte, Nat.reduceAdd, Nat.reduceMul, Nat.reduceEqDiff, Nat.reduceLeDiff, reduceCtorEq, Int.reduceToNat]; rfl) (fun hc => ?_) (fun hc => ?_)
   ·simp at hc
   refine AW.exit ?_
   simp only [andThen, inBlk, reduceCtorEq, ↓reduceIte, if_t, if_f]
   refine ⟨(), trivial, ?_⟩
   show Ghost _ _ (cb6 ms fs rs es vs i i [])
   simp only [cb6, cbT, cbZ, cbM1]
   refine Ghost.sub ?_ ?_ <;> simp -implicitDefEqProofs only [go_sem, ↓reduceIte, Nat.reduceAdd, Nat.reduceMul, Nat.reduceEqDiff, Nat.reduceLeDiff, reduceCtorEq, Int.reduceToNat,  List.forall_mem_cons, List.not_mem_nil, false_implies, implies_true, and_self, labsIn_lift, List.all_append, List.all_cons, List.all_nil, Nat.reduceLT, labsInL, AV.labsIn]
   done
  have c1 : ((i : Int) < (cs : Int)) = True := eq_true (by omega)
  have w1 : IntKind.wrap .i64 ((i : Int) + 1) = ((i + 1 : Nat) : Int) := by rw [w64] <;> omega
  have NM := law07_name i (by omega)
  have nx := lmTs_next i
  have ll := lmTs_len i
  refine AW.rT (by rfl) fun K hK => ?_
  simp -implicitDefEqProofs only [go_sem, ↓reduceIte, Nat.reduceAdd, Nat.reduceMul, Nat.reduceEqDiff, Nat.reduceLeDiff, reduceCtorEq, Int.reduceToNat, c1]
  refine hK _ ?_; clear hK K
  refine AW.cond _ (by simp -implicitDefEqProofs only [go_sem, ↓reduceIte, Nat.reduceAdd, Nat.reduceMul, Nat.reduceEqDiff, Nat.reduceLeDiff, reduceCtorEq, Int.reduceToNat]; rfl) (fun hc => ?_) (fun hc => ?_)
  rotate_left
  ·simp at hc
  refine AW.skip ?_
  simp only [andThen, inBlk, reduceCtorEq, ↓reduceIte, if_t, if_f]
  refine AW.seq ?_
  refine AW.block ?_
  refine AW.dE mixed (by rfl) (by decide +kernel) fun K hK => ?_
  simp -implicitDefEqProofs only [go_sem, ↓reduceIte, Nat.reduceAdd, Nat.reduceMul, Nat.reduceEqDiff, Nat.reduceLeDiff, reduceCtorEq, Int.reduceToNat, t53]
  refine ⟨.pure _, NM, ?_⟩
  try simp -implicitDefEqProofs only [go_sem, ↓reduceIte, Nat.reduceAdd, Nat.reduceMul, Nat.reduceEqDiff, Nat.reduceLeDiff, reduceCtorEq, Int.reduceToNat]
  refine ⟨.pure _, N0, ?_⟩
  try simp -implicitDefEqProofs only [go_sem, ↓reduceIte, Nat.reduceAdd, Nat.reduceMul, Nat.reduceEqDiff, Nat.reduceLeDiff, reduceCtorEq, Int.reduceToNat]
  refine ⟨.pure _, N0, ?_⟩
  try simp -implicitDefEqProofs only [go_sem, ↓reduceIte, Nat.reduceAdd, Nat.reduceMul, Nat.reduceEqDiff, Nat.reduceLeDiff, reduceCtorEq, Int.reduceToNat]
  refine ⟨⟨by simp, by simp [oneAll, AV.one, PV.one], by simp⟩, by rw [ll]; omega, by decide +kernel, ?_⟩
  refine hK _ ?_; clear hK K
  rw [nx]
  simp only [andThen, inBlk, reduceCtorEq, ↓reduceIte, if_t, if_f]
  refine AW.rE (by rfl) fun K hK => ?_
  simp -implicitDefEqProofs only [go_sem, ↓reduceIte, Nat.reduceAdd, Nat.reduceMul, Nat.reduceEqDiff, Nat.reduceLeDiff, reduceCtorEq, Int.reduceToNat, w1]
  refine hK _ ?_; clear hK K
  refine ⟨i + 1, by omega, by omega, ?_⟩
  show Ghost _ _ (cb6 ms fs rs es vs cs (i + 1) [(20, .p (.int .i64 ((i + 1 : Nat) : Int)))])
  simp only [cb6, cbT, cbZ, cbM1]
  refine Ghost.ent (fun l => if l = 2 then 18 else l) ?_ ?_ ?_ <;> simp -implicitDefEqProofs only [go_sem, ↓reduceIte, Nat.reduceAdd, Nat.reduceMul, Nat.reduceEqDiff, Nat.reduceLeDiff, reduceCtorEq, Int.reduceToNat,  List.forall_mem_cons, List.not_mem_nil, false_implies, implies_true, and_self, map_renL_lift, labsIn_lift, List.all_append, List.all_cons, List.all_nil, List.map_append, Nat.reduceLT, labsInL, AV.labsIn]
  all_goals first | rfl | decide | skip
 refine AW.ghost (s' := ⟨ofL [(13, .ptr 0 0 0), (14, .ptr 1 0 0)], ofH [cbZ, (1, .row 4 [[.p (.str [97]), cbM1 ms fs rs, .p (.slice ((lmL es vs).map encEn)), .p (.slice ((lmTs cs).map encMt))]])], 4⟩) (Ghost.trans (Ghost.freeze (lb := 2) (sz := 3) (ps := (lmTs cs).map encMt) rfl (unlift_liftE _)) ?_) ?_
 ·simp only [cb6, cbT, cbZ, cbM1]
  refine Ghost.sub ?_ ?_ <;> simp -implicitDefEqProofs only [go_sem, ↓reduceIte, Nat.reduceAdd, Nat.reduceMul, Nat.reduceEqDiff, Nat.reduceLeDiff, reduceCtorEq, Int.reduceToNat, thaw, thaw1, Option.map_some, List.map_cons, List.map_nil, thaw_lift, List.forall_mem_cons, List.not_mem_nil, false_implies, implies_true, and_self, labsIn_lift, List.all_append, List.all_cons, List.all_nil, Nat.reduceLT, labsInL, AV.labsIn]
  done
 simp only [cbZ, cbM1]
 refine AW.rT (by rfl) fun K hK => ?_
 simp -implicitDefEqProofs only [go_sem, ↓reduceIte, Nat.reduceAdd, Nat.reduceMul, Nat.reduceEqDiff, Nat.reduceLeDiff, reduceCtorEq, Int.reduceToNat]
 refine hK _ ?_; clear hK K
 refine AW.ret ?_
 simp -implicitDefEqProofs only [go_sem, ↓reduceIte, Nat.reduceAdd, Nat.reduceMul, Nat.reduceEqDiff, Nat.reduceLeDiff, reduceCtorEq, Int.reduceToNat, encSc, lmS, lmTs]
end Go.Aw
namespace Go.Aw
open Go.Proofs Go.RowKit
set_option linter.unusedSimpArgs false
set_option linter.unusedVariables false
def wF : Fd := ⟨[120], 1, 1, ⟨1, []⟩⟩
def wF2 : Fd := ⟨[121], 1, 1, ⟨1, []⟩⟩
def wS1 : Sc := ⟨[97], [⟨[109], [wF], []⟩], [], []⟩
def wS2 : Sc := ⟨[97], [⟨[109], [wF, wF2], []⟩], [], []⟩
theorem wS1_ok : checkC wS1 = 0 := by decide +kernel
theorem wS2_ok : checkC wS2 = 7 := by decide +kernel
theorem lens_few {S : Sc} (h : fewB S = true) : LensS S := (few_spec h).lens
theorem wS1_lens : LensS wS1 := lens_few (by decide +kernel)
theorem wS2_lens : LensS wS2 := lens_few (by decide +kernel)
def wk0 : St := ⟨ofL [(3, .ptr 0 0 0), (4, .ptr 1 0 0)], ofH [(0, .row 4 [[.p (.str [97]), .own 2, .ex [], .ex []]]), (1, .row 4 [[.p (.str [97]), .own 4, .ex [], .ex []]]), (2, .row 3 [[.p (.str [109]), .own 3, .ex []]]), (3, .row 5 (liftE ([wF].map encFd))), (4, .row 3 [[.p (.str [109]), .own 5, .ex []]]), (5, .row 5 (liftE ([wF, wF2].map encFd)))], 6⟩
def wM1 : List AV := [.p (.str [109]), .p (.slice ([wF].map encFd)), .ex []]
def wM2 : List AV := [.p (.str [109]), .p (.slice ([wF, wF2].map encFd)), .ex []]
def wR1 : List AV := [.p (.str [97]), .p (.slice [encMs ⟨[109], [wF], []⟩]), .ex [], .ex []]
def wR2 : List AV := [.p (.str [97]), .p (.slice [encMs ⟨[109], [wF, wF2], []⟩]), .ex [], .ex []]
def wk1 : St := ⟨ofL [(3, .ptr 0 0 0), (4, .ptr 1 0 0)], ofH [(0, .row 4 [[.p (.str [97]), .own 2, .ex [], .ex []]]), (1, .row 4 [[.p (.str [97]), .own 4, .ex [], .ex []]]), (2, .row 3 [wM1]), (4, .row 3 [[.p (.str [109]), .own 5, .ex []]]), (5, .row 5 (liftE ([wF, wF2].map encFd)))], 6⟩
def wk2 : St := ⟨ofL [(3, .ptr 0 0 0), (4, .ptr 1 0 0)], ofH [(0, .row 4 [wR1]), (1, .row 4 [[.p (.str [97]), .own 4, .ex [], .ex []]]), (4, .row 3 [[.p (.str [109]), .own 5, .ex []]]), (5, .row 5 (liftE ([wF, wF2].map encFd)))], 6⟩
def wk3 : St := ⟨ofL [(3, .ptr 0 0 0), (4, .ptr 1 0 0)], ofH [(0, .row 4 [wR1]), (1, .row 4 [[.p (.str [97]), .own 4, .ex [], .ex []]]), (4, .row 3 [wM2])], 6⟩
def wk4 : St := ⟨ofL [(3, .ptr 0 0 0), (4, .ptr 1 0 0)], ofH [(0, .row 4 [wR1]), (1, .row 4 [wR2])], 6⟩
set_option maxRecDepth 100000 in
set_option maxHeartbeats 4000000 in
theorem law07_awake : PFn Tryd.prog 24 [] (.bool true) := by
 refine PFn.of Tryd.func24 rfl (by decide) Tryd.ntmps24 Tryd.results24 (Nat.le_of_ble_eq_true rfl) ?_
 simp only [argsT]
 refine AW.rT (by rfl) fun K hK => ?_
 simp -implicitDefEqProofs only [go_sem, ↓reduceIte, Nat.reduceAdd, Nat.reduceMul, Nat.reduceEqDiff, Nat.reduceLeDiff, reduceCtorEq, Int.reduceToNat]
 refine hK _ ?_; clear hK K
 refine AW.rT (by rfl) fun K hK => ?_
 simp -implicitDefEqProofs only [go_sem, ↓reduceIte, Nat.reduceAdd, Nat.reduceMul, Nat.reduceEqDiff, Nat.reduceLeDiff, reduceCtorEq, Int.reduceToNat]
 refine hK _ ?_; clear hK K
 refine AW.rT (by rfl) fun K hK => ?_
 simp -implicitDefEqProofs only [go_sem, ↓reduceIte, Nat.reduceAdd, Nat.reduceMul, Nat.reduceEqDiff, Nat.reduceLeDiff, reduceCtorEq, Int.reduceToNat]
 refine hK _ ?_; clear hK K
 refine AW.rT (by rfl) fun K hK => ?_
 simp -implicitDefEqProofs only [go_sem, ↓reduceIte, Nat.reduceAdd, Nat.reduceMul, Nat.reduceEqDiff, Nat.reduceLeDiff, reduceCtorEq, Int.reduceToNat]
 refine hK _ ?_; clear hK K
 refine AW.rT (by rfl) fun K hK => ?_
 simp -implicitDefEqProofs only [go_sem, ↓reduceIte, Nat.reduceAdd, Nat.reduceMul, Nat.reduceEqDiff, Nat.reduceLeDiff, reduceCtorEq, Int.reduceToNat]
 refine hK _ ?_; clear hK K
 refine AW.rT (by rfl) fun K hK => ?_
 simp -implicitDefEqProofs only [go_sem, ↓reduceIte, Nat.reduceAdd, Nat.reduceMul, Nat.reduceEqDiff, Nat.reduceLeDiff, reduceCtorEq, Int.reduceToNat]
 refine hK _ ?_; clear hK K
 refine AW.ghost (s' := wk0) ?_ ?_
 ·simp only [wk0]
  refine Ghost.ent (fun l => if l = 0 then 15 else if l = 1 then 23 else if l = 2 then 13 else if l = 3 then 11 else if l = 4 then 21 else 19) ?_ ?_ ?_ <;> simp -implicitDefEqProofs only [go_sem, ↓reduceIte, Nat.reduceAdd, Nat.reduceMul, Nat.reduceEqDiff, Nat.reduceLeDiff, reduceCtorEq, Int.reduceToNat, wF, wF2, encFd, liftE_cons, liftE_nil, List.map_cons, List.map_nil, List.forall_mem_cons, List.not_mem_nil, false_implies, implies_true, and_self, map_renL_lift, labsIn_lift, List.all_append, List.all_cons, List.all_nil, List.map_append, Nat.reduceLT, labsInL, AV.labsIn]
  all_goals first | rfl | decide | skip
 refine AW.ghost (s' := wk1) (Ghost.trans (Ghost.freeze (lb := 3) (ps := [wF].map encFd) rfl (unlift_liftE _)) ?_) ?_
 ·simp only [wk0, wk1]
  refine Ghost.sub ?_ ?_ <;> simp -implicitDefEqProofs only [go_sem, ↓reduceIte, Nat.reduceAdd, Nat.reduceMul, Nat.reduceEqDiff, Nat.reduceLeDiff, reduceCtorEq, Int.reduceToNat, thaw, thaw1, Option.map_some, List.map_cons, List.map_nil, wM1, wF, wF2, encFd, liftE_cons, liftE_nil, List.forall_mem_cons, List.not_mem_nil, false_implies, implies_true, and_self, labsIn_lift, List.all_append, List.all_cons, List.all_nil, Nat.reduceLT, labsInL, AV.labsIn]
  all_goals first | rfl | decide | skip
 refine AW.ghost (s' := wk2) (Ghost.trans (Ghost.freeze (lb := 2) (ps := [encMs ⟨[109], [wF], []⟩]) rfl (by rfl)) ?_) ?_
 ·simp only [wk1, wk2]
  refine Ghost.sub ?_ ?_ <;> simp -implicitDefEqProofs only [go_sem, ↓reduceIte, Nat.reduceAdd, Nat.reduceMul, Nat.reduceEqDiff, Nat.reduceLeDiff, reduceCtorEq, Int.reduceToNat, thaw, thaw1, Option.map_some, List.map_cons, List.map_nil, wR1, wF, wF2, encFd, encMs, liftE_cons, liftE_nil, List.forall_mem_cons, List.not_mem_nil, false_implies, implies_true, and_self, labsIn_lift, List.all_append, List.all_cons, List.all_nil, Nat.reduceLT, labsInL, AV.labsIn]
  all_goals first | rfl | decide | skip
 refine AW.ghost (s' := wk3) (Ghost.trans (Ghost.freeze (lb := 5) (ps := [wF, wF2].map encFd) rfl (unlift_liftE _)) ?_) ?_
 ·simp only [wk2, wk3]
  refine Ghost.sub ?_ ?_ <;> simp -implicitDefEqProofs only [go_sem, ↓reduceIte, Nat.reduceAdd, Nat.reduceMul, Nat.reduceEqDiff, Nat.reduceLeDiff, reduceCtorEq, Int.reduceToNat, thaw, thaw1, Option.map_some, List.map_cons, List.map_nil, wR1, wM2, wF, wF2, encFd, encMs, liftE_cons, liftE_nil, List.forall_mem_cons, List.not_mem_nil, false_implies, implies_true, and_self, labsIn_lift, List.all_append, List.all_cons, List.all_nil, Nat.reduceLT, labsInL, AV.labsIn]
  all_goals first | rfl | decide | skip
 refine AW.ghost (s' := wk4) (Ghost.trans (Ghost.freeze (lb := 4) (ps := [encMs ⟨[109], [wF, wF2], []⟩]) rfl (by rfl)) ?_) ?_
 ·simp only [wk3, wk4]
  refine Ghost.sub ?_ ?_ <;> simp -implicitDefEqProofs only [go_sem, ↓reduceIte, Nat.reduceAdd, Nat.reduceMul, Nat.reduceEqDiff, Nat.reduceLeDiff, reduceCtorEq, Int.reduceToNat, thaw, thaw1, Option.map_some, List.map_cons, List.map_nil, wR1, wR2, wF, wF2, encFd, encMs, liftE_cons, liftE_nil, List.forall_mem_cons, List.not_mem_nil, false_implies, implies_true, and_self, labsIn_lift, List.all_append, List.all_cons, List.all_nil, Nat.reduceLT, labsInL, AV.labsIn]
  all_goals first | rfl | decide | skip
 simp only [wk4, wR1, wR2]
 have C1 := check_Check wS1 wS1_lens
 have C2 := check_Check wS2 wS2_lens
 rw [wS1_ok] at C1
 rw [wS2_ok] at C2
 simp only [encSc, wS1, wS2, List.map_cons, List.map_nil] at C1 C2
 refine AW.rT (by rfl) fun K hK => ?_
 simp -implicitDefEqProofs only [go_sem, ↓reduceIte, Nat.reduceAdd, Nat.reduceMul, Nat.reduceEqDiff, Nat.reduceLeDiff, reduceCtorEq, Int.reduceToNat]
 refine ⟨.pure _, C1, ?_⟩
 try simp -implicitDefEqProofs only [go_sem, ↓reduceIte, Nat.reduceAdd, Nat.reduceMul, Nat.reduceEqDiff, Nat.reduceLeDiff, reduceCtorEq, Int.reduceToNat]
 refine ⟨.pure _, C2, ?_⟩
 try simp -implicitDefEqProofs only [go_sem, ↓reduceIte, Nat.reduceAdd, Nat.reduceMul, Nat.reduceEqDiff, Nat.reduceLeDiff, reduceCtorEq, Int.reduceToNat]
 refine hK _ ?_; clear hK K
 refine AW.ret ?_
 simp -implicitDefEqProofs only [go_sem, ↓reduceIte, Nat.reduceAdd, Nat.reduceMul, Nat.reduceEqDiff, Nat.reduceLeDiff, reduceCtorEq, Int.reduceToNat]
end Go.Aw
namespace Go.Aw
open Go.Proofs Go.RowKit
set_option linter.unusedSimpArgs false
set_option linter.unusedVariables false
end Go.Aw
namespace Go.Aw
open Go.Proofs Go.RowKit
set_option linter.unusedSimpArgs false
set_option linter.unusedVariables false
end Go.Aw
namespace Go.Aw
open Go.Proofs Go.RowKit
set_option linter.unusedSimpArgs false
set_option linter.unusedVariables false
def czS (m : List (Nat × AV)) : St := ⟨ofL ((0, .p (.int .i64 0)) :: (1, .p (.int .i64 0)) :: (2, .p (.int .i64 0)) :: (3, .p (.int .i64 0)) :: (4, .p (.int .i64 0)) :: (5, .p (.int .i64 0)) :: (13, .ptr 0 0 0) :: (14, .ptr 1 0 0) :: m), ofH [cbZ, (1, .row 4 [[.p (.str [97]), .ex [], .ex [], .ex []]])], 2⟩
set_option maxRecDepth 100000 in
set_option maxHeartbeats 8000000 in
theorem law07_make0 : PFn Tryd.prog 28 [.int .i64 0, .int .i64 0, .int .i64 0, .int .i64 0, .int .i64 0, .int .i64 0, .box [.cst (.func (.func 27) #[] #[])] 0] (.agg (encSc ⟨[97], [], [], []⟩)) := by
 refine PFn.of Tryd.func28 rfl (by decide) Tryd.ntmps28 Tryd.results28 (Nat.le_of_ble_eq_true rfl) ?_
 simp only [argsT]
 have c0 : ((0 : Int) < 0) = False := eq_false (by decide)
 have c1 : ((1 : Int) < 0) = False := eq_false (by decide)
 refine AW.rT (by rfl) fun K hK => ?_
 simp -implicitDefEqProofs only [go_sem, ↓reduceIte, Nat.reduceAdd, Nat.reduceMul, Nat.reduceEqDiff, Nat.reduceLeDiff, reduceCtorEq, Int.reduceToNat]
 refine hK _ ?_; clear hK K
 refine AW.rT (by rfl) fun K hK => ?_
 simp -implicitDefEqProofs only [go_sem, ↓reduceIte, Nat.reduceAdd, Nat.reduceMul, Nat.reduceEqDiff, Nat.reduceLeDiff, reduceCtorEq, Int.reduceToNat]
 refine hK _ ?_; clear hK K
 refine AW.ghost (s' := czS []) ?_ ?_
 ·simp only [czS, cbZ]
  refine Ghost.ent (fun l => if l = 1 then 2 else l) ?_ ?_ ?_ <;> simp -implicitDefEqProofs only [go_sem, ↓reduceIte, Nat.reduceAdd, Nat.reduceMul, Nat.reduceEqDiff, Nat.reduceLeDiff, reduceCtorEq, Int.reduceToNat,  List.forall_mem_cons, List.not_mem_nil, false_implies, implies_true, and_self, map_renL_lift, labsIn_lift, List.all_append, List.all_cons, List.all_nil, List.map_append, Nat.reduceLT, labsInL, AV.labsIn]
  done
 refine AW.cut (fun _ : Unit => czS []) (fun _ => True) ?_ fun _ _ => ?_
 ·simp only [czS, cbZ]
  refine AW.rT (by rfl) fun K hK => ?_
  simp -implicitDefEqProofs only [go_sem, ↓reduceIte, Nat.reduceAdd, Nat.reduceMul, Nat.reduceEqDiff, Nat.reduceLeDiff, reduceCtorEq, Int.reduceToNat]
  refine hK _ ?_; clear hK K
  refine AW.block ?_
  refine AW.loop (fun _ : Unit => czS [(15, .p (.int .i64 0))]) (fun _ => True) (fun _ => 0) () ?_ trivial fun _ _ => ?_
  ·simp only [czS, cbZ]
   refine Ghost.sub ?_ ?_ <;> simp -implicitDefEqProofs only [go_sem, ↓reduceIte, Nat.reduceAdd, Nat.reduceMul, Nat.reduceEqDiff, Nat.reduceLeDiff, reduceCtorEq, Int.reduceToNat,  List.forall_mem_cons, List.not_mem_nil, false_implies, implies_true, and_self, labsIn_lift, List.all_append, List.all_cons, List.all_nil, Nat.reduceLT, labsInL, AV.labsIn]
   done
  simp only [czS, cbZ]
  refine AW.seq ?_
  refine AW.rT (by rfl) fun K hK => ?_
  simp -implicitDefEqProofs only [go_sem, ↓reduceIte, Nat.reduceAdd, Nat.reduceMul, Nat.reduceEqDiff, Nat.reduceLeDiff, reduceCtorEq, Int.reduceToNat, c0]
  refine hK _ ?_; clear hK K
  refine AW.cond _ (by simp -implicitDefEqProofs only [go_sem, ↓reduceIte, Nat.reduceAdd, Nat.reduceMul, Nat.reduceEqDiff, Nat.reduceLeDiff, reduceCtorEq, Int.reduceToNat]; rfl) (fun hc => ?_) (fun hc => ?_)
  ·simp at hc
  refine AW.exit ?_
  simp only [andThen, inBlk, reduceCtorEq, ↓reduceIte, if_t, if_f]
  refine ⟨(), trivial, ?_⟩
  show Ghost _ _ (czS [])
  simp only [czS, cbZ]
  refine Ghost.sub ?_ ?_ <;> simp -implicitDefEqProofs only [go_sem, ↓reduceIte, Nat.reduceAdd, Nat.reduceMul, Nat.reduceEqDiff, Nat.reduceLeDiff, reduceCtorEq, Int.reduceToNat,  List.forall_mem_cons, List.not_mem_nil, false_implies, implies_true, and_self, labsIn_lift, List.all_append, List.all_cons, List.all_nil, Nat.reduceLT, labsInL, AV.labsIn]
  done
 refine AW.cut (fun _ : Unit => czS []) (fun _ => True) ?_ fun _ _ => ?_
 ·simp only [czS, cbZ]
  refine AW.rT (by rfl) fun K hK => ?_
  simp -implicitDefEqProofs only [go_sem, ↓reduceIte, Nat.reduceAdd, Nat.reduceMul, Nat.reduceEqDiff, Nat.reduceLeDiff, reduceCtorEq, Int.reduceToNat]
  refine hK _ ?_; clear hK K
  refine AW.block ?_
  refine AW.loop (fun _ : Unit => czS [(16, .p (.int .i64 0))]) (fun _ => True) (fun _ => 0) () ?_ trivial fun _ _ => ?_
  ·simp only [czS, cbZ]
   refine Ghost.sub ?_ ?_ <;> simp -implicitDefEqProofs only [go_sem, ↓reduceIte, Nat.reduceAdd, Nat.reduceMul, Nat.reduceEqDiff, Nat.reduceLeDiff, reduceCtorEq, Int.reduceToNat,  List.forall_mem_cons, List.not_mem_nil, false_implies, implies_true, and_self, labsIn_lift, List.all_append, List.all_cons, List.all_nil, Nat.reduceLT, labsInL, AV.labsIn]
   done
  simp only [czS, cbZ]
  refine AW.seq ?_
  refine AW.rT (by rfl) fun K hK => ?_
  simp -implicitDefEqProofs only [go_sem, ↓reduceIte, Nat.reduceAdd, Nat.reduceMul, Nat.reduceEqDiff, Nat.reduceLeDiff, reduceCtorEq, Int.reduceToNat, c0]
  refine hK _ ?_; clear hK K
  refine AW.cond _ (by simp -implicitDefEqProofs only [go_sem, ↓reduceIte, Nat.reduceAdd, Nat.reduceMul, Nat.reduceEqDiff, Nat.reduceLeDiff, reduceCtorEq, Int.reduceToNat]; rfl) (fun hc => ?_) (fun hc => ?_)
  ·simp at hc
  refine AW.exit ?_
  simp only [andThen, inBlk, reduceCtorEq, ↓reduceIte, if_t, if_f]
  refine ⟨(), trivial, ?_⟩
  show Ghost _ _ (czS [])
  simp only [czS, cbZ]
  refine Ghost.sub ?_ ?_ <;> simp -implicitDefEqProofs only [go_sem, ↓reduceIte, Nat.reduceAdd, Nat.reduceMul, Nat.reduceEqDiff, Nat.reduceLeDiff, reduceCtorEq, Int.reduceToNat,  List.forall_mem_cons, List.not_mem_nil, false_implies, implies_true, and_self, labsIn_lift, List.all_append, List.all_cons, List.all_nil, Nat.reduceLT, labsInL, AV.labsIn]
  done
 refine AW.cut (fun _ : Unit => czS []) (fun _ => True) ?_ fun _ _ => ?_
 ·simp only [czS, cbZ]
  refine AW.rT (by rfl) fun K hK => ?_
  simp -implicitDefEqProofs only [go_sem, ↓reduceIte, Nat.reduceAdd, Nat.reduceMul, Nat.reduceEqDiff, Nat.reduceLeDiff, reduceCtorEq, Int.reduceToNat]
  refine hK _ ?_; clear hK K
  refine AW.block ?_
  refine AW.loop (fun _ : Unit => czS [(17, .p (.int .i64 0))]) (fun _ => True) (fun _ => 0) () ?_ trivial fun _ _ => ?_
  ·simp only [czS, cbZ]
   refine Ghost.sub ?_ ?_ <;> simp -implicitDefEqProofs only [go_sem, ↓reduceIte, Nat.reduceAdd, Nat.reduceMul, Nat.reduceEqDiff, Nat.reduceLeDiff, reduceCtorEq, Int.reduceToNat,  List.forall_mem_cons, List.not_mem_nil, false_implies, implies_true, and_self, labsIn_lift, List.all_append, List.all_cons, List.all_nil, Nat.reduceLT, labsInL, AV.labsIn]
   done
  simp only [czS, cbZ]
  refine AW.seq ?_
  refine AW.rT (by rfl) fun K hK => ?_
  simp -implicitDefEqProofs only [go_sem, ↓reduceIte, Nat.reduceAdd, Nat.reduceMul, Nat.reduceEqDiff, Nat.reduceLeDiff, reduceCtorEq, Int.reduceToNat, c0]
  refine hK _ ?_; clear hK K
  refine AW.cond _ (by simp -implicitDefEqProofs only [go_sem, ↓reduceIte, Nat.reduceAdd, Nat.reduceMul, Nat.reduceEqDiff, Nat.reduceLeDiff, reduceCtorEq, Int.reduceToNat]; rfl) (fun hc => ?_) (fun hc => ?_)
  ·simp at hc
  refine AW.exit ?_
  simp only [andThen, inBlk, reduceCtorEq, ↓reduceIte, if_t, if_f]
  refine ⟨(), trivial, ?_⟩
  show Ghost _ _ (czS [])
  simp only [czS, cbZ]
  refine Ghost.sub ?_ ?_ <;> simp -implicitDefEqProofs only [go_sem, ↓reduceIte, Nat.reduceAdd, Nat.reduceMul, Nat.reduceEqDiff, Nat.reduceLeDiff, reduceCtorEq, Int.reduceToNat,  List.forall_mem_cons, List.not_mem_nil, false_implies, implies_true, and_self, labsIn_lift, List.all_append, List.all_cons, List.all_nil, Nat.reduceLT, labsInL, AV.labsIn]
  done
 refine AW.cut (fun _ : Unit => czS []) (fun _ => True) ?_ fun _ _ => ?_
 ·simp only [czS, cbZ]
  refine AW.rT (by rfl) fun K hK => ?_
  simp -implicitDefEqProofs only [go_sem, ↓reduceIte, Nat.reduceAdd, Nat.reduceMul, Nat.reduceEqDiff, Nat.reduceLeDiff, reduceCtorEq, Int.reduceToNat]
  refine hK _ ?_; clear hK K
  refine AW.block ?_
  refine AW.loop (fun _ : Unit => czS [(18, .p (.int .i64 0))]) (fun _ => True) (fun _ => 0) () ?_ trivial fun _ _ => ?_
  ·simp only [czS, cbZ]
   refine Ghost.sub ?_ ?_ <;> simp -implicitDefEqProofs only [go_sem, ↓reduceIte, Nat.reduceAdd, Nat.reduceMul, Nat.reduceEqDiff, Nat.reduceLeDiff, reduceCtorEq, Int.reduceToNat,  List.forall_mem_cons, List.not_mem_nil, false_implies, implies_true, and_self, labsIn_lift, List.all_append, List.all_cons, List.all_nil, Nat.reduceLT, labsInL, AV.labsIn]
   done
  simp only [czS, cbZ]
  refine AW.seq ?_
  refine AW.rT (by rfl) fun K hK => ?_
  simp -implicitDefEqProofs only [go_sem, ↓reduceIte, Nat.reduceAdd, Nat.reduceMul, Nat.reduceEqDiff, Nat.reduceLeDiff, reduceCtorEq, Int.reduceToNat, c0]
  refine hK _ ?_; clear hK K
  refine AW.cond _ (by simp -implicitDefEqProofs only [go_sem, ↓reduceIte, Nat.reduceAdd, Nat.reduceMul, Nat.reduceEqDiff, Nat.reduceLeDiff, reduceCtorEq, Int.reduceToNat]; rfl) (fun hc => ?_) (fun hc => ?_)
  ·simp at hc
  refine AW.exit ?_
  simp only [andThen, inBlk, reduceCtorEq, ↓reduceIte, if_t, if_f]
  refine ⟨(), trivial, ?_⟩
  show Ghost _ _ (czS [])
  simp only [czS, cbZ]
  refine Ghost.sub ?_ ?_ <;> simp -implicitDefEqProofs only [go_sem, ↓reduceIte, Nat.reduceAdd, Nat.reduceMul, Nat.reduceEqDiff, Nat.reduceLeDiff, reduceCtorEq, Int.reduceToNat,  List.forall_mem_cons, List.not_mem_nil, false_implies, implies_true, and_self, labsIn_lift, List.all_append, List.all_cons, List.all_nil, Nat.reduceLT, labsInL, AV.labsIn]
  done
 refine AW.cut (fun _ : Unit => czS []) (fun _ => True) ?_ fun _ _ => ?_
 ·simp only [czS, cbZ]
  refine AW.rT (by rfl) fun K hK => ?_
  simp -implicitDefEqProofs only [go_sem, ↓reduceIte, Nat.reduceAdd, Nat.reduceMul, Nat.reduceEqDiff, Nat.reduceLeDiff, reduceCtorEq, Int.reduceToNat]
  refine hK _ ?_; clear hK K
  refine AW.block ?_
  refine AW.loop (fun _ : Unit => czS [(19, .p (.int .i64 1))]) (fun _ => True) (fun _ => 0) () ?_ trivial fun _ _ => ?_
  ·simp only [czS, cbZ]
   refine Ghost.sub ?_ ?_ <;> simp -implicitDefEqProofs only [go_sem, ↓reduceIte, Nat.reduceAdd, Nat.reduceMul, Nat.reduceEqDiff, Nat.reduceLeDiff, reduceCtorEq, Int.reduceToNat,  List.forall_mem_cons, List.not_mem_nil, false_implies, implies_true, and_self, labsIn_lift, List.all_append, List.all_cons, List.all_nil, Nat.reduceLT, labsInL, AV.labsIn]
   done
  simp only [czS, cbZ]
  refine AW.seq ?_
  refine AW.rT (by rfl) fun K hK => ?_
  simp -implicitDefEqProofs only [go_sem, ↓reduceIte, Nat.reduceAdd, Nat.reduceMul, Nat.reduceEqDiff, Nat.reduceLeDiff, reduceCtorEq, Int.reduceToNat, c1]
  refine hK _ ?_; clear hK K
  refine AW.cond _ (by simp -implicitDefEqProofs only [go_sem, ↓reduceIte, Nat.reduceAdd, Nat.reduceMul, Nat.reduceEqDiff, Nat.reduceLeDiff, reduceCtorEq, Int.reduceToNat]; rfl) (fun hc => ?_) (fun hc => ?_)
  ·simp at hc
  refine AW.exit ?_
  simp only [andThen, inBlk, reduceCtorEq, ↓reduceIte, if_t, if_f]
  refine ⟨(), trivial, ?_⟩
  show Ghost _ _ (czS [])
  simp only [czS, cbZ]
  refine Ghost.sub ?_ ?_ <;> simp -implicitDefEqProofs only [go_sem, ↓reduceIte, Nat.reduceAdd, Nat.reduceMul, Nat.reduceEqDiff, Nat.reduceLeDiff, reduceCtorEq, Int.reduceToNat,  List.forall_mem_cons, List.not_mem_nil, false_implies, implies_true, and_self, labsIn_lift, List.all_append, List.all_cons, List.all_nil, Nat.reduceLT, labsInL, AV.labsIn]
  done
 refine AW.cut (fun _ : Unit => czS []) (fun _ => True) ?_ fun _ _ => ?_
 ·simp only [czS, cbZ]
  refine AW.rT (by rfl) fun K hK => ?_
  simp -implicitDefEqProofs only [go_sem, ↓reduceIte, Nat.reduceAdd, Nat.reduceMul, Nat.reduceEqDiff, Nat.reduceLeDiff, reduceCtorEq, Int.reduceToNat]
  refine hK _ ?_; clear hK K
  refine AW.block ?_
  refine AW.loop (fun _ : Unit => czS [(20, .p (.int .i64 0))]) (fun _ => True) (fun _ => 0) () ?_ trivial fun _ _ => ?_
  ·simp only [czS, cbZ]
   refine Ghost.sub ?_ ?_ <;> simp -implicitDefEqProofs only [go_sem, ↓reduceIte, Nat.reduceAdd, Nat.reduceMul, Nat.reduceEqDiff, Nat.reduceLeDiff, reduceCtorEq, Int.reduceToNat,  List.forall_mem_cons, List.not_mem_nil, false_implies, implies_true, and_self, labsIn_lift, List.all_append, List.all_cons, List.all_nil, Nat.reduceLT, labsInL, AV.labsIn]
   done
  simp only [czS, cbZ]
  refine AW.seq ?_
  refine AW.rT (by rfl) fun K hK => ?_
  simp -implicitDefEqProofs only [go_sem, ↓reduceIte, Nat.reduceAdd, Nat.reduceMul, Nat.reduceEqDiff, Nat.reduceLeDiff, reduceCtorEq, Int.reduceToNat, c0]
  refine hK _ ?_; clear hK K
  refine AW.cond _ (by simp -implicitDefEqProofs only [go_sem, ↓reduceIte, Nat.reduceAdd, Nat.reduceMul, Nat.reduceEqDiff, Nat.reduceLeDiff, reduceCtorEq, Int.reduceToNat]; rfl) (fun hc => ?_) (fun hc => ?_)
  ·simp at hc
  refine AW.exit ?_
  simp only [andThen, inBlk, reduceCtorEq, ↓reduceIte, if_t, if_f]
  refine ⟨(), trivial, ?_⟩
  show Ghost _ _ (czS [])
  simp only [czS, cbZ]
  refine Ghost.sub ?_ ?_ <;> simp -implicitDefEqProofs only [go_sem, ↓reduceIte, Nat.reduceAdd, Nat.reduceMul, Nat.reduceEqDiff, Nat.reduceLeDiff, reduceCtorEq, Int.reduceToNat,  List.forall_mem_cons, List.not_mem_nil, false_implies, implies_true, and_self, labsIn_lift, List.all_append, List.all_cons, List.all_nil, Nat.reduceLT, labsInL, AV.labsIn]
  done
 simp only [czS, cbZ]
 refine AW.rT (by rfl) fun K hK => ?_
 simp -implicitDefEqProofs only [go_sem, ↓reduceIte, Nat.reduceAdd, Nat.reduceMul, Nat.reduceEqDiff, Nat.reduceLeDiff, reduceCtorEq, Int.reduceToNat]
 refine hK _ ?_; clear hK K
 refine AW.ret ?_
 simp -implicitDefEqProofs only [go_sem, ↓reduceIte, Nat.reduceAdd, Nat.reduceMul, Nat.reduceEqDiff, Nat.reduceLeDiff, reduceCtorEq, Int.reduceToNat, encSc, List.map_nil]
def cgS (M O0 O1 O2 O3 O4 O5 O6 : Sc) (m : List (Nat × AV)) : St := ⟨ofL ((3, .ptr 0 0 0) :: (4, .ptr 1 0 0) :: m), ofH [(0, .row 4 [[.p (.str M.name), .p (.slice (M.msgs.map encMs)), .p (.slice (M.enums.map encEn)), .p (.slice (M.meths.map encMt))]]), (1, .row 28 [[.p (.str O0.name), .p (.slice (O0.msgs.map encMs)), .p (.slice (O0.enums.map encEn)), .p (.slice (O0.meths.map encMt)), .p (.str O1.name), .p (.slice (O1.msgs.map encMs)), .p (.slice (O1.enums.map encEn)), .p (.slice (O1.meths.map encMt)), .p (.str O2.name), .p (.slice (O2.msgs.map encMs)), .p (.slice (O2.enums.map encEn)), .p (.slice (O2.meths.map encMt)), .p (.str O3.name), .p (.slice (O3.msgs.map encMs)), .p (.slice (O3.enums.map encEn)), .p (.slice (O3.meths.map encMt)), .p (.str O4.name), .p (.slice (O4.msgs.map encMs)), .p (.slice (O4.enums.map encEn)), .p (.slice (O4.meths.map encMt)), .p (.str O5.name), .p (.slice (O5.msgs.map encMs)), .p (.slice (O5.enums.map encEn)), .p (.slice (O5.meths.map encMt)), .p (.str O6.name), .p (.slice (O6.msgs.map encMs)), .p (.slice (O6.enums.map encEn)), .p (.slice (O6.meths.map encMt))]])], 2⟩
theorem lm_most : checkC (lmS 10 16 32 6 16 6) = 0 := by decide +kernel
theorem lm_mostF : fewB (lmS 10 16 32 6 16 6) = true := by decide +kernel
theorem lm_o0 : checkC (lmS 11 0 0 0 0 0) = 4 ∧ fewB (lmS 11 0 0 0 0 0) = true := by decide +kernel
theorem lm_o1 : checkC (lmS 1 17 0 0 0 0) = 4 ∧ fewB (lmS 1 17 0 0 0 0) = true := by decide +kernel
theorem lm_o2 : checkC (lmS 1 0 33 0 0 0) = 4 ∧ fewB (lmS 1 0 33 0 0 0) = true := by decide +kernel
theorem lm_o3 : checkC (lmS 1 0 0 7 0 0) = 4 ∧ fewB (lmS 1 0 0 7 0 0) = true := by decide +kernel
theorem lm_o4 : checkC (lmS 1 0 0 1 17 0) = 4 ∧ fewB (lmS 1 0 0 1 17 0) = true := by decide +kernel
theorem lm_o5 : checkC (lmS 1 0 0 0 0 7) = 4 ∧ fewB (lmS 1 0 0 0 0 7) = true := by decide +kernel
theorem lm_o6 : checkC ⟨[97], [], [], []⟩ = 12 ∧ fewB ⟨[97], [], [], []⟩ = true := by decide +kernel
theorem lm_call {S : Sc} {c : Int} (h : checkC S = c ∧ fewB S = true) : PFn Tryd.prog 22 [.agg [.str S.name, .slice (S.msgs.map encMs), .slice (S.enums.map encEn), .slice (S.meths.map encMt)]] (.int .i64 c) := by
 have := check_Check S (lens_few h.2)
 rw [h.1] at this
 exact this
def boxF : PV := .box [.cst (.func (.func 27) #[] #[])] 0
def scP (S : Sc) : List AV := [.p (.str S.name), .p (.slice (S.msgs.map encMs)), .p (.slice (S.enums.map encEn)), .p (.slice (S.meths.map encMt))]
set_option maxRecDepth 100000 in
set_option maxHeartbeats 8000000 in
theorem law07_CheckLimits : PFn Tryd.prog 5 [] (.bool true) := by
 refine PFn.of Tryd.func5 rfl (by decide) Tryd.ntmps5 Tryd.results5 (Nat.le_of_ble_eq_true rfl) ?_
 simp only [argsT]
 have PM : PFn Tryd.prog 28 [.int .i64 10, .int .i64 16, .int .i64 32, .int .i64 6, .int .i64 16, .int .i64 6, .box [.cst (.func (.func 27) #[] #[])] 0] (.agg (encSc (lmS 10 16 32 6 16 6))) := law07_make 10 16 32 6 16 6 (by decide) (by decide) (by decide) (by decide) (by decide) (by decide) (by decide) (by decide)
 have KM := lm_call ⟨lm_most, lm_mostF⟩
 obtain ⟨SM, hSM⟩ : ∃ S : Sc, S = lmS 10 16 32 6 16 6 := ⟨_, rfl⟩
 rw [← hSM] at PM KM
 have PO0 : PFn Tryd.prog 28 [.int .i64 11, .int .i64 0, .int .i64 0, .int .i64 0, .int .i64 0, .int .i64 0, .box [.cst (.func (.func 27) #[] #[])] 0] (.agg (encSc (lmS 11 0 0 0 0 0))) := law07_make 11 0 0 0 0 0 (by decide) (by decide) (by decide) (by decide) (by decide) (by decide) (by decide) (by decide)
 have KO0 := lm_call lm_o0
 obtain ⟨SO0, hSO0⟩ : ∃ S : Sc, S = lmS 11 0 0 0 0 0 := ⟨_, rfl⟩
 rw [← hSO0] at PO0 KO0
 have PO1 : PFn Tryd.prog 28 [.int .i64 1, .int .i64 17, .int .i64 0, .int .i64 0, .int .i64 0, .int .i64 0, .box [.cst (.func (.func 27) #[] #[])] 0] (.agg (encSc (lmS 1 17 0 0 0 0))) := law07_make 1 17 0 0 0 0 (by decide) (by decide) (by decide) (by decide) (by decide) (by decide) (by decide) (by decide)
 have KO1 := lm_call lm_o1
 obtain ⟨SO1, hSO1⟩ : ∃ S : Sc, S = lmS 1 17 0 0 0 0 := ⟨_, rfl⟩
 rw [← hSO1] at PO1 KO1
 have PO2 : PFn Tryd.prog 28 [.int .i64 1, .int .i64 0, .int .i64 33, .int .i64 0, .int .i64 0, .int .i64 0, .box [.cst (.func (.func 27) #[] #[])] 0] (.agg (encSc (lmS 1 0 33 0 0 0))) := law07_make 1 0 33 0 0 0 (by decide) (by decide) (by decide) (by decide) (by decide) (by decide) (by decide) (by decide)
 have KO2 := lm_call lm_o2
 obtain ⟨SO2, hSO2⟩ : ∃ S : Sc, S = lmS 1 0 33 0 0 0 := ⟨_, rfl⟩
 rw [← hSO2] at PO2 KO2
 have PO3 : PFn Tryd.prog 28 [.int .i64 1, .int .i64 0, .int .i64 0, .int .i64 7, .int .i64 0, .int .i64 0, .box [.cst (.func (.func 27) #[] #[])] 0] (.agg (encSc (lmS 1 0 0 7 0 0))) := law07_make 1 0 0 7 0 0 (by decide) (by decide) (by decide) (by decide) (by decide) (by decide) (by decide) (by decide)
 have KO3 := lm_call lm_o3
 obtain ⟨SO3, hSO3⟩ : ∃ S : Sc, S = lmS 1 0 0 7 0 0 := ⟨_, rfl⟩
 rw [← hSO3] at PO3 KO3
 have PO4 : PFn Tryd.prog 28 [.int .i64 1, .int .i64 0, .int .i64 0, .int .i64 1, .int .i64 17, .int .i64 0, .box [.cst (.func (.func 27) #[] #[])] 0] (.agg (encSc (lmS 1 0 0 1 17 0))) := law07_make 1 0 0 1 17 0 (by decide) (by decide) (by decide) (by decide) (by decide) (by decide) (by decide) (by decide)
 have KO4 := lm_call lm_o4
 obtain ⟨SO4, hSO4⟩ : ∃ S : Sc, S = lmS 1 0 0 1 17 0 := ⟨_, rfl⟩
 rw [← hSO4] at PO4 KO4
 have PO5 : PFn Tryd.prog 28 [.int .i64 1, .int .i64 0, .int .i64 0, .int .i64 0, .int .i64 0, .int .i64 7, .box [.cst (.func (.func 27) #[] #[])] 0] (.agg (encSc (lmS 1 0 0 0 0 7))) := law07_make 1 0 0 0 0 7 (by decide) (by decide) (by decide) (by decide) (by decide) (by decide) (by decide) (by decide)
 have KO5 := lm_call lm_o5
 obtain ⟨SO5, hSO5⟩ : ∃ S : Sc, S = lmS 1 0 0 0 0 7 := ⟨_, rfl⟩
 rw [← hSO5] at PO5 KO5
 have PO6 : PFn Tryd.prog 28 [.int .i64 0, .int .i64 0, .int .i64 0, .int .i64 0, .int .i64 0, .int .i64 0, .box [.cst (.func (.func 27) #[] #[])] 0] (.agg (encSc (⟨[97], [], [], []⟩))) := law07_make0
 have KO6 := lm_call lm_o6
 obtain ⟨SO6, hSO6⟩ : ∃ S : Sc, S = ⟨[97], [], [], []⟩ := ⟨_, rfl⟩
 rw [← hSO6] at PO6 KO6
 clear hSM hSO0 hSO1 hSO2 hSO3 hSO4 hSO5 hSO6
 simp only [encSc] at PM PO0 PO1 PO2 PO3 PO4 PO5 PO6
 have t53 : tagg Tryd.prog 53 = some false := by kernel_rfl
 have s53 : tsize Tryd.prog 53 = some 1 := by kernel_rfl
 have z53 : tzero Tryd.prog 53 = some [.nilFunc] := by kernel_rfl
 refine AW.rT (by rfl) fun K hK => ?_
 simp -implicitDefEqProofs only [go_sem, ↓reduceIte, Nat.reduceAdd, Nat.reduceMul, Nat.reduceEqDiff, Nat.reduceLeDiff, reduceCtorEq, Int.reduceToNat]
 refine hK _ ?_; clear hK K
 refine AW.rT (by rfl) fun K hK => ?_
 simp -implicitDefEqProofs only [go_sem, ↓reduceIte, Nat.reduceAdd, Nat.reduceMul, Nat.reduceEqDiff, Nat.reduceLeDiff, reduceCtorEq, Int.reduceToNat, z53, s53, t53, List.map_cons, List.map_nil, List.length_cons, List.length_nil, List.drop_one, List.tail_cons, constAV]
 refine ⟨rfl, ?_⟩
 refine hK _ ?_; clear hK K
 refine AW.ghost (s' := ⟨ofL [(1, .p boxF)], ofH [], 1⟩) (Ghost.trans (Ghost.freezeP (lb := 1) (sz := 1) (ps := [[.cst (.func (.func 27) #[] #[])]]) rfl rfl) ?_) ?_
 ·simp only [boxF]
  refine Ghost.sub ?_ ?_ <;> simp -implicitDefEqProofs only [go_sem, ↓reduceIte, Nat.reduceAdd, Nat.reduceMul, Nat.reduceEqDiff, Nat.reduceLeDiff, reduceCtorEq, Int.reduceToNat, thawP, thawP1, Option.map_some, List.getElem?_cons_zero, List.map_cons, List.map_nil, List.forall_mem_cons, List.not_mem_nil, false_implies, implies_true, and_self, labsIn_lift, List.all_append, List.all_cons, List.all_nil, Nat.reduceLT, labsInL, AV.labsIn]
  done
 refine AW.rR (SeqR.mkFn [.p boxF] rfl rfl rfl ?_)
 refine SeqR.ev 1 (by rfl) (by decide) ?_
 simp -implicitDefEqProofs only [go_sem, ↓reduceIte, Nat.reduceAdd, Nat.reduceMul, Nat.reduceEqDiff, Nat.reduceLeDiff, reduceCtorEq, Int.reduceToNat]
 refine SeqR.last rfl ?_
 refine AW.ghost (s' := ⟨ofL [(2, .fn 28 [.p boxF])], ofH [], 1⟩) ?_ ?_
 ·refine Ghost.sub ?_ ?_ <;> simp -implicitDefEqProofs only [go_sem, ↓reduceIte, Nat.reduceAdd, Nat.reduceMul, Nat.reduceEqDiff, Nat.reduceLeDiff, reduceCtorEq, Int.reduceToNat,  List.forall_mem_cons, List.not_mem_nil, false_implies, implies_true, and_self, labsIn_lift, List.all_append, List.all_cons, List.all_nil, Nat.reduceLT, labsInL, AV.labsIn]
  done
 refine AW.rR (SeqR.ev 1 (by rfl) (by decide) ?_)
 simp -implicitDefEqProofs only [go_sem, ↓reduceIte, Nat.reduceAdd, Nat.reduceMul, Nat.reduceEqDiff, Nat.reduceLeDiff, reduceCtorEq, Int.reduceToNat]
 refine SeqR.callC (cs := [boxF]) rfl rfl ?_ (l := [.int .i64 10, .int .i64 16, .int .i64 32, .int .i64 6, .int .i64 16, .int .i64 6]) rfl PM ?_
 ·simp -implicitDefEqProofs only [go_sem, ↓reduceIte, Nat.reduceAdd, Nat.reduceMul, Nat.reduceEqDiff, Nat.reduceLeDiff, reduceCtorEq, Int.reduceToNat, List.map_cons, List.map_nil]
 refine SeqR.ev 2 (by rfl) (by decide) ?_
 simp -implicitDefEqProofs only [go_sem, ↓reduceIte, Nat.reduceAdd, Nat.reduceMul, Nat.reduceEqDiff, Nat.reduceLeDiff, reduceCtorEq, Int.reduceToNat]
 refine SeqR.last rfl ?_
 refine AW.ghost (s' := ⟨ofL [(2, .fn 28 [.p boxF]), (3, .ptr 0 0 0)], ofH [(0, .row 4 [scP SM])], 1⟩) ?_ ?_
 ·simp only [scP]
  refine Ghost.ent (fun l => 3) ?_ ?_ ?_ <;> simp -implicitDefEqProofs only [go_sem, ↓reduceIte, Nat.reduceAdd, Nat.reduceMul, Nat.reduceEqDiff, Nat.reduceLeDiff, reduceCtorEq, Int.reduceToNat,  List.forall_mem_cons, List.not_mem_nil, false_implies, implies_true, and_self, map_renL_lift, labsIn_lift, List.all_append, List.all_cons, List.all_nil, List.map_append, Nat.reduceLT, labsInL, AV.labsIn]
  all_goals first | rfl | decide | skip
 simp only [scP]
 refine AW.rR (SeqR.ev 1 (by rfl) (by decide) ?_)
 simp -implicitDefEqProofs only [go_sem, ↓reduceIte, Nat.reduceAdd, Nat.reduceMul, Nat.reduceEqDiff, Nat.reduceLeDiff, reduceCtorEq, Int.reduceToNat]
 refine SeqR.callC (cs := [boxF]) rfl rfl ?_ (l := [.int .i64 11, .int .i64 0, .int .i64 0, .int .i64 0, .int .i64 0, .int .i64 0]) rfl PO0 ?_
 ·simp -implicitDefEqProofs only [go_sem, ↓reduceIte, Nat.reduceAdd, Nat.reduceMul, Nat.reduceEqDiff, Nat.reduceLeDiff, reduceCtorEq, Int.reduceToNat, List.map_cons, List.map_nil]
 refine SeqR.ev 1 (by rfl) (by decide) ?_
 simp -implicitDefEqProofs only [go_sem, ↓reduceIte, Nat.reduceAdd, Nat.reduceMul, Nat.reduceEqDiff, Nat.reduceLeDiff, reduceCtorEq, Int.reduceToNat]
 refine SeqR.callC (cs := [boxF]) rfl rfl ?_ (l := [.int .i64 1, .int .i64 17, .int .i64 0, .int .i64 0, .int .i64 0, .int .i64 0]) rfl PO1 ?_
 ·simp -implicitDefEqProofs only [go_sem, ↓reduceIte, Nat.reduceAdd, Nat.reduceMul, Nat.reduceEqDiff, Nat.reduceLeDiff, reduceCtorEq, Int.reduceToNat, List.map_cons, List.map_nil]
 refine SeqR.ev 1 (by rfl) (by decide) ?_
 simp -implicitDefEqProofs only [go_sem, ↓reduceIte, Nat.reduceAdd, Nat.reduceMul, Nat.reduceEqDiff, Nat.reduceLeDiff, reduceCtorEq, Int.reduceToNat]
 refine SeqR.callC (cs := [boxF]) rfl rfl ?_ (l := [.int .i64 1, .int .i64 0, .int .i64 33, .int .i64 0, .int .i64 0, .int .i64 0]) rfl PO2 ?_
 ·simp -implicitDefEqProofs only [go_sem, ↓reduceIte, Nat.reduceAdd, Nat.reduceMul, Nat.reduceEqDiff, Nat.reduceLeDiff, reduceCtorEq, Int.reduceToNat, List.map_cons, List.map_nil]
 refine SeqR.ev 1 (by rfl) (by decide) ?_
 simp -implicitDefEqProofs only [go_sem, ↓reduceIte, Nat.reduceAdd, Nat.reduceMul, Nat.reduceEqDiff, Nat.reduceLeDiff, reduceCtorEq, Int.reduceToNat]
 refine SeqR.callC (cs := [boxF]) rfl rfl ?_ (l := [.int .i64 1, .int .i64 0, .int .i64 0, .int .i64 7, .int .i64 0, .int .i64 0]) rfl PO3 ?_
 ·simp -implicitDefEqProofs only [go_sem, ↓reduceIte, Nat.reduceAdd, Nat.reduceMul, Nat.reduceEqDiff, Nat.reduceLeDiff, reduceCtorEq, Int.reduceToNat, List.map_cons, List.map_nil]
 refine SeqR.ev 1 (by rfl) (by decide) ?_
 simp -implicitDefEqProofs only [go_sem, ↓reduceIte, Nat.reduceAdd, Nat.reduceMul, Nat.reduceEqDiff, Nat.reduceLeDiff, reduceCtorEq, Int.reduceToNat]
 refine SeqR.callC (cs := [boxF]) rfl rfl ?_ (l := [.int .i64 1, .int .i64 0, .int .i64 0, .int .i64 1, .int .i64 17, .int .i64 0]) rfl PO4 ?_
 ·simp -implicitDefEqProofs only [go_sem, ↓reduceIte, Nat.reduceAdd, Nat.reduceMul, Nat.reduceEqDiff, Nat.reduceLeDiff, reduceCtorEq, Int.reduceToNat, List.map_cons, List.map_nil]
 refine SeqR.ev 1 (by rfl) (by decide) ?_
 simp -implicitDefEqProofs only [go_sem, ↓reduceIte, Nat.reduceAdd, Nat.reduceMul, Nat.reduceEqDiff, Nat.reduceLeDiff, reduceCtorEq, Int.reduceToNat]
 refine SeqR.callC (cs := [boxF]) rfl rfl ?_ (l := [.int .i64 1, .int .i64 0, .int .i64 0, .int .i64 0, .int .i64 0, .int .i64 7]) rfl PO5 ?_
 ·simp -implicitDefEqProofs only [go_sem, ↓reduceIte, Nat.reduceAdd, Nat.reduceMul, Nat.reduceEqDiff, Nat.reduceLeDiff, reduceCtorEq, Int.reduceToNat, List.map_cons, List.map_nil]
 refine SeqR.ev 1 (by rfl) (by decide) ?_
 simp -implicitDefEqProofs only [go_sem, ↓reduceIte, Nat.reduceAdd, Nat.reduceMul, Nat.reduceEqDiff, Nat.reduceLeDiff, reduceCtorEq, Int.reduceToNat]
 refine SeqR.callC (cs := [boxF]) rfl rfl ?_ (l := [.int .i64 0, .int .i64 0, .int .i64 0, .int .i64 0, .int .i64 0, .int .i64 0]) rfl PO6 ?_
 ·simp -implicitDefEqProofs only [go_sem, ↓reduceIte, Nat.reduceAdd, Nat.reduceMul, Nat.reduceEqDiff, Nat.reduceLeDiff, reduceCtorEq, Int.reduceToNat, List.map_cons, List.map_nil]
 refine SeqR.ev 3 (by rfl) (by decide) ?_
 simp -implicitDefEqProofs only [go_sem, ↓reduceIte, Nat.reduceAdd, Nat.reduceMul, Nat.reduceEqDiff, Nat.reduceLeDiff, reduceCtorEq, Int.reduceToNat]
 refine SeqR.last rfl ?_
 refine AW.ghost (s' := cgS SM SO0 SO1 SO2 SO3 SO4 SO5 SO6 []) ?_ ?_
 ·simp only [cgS]
  refine Ghost.ent (fun l => if l = 1 then 16 else l) ?_ ?_ ?_ <;> simp -implicitDefEqProofs only [go_sem, ↓reduceIte, Nat.reduceAdd, Nat.reduceMul, Nat.reduceEqDiff, Nat.reduceLeDiff, reduceCtorEq, Int.reduceToNat,  List.forall_mem_cons, List.not_mem_nil, false_implies, implies_true, and_self, map_renL_lift, labsIn_lift, List.all_append, List.all_cons, List.all_nil, List.map_append, Nat.reduceLT, labsInL, AV.labsIn]
  all_goals first | rfl | decide | skip
 have n4 : ((4 : Int) != 4) = false := rfl
 have n12 : ((12 : Int) != 12) = false := rfl
 have u57 := Tryd.underlying57
 have z26 : tsize Tryd.prog 26 = some 4 := by kernel_rfl
 refine AW.seq ?_
 simp only [cgS]
 refine AW.rT (by rfl) fun K hK => ?_
 simp -implicitDefEqProofs only [go_sem, ↓reduceIte, Nat.reduceAdd, Nat.reduceMul, Nat.reduceEqDiff, Nat.reduceLeDiff, reduceCtorEq, Int.reduceToNat]
 refine hK _ ?_; clear hK K
 refine AW.block ?_
 refine AW.loop (fun i : Nat => cgS SM SO0 SO1 SO2 SO3 SO4 SO5 SO6 [(5, .p (.int .i64 (i : Int)))]) (fun i => i ≤ 7) (fun i => 7 - i) 0 ?_ (by omega) fun i i1 => ?_
 ·simp only [cgS]
  refine Ghost.sub ?_ ?_ <;> simp -implicitDefEqProofs only [go_sem, ↓reduceIte, Nat.reduceAdd, Nat.reduceMul, Nat.reduceEqDiff, Nat.reduceLeDiff, reduceCtorEq, Int.reduceToNat,  List.forall_mem_cons, List.not_mem_nil, false_implies, implies_true, and_self, labsIn_lift, List.all_append, List.all_cons, List.all_nil, Nat.reduceLT, labsInL, AV.labsIn]
  all_goals first | rfl | decide | skip
 simp only [cgS]
 refine AW.seq ?_
 by_cases hil : i < 7
 case neg =>
  have c1 : ((i : Int) < 7) = False := eq_false (by omega)
  refine AW.rT (by rfl) fun K hK => ?_
  simp -implicitDefEqProofs only [go_sem, ↓reduceIte, Nat.reduceAdd, Nat.reduceMul, Nat.reduceEqDiff, Nat.reduceLeDiff, reduceCtorEq, Int.reduceToNat, c1]
  refine hK _ ?_; clear hK K
  refine AW.cond _ (by simp -implicitDefEqProofs only [go_sem, ↓reduceIte, Nat.reduceAdd, Nat.reduceMul, Nat.reduceEqDiff, Nat.reduceLeDiff, reduceCtorEq, Int.reduceToNat]; rfl) (fun hc => ?_) (fun hc => ?_)
  ·simp at hc
  refine AW.exit ?_
  simp only [andThen, inBlk, reduceCtorEq, ↓reduceIte, if_t, if_f]
  have e0 : ((0 : Int) == 0) = true := rfl
  refine AW.rT (by rfl) fun K hK => ?_
  simp -implicitDefEqProofs only [go_sem, ↓reduceIte, Nat.reduceAdd, Nat.reduceMul, Nat.reduceEqDiff, Nat.reduceLeDiff, reduceCtorEq, Int.reduceToNat]
  refine ⟨.pure _, KM, ?_⟩
  try simp -implicitDefEqProofs only [go_sem, ↓reduceIte, Nat.reduceAdd, Nat.reduceMul, Nat.reduceEqDiff, Nat.reduceLeDiff, reduceCtorEq, Int.reduceToNat, e0]
  refine ⟨.pure _, law07_awake, ?_⟩
  try simp -implicitDefEqProofs only [go_sem, ↓reduceIte, Nat.reduceAdd, Nat.reduceMul, Nat.reduceEqDiff, Nat.reduceLeDiff, reduceCtorEq, Int.reduceToNat]
  refine hK _ ?_; clear hK K
  refine AW.ret ?_
  simp -implicitDefEqProofs only [go_sem, ↓reduceIte, Nat.reduceAdd, Nat.reduceMul, Nat.reduceEqDiff, Nat.reduceLeDiff, reduceCtorEq, Int.reduceToNat]
 have w1 : IntKind.wrap .i64 ((i : Int) + 1) = ((i + 1 : Nat) : Int) := by rw [w64] <;> omega
 have c1 : ((i : Int) < 7) = True := eq_true (by omega)
 refine AW.rT (by rfl) fun K hK => ?_
 simp -implicitDefEqProofs only [go_sem, ↓reduceIte, Nat.reduceAdd, Nat.reduceMul, Nat.reduceEqDiff, Nat.reduceLeDiff, reduceCtorEq, Int.reduceToNat, c1]
 refine hK _ ?_; clear hK K
 refine AW.cond _ (by simp -implicitDefEqProofs only [go_sem, ↓reduceIte, Nat.reduceAdd, Nat.reduceMul, Nat.reduceEqDiff, Nat.reduceLeDiff, reduceCtorEq, Int.reduceToNat]; rfl) (fun hc => ?_) (fun hc => ?_)
 rotate_left
 ·simp at hc
 refine AW.skip ?_
 simp only [andThen, inBlk, reduceCtorEq, ↓reduceIte, if_t, if_f]
 refine AW.cut (fun _ : Unit => cgS SM SO0 SO1 SO2 SO3 SO4 SO5 SO6 [(5, .p (.int .i64 (i : Int)))]) (fun _ => True) ?_ fun _ _ => ?_
 rotate_left
 ·simp only [cgS]
  refine AW.rE (by rfl) fun K hK => ?_
  simp -implicitDefEqProofs only [go_sem, ↓reduceIte, Nat.reduceAdd, Nat.reduceMul, Nat.reduceEqDiff, Nat.reduceLeDiff, reduceCtorEq, Int.reduceToNat, w1]
  refine hK _ ?_; clear hK K
  refine ⟨i + 1, by omega, by omega, ?_⟩
  show Ghost _ _ (cgS SM SO0 SO1 SO2 SO3 SO4 SO5 SO6 [(5, .p (.int .i64 ((i + 1 : Nat) : Int)))])
  simp only [cgS]
  refine Ghost.sub ?_ ?_ <;> simp -implicitDefEqProofs only [go_sem, ↓reduceIte, Nat.reduceAdd, Nat.reduceMul, Nat.reduceEqDiff, Nat.reduceLeDiff, reduceCtorEq, Int.reduceToNat,  List.forall_mem_cons, List.not_mem_nil, false_implies, implies_true, and_self, labsIn_lift, List.all_append, List.all_cons, List.all_nil, Nat.reduceLT, labsInL, AV.labsIn]
  done
 clear w1 c1 i1
 have hi7 : i = 0 ∨ i = 1 ∨ i = 2 ∨ i = 3 ∨ i = 4 ∨ i = 5 ∨ i = 6 := by omega
 rcases hi7 with rfl | rfl | rfl | rfl | rfl | rfl | rfl
 ·have q : (((0 : Nat) : Int) == 6) = false := rfl
  refine AW.block ?_
  refine AW.rT (by rfl) fun K hK => ?_
  simp -implicitDefEqProofs only [go_sem, ↓reduceIte, Nat.reduceAdd, Nat.reduceMul, Nat.reduceEqDiff, Nat.reduceLeDiff, reduceCtorEq, Int.reduceToNat]
  refine hK _ ?_; clear hK K
  refine AW.seq ?_
  refine AW.rT (by rfl) fun K hK => ?_
  simp -implicitDefEqProofs only [go_sem, ↓reduceIte, Nat.reduceAdd, Nat.reduceMul, Nat.reduceEqDiff, Nat.reduceLeDiff, reduceCtorEq, Int.reduceToNat, q]
  refine hK _ ?_; clear hK K
  refine AW.cond _ (by simp -implicitDefEqProofs only [go_sem, ↓reduceIte, Nat.reduceAdd, Nat.reduceMul, Nat.reduceEqDiff, Nat.reduceLeDiff, reduceCtorEq, Int.reduceToNat]; rfl) (fun hc => ?_) (fun hc => ?_)
  ·simp at hc
  refine AW.skip ?_
  simp only [andThen, inBlk, reduceCtorEq, ↓reduceIte, if_t, if_f]
  refine AW.rR (SeqR.ev 1 (by rfl) (by decide) ?_)
  simp -implicitDefEqProofs only [go_sem, ↓reduceIte, Nat.reduceAdd, Nat.reduceMul, Nat.reduceEqDiff, Nat.reduceLeDiff, reduceCtorEq, Int.reduceToNat]
  refine SeqR.elem (n := 0) rfl rfl u57 z26 rfl rfl (by decide) ?_
  refine SeqR.ev 4 (by rfl) (by decide) ?_
  simp -implicitDefEqProofs only [go_sem, ↓reduceIte, Nat.reduceAdd, Nat.reduceMul, Nat.reduceEqDiff, Nat.reduceLeDiff, reduceCtorEq, Int.reduceToNat, List.drop_succ_cons, List.drop_zero, List.take_succ_cons, List.take_zero]
  refine ⟨.pure _, KO0, ?_⟩
  try simp -implicitDefEqProofs only [go_sem, ↓reduceIte, Nat.reduceAdd, Nat.reduceMul, Nat.reduceEqDiff, Nat.reduceLeDiff, reduceCtorEq, Int.reduceToNat, n4, n12]
  refine SeqR.last rfl ?_
  refine AW.cond _ (by simp -implicitDefEqProofs only [go_sem, ↓reduceIte, Nat.reduceAdd, Nat.reduceMul, Nat.reduceEqDiff, Nat.reduceLeDiff, reduceCtorEq, Int.reduceToNat]; rfl) (fun hc => ?_) (fun hc => ?_)
  ·simp at hc
  refine AW.skip ?_
  simp only [andThen, inBlk, reduceCtorEq, ↓reduceIte, if_t, if_f]
  refine ⟨(), ?_⟩
  show Ghost _ _ (cgS SM SO0 SO1 SO2 SO3 SO4 SO5 SO6 [(5, .p (.int .i64 ((0 : Nat) : Int)))])
  simp only [cgS]
  refine Ghost.sub ?_ ?_ <;> simp -implicitDefEqProofs only [go_sem, ↓reduceIte, Nat.reduceAdd, Nat.reduceMul, Nat.reduceEqDiff, Nat.reduceLeDiff, reduceCtorEq, Int.reduceToNat,  List.forall_mem_cons, List.not_mem_nil, false_implies, implies_true, and_self, labsIn_lift, List.all_append, List.all_cons, List.all_nil, Nat.reduceLT, labsInL, AV.labsIn]
  done
 ·have q : (((1 : Nat) : Int) == 6) = false := rfl
  refine AW.block ?_
  refine AW.rT (by rfl) fun K hK => ?_
  simp -implicitDefEqProofs only [go_sem, ↓reduceIte, Nat.reduceAdd, Nat.reduceMul, Nat.reduceEqDiff, Nat.reduceLeDiff, reduceCtorEq, Int.reduceToNat]
  refine hK _ ?_; clear hK K
  refine AW.seq ?_
  refine AW.rT (by rfl) fun K hK => ?_
  simp -implicitDefEqProofs only [go_sem, ↓reduceIte, Nat.reduceAdd, Nat.reduceMul, Nat.reduceEqDiff, Nat.reduceLeDiff, reduceCtorEq, Int.reduceToNat, q]
  refine hK _ ?_; clear hK K
  refine AW.cond _ (by simp -implicitDefEqProofs only [go_sem, ↓reduceIte, Nat.reduceAdd, Nat.reduceMul, Nat.reduceEqDiff, Nat.reduceLeDiff, reduceCtorEq, Int.reduceToNat]; rfl) (fun hc => ?_) (fun hc => ?_)
  ·simp at hc
  refine AW.skip ?_
  simp only [andThen, inBlk, reduceCtorEq, ↓reduceIte, if_t, if_f]
  refine AW.rR (SeqR.ev 1 (by rfl) (by decide) ?_)
  simp -implicitDefEqProofs only [go_sem, ↓reduceIte, Nat.reduceAdd, Nat.reduceMul, Nat.reduceEqDiff, Nat.reduceLeDiff, reduceCtorEq, Int.reduceToNat]
  refine SeqR.elem (n := 1) rfl rfl u57 z26 rfl rfl (by decide) ?_
  refine SeqR.ev 4 (by rfl) (by decide) ?_
  simp -implicitDefEqProofs only [go_sem, ↓reduceIte, Nat.reduceAdd, Nat.reduceMul, Nat.reduceEqDiff, Nat.reduceLeDiff, reduceCtorEq, Int.reduceToNat, List.drop_succ_cons, List.drop_zero, List.take_succ_cons, List.take_zero]
  refine ⟨.pure _, KO1, ?_⟩
  try simp -implicitDefEqProofs only [go_sem, ↓reduceIte, Nat.reduceAdd, Nat.reduceMul, Nat.reduceEqDiff, Nat.reduceLeDiff, reduceCtorEq, Int.reduceToNat, n4, n12]
  refine SeqR.last rfl ?_
  refine AW.cond _ (by simp -implicitDefEqProofs only [go_sem, ↓reduceIte, Nat.reduceAdd, Nat.reduceMul, Nat.reduceEqDiff, Nat.reduceLeDiff, reduceCtorEq, Int.reduceToNat]; rfl) (fun hc => ?_) (fun hc => ?_)
  ·simp at hc
  refine AW.skip ?_
  simp only [andThen, inBlk, reduceCtorEq, ↓reduceIte, if_t, if_f]
  refine ⟨(), ?_⟩
  show Ghost _ _ (cgS SM SO0 SO1 SO2 SO3 SO4 SO5 SO6 [(5, .p (.int .i64 ((1 : Nat) : Int)))])
  simp only [cgS]
  refine Ghost.sub ?_ ?_ <;> simp -implicitDefEqProofs only [go_sem, ↓reduceIte, Nat.reduceAdd, Nat.reduceMul, Nat.reduceEqDiff, Nat.reduceLeDiff, reduceCtorEq, Int.reduceToNat,  List.forall_mem_cons, List.not_mem_nil, false_implies, implies_true, and_self, labsIn_lift, List.all_append, List.all_cons, List.all_nil, Nat.reduceLT, labsInL, AV.labsIn]
  done
 ·have q : (((2 : Nat) : Int) == 6) = false := rfl
  refine AW.block ?_
  refine AW.rT (by rfl) fun K hK => ?_
  simp -implicitDefEqProofs only [go_sem, ↓reduceIte, Nat.reduceAdd, Nat.reduceMul, Nat.reduceEqDiff, Nat.reduceLeDiff, reduceCtorEq, Int.reduceToNat]
  refine hK _ ?_; clear hK K
  refine AW.seq ?_
  refine AW.rT (by rfl) fun K hK => ?_
  simp -implicitDefEqProofs only [go_sem, ↓reduceIte, Nat.reduceAdd, Nat.reduceMul, Nat.reduceEqDiff, Nat.reduceLeDiff, reduceCtorEq, Int.reduceToNat, q]
  refine hK _ ?_; clear hK K
  refine AW.cond _ (by simp -implicitDefEqProofs only [go_sem, ↓reduceIte, Nat.reduceAdd, Nat.reduceMul, Nat.reduceEqDiff, Nat.reduceLeDiff, reduceCtorEq, Int.reduceToNat]; rfl) (fun hc => ?_) (fun hc => ?_)
  ·simp at hc
  refine AW.skip ?_
  simp only [andThen, inBlk, reduceCtorEq, ↓reduceIte, if_t, if_f]
  refine AW.rR (SeqR.ev 1 (by rfl) (by decide) ?_)
  simp -implicitDefEqProofs only [go_sem, ↓reduceIte, Nat.reduceAdd, Nat.reduceMul, Nat.reduceEqDiff, Nat.reduceLeDiff, reduceCtorEq, Int.reduceToNat]
  refine SeqR.elem (n := 2) rfl rfl u57 z26 rfl rfl (by decide) ?_
  refine SeqR.ev 4 (by rfl) (by decide) ?_
  simp -implicitDefEqProofs only [go_sem, ↓reduceIte, Nat.reduceAdd, Nat.reduceMul, Nat.reduceEqDiff, Nat.reduceLeDiff, reduceCtorEq, Int.reduceToNat, List.drop_succ_cons, List.drop_zero, List.take_succ_cons, List.take_zero]
  refine ⟨.pure _, KO2, ?_⟩
  try simp -implicitDefEqProofs only [go_sem, ↓reduceIte, Nat.reduceAdd, Nat.reduceMul, Nat.reduceEqDiff, Nat.reduceLeDiff, reduceCtorEq, Int.reduceToNat, n4, n12]
  refine SeqR.last rfl ?_
  refine AW.cond _ (by simp -implicitDefEqProofs only [go_sem, ↓reduceIte, Nat.reduceAdd, Nat.reduceMul, Nat.reduceEqDiff, Nat.reduceLeDiff, reduceCtorEq, Int.reduceToNat]; rfl) (fun hc => ?_) (fun hc => ?_)
  ·simp at hc
  refine AW.skip ?_
  simp only [andThen, inBlk, reduceCtorEq, ↓reduceIte, if_t, if_f]
  refine ⟨(), ?_⟩
  show Ghost _ _ (cgS SM SO0 SO1 SO2 SO3 SO4 SO5 SO6 [(5, .p (.int .i64 ((2 : Nat) : Int)))])
  simp only [cgS]
  refine Ghost.sub ?_ ?_ <;> simp -implicitDefEqProofs only [go_sem, ↓reduceIte, Nat.reduceAdd, Nat.reduceMul, Nat.reduceEqDiff, Nat.reduceLeDiff, reduceCtorEq, Int.reduceToNat,  List.forall_mem_cons, List.not_mem_nil, false_implies, implies_true, and_self, labsIn_lift, List.all_append, List.all_cons, List.all_nil, Nat.reduceLT, labsInL, AV.labsIn]
  done
 ·have q : (((3 : Nat) : Int) == 6) = false := rfl
  refine AW.block ?_
  refine AW.rT (by rfl) fun K hK => ?_
  simp -implicitDefEqProofs only [go_sem, ↓reduceIte, Nat.reduceAdd, Nat.reduceMul, Nat.reduceEqDiff, Nat.reduceLeDiff, reduceCtorEq, Int.reduceToNat]
  refine hK _ ?_; clear hK K
  refine AW.seq ?_
  refine AW.rT (by rfl) fun K hK => ?_
  simp -implicitDefEqProofs only [go_sem, ↓reduceIte, Nat.reduceAdd, Nat.reduceMul, Nat.reduceEqDiff, Nat.reduceLeDiff, reduceCtorEq, Int.reduceToNat, q]
  refine hK _ ?_; clear hK K
  refine AW.cond _ (by simp -implicitDefEqProofs only [go_sem, ↓reduceIte, Nat.reduceAdd, Nat.reduceMul, Nat.reduceEqDiff, Nat.reduceLeDiff, reduceCtorEq, Int.reduceToNat]; rfl) (fun hc => ?_) (fun hc => ?_)
  ·simp at hc
  refine AW.skip ?_
  simp only [andThen, inBlk, reduceCtorEq, ↓reduceIte, if_t, if_f]
  refine AW.rR (SeqR.ev 1 (by rfl) (by decide) ?_)
  simp -implicitDefEqProofs only [go_sem, ↓reduceIte, Nat.reduceAdd, Nat.reduceMul, Nat.reduceEqDiff, Nat.reduceLeDiff, reduceCtorEq, Int.reduceToNat]
  refine SeqR.elem (n := 3) rfl rfl u57 z26 rfl rfl (by decide) ?_
  refine SeqR.ev 4 (by rfl) (by decide) ?_
  simp -implicitDefEqProofs only [go_sem, ↓reduceIte, Nat.reduceAdd, Nat.reduceMul, Nat.reduceEqDiff, Nat.reduceLeDiff, reduceCtorEq, Int.reduceToNat, List.drop_succ_cons, List.drop_zero, List.take_succ_cons, List.take_zero]
  refine ⟨.pure _, KO3, ?_⟩
  try simp -implicitDefEqProofs only [go_sem, ↓reduceIte, Nat.reduceAdd, Nat.reduceMul, Nat.reduceEqDiff, Nat.reduceLeDiff, reduceCtorEq, Int.reduceToNat, n4, n12]
  refine SeqR.last rfl ?_
  refine AW.cond _ (by simp -implicitDefEqProofs only [go_sem, ↓reduceIte, Nat.reduceAdd, Nat.reduceMul, Nat.reduceEqDiff, Nat.reduceLeDiff, reduceCtorEq, Int.reduceToNat]; rfl) (fun hc => ?_) (fun hc => ?_)
  ·simp at hc
  refine AW.skip ?_
  simp only [andThen, inBlk, reduceCtorEq, ↓reduceIte, if_t, if_f]
  refine ⟨(), ?_⟩
  show Ghost _ _ (cgS SM SO0 SO1 SO2 SO3 SO4 SO5 SO6 [(5, .p (.int .i64 ((3 : Nat) : Int)))])
  simp only [cgS]
  refine Ghost.sub ?_ ?_ <;> simp -implicitDefEqProofs only [go_sem, ↓reduceIte, Nat.reduceAdd, Nat.reduceMul, Nat.reduceEqDiff, Nat.reduceLeDiff, reduceCtorEq, Int.reduceToNat,  List.forall_mem_cons, List.not_mem_nil, false_implies, implies_true, and_self, labsIn_lift, List.all_append, List.all_cons, List.all_nil, Nat.reduceLT, labsInL, AV.labsIn]
  done
 ·have q : (((4 : Nat) : Int) == 6) = false := rfl
  refine AW.block ?_
  refine AW.rT (by rfl) fun K hK => ?_
  simp -implicitDefEqProofs only [go_sem, ↓reduceIte, Nat.reduceAdd, Nat.reduceMul, Nat.reduceEqDiff, Nat.reduceLeDiff, reduceCtorEq, Int.reduceToNat]
  refine hK _ ?_; clear hK K
  refine AW.seq ?_
  refine AW.rT (by rfl) fun K hK => ?_
  simp -implicitDefEqProofs only [go_sem, ↓reduceIte, Nat.reduceAdd, Nat.reduceMul, Nat.reduceEqDiff, Nat.reduceLeDiff, reduceCtorEq, Int.reduceToNat, q]
  refine hK _ ?_; clear hK K
  refine AW.cond _ (by simp -implicitDefEqProofs only [go_sem, ↓reduceIte, Nat.reduceAdd, Nat.reduceMul, Nat.reduceEqDiff, Nat.reduceLeDiff, reduceCtorEq, Int.reduceToNat]; rfl) (fun hc => ?_) (fun hc => ?_)
  ·simp at hc
  refine AW.skip ?_
  simp only [andThen, inBlk, reduceCtorEq, ↓reduceIte, if_t, if_f]
  refine AW.rR (SeqR.ev 1 (by rfl) (by decide) ?_)
  simp -implicitDefEqProofs only [go_sem, ↓reduceIte, Nat.reduceAdd, Nat.reduceMul, Nat.reduceEqDiff, Nat.reduceLeDiff, reduceCtorEq, Int.reduceToNat]
  refine SeqR.elem (n := 4) rfl rfl u57 z26 rfl rfl (by decide) ?_
  refine SeqR.ev 4 (by rfl) (by decide) ?_
  simp -implicitDefEqProofs only [go_sem, ↓reduceIte, Nat.reduceAdd, Nat.reduceMul, Nat.reduceEqDiff, Nat.reduceLeDiff, reduceCtorEq, Int.reduceToNat, List.drop_succ_cons, List.drop_zero, List.take_succ_cons, List.take_zero]
  refine ⟨.pure _, KO4, ?_⟩
  try simp -implicitDefEqProofs only [go_sem, ↓reduceIte, Nat.reduceAdd, Nat.reduceMul, Nat.reduceEqDiff, Nat.reduceLeDiff, reduceCtorEq, Int.reduceToNat, n4, n12]
  refine SeqR.last rfl ?_
  refine AW.cond _ (by simp -implicitDefEqProofs only [go_sem, ↓reduceIte, Nat.reduceAdd, Nat.reduceMul, Nat.reduceEqDiff, Nat.reduceLeDiff, reduceCtorEq, Int.reduceToNat]; rfl) (fun hc => ?_) (fun hc => ?_)
  ·simp at hc
  refine AW.skip ?_
  simp only [andThen, inBlk, reduceCtorEq, ↓reduceIte, if_t, if_f]
  refine ⟨(), ?_⟩
  show Ghost _ _ (cgS SM SO0 SO1 SO2 SO3 SO4 SO5 SO6 [(5, .p (.int .i64 ((4 : Nat) : Int)))])
  simp only [cgS]
  refine Ghost.sub ?_ ?_ <;> simp -implicitDefEqProofs only [go_sem, ↓reduceIte, Nat.reduceAdd, Nat.reduceMul, Nat.reduceEqDiff, Nat.reduceLeDiff, reduceCtorEq, Int.reduceToNat,  List.forall_mem_cons, List.not_mem_nil, false_implies, implies_true, and_self, labsIn_lift, List.all_append, List.all_cons, List.all_nil, Nat.reduceLT, labsInL, AV.labsIn]
  done
 ·have q : (((5 : Nat) : Int) == 6) = false := rfl
  refine AW.block ?_
  refine AW.rT (by rfl) fun K hK => ?_
  simp -implicitDefEqProofs only [go_sem, ↓reduceIte, Nat.reduceAdd, Nat.reduceMul, Nat.reduceEqDiff, Nat.reduceLeDiff, reduceCtorEq, Int.reduceToNat]
  refine hK _ ?_; clear hK K
  refine AW.seq ?_
  refine AW.rT (by rfl) fun K hK => ?_
  simp -implicitDefEqProofs only [go_sem, ↓reduceIte, Nat.reduceAdd, Nat.reduceMul, Nat.reduceEqDiff, Nat.reduceLeDiff, reduceCtorEq, Int.reduceToNat, q]
  refine hK _ ?_; clear hK K
  refine AW.cond _ (by simp -implicitDefEqProofs only [go_sem, ↓reduceIte, Nat.reduceAdd, Nat.reduceMul, Nat.reduceEqDiff, Nat.reduceLeDiff, reduceCtorEq, Int.reduceToNat]; rfl) (fun hc => ?_) (fun hc => ?_)
  ·simp at hc
  refine AW.skip ?_
  simp only [andThen, inBlk, reduceCtorEq, ↓reduceIte, if_t, if_f]
  refine AW.rR (SeqR.ev 1 (by rfl) (by decide) ?_)
  simp -implicitDefEqProofs only [go_sem, ↓reduceIte, Nat.reduceAdd, Nat.reduceMul, Nat.reduceEqDiff, Nat.reduceLeDiff, reduceCtorEq, Int.reduceToNat]
  refine SeqR.elem (n := 5) rfl rfl u57 z26 rfl rfl (by decide) ?_
  refine SeqR.ev 4 (by rfl) (by decide) ?_
  simp -implicitDefEqProofs only [go_sem, ↓reduceIte, Nat.reduceAdd, Nat.reduceMul, Nat.reduceEqDiff, Nat.reduceLeDiff, reduceCtorEq, Int.reduceToNat, List.drop_succ_cons, List.drop_zero, List.take_succ_cons, List.take_zero]
  refine ⟨.pure _, KO5, ?_⟩
  try simp -implicitDefEqProofs only [go_sem, ↓reduceIte, Nat.reduceAdd, Nat.reduceMul, Nat.reduceEqDiff, Nat.reduceLeDiff, reduceCtorEq, Int.reduceToNat, n4, n12]
  refine SeqR.last rfl ?_
  refine AW.cond _ (by simp -implicitDefEqProofs only [go_sem, ↓reduceIte, Nat.reduceAdd, Nat.reduceMul, Nat.reduceEqDiff, Nat.reduceLeDiff, reduceCtorEq, Int.reduceToNat]; rfl) (fun hc => ?_) (fun hc => ?_)
  ·simp at hc
  refine AW.skip ?_
  simp only [andThen, inBlk, reduceCtorEq, ↓reduceIte, if_t, if_f]
  refine ⟨(), ?_⟩
  show Ghost _ _ (cgS SM SO0 SO1 SO2 SO3 SO4 SO5 SO6 [(5, .p (.int .i64 ((5 : Nat) : Int)))])
  simp only [cgS]
  refine Ghost.sub ?_ ?_ <;> simp -implicitDefEqProofs only [go_sem, ↓reduceIte, Nat.reduceAdd, Nat.reduceMul, Nat.reduceEqDiff, Nat.reduceLeDiff, reduceCtorEq, Int.reduceToNat,  List.forall_mem_cons, List.not_mem_nil, false_implies, implies_true, and_self, labsIn_lift, List.all_append, List.all_cons, List.all_nil, Nat.reduceLT, labsInL, AV.labsIn]
  done
 ·have q : (((6 : Nat) : Int) == 6) = true := rfl
  refine AW.block ?_
  refine AW.rT (by rfl) fun K hK => ?_
  simp -implicitDefEqProofs only [go_sem, ↓reduceIte, Nat.reduceAdd, Nat.reduceMul, Nat.reduceEqDiff, Nat.reduceLeDiff, reduceCtorEq, Int.reduceToNat]
  refine hK _ ?_; clear hK K
  refine AW.seq ?_
  refine AW.rT (by rfl) fun K hK => ?_
  simp -implicitDefEqProofs only [go_sem, ↓reduceIte, Nat.reduceAdd, Nat.reduceMul, Nat.reduceEqDiff, Nat.reduceLeDiff, reduceCtorEq, Int.reduceToNat, q]
  refine hK _ ?_; clear hK K
  refine AW.cond _ (by simp -implicitDefEqProofs only [go_sem, ↓reduceIte, Nat.reduceAdd, Nat.reduceMul, Nat.reduceEqDiff, Nat.reduceLeDiff, reduceCtorEq, Int.reduceToNat]; rfl) (fun hc => ?_) (fun hc => ?_)
  rotate_left
  ·simp at hc
  refine AW.rE (by rfl) fun K hK => ?_
  simp -implicitDefEqProofs only [go_sem, ↓reduceIte, Nat.reduceAdd, Nat.reduceMul, Nat.reduceEqDiff, Nat.reduceLeDiff, reduceCtorEq, Int.reduceToNat]
  refine hK _ ?_; clear hK K
  simp only [andThen, inBlk, reduceCtorEq, ↓reduceIte, if_t, if_f]
  refine AW.rR (SeqR.ev 1 (by rfl) (by decide) ?_)
  simp -implicitDefEqProofs only [go_sem, ↓reduceIte, Nat.reduceAdd, Nat.reduceMul, Nat.reduceEqDiff, Nat.reduceLeDiff, reduceCtorEq, Int.reduceToNat]
  refine SeqR.elem (n := 6) rfl rfl u57 z26 rfl rfl (by decide) ?_
  refine SeqR.ev 4 (by rfl) (by decide) ?_
  simp -implicitDefEqProofs only [go_sem, ↓reduceIte, Nat.reduceAdd, Nat.reduceMul, Nat.reduceEqDiff, Nat.reduceLeDiff, reduceCtorEq, Int.reduceToNat, List.drop_succ_cons, List.drop_zero, List.take_succ_cons, List.take_zero]
  refine ⟨.pure _, KO6, ?_⟩
  try simp -implicitDefEqProofs only [go_sem, ↓reduceIte, Nat.reduceAdd, Nat.reduceMul, Nat.reduceEqDiff, Nat.reduceLeDiff, reduceCtorEq, Int.reduceToNat, n4, n12]
  refine SeqR.last rfl ?_
  refine AW.cond _ (by simp -implicitDefEqProofs only [go_sem, ↓reduceIte, Nat.reduceAdd, Nat.reduceMul, Nat.reduceEqDiff, Nat.reduceLeDiff, reduceCtorEq, Int.reduceToNat]; rfl) (fun hc => ?_) (fun hc => ?_)
  ·simp at hc
  refine AW.skip ?_
  simp only [andThen, inBlk, reduceCtorEq, ↓reduceIte, if_t, if_f]
  refine ⟨(), ?_⟩
  show Ghost _ _ (cgS SM SO0 SO1 SO2 SO3 SO4 SO5 SO6 [(5, .p (.int .i64 ((6 : Nat) : Int)))])
  simp only [cgS]
  refine Ghost.sub ?_ ?_ <;> simp -implicitDefEqProofs only [go_sem, ↓reduceIte, Nat.reduceAdd, Nat.reduceMul, Nat.reduceEqDiff, Nat.reduceLeDiff, reduceCtorEq, Int.reduceToNat,  List.forall_mem_cons, List.not_mem_nil, false_implies, implies_true, and_self, labsIn_lift, List.all_append, List.all_cons, List.all_nil, Nat.reduceLT, labsInL, AV.labsIn]
  done
end Go.Aw
