/- What the law LawAdaptRight leans on, joined (part 6). -/
import Derived.Test.YtmeplhcfjihafaaDoorZadaptRight5
set_option linter.unusedSimpArgs false
set_option linter.unusedVariables false
namespace Go.Aw
open Go.Proofs Go.RowKit
set_option linter.unusedSimpArgs false
set_option linter.unusedVariables false
theorem steps_len {mo mn : Ms} : ∀ (k : Nat) (t : Int) (l : List Pr), (stepsP mo mn k t l).1.length ≤ k
 | 0, t, l => Nat.le_refl _
 | k + 1, t, l => by
  have h := steps_len (mo := mo) (mn := mn) k (t + 1) (stepLs mo mn t l)
  rw [stepsP]
  simp only [List.length_append]
  have : (stepO mo mn t l).toList.length ≤ 1 := by cases stepO mo mn t l <;> simp
  omega
def arS (S U : Sc) (m n : Ms) (st : List Stp) (r : List (List Stp)) (i : Nat) (x : List (Nat × AV)) : St := ⟨ofL ((4, .ptr 0 0 0) :: (5, .ptr 1 0 0) :: (9, .ptr 2 0 0) :: (10, .ptr 3 0 0) :: (11, .ptr 4 0 0) :: (13, .p (.int .i64 (i : Int))) :: x), ofH [(0, .row 4 [cellsSc S]), (1, .row 4 [cellsSc U]), (2, .row 3 [cellsMs m]), (3, .row 3 [cellsMs n]), (4, .row 1 [[.p (.slice ([.slice (st.map encSt)] :: r.map encPt))]])], 5⟩
set_option maxRecDepth 100000 in
set_option maxHeartbeats 8000000 in
theorem law15_AdaptRight (S U : Sc) (p q : Int) (G : GSc S) (G' : GSc U) (hp : okI p) (hq : okI q) : PFn Tryd.prog 16 [.agg (encSc S), .agg (encSc U), .int .i64 p, .int .i64 q] (.bool true) := by
 refine PFn.of Tryd.func16 rfl (by decide) Tryd.ntmps16 Tryd.results16 (Nat.le_of_ble_eq_true rfl) ?_
 simp only [argsT, encSc]
 have FW := law00_Few S G.big
 have FV := law00_Few U G'.big
 simp only [encSc] at FW FV
 refine AW.rT (by rfl) fun K hK => ?_
 simp -implicitDefEqProofs only [go_sem, ↓reduceIte, Nat.reduceAdd, Nat.reduceMul, Nat.reduceEqDiff, Nat.reduceLeDiff, reduceCtorEq, Int.reduceToNat]
 refine hK _ ?_; clear hK K
 refine AW.seq ?_
 cases hf : fewB S with
 | false =>
  rw [hf] at FW
  refine AW.rT (by rfl) fun K hK => ?_
  simp -implicitDefEqProofs only [go_sem, ↓reduceIte, Nat.reduceAdd, Nat.reduceMul, Nat.reduceEqDiff, Nat.reduceLeDiff, reduceCtorEq, Int.reduceToNat]
  refine ⟨.pure _, FW, ?_⟩
  try simp -implicitDefEqProofs only [go_sem, ↓reduceIte, Nat.reduceAdd, Nat.reduceMul, Nat.reduceEqDiff, Nat.reduceLeDiff, reduceCtorEq, Int.reduceToNat]
  refine hK _ ?_; clear hK K
  refine AW.cond _ (by simp -implicitDefEqProofs only [go_sem, ↓reduceIte, Nat.reduceAdd, Nat.reduceMul, Nat.reduceEqDiff, Nat.reduceLeDiff, reduceCtorEq, Int.reduceToNat]; rfl) (fun hc => ?_) (fun hc => ?_)
  rotate_left
  ·simp at hc
  refine AW.rT (by rfl) fun K hK => ?_
  simp -implicitDefEqProofs only [go_sem, ↓reduceIte, Nat.reduceAdd, Nat.reduceMul, Nat.reduceEqDiff, Nat.reduceLeDiff, reduceCtorEq, Int.reduceToNat]
  refine ⟨.pure _, law15_awake, ?_⟩
  try simp -implicitDefEqProofs only [go_sem, ↓reduceIte, Nat.reduceAdd, Nat.reduceMul, Nat.reduceEqDiff, Nat.reduceLeDiff, reduceCtorEq, Int.reduceToNat]
  refine hK _ ?_; clear hK K
  refine AW.ret ?_
  simp -implicitDefEqProofs only [go_sem, ↓reduceIte, Nat.reduceAdd, Nat.reduceMul, Nat.reduceEqDiff, Nat.reduceLeDiff, reduceCtorEq, Int.reduceToNat]
 | true =>
 rw [hf] at FW
 cases hg : fewB U with
 | false =>
  rw [hg] at FV
  refine AW.rT (by rfl) fun K hK => ?_
  simp -implicitDefEqProofs only [go_sem, ↓reduceIte, Nat.reduceAdd, Nat.reduceMul, Nat.reduceEqDiff, Nat.reduceLeDiff, reduceCtorEq, Int.reduceToNat]
  refine ⟨.pure _, FW, ?_⟩
  try simp -implicitDefEqProofs only [go_sem, ↓reduceIte, Nat.reduceAdd, Nat.reduceMul, Nat.reduceEqDiff, Nat.reduceLeDiff, reduceCtorEq, Int.reduceToNat]
  refine ⟨.pure _, FV, ?_⟩
  try simp -implicitDefEqProofs only [go_sem, ↓reduceIte, Nat.reduceAdd, Nat.reduceMul, Nat.reduceEqDiff, Nat.reduceLeDiff, reduceCtorEq, Int.reduceToNat]
  refine hK _ ?_; clear hK K
  refine AW.cond _ (by simp -implicitDefEqProofs only [go_sem, ↓reduceIte, Nat.reduceAdd, Nat.reduceMul, Nat.reduceEqDiff, Nat.reduceLeDiff, reduceCtorEq, Int.reduceToNat]; rfl) (fun hc => ?_) (fun hc => ?_)
  rotate_left
  ·simp at hc
  refine AW.rT (by rfl) fun K hK => ?_
  simp -implicitDefEqProofs only [go_sem, ↓reduceIte, Nat.reduceAdd, Nat.reduceMul, Nat.reduceEqDiff, Nat.reduceLeDiff, reduceCtorEq, Int.reduceToNat]
  refine ⟨.pure _, law15_awake, ?_⟩
  try simp -implicitDefEqProofs only [go_sem, ↓reduceIte, Nat.reduceAdd, Nat.reduceMul, Nat.reduceEqDiff, Nat.reduceLeDiff, reduceCtorEq, Int.reduceToNat]
  refine hK _ ?_; clear hK K
  refine AW.ret ?_
  simp -implicitDefEqProofs only [go_sem, ↓reduceIte, Nat.reduceAdd, Nat.reduceMul, Nat.reduceEqDiff, Nat.reduceLeDiff, reduceCtorEq, Int.reduceToNat]
 | true =>
 rw [hg] at FV
 have F := few_spec hf
 have L := F.lens
 have FU := few_spec hg
 have LU := FU.lens
 have C1 := ref07_Check S L
 have C2 := ref07_Check U LU
 simp only [encSc] at C1 C2
 by_cases hz : checkC S = 0
 case neg =>
  have cz : (checkC S != 0) = true := by simp [hz]
  refine AW.rT (by rfl) fun K hK => ?_
  simp -implicitDefEqProofs only [go_sem, ↓reduceIte, Nat.reduceAdd, Nat.reduceMul, Nat.reduceEqDiff, Nat.reduceLeDiff, reduceCtorEq, Int.reduceToNat]
  refine ⟨.pure _, FW, ?_⟩
  try simp -implicitDefEqProofs only [go_sem, ↓reduceIte, Nat.reduceAdd, Nat.reduceMul, Nat.reduceEqDiff, Nat.reduceLeDiff, reduceCtorEq, Int.reduceToNat]
  refine ⟨.pure _, FV, ?_⟩
  try simp -implicitDefEqProofs only [go_sem, ↓reduceIte, Nat.reduceAdd, Nat.reduceMul, Nat.reduceEqDiff, Nat.reduceLeDiff, reduceCtorEq, Int.reduceToNat]
  refine ⟨.pure _, C1, ?_⟩
  try simp -implicitDefEqProofs only [go_sem, ↓reduceIte, Nat.reduceAdd, Nat.reduceMul, Nat.reduceEqDiff, Nat.reduceLeDiff, reduceCtorEq, Int.reduceToNat, cz]
  refine hK _ ?_; clear hK K
  refine AW.cond _ (by simp -implicitDefEqProofs only [go_sem, ↓reduceIte, Nat.reduceAdd, Nat.reduceMul, Nat.reduceEqDiff, Nat.reduceLeDiff, reduceCtorEq, Int.reduceToNat]; rfl) (fun hc => ?_) (fun hc => ?_)
  rotate_left
  ·simp at hc
  refine AW.rT (by rfl) fun K hK => ?_
  simp -implicitDefEqProofs only [go_sem, ↓reduceIte, Nat.reduceAdd, Nat.reduceMul, Nat.reduceEqDiff, Nat.reduceLeDiff, reduceCtorEq, Int.reduceToNat]
  refine ⟨.pure _, law15_awake, ?_⟩
  try simp -implicitDefEqProofs only [go_sem, ↓reduceIte, Nat.reduceAdd, Nat.reduceMul, Nat.reduceEqDiff, Nat.reduceLeDiff, reduceCtorEq, Int.reduceToNat]
  refine hK _ ?_; clear hK K
  refine AW.ret ?_
  simp -implicitDefEqProofs only [go_sem, ↓reduceIte, Nat.reduceAdd, Nat.reduceMul, Nat.reduceEqDiff, Nat.reduceLeDiff, reduceCtorEq, Int.reduceToNat]
 have cz : (checkC S != 0) = false := by simp [hz]
 by_cases hy : checkC U = 0
 case neg =>
  have cy : (checkC U != 0) = true := by simp [hy]
  refine AW.rT (by rfl) fun K hK => ?_
  simp -implicitDefEqProofs only [go_sem, ↓reduceIte, Nat.reduceAdd, Nat.reduceMul, Nat.reduceEqDiff, Nat.reduceLeDiff, reduceCtorEq, Int.reduceToNat]
  refine ⟨.pure _, FW, ?_⟩
  try simp -implicitDefEqProofs only [go_sem, ↓reduceIte, Nat.reduceAdd, Nat.reduceMul, Nat.reduceEqDiff, Nat.reduceLeDiff, reduceCtorEq, Int.reduceToNat]
  refine ⟨.pure _, FV, ?_⟩
  try simp -implicitDefEqProofs only [go_sem, ↓reduceIte, Nat.reduceAdd, Nat.reduceMul, Nat.reduceEqDiff, Nat.reduceLeDiff, reduceCtorEq, Int.reduceToNat]
  refine ⟨.pure _, C1, ?_⟩
  try simp -implicitDefEqProofs only [go_sem, ↓reduceIte, Nat.reduceAdd, Nat.reduceMul, Nat.reduceEqDiff, Nat.reduceLeDiff, reduceCtorEq, Int.reduceToNat, cz]
  refine ⟨.pure _, C2, ?_⟩
  try simp -implicitDefEqProofs only [go_sem, ↓reduceIte, Nat.reduceAdd, Nat.reduceMul, Nat.reduceEqDiff, Nat.reduceLeDiff, reduceCtorEq, Int.reduceToNat, cy]
  refine hK _ ?_; clear hK K
  refine AW.cond _ (by simp -implicitDefEqProofs only [go_sem, ↓reduceIte, Nat.reduceAdd, Nat.reduceMul, Nat.reduceEqDiff, Nat.reduceLeDiff, reduceCtorEq, Int.reduceToNat]; rfl) (fun hc => ?_) (fun hc => ?_)
  rotate_left
  ·simp at hc
  refine AW.rT (by rfl) fun K hK => ?_
  simp -implicitDefEqProofs only [go_sem, ↓reduceIte, Nat.reduceAdd, Nat.reduceMul, Nat.reduceEqDiff, Nat.reduceLeDiff, reduceCtorEq, Int.reduceToNat]
  refine ⟨.pure _, law15_awake, ?_⟩
  try simp -implicitDefEqProofs only [go_sem, ↓reduceIte, Nat.reduceAdd, Nat.reduceMul, Nat.reduceEqDiff, Nat.reduceLeDiff, reduceCtorEq, Int.reduceToNat]
  refine hK _ ?_; clear hK K
  refine AW.ret ?_
  simp -implicitDefEqProofs only [go_sem, ↓reduceIte, Nat.reduceAdd, Nat.reduceMul, Nat.reduceEqDiff, Nat.reduceLeDiff, reduceCtorEq, Int.reduceToNat]
 have cy : (checkC U != 0) = false := by simp [hy]
 refine AW.rT (by rfl) fun K hK => ?_
 simp -implicitDefEqProofs only [go_sem, ↓reduceIte, Nat.reduceAdd, Nat.reduceMul, Nat.reduceEqDiff, Nat.reduceLeDiff, reduceCtorEq, Int.reduceToNat]
 refine ⟨.pure _, FW, ?_⟩
 try simp -implicitDefEqProofs only [go_sem, ↓reduceIte, Nat.reduceAdd, Nat.reduceMul, Nat.reduceEqDiff, Nat.reduceLeDiff, reduceCtorEq, Int.reduceToNat]
 refine ⟨.pure _, FV, ?_⟩
 try simp -implicitDefEqProofs only [go_sem, ↓reduceIte, Nat.reduceAdd, Nat.reduceMul, Nat.reduceEqDiff, Nat.reduceLeDiff, reduceCtorEq, Int.reduceToNat]
 refine ⟨.pure _, C1, ?_⟩
 try simp -implicitDefEqProofs only [go_sem, ↓reduceIte, Nat.reduceAdd, Nat.reduceMul, Nat.reduceEqDiff, Nat.reduceLeDiff, reduceCtorEq, Int.reduceToNat, cz]
 refine ⟨.pure _, C2, ?_⟩
 try simp -implicitDefEqProofs only [go_sem, ↓reduceIte, Nat.reduceAdd, Nat.reduceMul, Nat.reduceEqDiff, Nat.reduceLeDiff, reduceCtorEq, Int.reduceToNat, cy]
 refine hK _ ?_; clear hK K
 refine AW.cond _ (by simp -implicitDefEqProofs only [go_sem, ↓reduceIte, Nat.reduceAdd, Nat.reduceMul, Nat.reduceEqDiff, Nat.reduceLeDiff, reduceCtorEq, Int.reduceToNat]; rfl) (fun hc => ?_) (fun hc => ?_)
 ·simp at hc
 refine AW.skip ?_
 simp only [andThen, inBlk, reduceCtorEq, ↓reduceIte, if_t, if_f]
 have Fm := F.msgs
 have FmU := FU.msgs
 have R := right_of hz
 have RU := right_of hy
 have FS := check_fit.1 hz
 have FT := check_fit.1 hy
 have SC := law00_Schema S F
 have SU := law00_Schema U FU
 have hnp : (0 : Int) < (S.msgs.length : Int) := by have := R.len; omega
 have hp' := okI_range hp
 have PL := law00_Place p (S.msgs.length : Int) hnp (by omega) hp'.1 hp'.2
 obtain ⟨k, hk⟩ : ∃ k : Nat, p % (S.msgs.length : Int) = (k : Int) := ⟨(p % (S.msgs.length : Int)).toNat, by have := Int.emod_nonneg p (show (S.msgs.length : Int) ≠ 0 by omega); omega⟩
 have hkl : k < S.msgs.length := by have := Int.emod_lt_of_pos p hnp; omega
 rw [hk] at PL
 obtain ⟨m, hm⟩ : ∃ m, S.msgs[k]? = some m := ⟨_, List.getElem?_eq_getElem hkl⟩
 have ⟨hm1, hm2, hm3⟩ := at_map' encMs hm
 have hm2' : (k : Int) < (S.msgs.length : Int) := by omega
 have hmem := List.mem_of_getElem? hm
 have FM := fit_msgs FS hmem
 have ha : hasM S m.name = true := hasM_iff.2 ⟨m, hmem, rfl⟩
 have hnq : (0 : Int) < (U.msgs.length : Int) := by have := RU.len; omega
 have hq' := okI_range hq
 have QL := law00_Place q (U.msgs.length : Int) hnq (by omega) hq'.1 hq'.2
 obtain ⟨j, hj⟩ : ∃ j : Nat, q % (U.msgs.length : Int) = (j : Int) := ⟨(q % (U.msgs.length : Int)).toNat, by have := Int.emod_nonneg q (show (U.msgs.length : Int) ≠ 0 by omega); omega⟩
 have hjl : j < U.msgs.length := by have := Int.emod_lt_of_pos q hnq; omega
 rw [hj] at QL
 obtain ⟨n, hn⟩ : ∃ n, U.msgs[j]? = some n := ⟨_, List.getElem?_eq_getElem hjl⟩
 have ⟨hn1, hn2, hn3⟩ := at_map' encMs hn
 have hn2' : (j : Int) < (U.msgs.length : Int) := by omega
 have hnem := List.mem_of_getElem? hn
 have FN := fit_msgs FT hnem
 have hb : hasM U n.name = true := hasM_iff.2 ⟨n, hnem, rfl⟩
 have MK := adapt_Make S U L LU m.name n.name
 have mk : makeR S U m.name n.name = (makeP S U 101 0 [⟨m.name, n.name⟩], 0) := by unfold makeR; rw [if_pos ⟨hz, hy⟩, if_pos ⟨ha, hb⟩]
 obtain ⟨hpr, hll, r, hr⟩ := make_prog hz hy ha hb
 rw [msgOf_in FS hmem, msgOf_in FT hnem] at hr
 rw [mk] at MK
 rw [hr] at MK hpr hll
 have MS : ∀ s ∈ (stepsP m n 500 1 [⟨m.name, n.name⟩]).1, ∃ l', stepO m n s.tag l' = some s := fun s hs => (mem_steps 500 1 _ s hs).2.2
 clear mk hr
 have CK := adapt_Check ((stepsP m n 500 1 [⟨m.name, n.name⟩]).1 :: r)
 rw [hpr] at CK
 have hst := steps_len (mo := m) (mn := n) 500 1 [⟨m.name, n.name⟩]
 generalize (stepsP m n 500 1 [⟨m.name, n.name⟩]).1 = st at *
 simp only [encSc, List.map_cons, encPt] at SC SU MK CK
 simp only [List.length_cons] at hll
 refine AW.dT mixed (by rfl) (by decide +kernel) fun K hK => ?_
 simp -implicitDefEqProofs only [go_sem, ↓reduceIte, Nat.reduceAdd, Nat.reduceMul, Nat.reduceEqDiff, Nat.reduceLeDiff, reduceCtorEq, Int.reduceToNat, hm1, hm2', hm3, hn1, hn2', hn3, encMs, List.length_map]
 refine ⟨.pure _, PL, ?_⟩
 try simp -implicitDefEqProofs only [go_sem, ↓reduceIte, Nat.reduceAdd, Nat.reduceMul, Nat.reduceEqDiff, Nat.reduceLeDiff, reduceCtorEq, Int.reduceToNat, hm1, hm2', hm3, hn1, hn2', hn3, encMs, List.length_map]
 refine ⟨.pure _, QL, ?_⟩
 try simp -implicitDefEqProofs only [go_sem, ↓reduceIte, Nat.reduceAdd, Nat.reduceMul, Nat.reduceEqDiff, Nat.reduceLeDiff, reduceCtorEq, Int.reduceToNat, hm1, hm2', hm3, hn1, hn2', hn3, encMs, List.length_map]
 refine ⟨by decide +kernel, ?_⟩
 refine hK _ ?_; clear hK K
 refine AW.dT mixed (by rfl) (by decide +kernel) fun K hK => ?_
 simp -implicitDefEqProofs only [go_sem, ↓reduceIte, Nat.reduceAdd, Nat.reduceMul, Nat.reduceEqDiff, Nat.reduceLeDiff, reduceCtorEq, Int.reduceToNat]
 refine ⟨.pure _, SC, ?_⟩
 try simp -implicitDefEqProofs only [go_sem, ↓reduceIte, Nat.reduceAdd, Nat.reduceMul, Nat.reduceEqDiff, Nat.reduceLeDiff, reduceCtorEq, Int.reduceToNat]
 refine ⟨.pure _, SU, ?_⟩
 try simp -implicitDefEqProofs only [go_sem, ↓reduceIte, Nat.reduceAdd, Nat.reduceMul, Nat.reduceEqDiff, Nat.reduceLeDiff, reduceCtorEq, Int.reduceToNat]
 refine ⟨.pure _, MK, ?_⟩
 try simp -implicitDefEqProofs only [go_sem, ↓reduceIte, Nat.reduceAdd, Nat.reduceMul, Nat.reduceEqDiff, Nat.reduceLeDiff, reduceCtorEq, Int.reduceToNat]
 refine ⟨by decide +kernel, ?_⟩
 refine hK _ ?_; clear hK K
 refine AW.seq ?_
 have n0 : ((0 : Int) != 0) = false := rfl
 have hml : S.msgs.length * U.msgs.length ≤ 14 * 14 := Nat.mul_le_mul Fm FmU
 have wm : IntKind.wrap .i64 ((S.msgs.length : Int) * (U.msgs.length : Int)) = ((S.msgs.length * U.msgs.length : Nat) : Int) := by
  rw [← Int.natCast_mul, w64] <;> omega
 have n1 : ((r.length : Int) + 1 > ((S.msgs.length * U.msgs.length : Nat) : Int)) = False := eq_false (by omega)
 refine AW.rT (by rfl) fun K hK => ?_
 simp -implicitDefEqProofs only [go_sem, ↓reduceIte, Nat.reduceAdd, Nat.reduceMul, Nat.reduceEqDiff, Nat.reduceLeDiff, reduceCtorEq, Int.reduceToNat, n0]
 refine ⟨.pure _, CK, ?_⟩
 try simp -implicitDefEqProofs only [go_sem, ↓reduceIte, Nat.reduceAdd, Nat.reduceMul, Nat.reduceEqDiff, Nat.reduceLeDiff, reduceCtorEq, Int.reduceToNat, wm, n1, List.length_cons, List.length_map, Int.natCast_add, Int.natCast_one]
 refine hK _ ?_; clear hK K
 refine AW.cond _ (by simp -implicitDefEqProofs only [go_sem, ↓reduceIte, Nat.reduceAdd, Nat.reduceMul, Nat.reduceEqDiff, Nat.reduceLeDiff, reduceCtorEq, Int.reduceToNat]; rfl) (fun hc => ?_) (fun hc => ?_)
 ·simp at hc
 refine AW.skip ?_
 simp only [andThen, inBlk, reduceCtorEq, ↓reduceIte, if_t, if_f]
 refine AW.seq ?_
 refine AW.rT (by rfl) fun K hK => ?_
 simp -implicitDefEqProofs only [go_sem, ↓reduceIte, Nat.reduceAdd, Nat.reduceMul, Nat.reduceEqDiff, Nat.reduceLeDiff, reduceCtorEq, Int.reduceToNat]
 refine hK _ ?_; clear hK K
 refine AW.block ?_
 refine AW.loop (fun i => arS S U m n st r i []) (fun i => i ≤ st.length) (fun i => st.length - i) 0 ?_ (by omega) fun i i1 => ?_
 ·simp only [arS, encPt, cellsSc, cellsMs]
  refine Ghost.ent (fun l => if l = 2 then 39 else if l = 3 then 40 else if l = 4 then 55 else l) ?_ ?_ ?_ <;> simp -implicitDefEqProofs only [go_sem, ↓reduceIte, Nat.reduceAdd, Nat.reduceMul, Nat.reduceEqDiff, Nat.reduceLeDiff, reduceCtorEq, Int.reduceToNat, Int.cast_ofNat_Int, List.forall_mem_cons, List.not_mem_nil, false_implies, implies_true, and_self, map_renL_lift, labsIn_lift, List.all_append, List.all_cons, List.all_nil, List.map_append, Nat.reduceLT, labsInL, AV.labsIn]
  all_goals first | rfl | decide | skip
 have F1 := fun t : Int => ref07_Field m t (by have := FM.no; omega)
 have F2 := fun t : Int => ref07_Field n t (by have := FN.no; omega)
 simp only [encMs] at F1 F2
 simp only [arS, cellsSc, cellsMs]
 refine AW.seq ?_
 have z0 : (0 : Int) < ((r.length : Int) + 1) := by omega
 by_cases hil : i < st.length
 case neg =>
  have c1 : ((i : Int) < (st.length : Int)) = False := eq_false (by omega)
  refine AW.rT (by rfl) fun K hK => ?_
  simp -implicitDefEqProofs only [go_sem, ↓reduceIte, Nat.reduceAdd, Nat.reduceMul, Nat.reduceEqDiff, Nat.reduceLeDiff, reduceCtorEq, Int.reduceToNat, c1, List.getD_cons_zero, List.getElem?_cons_zero, List.length_cons, List.length_map, Int.natCast_add, Int.natCast_one]
  refine ⟨⟨Int.le_refl 0, by omega⟩, ?_⟩
  try simp -implicitDefEqProofs only [go_sem, ↓reduceIte, Nat.reduceAdd, Nat.reduceMul, Nat.reduceEqDiff, Nat.reduceLeDiff, reduceCtorEq, Int.reduceToNat]
  refine hK _ ?_; clear hK K
  refine AW.cond _ (by simp -implicitDefEqProofs only [go_sem, ↓reduceIte, Nat.reduceAdd, Nat.reduceMul, Nat.reduceEqDiff, Nat.reduceLeDiff, reduceCtorEq, Int.reduceToNat]; rfl) (fun hc => ?_) (fun hc => ?_)
  ·simp at hc
  refine AW.exit ?_
  simp only [andThen, inBlk, reduceCtorEq, ↓reduceIte, if_t, if_f]
  refine AW.rT (by rfl) fun K hK => ?_
  simp -implicitDefEqProofs only [go_sem, ↓reduceIte, Nat.reduceAdd, Nat.reduceMul, Nat.reduceEqDiff, Nat.reduceLeDiff, reduceCtorEq, Int.reduceToNat]
  refine ⟨.pure _, law15_awake, ?_⟩
  try simp -implicitDefEqProofs only [go_sem, ↓reduceIte, Nat.reduceAdd, Nat.reduceMul, Nat.reduceEqDiff, Nat.reduceLeDiff, reduceCtorEq, Int.reduceToNat]
  refine hK _ ?_; clear hK K
  refine AW.ret ?_
  simp -implicitDefEqProofs only [go_sem, ↓reduceIte, Nat.reduceAdd, Nat.reduceMul, Nat.reduceEqDiff, Nat.reduceLeDiff, reduceCtorEq, Int.reduceToNat]
 obtain ⟨s, hs⟩ : ∃ s, st[i]? = some s := ⟨_, List.getElem?_eq_getElem hil⟩
 have ⟨s1, s2, s3⟩ := at_map' encSt hs
 have s2' : (i : Int) < (st.length : Int) := by omega
 have c1 : ((i : Int) < (st.length : Int)) = True := eq_true (by omega)
 have w1 : IntKind.wrap .i64 ((i : Int) + 1) = ((i + 1 : Nat) : Int) := by rw [w64] <;> omega
 obtain ⟨l', hl'⟩ := MS s (List.mem_of_getElem? hs)
 obtain ⟨g1, g2, g3, g4⟩ := step_right hl'
 have P1 := F1 s.tag
 have P2 := F2 s.tag
 have e1 : firstP (fun x => x.tag == s.tag) zFd m.fields = fOf m s.tag := rfl
 have e2 : firstP (fun x => x.tag == s.tag) zFd n.fields = fOf n s.tag := rfl
 rw [e1, g1] at P1
 rw [e2, g2] at P2
 simp only [encFd] at P1 P2
 generalize (fOf m s.tag).1 = f at *
 generalize (fOf n s.tag).1 = g at *
 refine AW.rT (by rfl) fun K hK => ?_
 simp -implicitDefEqProofs only [go_sem, ↓reduceIte, Nat.reduceAdd, Nat.reduceMul, Nat.reduceEqDiff, Nat.reduceLeDiff, reduceCtorEq, Int.reduceToNat, c1, List.getD_cons_zero, List.getElem?_cons_zero, List.length_cons, List.length_map, Int.natCast_add, Int.natCast_one]
 refine ⟨⟨Int.le_refl 0, by omega⟩, ?_⟩
 try simp -implicitDefEqProofs only [go_sem, ↓reduceIte, Nat.reduceAdd, Nat.reduceMul, Nat.reduceEqDiff, Nat.reduceLeDiff, reduceCtorEq, Int.reduceToNat]
 refine hK _ ?_; clear hK K
 refine AW.cond _ (by simp -implicitDefEqProofs only [go_sem, ↓reduceIte, Nat.reduceAdd, Nat.reduceMul, Nat.reduceEqDiff, Nat.reduceLeDiff, reduceCtorEq, Int.reduceToNat]; rfl) (fun hc => ?_) (fun hc => ?_)
 rotate_left
 ·simp at hc
 refine AW.skip ?_
 simp only [andThen, inBlk, reduceCtorEq, ↓reduceIte, if_t, if_f]
 refine AW.seq ?_
 refine AW.block ?_
 refine AW.dT mixed (by rfl) (by decide +kernel) fun K hK => ?_
 simp -implicitDefEqProofs only [go_sem, ↓reduceIte, Nat.reduceAdd, Nat.reduceMul, Nat.reduceEqDiff, Nat.reduceLeDiff, reduceCtorEq, Int.reduceToNat, s1, s2', s3, List.getD_cons_zero, List.getElem?_cons_zero, List.length_cons, List.length_map, Int.natCast_add, Int.natCast_one, encSt]
 refine ⟨⟨Int.le_refl 0, z0⟩, ?_⟩
 refine ⟨.pure _, P1, ?_⟩
 try simp -implicitDefEqProofs only [go_sem, ↓reduceIte, Nat.reduceAdd, Nat.reduceMul, Nat.reduceEqDiff, Nat.reduceLeDiff, reduceCtorEq, Int.reduceToNat]
 refine ⟨by decide +kernel, ?_⟩
 refine hK _ ?_; clear hK K
 refine AW.dT mixed (by rfl) (by decide +kernel) fun K hK => ?_
 simp -implicitDefEqProofs only [go_sem, ↓reduceIte, Nat.reduceAdd, Nat.reduceMul, Nat.reduceEqDiff, Nat.reduceLeDiff, reduceCtorEq, Int.reduceToNat, s1, s2', s3, List.getD_cons_zero, List.getElem?_cons_zero, List.length_cons, List.length_map, Int.natCast_add, Int.natCast_one, encSt]
 refine ⟨⟨Int.le_refl 0, z0⟩, ?_⟩
 refine ⟨.pure _, P2, ?_⟩
 try simp -implicitDefEqProofs only [go_sem, ↓reduceIte, Nat.reduceAdd, Nat.reduceMul, Nat.reduceEqDiff, Nat.reduceLeDiff, reduceCtorEq, Int.reduceToNat]
 refine ⟨by decide +kernel, ?_⟩
 refine hK _ ?_; clear hK K
 have fl : (f.label != g.label) = false := by simp [g3]
 refine AW.cut (fun _ : Unit => arS S U m n st r i [(156, .p (.bool false))]) (fun _ => True) ?_ fun _ _ => ?_
 ·cases x2 : (f.ty.kind == 2) with
  | false =>
   have x1 : (s.op == 2) = false := beq_eq_false_iff_ne.2 fun h => by rw [(g4.1 h).1] at x2; cases x2
   refine AW.dE mixed (by rfl) (by decide +kernel) fun K hK => ?_
   simp -implicitDefEqProofs only [go_sem, ↓reduceIte, Nat.reduceAdd, Nat.reduceMul, Nat.reduceEqDiff, Nat.reduceLeDiff, reduceCtorEq, Int.reduceToNat, s1, s2', s3, List.getD_cons_zero, List.getElem?_cons_zero, List.length_cons, List.length_map, Int.natCast_add, Int.natCast_one, encSt, fl, x1, x2]
   refine ⟨⟨Int.le_refl 0, z0⟩, ?_⟩
   try simp -implicitDefEqProofs only [go_sem, ↓reduceIte, Nat.reduceAdd, Nat.reduceMul, Nat.reduceEqDiff, Nat.reduceLeDiff, reduceCtorEq, Int.reduceToNat]
   refine ⟨_, eqP_bool false false, ?_⟩
   try simp -implicitDefEqProofs only [go_sem, ↓reduceIte, Nat.reduceAdd, Nat.reduceMul, Nat.reduceEqDiff, Nat.reduceLeDiff, reduceCtorEq, Int.reduceToNat, beq_self_eq_true]
   refine ⟨by decide +kernel, ?_⟩
   refine hK _ ?_; clear hK K
   refine ⟨(), trivial, ?_⟩
   show Ghost _ _ (arS _ _ _ _ _ _ _ _)
   simp only [arS, cellsSc, cellsMs]
   refine Ghost.sub ?_ ?_ <;> simp -implicitDefEqProofs only [go_sem, ↓reduceIte, Nat.reduceAdd, Nat.reduceMul, Nat.reduceEqDiff, Nat.reduceLeDiff, reduceCtorEq, Int.reduceToNat,  List.forall_mem_cons, List.not_mem_nil, false_implies, implies_true, and_self, labsIn_lift, List.all_append, List.all_cons, List.all_nil, Nat.reduceLT, labsInL, AV.labsIn]
   all_goals first | rfl | decide | skip
  | true =>
   cases x3 : (g.ty.kind == 1) with
   | false =>
    have x1 : (s.op == 2) = false := beq_eq_false_iff_ne.2 fun h => by rw [(g4.1 h).2] at x3; cases x3
    refine AW.dE mixed (by rfl) (by decide +kernel) fun K hK => ?_
    simp -implicitDefEqProofs only [go_sem, ↓reduceIte, Nat.reduceAdd, Nat.reduceMul, Nat.reduceEqDiff, Nat.reduceLeDiff, reduceCtorEq, Int.reduceToNat, s1, s2', s3, List.getD_cons_zero, List.getElem?_cons_zero, List.length_cons, List.length_map, Int.natCast_add, Int.natCast_one, encSt, fl, x1, x2, x3]
    refine ⟨⟨Int.le_refl 0, z0⟩, ?_⟩
    try simp -implicitDefEqProofs only [go_sem, ↓reduceIte, Nat.reduceAdd, Nat.reduceMul, Nat.reduceEqDiff, Nat.reduceLeDiff, reduceCtorEq, Int.reduceToNat]
    refine ⟨_, eqP_bool false false, ?_⟩
    try simp -implicitDefEqProofs only [go_sem, ↓reduceIte, Nat.reduceAdd, Nat.reduceMul, Nat.reduceEqDiff, Nat.reduceLeDiff, reduceCtorEq, Int.reduceToNat, beq_self_eq_true]
    refine ⟨by decide +kernel, ?_⟩
    refine hK _ ?_; clear hK K
    refine ⟨(), trivial, ?_⟩
    show Ghost _ _ (arS _ _ _ _ _ _ _ _)
    simp only [arS, cellsSc, cellsMs]
    refine Ghost.sub ?_ ?_ <;> simp -implicitDefEqProofs only [go_sem, ↓reduceIte, Nat.reduceAdd, Nat.reduceMul, Nat.reduceEqDiff, Nat.reduceLeDiff, reduceCtorEq, Int.reduceToNat,  List.forall_mem_cons, List.not_mem_nil, false_implies, implies_true, and_self, labsIn_lift, List.all_append, List.all_cons, List.all_nil, Nat.reduceLT, labsInL, AV.labsIn]
    all_goals first | rfl | decide | skip
   | true =>
    have x1 : (s.op == 2) = true := beq_iff_eq.2 (g4.2 ⟨beq_iff_eq.1 x2, beq_iff_eq.1 x3⟩)
    refine AW.dE mixed (by rfl) (by decide +kernel) fun K hK => ?_
    simp -implicitDefEqProofs only [go_sem, ↓reduceIte, Nat.reduceAdd, Nat.reduceMul, Nat.reduceEqDiff, Nat.reduceLeDiff, reduceCtorEq, Int.reduceToNat, s1, s2', s3, List.getD_cons_zero, List.getElem?_cons_zero, List.length_cons, List.length_map, Int.natCast_add, Int.natCast_one, encSt, fl, x1, x2, x3]
    refine ⟨⟨Int.le_refl 0, z0⟩, ?_⟩
    try simp -implicitDefEqProofs only [go_sem, ↓reduceIte, Nat.reduceAdd, Nat.reduceMul, Nat.reduceEqDiff, Nat.reduceLeDiff, reduceCtorEq, Int.reduceToNat]
    refine ⟨_, eqP_bool true true, ?_⟩
    try simp -implicitDefEqProofs only [go_sem, ↓reduceIte, Nat.reduceAdd, Nat.reduceMul, Nat.reduceEqDiff, Nat.reduceLeDiff, reduceCtorEq, Int.reduceToNat, beq_self_eq_true]
    refine ⟨by decide +kernel, ?_⟩
    refine hK _ ?_; clear hK K
    refine ⟨(), trivial, ?_⟩
    show Ghost _ _ (arS _ _ _ _ _ _ _ _)
    simp only [arS, cellsSc, cellsMs]
    refine Ghost.sub ?_ ?_ <;> simp -implicitDefEqProofs only [go_sem, ↓reduceIte, Nat.reduceAdd, Nat.reduceMul, Nat.reduceEqDiff, Nat.reduceLeDiff, reduceCtorEq, Int.reduceToNat,  List.forall_mem_cons, List.not_mem_nil, false_implies, implies_true, and_self, labsIn_lift, List.all_append, List.all_cons, List.all_nil, Nat.reduceLT, labsInL, AV.labsIn]
    all_goals first | rfl | decide | skip
 simp only [arS, cellsSc, cellsMs]
 refine AW.cond _ (by simp -implicitDefEqProofs only [go_sem, ↓reduceIte, Nat.reduceAdd, Nat.reduceMul, Nat.reduceEqDiff, Nat.reduceLeDiff, reduceCtorEq, Int.reduceToNat]; rfl) (fun hc => ?_) (fun hc => ?_)
 ·simp at hc
 refine AW.skip ?_
 simp only [andThen, inBlk, reduceCtorEq, ↓reduceIte, if_t, if_f]
 refine AW.rE (by rfl) fun K hK => ?_
 simp -implicitDefEqProofs only [go_sem, ↓reduceIte, Nat.reduceAdd, Nat.reduceMul, Nat.reduceEqDiff, Nat.reduceLeDiff, reduceCtorEq, Int.reduceToNat, w1]
 refine hK _ ?_; clear hK K
 refine ⟨i + 1, by omega, by omega, ?_⟩
 refine Ghost.sub ?_ ?_ <;> simp -implicitDefEqProofs only [go_sem, ↓reduceIte, Nat.reduceAdd, Nat.reduceMul, Nat.reduceEqDiff, Nat.reduceLeDiff, reduceCtorEq, Int.reduceToNat,  List.forall_mem_cons, List.not_mem_nil, false_implies, implies_true, and_self, labsIn_lift, List.all_append, List.all_cons, List.all_nil, Nat.reduceLT, labsInL, AV.labsIn]
end Go.Aw
