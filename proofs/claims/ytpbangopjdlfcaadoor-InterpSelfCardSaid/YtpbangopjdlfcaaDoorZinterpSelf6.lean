/- What the law LawInterpSelf leans on, joined (part 6). -/
import Derived.Test.YtpbangopjdlfcaaDoorZinterpSelf5
set_option linter.unusedSimpArgs false
set_option linter.unusedVariables false
set_option maxRecDepth 100000
set_option maxHeartbeats 8000000
namespace Go.Aw
open Go.Proofs Go.RowKit
def stepB (s : Stp) (n : Int) : Bool := (decide (s.op = 1 ∨ s.op = 2) && (s.sub == 0)) || (decide (s.op = 3 ∨ s.op = 4) && decide (0 ≤ s.sub ∧ s.sub < n))
theorem adapt_step (s : Stp) (n : Int) : PFn Tryd.prog 139 [.agg (encSt s), .int .i64 n] (.bool (stepB s n)) := by
 refine PFn.of Tryd.func139 rfl (by decide) Tryd.ntmps139 Tryd.results139 (Nat.le_of_ble_eq_true rfl) ?_
 simp only [argsT, encSt]
 refine AW.rT (by rfl) fun K hK => ?_
 simp -implicitDefEqProofs only [go_sem, Nat.reduceAdd]
 apply hK; clear hK K
 refine AW.seq ?_
 refine AW.rT (by rfl) fun K hK => ?_
 simp -implicitDefEqProofs only [go_sem, ↓reduceIte, Nat.reduceAdd, Nat.reduceEqDiff]
 apply hK; clear hK K
 refine AW.block ?_
 refine AW.seq ?_
 by_cases h1 : s.op = 1
 ·have q1 : (s.op == 1) = true := by simp [h1]
  have e : stepB s n = (s.sub == 0) := by unfold stepB; simp [h1]
  refine AW.rT (by rfl) fun K hK => ?_
  simp -implicitDefEqProofs only [go_sem, ↓reduceIte, Nat.reduceAdd, q1]
  apply hK; clear hK K
  refine AW.cT rfl ?_
  refine AW.skip ?_
  simp only [andThen]
  refine AW.cT rfl ?_
  refine AW.rT (by rfl) fun K hK => ?_
  simp -implicitDefEqProofs only [go_sem, ↓reduceIte, Nat.reduceAdd, Nat.reduceEqDiff]
  apply hK; clear hK K
  refine AW.ret ?_
  simp -implicitDefEqProofs only [go_sem, e]
 have q1 : (s.op == 1) = false := beq_eq_false_iff_ne.2 h1
 by_cases h2 : s.op = 2
 ·have q2 : (s.op == 2) = true := by simp [h2]
  have e : stepB s n = (s.sub == 0) := by unfold stepB; simp [h2]
  refine AW.rT (by rfl) fun K hK => ?_
  simp -implicitDefEqProofs only [go_sem, ↓reduceIte, Nat.reduceAdd, q1]
  apply hK; clear hK K
  refine AW.cF rfl ?_
  refine AW.rE (by rfl) fun K hK => ?_
  simp -implicitDefEqProofs only [go_sem, ↓reduceIte, Nat.reduceAdd, Nat.reduceEqDiff, q2]
  apply hK; clear hK K
  simp only [andThen]
  refine AW.cT rfl ?_
  refine AW.rT (by rfl) fun K hK => ?_
  simp -implicitDefEqProofs only [go_sem, ↓reduceIte, Nat.reduceAdd, Nat.reduceEqDiff]
  apply hK; clear hK K
  refine AW.ret ?_
  simp -implicitDefEqProofs only [go_sem, e]
 have q2 : (s.op == 2) = false := beq_eq_false_iff_ne.2 h2
 refine AW.rT (by rfl) fun K hK => ?_
 simp -implicitDefEqProofs only [go_sem, ↓reduceIte, Nat.reduceAdd, q1]
 apply hK; clear hK K
 refine AW.cF rfl ?_
 refine AW.rE (by rfl) fun K hK => ?_
 simp -implicitDefEqProofs only [go_sem, ↓reduceIte, Nat.reduceAdd, Nat.reduceEqDiff, q2]
 apply hK; clear hK K
 simp only [andThen]
 refine AW.cF rfl ?_
 refine AW.seq ?_
 have g1 : ((0 : Int) ≤ s.sub) = (0 ≤ s.sub) := rfl
 have e34 : (s.op = 3 ∨ s.op = 4) → stepB s n = decide (0 ≤ s.sub ∧ s.sub < n) := fun h => by
  unfold stepB
  rw [show decide (s.op = 1 ∨ s.op = 2) = false from decide_eq_false (by omega), show decide (s.op = 3 ∨ s.op = 4) = true from decide_eq_true h]
  rfl
 by_cases h3 : s.op = 3
 ·have q3 : (s.op == 3) = true := by simp [h3]
  have e := e34 (.inl h3)
  refine AW.rT (by rfl) fun K hK => ?_
  simp -implicitDefEqProofs only [go_sem, ↓reduceIte, Nat.reduceAdd, Nat.reduceEqDiff, q3]
  apply hK; clear hK K
  refine AW.cT rfl ?_
  refine AW.skip ?_
  simp only [andThen]
  refine AW.cT rfl ?_
  by_cases hs : 0 ≤ s.sub
  ·by_cases hlt : s.sub < n
   ·have e' : stepB s n = true := by rw [e]; exact decide_eq_true ⟨hs, hlt⟩
    refine AW.rT (by rfl) fun K hK => ?_
    simp -implicitDefEqProofs only [go_sem, ↓reduceIte, Nat.reduceAdd, Nat.reduceEqDiff, hs, hlt]
    apply hK; clear hK K
    refine AW.ret ?_
    simp -implicitDefEqProofs only [go_sem, e']
   ·have e' : stepB s n = false := by rw [e]; exact decide_eq_false (by omega)
    refine AW.rT (by rfl) fun K hK => ?_
    simp -implicitDefEqProofs only [go_sem, ↓reduceIte, Nat.reduceAdd, Nat.reduceEqDiff, hs, hlt]
    apply hK; clear hK K
    refine AW.ret ?_
    simp -implicitDefEqProofs only [go_sem, e']
  ·have e' : stepB s n = false := by rw [e]; exact decide_eq_false (by omega)
   refine AW.rT (by rfl) fun K hK => ?_
   simp -implicitDefEqProofs only [go_sem, ↓reduceIte, Nat.reduceAdd, Nat.reduceEqDiff, hs]
   apply hK; clear hK K
   refine AW.ret ?_
   simp -implicitDefEqProofs only [go_sem, e']
 have q3 : (s.op == 3) = false := beq_eq_false_iff_ne.2 h3
 by_cases h4 : s.op = 4
 ·have q4 : (s.op == 4) = true := by simp [h4]
  have e := e34 (.inr h4)
  refine AW.rT (by rfl) fun K hK => ?_
  simp -implicitDefEqProofs only [go_sem, ↓reduceIte, Nat.reduceAdd, Nat.reduceEqDiff, q3]
  apply hK; clear hK K
  refine AW.cF rfl ?_
  refine AW.rE (by rfl) fun K hK => ?_
  simp -implicitDefEqProofs only [go_sem, ↓reduceIte, Nat.reduceAdd, Nat.reduceEqDiff, q4]
  apply hK; clear hK K
  simp only [andThen]
  refine AW.cT rfl ?_
  by_cases hs : 0 ≤ s.sub
  ·by_cases hlt : s.sub < n
   ·have e' : stepB s n = true := by rw [e]; exact decide_eq_true ⟨hs, hlt⟩
    refine AW.rT (by rfl) fun K hK => ?_
    simp -implicitDefEqProofs only [go_sem, ↓reduceIte, Nat.reduceAdd, Nat.reduceEqDiff, hs, hlt]
    apply hK; clear hK K
    refine AW.ret ?_
    simp -implicitDefEqProofs only [go_sem, e']
   ·have e' : stepB s n = false := by rw [e]; exact decide_eq_false (by omega)
    refine AW.rT (by rfl) fun K hK => ?_
    simp -implicitDefEqProofs only [go_sem, ↓reduceIte, Nat.reduceAdd, Nat.reduceEqDiff, hs, hlt]
    apply hK; clear hK K
    refine AW.ret ?_
    simp -implicitDefEqProofs only [go_sem, e']
  ·have e' : stepB s n = false := by rw [e]; exact decide_eq_false (by omega)
   refine AW.rT (by rfl) fun K hK => ?_
   simp -implicitDefEqProofs only [go_sem, ↓reduceIte, Nat.reduceAdd, Nat.reduceEqDiff, hs]
   apply hK; clear hK K
   refine AW.ret ?_
   simp -implicitDefEqProofs only [go_sem, e']
 have q4 : (s.op == 4) = false := beq_eq_false_iff_ne.2 h4
 have e : stepB s n = false := by
  unfold stepB
  rw [show decide (s.op = 1 ∨ s.op = 2) = false from decide_eq_false (by omega), show decide (s.op = 3 ∨ s.op = 4) = false from decide_eq_false (by omega)]
  rfl
 refine AW.rT (by rfl) fun K hK => ?_
 simp -implicitDefEqProofs only [go_sem, ↓reduceIte, Nat.reduceAdd, Nat.reduceEqDiff, q3]
 apply hK; clear hK K
 refine AW.cF rfl ?_
 refine AW.rE (by rfl) fun K hK => ?_
 simp -implicitDefEqProofs only [go_sem, ↓reduceIte, Nat.reduceAdd, Nat.reduceEqDiff, q4]
 apply hK; clear hK K
 simp only [andThen]
 refine AW.cF rfl ?_
 refine AW.skip ?_
 simp only [andThen, inBlk]
 refine AW.rT (by rfl) fun K hK => ?_
 simp -implicitDefEqProofs only [go_sem, Nat.reduceAdd]
 apply hK; clear hK K
 refine AW.ret ?_
 simp -implicitDefEqProofs only [go_sem, e]
def adS (p : List (List Stp)) (l : List (Nat × AV)) : St := ⟨ofL ((1, .ptr 0 0 0) :: (19, .p (.slice (p.map encPt))) :: (20, .p (.int .i64 (p.length : Int))) :: l), ofH [(0, .row 1 [[.p (.slice (p.map encPt))]])], 1⟩
theorem prog_no {p : List (List Stp)} {x : List Stp} (hx : x ∈ p) (h : partB p.length 0 x = false) : progB p = false := by
 unfold progB
 rw [List.all_eq_false.2 ⟨x, hx, by rw [h]; exact Bool.false_ne_true⟩, Bool.and_false]
theorem adapt_Check (p : List (List Stp)) : PFn Tryd.prog 113 [.agg [.slice (p.map encPt)]] (.bool (progB p)) := by
 refine PFn.of Tryd.func113 rfl (by decide) Tryd.ntmps113 Tryd.results113 (Nat.le_of_ble_eq_true rfl) ?_
 simp only [argsT]
 refine AW.rT (by rfl) fun K hK => ?_
 simp -implicitDefEqProofs only [go_sem, Nat.reduceAdd]
 apply hK; clear hK K
 refine AW.seq ?_
 by_cases hz : p.length < 1
 ·have z1 : ((p.length : Int) < 1) = True := eq_true (by omega)
  have e : progB p = false := by unfold progB; rw [decide_eq_false (by omega)]; rfl
  refine AW.rT (by rfl) fun K hK => ?_
  simp -implicitDefEqProofs only [go_sem, ↓reduceIte, Nat.reduceAdd, Nat.reduceEqDiff, z1, List.length_map]
  apply hK; clear hK K
  refine AW.cT rfl ?_
  refine AW.rT (by rfl) fun K hK => ?_
  simp -implicitDefEqProofs only [go_sem, Nat.reduceAdd]
  apply hK; clear hK K
  refine AW.ret ?_
  simp -implicitDefEqProofs only [go_sem, e]
 have z1 : ((p.length : Int) < 1) = False := eq_false (by omega)
 by_cases hb : p.length > 100
 ·have b1 : ((p.length : Int) > 100) = True := eq_true (by omega)
  have e : progB p = false := by unfold progB; rw [decide_eq_false (by omega)]; rfl
  refine AW.rT (by rfl) fun K hK => ?_
  simp -implicitDefEqProofs only [go_sem, ↓reduceIte, Nat.reduceAdd, Nat.reduceEqDiff, z1, b1, List.length_map]
  apply hK; clear hK K
  refine AW.cT rfl ?_
  refine AW.rT (by rfl) fun K hK => ?_
  simp -implicitDefEqProofs only [go_sem, Nat.reduceAdd]
  apply hK; clear hK K
  refine AW.ret ?_
  simp -implicitDefEqProofs only [go_sem, e]
 have b1 : ((p.length : Int) > 100) = False := eq_false (by omega)
 refine AW.rT (by rfl) fun K hK => ?_
 simp -implicitDefEqProofs only [go_sem, ↓reduceIte, Nat.reduceAdd, Nat.reduceEqDiff, z1, b1, List.length_map]
 apply hK; clear hK K
 refine AW.cF rfl ?_
 refine AW.skip ?_
 simp only [andThen]
 refine AW.cut (fun _ : Unit => ⟨ofL [], ofH [], 0⟩) (fun _ => p.all (partB p.length 0) = true) ?_ fun _ qa => ?_
 rotate_left
 ·have e : progB p = true := by unfold progB; rw [qa, decide_eq_true (by omega)]; rfl
  refine AW.rT (by rfl) fun K hK => ?_
  simp -implicitDefEqProofs only [go_sem]
  apply hK; clear hK K
  refine AW.ret ?_
  simp -implicitDefEqProofs only [go_sem, e]
 refine AW.rT (by rfl) fun K hK => ?_
 simp -implicitDefEqProofs only [go_sem, ↓reduceIte, Nat.reduceAdd, Nat.reduceEqDiff, List.length_map]
 apply hK; clear hK K
 refine AW.block ?_
 refine AW.loop (fun i : Nat => adS p [(21, .p (.int .i64 (i : Int)))]) (fun i => i ≤ p.length ∧ (p.take i).all (partB p.length 0) = true) (fun i => p.length - i) 0 ?_ ⟨by omega, by simp⟩ fun i hi => ?_
 ·simp only [adS]
  refine Ghost.sub ?_ ?_ <;> simp -implicitDefEqProofs only [go_sem, ↓reduceIte, Nat.reduceEqDiff, List.forall_mem_cons, List.not_mem_nil, false_implies, implies_true, and_self, List.all_cons, List.all_nil, Nat.reduceLT, labsInL, AV.labsIn]
  all_goals first | rfl | decide | skip
 obtain ⟨i1, i2⟩ := hi
 simp only [adS]
 by_cases hil : i < p.length
 case neg =>
  have c1 : ((i : Int) < (p.length : Int)) = False := eq_false (by omega)
  rw [List.take_of_length_le (by omega)] at i2
  refine AW.rT (by rfl) fun K hK => ?_
  simp -implicitDefEqProofs only [go_sem, ↓reduceIte, Nat.reduceAdd, Nat.reduceEqDiff, c1]
  apply hK; clear hK K
  refine AW.seq ?_
  refine AW.cF rfl ?_
  refine AW.exit ?_
  simp only [andThen, inBlk, ↓reduceIte]
  refine ⟨(), i2, ?_⟩
  show Ghost _ _ ⟨ofL [], ofH [], 0⟩
  refine Ghost.sub ?_ ?_ <;> simp -implicitDefEqProofs only [go_sem, List.not_mem_nil, false_implies, implies_true]
 have c1 : ((i : Int) < (p.length : Int)) = True := eq_true (by omega)
 obtain ⟨x, hx⟩ : ∃ x, p[i]? = some x := ⟨_, List.getElem?_eq_getElem hil⟩
 have hxm := List.mem_of_getElem? hx
 have ⟨hm1, hm2, hm3⟩ := at_map' encPt hx
 have hm2' : (i : Int) < (p.length : Int) := by omega
 have w1 : IntKind.wrap .i64 ((i : Int) + 1) = ((i + 1 : Nat) : Int) := by rw [w64] <;> omega
 refine AW.rT (by rfl) fun K hK => ?_
 simp -implicitDefEqProofs only [go_sem, ↓reduceIte, Nat.reduceAdd, Nat.reduceEqDiff, c1]
 apply hK; clear hK K
 refine AW.seq ?_
 refine AW.cT rfl ?_
 refine AW.skip ?_
 simp only [andThen]
 refine AW.seq ?_
 refine AW.block ?_
 refine AW.rT (by rfl) fun K hK => ?_
 simp -implicitDefEqProofs only [go_sem, ↓reduceIte, Nat.reduceAdd, Nat.reduceEqDiff, hm1, hm2', hm3, encPt, List.length_map]
 apply hK; clear hK K
 refine AW.rT (by rfl) fun K hK => ?_
 simp -implicitDefEqProofs only [go_sem, Nat.reduceAdd]
 apply hK; clear hK K
 refine AW.rT (by rfl) fun K hK => ?_
 simp -implicitDefEqProofs only [go_sem, ↓reduceIte, Nat.reduceAdd, Nat.reduceEqDiff, List.length_map]
 apply hK; clear hK K
 refine AW.block ?_
 refine AW.loop (fun j : Nat => adS p [(21, .p (.int .i64 (i : Int))), (25, .p (.slice (x.map encSt))), (26, .p (.int .i64 (x.length : Int))), (27, .p (.int .i64 (j : Int))), (5, .p (.int .i64 (if j = 0 then 0 else (x[j - 1]?.map Stp.tag).getD 0)))]) (fun j => j ≤ x.length ∧ (j : Int) ≤ (if j = 0 then 0 else (x[j - 1]?.map Stp.tag).getD 0) ∧ (if j = 0 then 0 else (x[j - 1]?.map Stp.tag).getD 0) ≤ 500 ∧ partB p.length 0 x = partB p.length (if j = 0 then 0 else (x[j - 1]?.map Stp.tag).getD 0) (x.drop j)) (fun j => x.length - j) 0 ?_ ⟨by omega, by simp, by simp, by simp⟩ fun j hj => ?_
 ·simp only [adS]
  refine Ghost.sub ?_ ?_ <;> simp -implicitDefEqProofs only [go_sem, ↓reduceIte, Nat.reduceEqDiff, List.forall_mem_cons, List.not_mem_nil, false_implies, implies_true, and_self, List.all_cons, List.all_nil, Nat.reduceLT, labsInL, AV.labsIn]
  all_goals first | rfl | decide | skip
 obtain ⟨j1, j2, j3, j4⟩ := hj
 simp only [adS]
 generalize hla : (if j = 0 then (0 : Int) else (x[j - 1]?.map Stp.tag).getD 0) = la at *
 by_cases hjl : j < x.length
 case neg =>
  have c2 : ((j : Int) < (x.length : Int)) = False := eq_false (by omega)
  rw [List.drop_of_length_le (by omega)] at j4
  refine AW.rT (by rfl) fun K hK => ?_
  simp -implicitDefEqProofs only [go_sem, ↓reduceIte, Nat.reduceAdd, Nat.reduceEqDiff, c2]
  apply hK; clear hK K
  refine AW.seq ?_
  refine AW.cF rfl ?_
  refine AW.exit ?_
  simp only [andThen, inBlk, ↓reduceIte]
  refine AW.rE (by rfl) fun K hK => ?_
  simp -implicitDefEqProofs only [go_sem, ↓reduceIte, Nat.reduceAdd, Nat.reduceEqDiff, w1]
  apply hK; clear hK K
  refine ⟨i + 1, ⟨by omega, all_next hx i2 j4⟩, by omega, ?_⟩
  refine Ghost.sub ?_ ?_ <;> simp -implicitDefEqProofs only [go_sem, ↓reduceIte, Nat.reduceEqDiff, List.forall_mem_cons, List.not_mem_nil, false_implies, implies_true, and_self, List.all_cons, List.all_nil, Nat.reduceLT, labsInL, AV.labsIn]
 have c2 : ((j : Int) < (x.length : Int)) = True := eq_true (by omega)
 obtain ⟨s, hs⟩ : ∃ s, x[j]? = some s := ⟨_, List.getElem?_eq_getElem hjl⟩
 have ⟨hs1, hs2, hs3⟩ := at_map' encSt hs
 have hs2' : (j : Int) < (x.length : Int) := by omega
 have w2 : IntKind.wrap .i64 ((j : Int) + 1) = ((j + 1 : Nat) : Int) := by rw [w64] <;> omega
 have dj : x.drop j = s :: x.drop (j + 1) := by
  rw [List.drop_eq_getElem_cons hjl]
  rw [List.getElem?_eq_getElem hjl, Option.some.injEq] at hs
  rw [hs]
 rw [dj] at j4
 have jp : partB p.length la (s :: x.drop (j + 1)) = (stOK p.length la s && partB p.length s.tag (x.drop (j + 1))) := rfl
 rw [jp] at j4
 have so : stOK p.length la s = (decide (la < s.tag ∧ s.tag ≤ 500) && stepB s (p.length : Int)) := rfl
 have ST := adapt_step s (p.length : Int)
 simp only [encSt] at ST
 refine AW.rT (by rfl) fun K hK => ?_
 simp -implicitDefEqProofs only [go_sem, ↓reduceIte, Nat.reduceAdd, Nat.reduceEqDiff, c2]
 apply hK; clear hK K
 refine AW.seq ?_
 refine AW.cT rfl ?_
 refine AW.skip ?_
 simp only [andThen]
 refine AW.seq ?_
 refine AW.block ?_
 refine AW.rT (by rfl) fun K hK => ?_
 simp -implicitDefEqProofs only [go_sem, ↓reduceIte, Nat.reduceAdd, Nat.reduceEqDiff, Nat.reduceLeDiff, hs1, hs2', hs3, encSt, List.length_map]
 apply hK; clear hK K
 refine AW.seq ?_
 by_cases t1 : s.tag ≤ la
 ·have f1 : (s.tag ≤ la) = True := eq_true t1
  have e : progB p = false := prog_no hxm (by rw [j4, so, decide_eq_false (by omega)]; rfl)
  refine AW.rT (by rfl) fun K hK => ?_
  simp -implicitDefEqProofs only [go_sem, ↓reduceIte, Nat.reduceAdd, Nat.reduceEqDiff, f1]
  apply hK; clear hK K
  refine AW.cT rfl ?_
  refine AW.rT (by rfl) fun K hK => ?_
  simp -implicitDefEqProofs only [go_sem, Nat.reduceAdd]
  apply hK; clear hK K
  refine AW.ret ?_
  simp -implicitDefEqProofs only [go_sem, e]
 have f1 : (s.tag ≤ la) = False := eq_false t1
 by_cases t2 : s.tag > 500
 ·have f2 : (s.tag > 500) = True := eq_true t2
  have e : progB p = false := prog_no hxm (by rw [j4, so, decide_eq_false (by omega)]; rfl)
  refine AW.rT (by rfl) fun K hK => ?_
  simp -implicitDefEqProofs only [go_sem, ↓reduceIte, Nat.reduceAdd, Nat.reduceEqDiff, f1, f2]
  apply hK; clear hK K
  refine AW.cT rfl ?_
  refine AW.rT (by rfl) fun K hK => ?_
  simp -implicitDefEqProofs only [go_sem, Nat.reduceAdd]
  apply hK; clear hK K
  refine AW.ret ?_
  simp -implicitDefEqProofs only [go_sem, e]
 have f2 : (s.tag > 500) = False := eq_false t2
 cases hb : stepB s (p.length : Int) with
 | false =>
  rw [hb] at ST
  have e : progB p = false := prog_no hxm (by rw [j4, so, hb, Bool.and_false]; rfl)
  refine AW.rT (by rfl) fun K hK => ?_
  simp -implicitDefEqProofs only [go_sem, ↓reduceIte, Nat.reduceAdd, Nat.reduceEqDiff, Nat.reduceLeDiff, reduceCtorEq, f1, f2, List.length_map]
  refine ⟨.pure _, ST, ?_⟩
  try simp -implicitDefEqProofs only [go_sem, ↓reduceIte, Nat.reduceAdd, Nat.reduceEqDiff]
  apply hK; clear hK K
  refine AW.cT rfl ?_
  refine AW.rT (by rfl) fun K hK => ?_
  simp -implicitDefEqProofs only [go_sem, Nat.reduceAdd]
  apply hK; clear hK K
  refine AW.ret ?_
  simp -implicitDefEqProofs only [go_sem, e]
 | true =>
 rw [hb] at ST
 refine AW.rT (by rfl) fun K hK => ?_
 simp -implicitDefEqProofs only [go_sem, ↓reduceIte, Nat.reduceAdd, Nat.reduceEqDiff, Nat.reduceLeDiff, reduceCtorEq, f1, f2, List.length_map]
 refine ⟨.pure _, ST, ?_⟩
 try simp -implicitDefEqProofs only [go_sem, ↓reduceIte, Nat.reduceAdd, Nat.reduceEqDiff]
 apply hK; clear hK K
 refine AW.cF rfl ?_
 refine AW.skip ?_
 simp only [andThen]
 refine AW.rE (by rfl) fun K hK => ?_
 simp -implicitDefEqProofs only [go_sem, ↓reduceIte, Nat.reduceAdd, Nat.reduceEqDiff]
 apply hK; clear hK K
 refine AW.rE (by rfl) fun K hK => ?_
 simp -implicitDefEqProofs only [go_sem, ↓reduceIte, Nat.reduceAdd, Nat.reduceEqDiff, w2]
 apply hK; clear hK K
 have en : (if j + 1 = 0 then (0 : Int) else (x[j + 1 - 1]?.map Stp.tag).getD 0) = s.tag := by
  rw [if_neg (by omega), Nat.add_sub_cancel, hs]
  rfl
 refine ⟨j + 1, ⟨by omega, by rw [en]; omega, by rw [en]; omega, by rw [en, j4, so, hb, decide_eq_true (by omega)]; rfl⟩, by omega, ?_⟩
 rw [en]
 refine Ghost.sub ?_ ?_ <;> simp -implicitDefEqProofs only [go_sem, ↓reduceIte, Nat.reduceEqDiff, reduceCtorEq, List.forall_mem_cons, List.not_mem_nil, false_implies, implies_true, and_self, List.all_cons, List.all_nil, Nat.reduceLT, labsInL, AV.labsIn]
end Go.Aw
namespace Go.Aw.T
open Go.Proofs Go.RowKit
theorem interp_start (P : List (List Stp)) (t : Tr) (hlt : lensT t = true) : PFn Tryd.prog 80 [.agg [.slice (P.map encPt)], .agg (encTr t)] (.tuple [.agg (encTr (runP P t).1), .int .i64 (IntKind.wrap .i64 ((lookP P t : Nat) : Int)), .int .i64 (runP P t).2]) := by
 have C1 := adapt_Check P
 have C2 := value_Of t hlt
 have zz : encTr zeroTr = [.int .i64 0, .int .i64 0, .str [], .slice [], .slice []] := by rw [encTr_eq]; rfl
 have bad : progB P = false ∨ t.kind ≠ 3 ∨ okT t = false → runP P t = (zeroTr, 1) ∧ lookP P t = 0 := fun h => by
  unfold runP lookP
  rw [if_pos h, if_pos h]
  exact ⟨rfl, rfl⟩
 have w0 : IntKind.wrap .i64 ((0 : Nat) : Int) = 0 := by decide
 rw [encTr_eq t] at C2
 refine PFn.of Tryd.func80 rfl (by decide) Tryd.ntmps80 Tryd.results80 (Nat.le_of_ble_eq_true rfl) ?_
 simp only [argsT]
 refine AW.rT (by rfl) fun K hK => ?_
 simp -implicitDefEqProofs only [go_sem, ↓reduceIte, Nat.reduceAdd, Nat.reduceEqDiff, encTr_eq t]
 apply hK; clear hK K
 refine AW.seq ?_
 cases hp : progB P with
 | false =>
  rw [hp] at C1
  obtain ⟨b1, b2⟩ := bad (.inl hp)
  rw [b1, b2]
  refine AW.rT (by rfl) fun K hK => ?_
  simp -implicitDefEqProofs only [go_sem, ↓reduceIte, Nat.reduceAdd, Nat.reduceEqDiff, Nat.reduceLeDiff, reduceCtorEq]
  refine ⟨.pure _, C1, ?_⟩
  try simp -implicitDefEqProofs only [go_sem, ↓reduceIte, Nat.reduceAdd, Nat.reduceEqDiff]
  apply hK; clear hK K
  refine AW.cT rfl ?_
  refine AW.rT (by rfl) fun K hK => ?_
  simp -implicitDefEqProofs only [go_sem, ↓reduceIte, Nat.reduceAdd, Nat.reduceEqDiff, Nat.reduceLeDiff]
  apply hK; clear hK K
  refine AW.ret ?_
  simp -implicitDefEqProofs only [go_sem, ↓reduceIte, Nat.reduceAdd, Nat.reduceEqDiff, Nat.reduceLeDiff, zz, w0]
  done
 | true =>
 rw [hp] at C1
 by_cases h3 : t.kind = 3
 case neg =>
  have e3 : (t.kind != 3) = true := by simpa using h3
  obtain ⟨b1, b2⟩ := bad (.inr (.inl h3))
  rw [b1, b2]
  refine AW.rT (by rfl) fun K hK => ?_
  simp -implicitDefEqProofs only [go_sem, ↓reduceIte, Nat.reduceAdd, Nat.reduceEqDiff, Nat.reduceLeDiff, reduceCtorEq]
  refine ⟨.pure _, C1, ?_⟩
  try simp -implicitDefEqProofs only [go_sem, ↓reduceIte, Nat.reduceAdd, Nat.reduceEqDiff, e3]
  apply hK; clear hK K
  refine AW.cT rfl ?_
  refine AW.rT (by rfl) fun K hK => ?_
  simp -implicitDefEqProofs only [go_sem, ↓reduceIte, Nat.reduceAdd, Nat.reduceEqDiff, Nat.reduceLeDiff]
  apply hK; clear hK K
  refine AW.ret ?_
  simp -implicitDefEqProofs only [go_sem, ↓reduceIte, Nat.reduceAdd, Nat.reduceEqDiff, Nat.reduceLeDiff, zz, w0]
  done
 have e3 : (t.kind != 3) = false := by simp [h3]
 refine AW.rT (by rfl) fun K hK => ?_
 simp -implicitDefEqProofs only [go_sem, ↓reduceIte, Nat.reduceAdd, Nat.reduceEqDiff, Nat.reduceLeDiff, reduceCtorEq]
 refine ⟨.pure _, C1, ?_⟩
 try simp -implicitDefEqProofs only [go_sem, ↓reduceIte, Nat.reduceAdd, Nat.reduceEqDiff, e3]
 apply hK; clear hK K
 refine AW.cF rfl ?_
 refine AW.skip ?_
 simp only [andThen]
 cases ho : okT t with
 | false =>
  rw [ho] at C2
  obtain ⟨b1, b2⟩ := bad (.inr (.inr ho))
  rw [b1, b2]
  have o1 : (ofV t).one = true := by unfold ofV; rw [ho]; rfl
  refine AW.rT (by rfl) fun K hK => ?_
  simp -implicitDefEqProofs only [go_sem, ↓reduceIte, Nat.reduceAdd, Nat.reduceEqDiff, Nat.reduceLeDiff]
  refine ⟨.pure _, C2, ?_⟩
  try simp -implicitDefEqProofs only [go_sem, ↓reduceIte, Nat.reduceAdd, Nat.reduceEqDiff, Nat.reduceLeDiff]
  try refine ⟨o1, ?_⟩
  apply hK; clear hK K
  refine AW.seq ?_
  refine AW.rT (by rfl) fun K hK => ?_
  simp -implicitDefEqProofs only [go_sem, Nat.reduceAdd]
  apply hK; clear hK K
  refine AW.cT rfl ?_
  refine AW.rT (by rfl) fun K hK => ?_
  simp -implicitDefEqProofs only [go_sem, ↓reduceIte, Nat.reduceAdd, Nat.reduceEqDiff, Nat.reduceLeDiff]
  apply hK; clear hK K
  refine AW.ret ?_
  simp -implicitDefEqProofs only [go_sem, ↓reduceIte, Nat.reduceAdd, Nat.reduceEqDiff, Nat.reduceLeDiff, zz, w0]
  done
 | true =>
 rw [ho] at C2
 have hV : ofV t = encIn (.node (ndV t)) := by
  unfold ofV
  rw [if_pos ho, encV_eq, if_neg (by omega), if_neg (by omega)]
  rfl
 rw [hV] at C2
 have o1 : (encIn (.node (ndV t))).one = true := rfl
 have C3 := value_MustNode (ndV t)
 have hi : 0 < P.length := by
  unfold progB at hp
  rw [Bool.and_eq_true, decide_eq_true_eq] at hp
  omega
 have C4 := interp_part P hp t hlt (ok_right ho) 0 0 hi (by decide)
 have RP : runP P t = (runF P t 0, 0) := by unfold runP; rw [if_neg (by rw [hp, ho]; simp [h3])]
 have LP : lookP P t = lookF P t 0 := by unfold lookP; rw [if_neg (by rw [hp, ho]; simp [h3])]
 rw [RP, LP]
 rw [show ((0 : Nat) : Int) = 0 from rfl, Int.zero_add] at C4
 generalize runF P t 0 = z at C4
 generalize IntKind.wrap .i64 ((lookF P t 0 : Nat) : Int) = n at C4
 rw [encTr_eq z] at C4 ⊢
 simp only [encIn] at C2 C3 o1
 refine AW.rT (by rfl) fun K hK => ?_
 simp -implicitDefEqProofs only [go_sem, ↓reduceIte, Nat.reduceAdd, Nat.reduceEqDiff, Nat.reduceLeDiff]
 refine ⟨.pure _, C2, ?_⟩
 try simp -implicitDefEqProofs only [go_sem, ↓reduceIte, Nat.reduceAdd, Nat.reduceEqDiff, Nat.reduceLeDiff]
 try refine ⟨o1, ?_⟩
 apply hK; clear hK K
 refine AW.seq ?_
 refine AW.rT (by rfl) fun K hK => ?_
 simp -implicitDefEqProofs only [go_sem, Nat.reduceAdd]
 apply hK; clear hK K
 refine AW.cF rfl ?_
 refine AW.skip ?_
 simp only [andThen]
 refine AW.rT (by rfl) fun K hK => ?_
 simp -implicitDefEqProofs only [go_sem, ↓reduceIte, Nat.reduceAdd, Nat.reduceEqDiff, Nat.reduceLeDiff, reduceCtorEq]
 apply hK; clear hK K
 refine AW.rR (SeqR.ev 3 (by rfl) (by decide) ?_)
 simp -implicitDefEqProofs only [go_sem, ↓reduceIte, Nat.reduceAdd, Nat.reduceEqDiff, Nat.reduceLeDiff]
 refine ⟨.pure _, C3, ?_⟩
 try simp -implicitDefEqProofs only [go_sem, Nat.reduceAdd]
 refine SeqR.call (fun k => 25) rfl rfl C4 ⟨?_, rfl, ?_, rfl, rfl, rfl, rfl, rfl, rfl⟩ ?_
 ·simp -implicitDefEqProofs only [go_sem, ↓reduceIte, Nat.reduceEqDiff, argD]
  done
 ·simp only [memR]
  simp -implicitDefEqProofs only [go_sem, List.forall_mem_cons, List.not_mem_nil, false_implies, implies_true]
  first | done | decide | exact ⟨rfl, by decide⟩
 simp only [memR, AV.ren]
 refine SeqR.ev 2 (by rfl) (by decide) ?_
 simp -implicitDefEqProofs only [go_sem, ↓reduceIte, Nat.reduceAdd, Nat.reduceEqDiff, Nat.reduceLeDiff, lift2, goneU, newU, List.map_cons, List.map_nil, putH, Nat.reduceLT]
 refine SeqR.last rfl ?_
 refine AW.dT mixed (by rfl) (by decide +kernel) fun K hK => ?_
 simp -implicitDefEqProofs only [go_sem, ↓reduceIte, Nat.reduceAdd, Nat.reduceEqDiff, Nat.reduceLeDiff]
 refine ⟨by decide +kernel, ?_⟩
 apply hK; clear hK K
 refine AW.ret ?_
 simp -implicitDefEqProofs only [go_sem, ↓reduceIte, Nat.reduceAdd, Nat.reduceEqDiff, Nat.reduceLeDiff]
 done
theorem interp_Run (P : List (List Stp)) (t : Tr) (hlt : lensT t = true) : PFn Tryd.prog 52 [.agg [.slice (P.map encPt)], .agg (encTr t)] (.tuple [.agg (encTr (runP P t).1), .int .i64 (runP P t).2]) := by
 have C1 := interp_start P t hlt
 generalize (runP P t).1 = z at *
 generalize (runP P t).2 = e at *
 rw [encTr_eq z, encTr_eq t] at C1
 refine PFn.of Tryd.func52 rfl (by decide) Tryd.ntmps52 Tryd.results52 (Nat.le_of_ble_eq_true rfl) ?_
 simp only [argsT]
 refine AW.rT (by rfl) fun K hK => ?_
 simp -implicitDefEqProofs only [go_sem, ↓reduceIte, Nat.reduceAdd, Nat.reduceEqDiff, encTr_eq t]
 apply hK; clear hK K
 refine AW.rT (by rfl) fun K hK => ?_
 simp -implicitDefEqProofs only [go_sem, ↓reduceIte, Nat.reduceAdd, Nat.reduceEqDiff, Nat.reduceLeDiff, reduceCtorEq]
 refine ⟨.pure _, C1, ?_⟩
 try simp -implicitDefEqProofs only [go_sem, ↓reduceIte, Nat.reduceAdd, Nat.reduceEqDiff, Nat.reduceLeDiff]
 apply hK; clear hK K
 refine AW.rT (by rfl) fun K hK => ?_
 simp -implicitDefEqProofs only [go_sem, ↓reduceIte, Nat.reduceAdd, Nat.reduceEqDiff, Nat.reduceLeDiff]
 apply hK; clear hK K
 refine AW.ret ?_
 simp -implicitDefEqProofs only [go_sem, ↓reduceIte, Nat.reduceAdd, Nat.reduceEqDiff, Nat.reduceLeDiff, encTr_eq z]
 done
end Go.Aw.T
namespace Go.Aw.T
open Go.Proofs Go.RowKit
def awT : Tr := .mk 3 0 [] [(1, [.mk 1 1099511627776 [] [] []])] []
theorem aw_0 : runP [[]] awT = (.mk 3 0 [] [] [], 0) := by rfl
theorem aw_1 : runP [[⟨2, 1, 0⟩]] awT = (.mk 3 0 [] [(1, [.mk 1 2147483647 [] [] []])] [], 0) := by rfl
theorem aw_l : lensT awT = true := by rfl
def a16 (L : List (Nat × AV)) (H : List (Nat × Blk)) (n : Nat) : St := ⟨ofL ((1, .ptr 0 0 0) :: L), ofH ((0, .row 5 [cellsT awT]) :: H), n⟩
def aE : List (List PV) := [[.int .i64 1, .slice [[.int .i64 1, .int .i64 1099511627776, .str [], .slice [], .slice []]]]]
theorem law16_awake : PFn Tryd.prog 50 [] (.bool true) := by
 have C0 := interp_Run [[]] awT aw_l
 have C1 := interp_Run [[⟨2, 1, 0⟩]] awT aw_l
 rw [aw_0] at C0
 rw [aw_1] at C1
 refine PFn.of Tryd.func50 rfl (by decide) Tryd.ntmps50 Tryd.results50 (Nat.le_of_ble_eq_true rfl) ?_
 simp only [argsT]
 refine AW.rT (by rfl) fun K hK => ?_
 simp -implicitDefEqProofs only [go_sem]
 apply hK; clear hK K
 refine AW.rT (by rfl) fun K hK => ?_
 simp -implicitDefEqProofs only [go_sem, ↓reduceIte, Nat.reduceAdd, Nat.reduceMul, Nat.reduceEqDiff, Nat.reduceLeDiff]
 apply hK; clear hK K
 refine AW.ghost (s' := ⟨ofL [(1, .ptr 6 0 0)], ofH [(4, .row 2 [[.p (.int .i64 1), .p (.slice [[.int .i64 1, .int .i64 1099511627776, .str [], .slice [], .slice []]])]]), (6, .row 5 [[.p (.int .i64 3), .p (.int .i64 0), .p (.str []), .own 4, .ex []]])], 7⟩) (Ghost.trans (Ghost.exH (l := 2) (i := 0) (j := 3) rfl rfl rfl) (Ghost.trans (Ghost.exH (l := 2) (i := 0) (j := 4) rfl rfl rfl) (Ghost.trans (Ghost.freeze (lb := 2) (ps := [[.int .i64 1, .int .i64 1099511627776, .str [], .slice [], .slice []]]) rfl (by rfl)) ?_))) ?_
 ·refine Ghost.sub ?_ ?_ <;> simp -implicitDefEqProofs only [go_sem, ↓reduceIte, Nat.reduceEqDiff, thaw, thaw1, Option.map_some, List.map_cons, List.map_nil, List.set_cons_zero, List.set_cons_succ, List.forall_mem_cons, List.not_mem_nil, false_implies, implies_true, and_self, List.all_cons, List.all_nil, Nat.reduceLT, labsInL, AV.labsIn]
  all_goals first | rfl | skip
 refine AW.ghost (s' := ⟨ofL [(1, .ptr 6 0 0)], ofH [(6, .row 5 [[.p (.int .i64 3), .p (.int .i64 0), .p (.str []), .p (.slice aE), .ex []]])], 7⟩) (Ghost.trans (Ghost.freeze (lb := 4) (ps := aE) rfl (by rfl)) ?_) ?_
 ·refine Ghost.sub ?_ ?_ <;> simp -implicitDefEqProofs only [go_sem, ↓reduceIte, Nat.reduceEqDiff, thaw, thaw1, Option.map_some, List.map_cons, List.map_nil, List.forall_mem_cons, List.not_mem_nil, false_implies, implies_true, and_self, List.all_cons, List.all_nil, Nat.reduceLT, labsInL, AV.labsIn]
  all_goals first | rfl | skip
 refine AW.ghost (s' := a16 [] [] 1) (Ghost.trans (Ghost.exH (l := 6) (i := 0) (j := 4) rfl rfl rfl) ?_) ?_
 ·simp only [a16, cellsT, awT, Tr.kind, Tr.n, Tr.s, Tr.ents, Tr.rest, List.map_cons, List.map_nil, encEn, encTr_eq]
  refine Ghost.ent (fun l => if l = 0 then 6 else l) ?_ ?_ ?_ <;> simp -implicitDefEqProofs only [go_sem, ↓reduceIte, List.set_cons_zero, List.set_cons_succ, List.forall_mem_cons, List.not_mem_nil, false_implies, implies_true, and_self, List.all_cons, List.all_nil, Nat.reduceLT, labsInL, AV.labsIn]
  all_goals first | rfl | skip
 have ea : encTr awT = [.int .i64 3, .int .i64 0, .str [], .slice (awT.ents.map encEn), .slice (awT.rest.map encRaw)] := encTr_eq awT
 rw [ea] at C0 C1
 simp only [a16, cellsT, show awT.kind = 3 from rfl, show awT.n = 0 from rfl, show awT.s = [] from rfl]
 generalize awT.ents.map encEn = Es at *
 generalize awT.rest.map encRaw = Rs at *
 rw [encTr_eq] at C0 C1
 simp only [List.map_cons, List.map_nil, encPt, encSt, encEn, encTr_eq, Tr.kind, Tr.n, Tr.s, Tr.ents, Tr.rest] at C0 C1
 refine AW.rR (SeqR.ev 3 (by rfl) (by decide) ?_)
 simp -implicitDefEqProofs only [go_sem, ↓reduceIte, Nat.reduceAdd, Nat.reduceMul, Nat.reduceLeDiff]
 refine SeqR.ghost (s' := ⟨ofL [(1, .ptr 0 0 0), (14, .agg [.own 2])], ofH [(0, .row 5 [[.p (.int .i64 3), .p (.int .i64 0), .p (.str []), .p (.slice Es), .p (.slice Rs)]]), (2, .row 1 [[.p (.slice [])]])], 3⟩) (Ghost.trans (Ghost.freeze (lb := 1) (ps := []) rfl (by rfl)) ?_) ?_
 ·refine Ghost.sub ?_ ?_ <;> simp -implicitDefEqProofs only [go_sem, ↓reduceIte, Nat.reduceEqDiff, reduceCtorEq, thaw, thaw1, Option.map_some, List.map_cons, List.map_nil, List.forall_mem_cons, List.not_mem_nil, false_implies, implies_true, and_self, List.all_cons, List.all_nil, Nat.reduceLT, labsInL, AV.labsIn]
  all_goals first | rfl | skip
 refine SeqR.ghost (s' := ⟨ofL [(1, .ptr 0 0 0), (14, .p (.agg [.slice [[.slice []]]]))], ofH [(0, .row 5 [[.p (.int .i64 3), .p (.int .i64 0), .p (.str []), .p (.slice Es), .p (.slice Rs)]])], 1⟩) (Ghost.trans (Ghost.freeze (lb := 2) (ps := [[.slice []]]) rfl (by rfl)) ?_) ?_
 ·refine Ghost.sub ?_ ?_ <;> simp -implicitDefEqProofs only [go_sem, ↓reduceIte, Nat.reduceEqDiff, reduceCtorEq, thaw, thaw1, Option.map_some, List.map_cons, List.map_nil, mkAgg, allP, List.forall_mem_cons, List.not_mem_nil, false_implies, implies_true, and_self, List.all_cons, List.all_nil, Nat.reduceLT, labsInL, AV.labsIn]
  all_goals first | rfl | skip
 refine SeqR.ev 8 (by rfl) (by decide) ?_
 simp -implicitDefEqProofs only [go_sem, ↓reduceIte, Nat.reduceAdd, Nat.reduceEqDiff, Nat.reduceLeDiff]
 refine ⟨.pure _, C0, ?_⟩
 try simp -implicitDefEqProofs only [go_sem, ↓reduceIte, Nat.reduceAdd, Nat.reduceEqDiff, Nat.reduceLeDiff]
 refine SeqR.last rfl ?_
 refine AW.ghost (s' := ⟨ofL [(1, .ptr 0 0 0), (2, .ptr 1 0 0), (3, .p (.int .i64 0))], ofH [(0, .row 5 [[.p (.int .i64 3), .p (.int .i64 0), .p (.str []), .p (.slice Es), .p (.slice Rs)]]), (1, .row 5 [[.p (.int .i64 3), .p (.int .i64 0), .p (.str []), .p (.slice []), .p (.slice [])]])], 2⟩) ?_ ?_
 ·show Ghost _ _ _
  refine Ghost.ent (fun l => if l = 1 then 6 else l) ?_ ?_ ?_ <;> simp -implicitDefEqProofs only [go_sem, ↓reduceIte, Nat.reduceEqDiff, reduceCtorEq, List.forall_mem_cons, List.not_mem_nil, false_implies, implies_true, and_self, List.all_cons, List.all_nil, Nat.reduceLT, labsInL, AV.labsIn]
  all_goals first | rfl | skip
 refine AW.rR (SeqR.ev 4 (by rfl) (by decide) ?_)
 simp -implicitDefEqProofs only [go_sem, ↓reduceIte, Nat.reduceAdd, Nat.reduceMul, Nat.reduceLeDiff]
 refine SeqR.ghost (s' := ⟨ofL [(1, .ptr 0 0 0), (2, .ptr 1 0 0), (3, .p (.int .i64 0)), (23, .agg [.own 4])], ofH [(0, .row 5 [[.p (.int .i64 3), .p (.int .i64 0), .p (.str []), .p (.slice Es), .p (.slice Rs)]]), (1, .row 5 [[.p (.int .i64 3), .p (.int .i64 0), .p (.str []), .p (.slice []), .p (.slice [])]]), (4, .row 1 [[.p (.slice [[.int .i64 2, .int .i64 1, .int .i64 0]])]])], 5⟩) (Ghost.trans (Ghost.freeze (lb := 3) (ps := [[.int .i64 2, .int .i64 1, .int .i64 0]]) rfl (by rfl)) ?_) ?_
 ·refine Ghost.sub ?_ ?_ <;> simp -implicitDefEqProofs only [go_sem, ↓reduceIte, Nat.reduceEqDiff, reduceCtorEq, thaw, thaw1, Option.map_some, List.map_cons, List.map_nil, List.forall_mem_cons, List.not_mem_nil, false_implies, implies_true, and_self, List.all_cons, List.all_nil, Nat.reduceLT, labsInL, AV.labsIn]
  all_goals first | rfl | skip
 refine SeqR.ghost (s' := ⟨ofL [(1, .ptr 0 0 0), (2, .ptr 1 0 0), (3, .p (.int .i64 0)), (23, .p (.agg [.slice [[.slice [[.int .i64 2, .int .i64 1, .int .i64 0]]]]]))], ofH [(0, .row 5 [[.p (.int .i64 3), .p (.int .i64 0), .p (.str []), .p (.slice Es), .p (.slice Rs)]]), (1, .row 5 [[.p (.int .i64 3), .p (.int .i64 0), .p (.str []), .p (.slice []), .p (.slice [])]])], 2⟩) (Ghost.trans (Ghost.freeze (lb := 4) (ps := [[.slice [[.int .i64 2, .int .i64 1, .int .i64 0]]]]) rfl (by rfl)) ?_) ?_
 ·refine Ghost.sub ?_ ?_ <;> simp -implicitDefEqProofs only [go_sem, ↓reduceIte, Nat.reduceEqDiff, reduceCtorEq, thaw, thaw1, Option.map_some, List.map_cons, List.map_nil, mkAgg, allP, List.forall_mem_cons, List.not_mem_nil, false_implies, implies_true, and_self, List.all_cons, List.all_nil, Nat.reduceLT, labsInL, AV.labsIn]
  all_goals first | rfl | skip
 refine SeqR.ev 8 (by rfl) (by decide) ?_
 simp -implicitDefEqProofs only [go_sem, ↓reduceIte, Nat.reduceAdd, Nat.reduceEqDiff, Nat.reduceLeDiff]
 refine ⟨.pure _, C1, ?_⟩
 try simp -implicitDefEqProofs only [go_sem, ↓reduceIte, Nat.reduceAdd, Nat.reduceEqDiff, Nat.reduceLeDiff]
 refine SeqR.last rfl ?_
 have e0 : ((0 : Int) == 0) = true := rfl
 have e1 : (((0 : Nat) : Int) == 0) = true := rfl
 have e2 : (((1 : Nat) : Int) == 1) = true := rfl
 have e3 : ((2147483647 : Int) == 2147483647) = true := rfl
 have e4 : (0 : Int) < ((1 : Nat) : Int) := by decide
 refine AW.rT (by rfl) fun K hK => ?_
 simp -implicitDefEqProofs only [go_sem, ↓reduceIte, Nat.reduceAdd, Nat.reduceEqDiff, Int.reduceToNat, e0, e1, e2, e3, e4, Int.le_refl, List.getD_cons_zero, List.getElem?_cons_zero, List.length_cons, List.length_nil]
 apply hK; clear hK K
 refine AW.ret ?_
 simp -implicitDefEqProofs only [go_sem]
 done
end Go.Aw.T
namespace Go.Aw
open Go.Proofs Go.RowKit
theorem eq129 (x y : Pr) (w : World) : (Op.equalIn 10000 126 (.agg #[.string ⟨⟨x.o⟩⟩, .string ⟨⟨x.n⟩⟩]) (.agg #[.string ⟨⟨y.o⟩⟩, .string ⟨⟨y.n⟩⟩])).run Tryd.prog w = .ok (decide (x = y)) w := by
 have u3 := Tryd.underlying3
 have u9 := Tryd.underlying9
 have a3 := Tryd.isAgg3
 have a9 := Tryd.isAgg9
 have z3 := Tryd.sizeOf3
 have z9 := Tryd.sizeOf9
 have hS : Tryd.prog.underlying 126 = some (.struct (Tryd.prog.fieldsOf 126)) := by kernel_rfl
 have hp : Tryd.prog.stoodInHeld 126 = false := by kernel_rfl
 rw [show (10000 : Nat) = 9999 + 1 from rfl, run_equalIn_agg w 9999 126 _ _ hS hp]
 simp only [Program.fieldsOf, Tryd.underlying126]
 go_simp
 obtain ⟨a0, a1⟩ := x
 obtain ⟨b0, b1⟩ := y
 simp only [Pr.mk.injEq]
 by_cases h0 : a0 = b0 <;> by_cases h1 : a1 = b1 <;> simp [h0, h1]
theorem keyQ (a b : List UInt8) : KeyT Tryd.prog 126 (.agg [.str a, .str b]) := by
 refine key_pair Tryd.underlying126 (fun a b e w => ?_) (fun a b c d w => ?_) a b
 ·have u9 := Tryd.underlying9
  have u129 := Tryd.underlying126
  have a9 := Tryd.isAgg9
  have z9 := Tryd.sizeOf9
  have ck : ∀ (x : List UInt8) w, (Instr.checkKey e 9999 9 (.string ⟨⟨x⟩⟩)).run Tryd.prog w = .ok () w := fun x w => by
   rw [show (9999 : Nat) = 9998 + 1 from rfl]
   unfold Instr.checkKey
   go_simp
  rw [show (10000 : Nat) = 9999 + 1 from rfl]
  unfold Instr.checkKey
  go_simp
 ·have h := eq129 ⟨a, b⟩ ⟨c, d⟩ w
  simp only at h
  have e : decide ((⟨a, b⟩ : Pr) = ⟨c, d⟩) = (a == c && b == d) := by
   rw [Bool.eq_iff_iff]; simp
  rw [e] at h
  exact h
def mQ (l : List Pr) : List (PV × AV) := l.zipIdx.map fun x => (.agg [.str x.1.o, .str x.1.n], .p (.int .i64 (x.2 : Int)))
theorem key_pr (p : Pr) (a : Pr × Nat) : keyEq (.agg [.str p.o, .str p.n]) (.agg [.str a.1.o, .str a.1.n]) = some (p == a.1) := by
 simp only [keyEq]
 congr 1
 rw [Bool.eq_iff_iff]
 obtain ⟨a, k⟩ := a
 cases p; cases a
 simp
theorem mQ_no {l : List Pr} {p : Pr} (h : p ∉ l) : MapAt (mQ l) (.agg [.str p.o, .str p.n]) none :=
 mapAt_none (q := fun a : Pr × Nat => p == a.1) (key_pr p) (List.any_eq_false.2 fun x hx e => by
  obtain ⟨a, k⟩ := x
  have := List.mem_zipIdx hx
  refine h ?_
  rw [beq_iff_eq.1 e]
  rw [this.2.2]
  exact List.getElem_mem _)
theorem mQ_yes {l : List Pr} {p : Pr} (h : p ∈ l) : MapAt (mQ l) (.agg [.str p.o, .str p.n]) (some (placeP l p, .p (.int .i64 (placeP l p : Int)))) := by
 obtain ⟨h1, h2⟩ := place_yes h
 refine mapAt_some (l := l.zipIdx) (f := fun x => (.agg [.str x.1.o, .str x.1.n], .p (.int .i64 (x.2 : Int)))) (q := fun a : Pr × Nat => p == a.1) (key_pr p) (i := placeP l p) (a := (p, placeP l p)) ?_ (by simp) fun j b hj hb => ?_
 ·rw [List.getElem?_zipIdx, h2]
  simp
 ·rw [List.getElem?_zipIdx, Option.map_eq_some_iff] at hb
  obtain ⟨y, hy, rfl⟩ := hb
  have := List.not_of_lt_findIdx (p := fun x => x == p) (xs := l) (i := j) hj
  have jl : j < l.length := (List.getElem?_eq_some_iff.1 hy).1
  rw [List.getElem?_eq_getElem jl, Option.some.injEq] at hy
  rw [hy] at this
  simp only [beq_eq_false_iff_ne]
  intro e
  rw [← e] at this
  simp at this
theorem mQ_add (l : List Pr) (p : Pr) : mQ l ++ [(.agg [.str p.o, .str p.n], .p (.int .i64 (l.length : Int)))] = mQ (l ++ [p]) := by
 unfold mQ
 rw [List.zipIdx_append, List.map_append]
 simp
theorem mQ_ren (l : List Pr) (ρ : Nat → Nat) : (mQ l).map (fun e => (e.1, AV.ren ρ e.2)) = mQ l := by
 simp [mQ, AV.ren]
theorem mQ_labs (l : List Pr) (n : Nat) : (mQ l).all (fun e => AV.labsIn n e.2) = true := by
 simp [mQ, AV.labsIn]
attribute [go_sem] mQ_ren mQ_labs
def rowA (S U : Sc) (a b : Nat) : List AV := [.p (.str S.name), .p (.slice (S.msgs.map encMs)), .p (.slice (S.enums.map encEn)), .p (.slice (S.meths.map encMt)), .p (.str U.name), .p (.slice (U.msgs.map encMs)), .p (.slice (U.enums.map encEn)), .p (.slice (U.meths.map encMt)), .own a, .map b]
def memA (S U : Sc) (l : List Pr) (r a b : Nat) : List (Nat × Blk) := [(r, .row 10 [rowA S U a b]), (a, .row 2 (liftE (l.map encPr))), (b, .map (mQ l))]
theorem partEnd {S U : Sc} {l0 l : List Pr} {b : Int} {rs : Array ResultVar} {args : List AV} {s : St} (ha : args[0]? = some (.ptr 0 0 0)) (hs : s.T 0 = some (.ptr 0 0 0)) (h0 : s.H 0 = some (.row 10 [rowA S U 1 2])) (h1 : s.H 1 = some (.row 2 (liftE (l.map encPr)))) (h2 : s.H 2 = some (.map (mQ l))) (hr : resD Tryd.prog s rs.toList [.p (.int .i64 b)]) :
  EndD Tryd.prog rs args (memA S U l0 0 1 2) 3 [0] (.p (.int .i64 b)) (memA S U l 0 3 4) 2 [0] .ret s := by
 refine ⟨fun k => if k = 0 then 0 else k - 2, [.p (.int .i64 b)], hr, rfl, rfl, ?_, ?_, ?_⟩
 ·simp only [memA, rowA] at h0 ⊢
  simp -implicitDefEqProofs only [go_sem, ↓reduceIte, Nat.reduceAdd, reduceCtorEq, List.forall_mem_cons, List.not_mem_nil, false_implies, implies_true, Nat.reduceSub, h0, h1, h2]
  first | done | decide
 ·simp [memA]
 ·intro k hk'
  simp at hk'
  subst hk'
  exact ⟨by decide, .inl ⟨0, 0, 0, 10, _, _, by simp, ha, hs, rfl, rfl, rfl, by decide⟩⟩
def adZ9 (S U : Sc) (l : List Pr) (m : List (Nat × AV)) : St := ⟨ofL ((0, .ptr 0 0 0) :: m), ofH (memA S U l 0 1 2), 3⟩
theorem adapt_part (S U : Sc) (l : List Pr) (p : Pr) (hl : l.length ≤ 1000000) : DFn Tryd.prog 78 [.ptr 0 0 0, .p (.agg (encPr p))] (memA S U l 0 1 2) 3 [0] (.p (.int .i64 (placeP l p : Int))) (memA S U (addP l p) 0 3 4) 2 := by
 refine DFn.of [0] Tryd.func78 rfl (by decide) Tryd.ntmps78 Tryd.results78 (Nat.le_of_ble_eq_true rfl) (by simp) fun val => ?_
 simp only [avT, memA, rowA, encPr]
 refine AW.rT (by rfl) fun K hK => ?_
 simp -implicitDefEqProofs only [go_sem, ↓reduceIte, Nat.reduceAdd]
 apply hK; clear hK K
 by_cases hk : p ∈ l
 ·have hm := mQ_yes hk
  refine AW.dT mixed (by rfl) (by decide +kernel) fun K hK => ?_
  simp -implicitDefEqProofs only [go_sem, ↓reduceIte, Nat.reduceAdd, Nat.reduceEqDiff, Nat.reduceLeDiff, reduceCtorEq]
  refine ⟨keyQ p.o p.n, _, hm, _, rfl, ?_⟩
  try simp -implicitDefEqProofs only [go_sem]
  refine ⟨heapOK_nil rfl, ?_⟩
  apply hK; clear hK K
  have e : addP l p = l := by unfold addP; rw [if_pos (List.contains_iff_mem.2 hk)]
  refine AW.seq ?_
  refine AW.rT (by rfl) fun K hK => ?_
  simp -implicitDefEqProofs only [go_sem, Nat.reduceAdd]
  apply hK; clear hK K
  refine AW.cF rfl ?_
  refine AW.skip ?_
  simp only [andThen]
  refine AW.rT (by rfl) fun K hK => ?_
  simp -implicitDefEqProofs only [go_sem, ↓reduceIte, Nat.reduceAdd, Nat.reduceEqDiff]
  apply hK; clear hK K
  rw [e]
  refine AW.ret (partEnd rfl ?_ ?_ ?_ ?_ ⟨?_, trivial⟩) <;> simp -implicitDefEqProofs only [go_sem, ↓reduceIte, Nat.reduceEqDiff, reduceCtorEq, rowA]
 ·have hm := mQ_no hk
  refine AW.dT mixed (by rfl) (by decide +kernel) fun K hK => ?_
  simp -implicitDefEqProofs only [go_sem, ↓reduceIte, Nat.reduceAdd, Nat.reduceEqDiff, Nat.reduceLeDiff, reduceCtorEq]
  refine ⟨keyQ p.o p.n, _, hm, _, rfl, ?_⟩
  try simp -implicitDefEqProofs only [go_sem]
  refine ⟨heapOK_nil rfl, ?_⟩
  apply hK; clear hK K
  have e : addP l p = l ++ [p] := by unfold addP; rw [if_neg fun h => hk (List.contains_iff_mem.1 h)]
  have eP : placeP l p = l.length := place_no hk
  refine AW.seq ?_
  refine AW.rT (by rfl) fun K hK => ?_
  simp -implicitDefEqProofs only [go_sem, Nat.reduceAdd]
  apply hK; clear hK K
  refine AW.cT rfl ?_
  refine AW.rT (by rfl) fun K hK => ?_
  simp -implicitDefEqProofs only [go_sem, ↓reduceIte, Nat.reduceAdd, Nat.reduceEqDiff, reduceCtorEq, liftE_length, List.length_map]
  apply hK; clear hK K
  refine AW.dT mixed (by rfl) (by decide +kernel) fun K hK => ?_
  simp -implicitDefEqProofs only [go_sem, ↓reduceIte, Nat.reduceAdd, Nat.reduceEqDiff, Nat.reduceLeDiff, reduceCtorEq]
  refine ⟨keyQ p.o p.n, _, hm, ?_⟩
  try simp -implicitDefEqProofs only [go_sem]
  refine ⟨by decide +kernel, ?_⟩
  apply hK; clear hK K
  refine AW.dE mixed (by rfl) (by decide +kernel) fun K hK => ?_
  simp -implicitDefEqProofs only [go_sem, ↓reduceIte, Nat.reduceAdd, Nat.reduceMul, Nat.reduceEqDiff, Nat.reduceLeDiff, reduceCtorEq]
  refine ⟨⟨by simp, by simp [oneAll, AV.one, PV.one], by simp⟩, by simp [liftE_length]; omega, ?_⟩
  try simp -implicitDefEqProofs only [go_sem, ↓reduceIte, Nat.reduceAdd, Nat.reduceMul, Nat.reduceEqDiff, Nat.reduceLeDiff, reduceCtorEq, Int.reduceToNat]
  refine ⟨by decide +kernel, ?_⟩
  apply hK; clear hK K
  rw [mQ_add]
  simp only [andThen]
  refine AW.ghost (s' := adZ9 S U (l ++ [p]) [(5, .p (.int .i64 (l.length : Int)))]) ?_ ?_
  ·simp only [adZ9, memA, rowA]
   refine Ghost.ent (fun l => if l = 1 then 38 else l) ?_ ?_ ?_ <;> simp -implicitDefEqProofs only [go_sem, ↓reduceIte, Nat.reduceEqDiff, reduceCtorEq, encPr, List.map_append, liftE_append, List.map_cons, List.map_nil, liftE_cons, liftE_nil, List.forall_mem_cons, List.not_mem_nil, false_implies, implies_true, and_self, map_renL_lift, labsIn_lift, List.all_append, List.all_cons, List.all_nil, List.map_append, Nat.reduceLT, labsInL, AV.labsIn]
   all_goals first | rfl | decide | skip
  rw [e, eP]
  simp only [adZ9, memA, rowA]
  refine AW.rT (by rfl) fun K hK => ?_
  simp -implicitDefEqProofs only [go_sem, ↓reduceIte, Nat.reduceAdd, reduceCtorEq]
  apply hK; clear hK K
  refine AW.ret (partEnd rfl ?_ ?_ ?_ ?_ ⟨?_, trivial⟩) <;> simp -implicitDefEqProofs only [go_sem, ↓reduceIte, reduceCtorEq, rowA]
end Go.Aw
namespace Go.Aw
open Go.Proofs Go.RowKit
def stepA (mo mn : Ms) (t : Int) (l : List Pr) : Stp × Bool := ((stepO mo mn t l).getD ⟨0, 0, 0⟩, (stepO mo mn t l).isSome)
theorem stepEnd {S U : Sc} {l0 l : List Pr} {b : Stp × Bool} {rs : Array ResultVar} {args : List AV} {s : St} (ha : args[0]? = some (.ptr 0 0 0)) (hs : s.T 0 = some (.ptr 0 0 0)) (h0 : s.H 0 = some (.row 10 [rowA S U 1 2])) (h1 : s.H 1 = some (.row 2 (liftE (l.map encPr)))) (h2 : s.H 2 = some (.map (mQ l))) (hr : resD Tryd.prog s rs.toList [.p (.agg (encSt b.1)), .p (.bool b.2)]) :
  EndD Tryd.prog rs args (memA S U l0 0 1 2) 3 [0] (.tuple [.p (.agg (encSt b.1)), .p (.bool b.2)]) (memA S U l 0 3 4) 2 [0] .ret s := by
 refine ⟨fun k => if k = 0 then 0 else k - 2, [.p (.agg (encSt b.1)), .p (.bool b.2)], hr, rfl, rfl, ?_, ?_, ?_⟩
 ·simp only [memA, rowA] at h0 ⊢
  simp -implicitDefEqProofs only [go_sem, ↓reduceIte, Nat.reduceAdd, reduceCtorEq, List.forall_mem_cons, List.not_mem_nil, false_implies, implies_true, Nat.reduceSub, h0, h1, h2]
  first | done | decide
 ·simp [memA]
 ·intro k hk'
  simp at hk'
  subst hk'
  exact ⟨by decide, .inl ⟨0, 0, 0, 10, _, _, by simp, ha, hs, rfl, rfl, rfl, by decide⟩⟩
def adR (S U : Sc) (l : List Pr) (o n : Fd) (s : Stp) (m : List (Nat × AV)) : St := ⟨ofL ((0, .ptr 0 0 0) :: (8, .ptr 3 0 0) :: (10, .ptr 4 0 0) :: (12, .ptr 5 0 0) :: (14, .ptr 6 0 0) :: m), ofH (memA S U l 0 1 2 ++ [(3, .row 3 [[.p (.int .i64 0), .p (.int .i64 0), .p (.int .i64 0)]]), (4, .row 5 [[.p (.str o.name), .p (.int .i64 o.tag), .p (.int .i64 o.label), .p (.int .i64 o.ty.kind), .p (.str o.ty.name)]]), (5, .row 5 [[.p (.str n.name), .p (.int .i64 n.tag), .p (.int .i64 n.label), .p (.int .i64 n.ty.kind), .p (.str n.ty.name)]]), (6, .row 3 [[.p (.int .i64 s.op), .p (.int .i64 s.tag), .p (.int .i64 s.sub)]])]), 7⟩
theorem mQ_by {p : Nat → Bool} (l : List Pr) : (Blk.map (mQ l)).labsBy p = true := by
 simp [Blk.labsBy, mQ, AV.labsBy]
theorem adapt_tag (S U : Sc) (mo mn : Ms) (t : Int) (l : List Pr) (hl : l.length ≤ 1000000) (ho : mo.fields.length ≤ 1000000) (hn : mn.fields.length ≤ 1000000) :
  DFn Tryd.prog 79 [.ptr 0 0 0, .p (.agg (encMs mo)), .p (.agg (encMs mn)), .p (.int .i64 t)] (memA S U l 0 1 2) 3 [0] (.tuple [.p (.agg (encSt (stepA mo mn t l).1)), .p (.bool (stepA mo mn t l).2)]) (memA S U (stepLs mo mn t l) 0 3 4) 2 := by
 refine DFn.of [0] Tryd.func79 rfl (by decide) Tryd.ntmps79 Tryd.results79 (Nat.le_of_ble_eq_true rfl) (by simp) fun val => ?_
 have F1 := check_Field mo t ho
 have F2 := check_Field mn t hn
 have e1 : firstP (fun x => x.tag == t) zFd mo.fields = fOf mo t := rfl
 have e2 : firstP (fun x => x.tag == t) zFd mn.fields = fOf mn t := rfl
 rw [e1] at F1
 rw [e2] at F2
 simp only [encMs, encFd] at F1 F2
 simp only [avT, encMs]
 refine AW.rT (by rfl) fun K hK => ?_
 simp -implicitDefEqProofs only [go_sem, ↓reduceIte, Nat.reduceAdd, Nat.reduceEqDiff, reduceCtorEq, memA, rowA]
 apply hK; clear hK K
 refine AW.rT (by rfl) fun K hK => ?_
 simp -implicitDefEqProofs only [go_sem, ↓reduceIte, Nat.reduceAdd, Nat.reduceEqDiff, Nat.reduceLeDiff, reduceCtorEq]
 refine ⟨.pure _, F1, ?_⟩
 try simp -implicitDefEqProofs only [go_sem, ↓reduceIte, Nat.reduceAdd, Nat.reduceEqDiff, Nat.reduceLeDiff]
 apply hK; clear hK K
 refine AW.rT (by rfl) fun K hK => ?_
 simp -implicitDefEqProofs only [go_sem, ↓reduceIte, Nat.reduceAdd, Nat.reduceEqDiff, Nat.reduceLeDiff, reduceCtorEq]
 refine ⟨.pure _, F2, ?_⟩
 try simp -implicitDefEqProofs only [go_sem, ↓reduceIte, Nat.reduceAdd, Nat.reduceEqDiff, Nat.reduceLeDiff]
 apply hK; clear hK K
 refine AW.rT (by rfl) fun K hK => ?_
 simp -implicitDefEqProofs only [go_sem, ↓reduceIte, Nat.reduceAdd, Nat.reduceEqDiff, Nat.reduceLeDiff, reduceCtorEq]
 apply hK; clear hK K
 refine AW.seq ?_
 refine AW.dT mixed (by rfl) (by decide +kernel) fun K hK => ?_
 simp -implicitDefEqProofs only [go_sem, ↓reduceIte, Nat.reduceAdd, Nat.reduceEqDiff]
 refine ⟨heapOK_nil rfl, ?_⟩
 apply hK; clear hK K
 refine AW.ghost (s' := adR S U l (fOf mo t).1 (fOf mn t).1 ⟨1, t, 0⟩ [(11, .p (.bool (fOf mo t).2)), (13, .p (.bool (fOf mn t).2)), (15, .p (.int .i64 (fOf mo t).1.ty.kind)), (16, .p (.int .i64 (fOf mn t).1.ty.kind))]) ?_ ?_
 ·simp only [adR, memA, rowA, List.cons_append, List.nil_append]
  refine Ghost.ent (fun l => if l = 3 then 5 else if l = 4 then 13 else if l = 5 then 22 else if l = 6 then 27 else l) ?_ ?_ ?_ <;> simp -implicitDefEqProofs only [go_sem, ↓reduceIte, Nat.reduceEqDiff, reduceCtorEq, List.forall_mem_cons, List.not_mem_nil, false_implies, implies_true, and_self, map_renL_lift, labsIn_lift, List.all_cons, List.all_nil, Nat.reduceLT, labsInL, AV.labsIn]
  all_goals first | rfl | decide | skip
 refine AW.block ?_
 have no : ¬ ((fOf mo t).2 = true ∧ (fOf mn t).2 = true ∧ (fOf mo t).1.label = (fOf mn t).1.label) → stepA mo mn t l = (⟨0, 0, 0⟩, false) ∧ stepLs mo mn t l = l := fun h => by
  have e : stepO mo mn t l = none := by unfold stepO; rw [if_neg h]
  have i : intoB mo mn t = false := by
   rw [Bool.eq_false_iff]
   intro q
   have := intoB_spec q
   exact h ⟨this.1, this.2.1, this.2.2.1⟩
  unfold stepA stepLs
  rw [e, i]
  exact ⟨rfl, rfl⟩
 simp only [adR, memA, rowA, List.cons_append, List.nil_append]
 cases hf : (fOf mo t).2 with
 | false =>
  obtain ⟨n1, n2⟩ := no (by rw [hf]; simp)
  refine AW.rT (by rfl) fun K hK => ?_
  simp -implicitDefEqProofs only [go_sem, ↓reduceIte, Nat.reduceAdd, Nat.reduceEqDiff, reduceCtorEq]
  apply hK; clear hK K
  refine AW.cT rfl ?_
  refine AW.rT (by rfl) fun K hK => ?_
  simp -implicitDefEqProofs only [go_sem, ↓reduceIte, Nat.reduceAdd, Nat.reduceEqDiff, Nat.reduceLeDiff, reduceCtorEq]
  apply hK; clear hK K
  rw [n1, n2]
  refine AW.ret (stepEnd rfl ?_ ?_ ?_ ?_ ⟨?_, ?_, trivial⟩) <;> simp -implicitDefEqProofs only [go_sem, ↓reduceIte, Nat.reduceAdd, Nat.reduceEqDiff, Nat.reduceLeDiff, reduceCtorEq, rowA, encSt]
 | true =>
 cases hg : (fOf mn t).2 with
 | false =>
  obtain ⟨n1, n2⟩ := no (by rw [hg]; simp)
  refine AW.rT (by rfl) fun K hK => ?_
  simp -implicitDefEqProofs only [go_sem, ↓reduceIte, Nat.reduceAdd, Nat.reduceEqDiff, reduceCtorEq]
  apply hK; clear hK K
  refine AW.cT rfl ?_
  refine AW.rT (by rfl) fun K hK => ?_
  simp -implicitDefEqProofs only [go_sem, ↓reduceIte, Nat.reduceAdd, Nat.reduceEqDiff, Nat.reduceLeDiff, reduceCtorEq]
  apply hK; clear hK K
  rw [n1, n2]
  refine AW.ret (stepEnd rfl ?_ ?_ ?_ ?_ ⟨?_, ?_, trivial⟩) <;> simp -implicitDefEqProofs only [go_sem, ↓reduceIte, Nat.reduceAdd, Nat.reduceEqDiff, Nat.reduceLeDiff, reduceCtorEq, rowA, encSt]
 | true =>
 by_cases hlb : (fOf mo t).1.label = (fOf mn t).1.label
 case neg =>
  obtain ⟨n1, n2⟩ := no (fun h => hlb h.2.2)
  have f1 : ((fOf mo t).1.label != (fOf mn t).1.label) = true := by simp [hlb]
  refine AW.rT (by rfl) fun K hK => ?_
  simp -implicitDefEqProofs only [go_sem, ↓reduceIte, Nat.reduceAdd, Nat.reduceEqDiff, reduceCtorEq, f1]
  apply hK; clear hK K
  refine AW.cT rfl ?_
  refine AW.rT (by rfl) fun K hK => ?_
  simp -implicitDefEqProofs only [go_sem, ↓reduceIte, Nat.reduceAdd, Nat.reduceEqDiff, Nat.reduceLeDiff, reduceCtorEq]
  apply hK; clear hK K
  rw [n1, n2]
  refine AW.ret (stepEnd rfl ?_ ?_ ?_ ?_ ⟨?_, ?_, trivial⟩) <;> simp -implicitDefEqProofs only [go_sem, ↓reduceIte, Nat.reduceAdd, Nat.reduceEqDiff, Nat.reduceLeDiff, reduceCtorEq, rowA, encSt]
 have f1 : ((fOf mo t).1.label != (fOf mn t).1.label) = false := by simp [hlb]
 have cc : (fOf mo t).2 = true ∧ (fOf mn t).2 = true ∧ (fOf mo t).1.label = (fOf mn t).1.label := ⟨hf, hg, hlb⟩
 refine AW.rT (by rfl) fun K hK => ?_
 simp -implicitDefEqProofs only [go_sem, ↓reduceIte, Nat.reduceAdd, Nat.reduceEqDiff, reduceCtorEq, f1]
 apply hK; clear hK K
 refine AW.cF rfl ?_
 by_cases k7 : (fOf mo t).1.ty.kind = 7 ∧ (fOf mn t).1.ty.kind = 7
 ·have q1 : ((fOf mo t).1.ty.kind == 7) = true := by simp [k7.1]
  have q2 : ((fOf mn t).1.ty.kind == 7) = true := by simp [k7.2]
  have eO : stepO mo mn t l = some ⟨if (fOf mo t).1.label = 1 then 4 else 3, t, placeP l (pairO mo mn t)⟩ := by unfold stepO; rw [if_pos cc, if_pos k7]
  have eI : stepLs mo mn t l = addP l (pairO mo mn t) := by
   unfold stepLs intoB
   rw [if_pos (by simp [hf, hg, hlb, k7.1, k7.2])]
  have eA : stepA mo mn t l = (⟨if (fOf mo t).1.label = 1 then 4 else 3, t, placeP l (pairO mo mn t)⟩, true) := by unfold stepA; rw [eO]; rfl
  have AP := adapt_part S U l (pairO mo mn t) hl
  rw [eA, eI]
  generalize addP l (pairO mo mn t) = l' at *
  generalize placeP l (pairO mo mn t) = pl at *
  simp only [pairO, encPr] at AP
  refine AW.rT (by rfl) fun K hK => ?_
  simp -implicitDefEqProofs only [go_sem, ↓reduceIte, Nat.reduceAdd, Nat.reduceEqDiff, reduceCtorEq, q1, q2]
  apply hK; clear hK K
  refine AW.cT rfl ?_
  refine AW.rR (SeqR.ev 8 (by rfl) (by decide) ?_)
  simp -implicitDefEqProofs only [go_sem, ↓reduceIte, Nat.reduceAdd, Nat.reduceEqDiff, Nat.reduceLeDiff, reduceCtorEq]
  refine SeqR.call (fun k => k) rfl rfl AP ⟨?_, rfl, ?_, rfl, rfl, rfl, rfl, rfl, ?_⟩ ?_
  ·simp -implicitDefEqProofs only [go_sem, ↓reduceIte, Nat.reduceEqDiff, argD]
  ·simp only [memA, rowA]
   simp -implicitDefEqProofs only [go_sem, ↓reduceIte, reduceCtorEq, List.forall_mem_cons, List.not_mem_nil, false_implies, implies_true]
   first | done | decide
  ·simp only [memA, rowA, List.all_cons, List.all_nil, labsBy_lift, mQ_by]
   rfl
  refine SeqR.ghost (s' := adR S U l' (fOf mo t).1 (fOf mn t).1 ⟨1, t, 0⟩ [(67, .p (.int .i64 (pl : Int)))]) ?_ ?_
  ·simp only [adR, memA, rowA, List.cons_append, List.nil_append]
   refine Ghost.ent (fun k => if k = 1 then 36 else if k = 2 then 37 else k) ?_ ?_ ?_ <;> simp -implicitDefEqProofs only [go_sem, ↓reduceIte, Nat.reduceAdd, Nat.reduceEqDiff, reduceCtorEq, lift2, goneU, newU, Nat.reduceSub, List.forall_mem_cons, List.not_mem_nil, false_implies, implies_true, and_self, map_renL_lift, labsIn_lift, List.all_cons, List.all_nil, Nat.reduceLT, labsInL, AV.labsIn]
   all_goals first | rfl | decide | skip
  simp only [adR, memA, rowA, List.cons_append, List.nil_append]
  refine SeqR.ev 4 (by rfl) (by decide) ?_
  simp -implicitDefEqProofs only [go_sem, ↓reduceIte, Nat.reduceAdd, Nat.reduceEqDiff, Nat.reduceLeDiff, reduceCtorEq]
  refine SeqR.last rfl ?_
  by_cases lb1 : (fOf mo t).1.label = 1
  ·have b1 : ((fOf mo t).1.label == 1) = true := by simp [lb1]
   rw [if_pos lb1]
   refine AW.rT (by rfl) fun K hK => ?_
   simp -implicitDefEqProofs only [go_sem, ↓reduceIte, Nat.reduceAdd, Nat.reduceEqDiff, reduceCtorEq, b1]
   apply hK; clear hK K
   refine AW.cT rfl ?_
   refine AW.rE (by rfl) fun K hK => ?_
   simp -implicitDefEqProofs only [go_sem, ↓reduceIte, Nat.reduceAdd, Nat.reduceEqDiff, Nat.reduceLeDiff, reduceCtorEq]
   apply hK; clear hK K
   simp only [andThen, inBlk]
   refine AW.rT (by rfl) fun K hK => ?_
   simp -implicitDefEqProofs only [go_sem, ↓reduceIte, Nat.reduceAdd, Nat.reduceEqDiff, Nat.reduceLeDiff, reduceCtorEq]
   apply hK; clear hK K
   refine AW.ret (stepEnd (b := (⟨4, t, pl⟩, true)) rfl ?_ ?_ ?_ ?_ ⟨?_, ?_, trivial⟩) <;> simp -implicitDefEqProofs only [go_sem, ↓reduceIte, Nat.reduceAdd, Nat.reduceEqDiff, Nat.reduceLeDiff, reduceCtorEq, rowA, encSt]
  ·have b1 : ((fOf mo t).1.label == 1) = false := beq_eq_false_iff_ne.2 lb1
   rw [if_neg lb1]
   refine AW.rT (by rfl) fun K hK => ?_
   simp -implicitDefEqProofs only [go_sem, ↓reduceIte, Nat.reduceAdd, Nat.reduceEqDiff, reduceCtorEq, b1]
   apply hK; clear hK K
   refine AW.cF rfl ?_
   refine AW.skip ?_
   simp only [andThen, inBlk]
   refine AW.rT (by rfl) fun K hK => ?_
   simp -implicitDefEqProofs only [go_sem, ↓reduceIte, Nat.reduceAdd, Nat.reduceEqDiff, Nat.reduceLeDiff, reduceCtorEq]
   apply hK; clear hK K
   refine AW.ret (stepEnd (b := (⟨3, t, pl⟩, true)) rfl ?_ ?_ ?_ ?_ ⟨?_, ?_, trivial⟩) <;> simp -implicitDefEqProofs only [go_sem, ↓reduceIte, Nat.reduceAdd, Nat.reduceEqDiff, Nat.reduceLeDiff, reduceCtorEq, rowA, encSt]
 have eI : stepLs mo mn t l = l := by
  unfold stepLs
  rw [if_neg]
  intro h
  exact k7 ⟨(intoB_spec h).2.2.2.1, (intoB_spec h).2.2.2.2⟩
 rw [eI]
 refine AW.cut (fun _ : Unit => adR S U l (fOf mo t).1 (fOf mn t).1 ⟨1, t, 0⟩ [(15, .p (.int .i64 (fOf mo t).1.ty.kind)), (16, .p (.int .i64 (fOf mn t).1.ty.kind)), (52, .p (.bool false))]) (fun _ => True) ?_ fun _ _ => ?_
 ·cases x1 : ((fOf mo t).1.ty.kind == 7) with
  | false =>
   refine AW.rE (by rfl) fun K hK => ?_
   simp -implicitDefEqProofs only [go_sem, ↓reduceIte, Nat.reduceAdd, Nat.reduceEqDiff, reduceCtorEq, x1]
   apply hK; clear hK K
   refine ⟨(), trivial, ?_⟩
   show Ghost _ _ (adR _ _ _ _ _ _ _)
   simp only [adR, memA, rowA, List.cons_append, List.nil_append]
   refine Ghost.sub ?_ ?_ <;> simp -implicitDefEqProofs only [go_sem, ↓reduceIte, Nat.reduceEqDiff, reduceCtorEq, List.forall_mem_cons, List.not_mem_nil, false_implies, implies_true, and_self, labsIn_lift, List.all_cons, List.all_nil, Nat.reduceLT, labsInL, AV.labsIn]
   all_goals first | rfl | decide | skip
  | true =>
   have x2 : ((fOf mn t).1.ty.kind == 7) = false := by
    rw [beq_eq_false_iff_ne]
    exact fun h => k7 ⟨beq_iff_eq.1 x1, h⟩
   refine AW.rE (by rfl) fun K hK => ?_
   simp -implicitDefEqProofs only [go_sem, ↓reduceIte, Nat.reduceAdd, Nat.reduceEqDiff, reduceCtorEq, x1, x2]
   apply hK; clear hK K
   refine ⟨(), trivial, ?_⟩
   show Ghost _ _ (adR _ _ _ _ _ _ _)
   simp only [adR, memA, rowA, List.cons_append, List.nil_append]
   refine Ghost.sub ?_ ?_ <;> simp -implicitDefEqProofs only [go_sem, ↓reduceIte, Nat.reduceEqDiff, reduceCtorEq, List.forall_mem_cons, List.not_mem_nil, false_implies, implies_true, and_self, labsIn_lift, List.all_cons, List.all_nil, Nat.reduceLT, labsInL, AV.labsIn]
   all_goals first | rfl | decide | skip
 simp only [adR, memA, rowA, List.cons_append, List.nil_append]
 refine AW.cF rfl ?_
 by_cases k2 : (fOf mo t).1.ty.kind = 2 ∧ (fOf mn t).1.ty.kind = 1
 ·have q1 : ((fOf mo t).1.ty.kind == 2) = true := by simp [k2.1]
  have q2 : ((fOf mn t).1.ty.kind == 1) = true := by simp [k2.2]
  have eA : stepA mo mn t l = (⟨2, t, 0⟩, true) := by unfold stepA stepO; rw [if_pos cc, if_neg k7, if_pos k2]; rfl
  rw [eA]
  refine AW.rT (by rfl) fun K hK => ?_
  simp -implicitDefEqProofs only [go_sem, ↓reduceIte, Nat.reduceAdd, Nat.reduceEqDiff, reduceCtorEq, q1, q2]
  apply hK; clear hK K
  refine AW.cT rfl ?_
  refine AW.rE (by rfl) fun K hK => ?_
  simp -implicitDefEqProofs only [go_sem, ↓reduceIte, Nat.reduceAdd, Nat.reduceEqDiff, Nat.reduceLeDiff, reduceCtorEq]
  apply hK; clear hK K
  simp only [andThen, inBlk]
  refine AW.rT (by rfl) fun K hK => ?_
  simp -implicitDefEqProofs only [go_sem, ↓reduceIte, Nat.reduceAdd, Nat.reduceEqDiff, Nat.reduceLeDiff, reduceCtorEq]
  apply hK; clear hK K
  refine AW.ret (stepEnd (b := (⟨2, t, 0⟩, true)) rfl ?_ ?_ ?_ ?_ ⟨?_, ?_, trivial⟩) <;> simp -implicitDefEqProofs only [go_sem, ↓reduceIte, Nat.reduceAdd, Nat.reduceEqDiff, Nat.reduceLeDiff, reduceCtorEq, rowA, encSt]
 refine AW.cut (fun _ : Unit => adR S U l (fOf mo t).1 (fOf mn t).1 ⟨1, t, 0⟩ [(15, .p (.int .i64 (fOf mo t).1.ty.kind)), (16, .p (.int .i64 (fOf mn t).1.ty.kind)), (74, .p (.bool false))]) (fun _ => True) ?_ fun _ _ => ?_
 ·cases x1 : ((fOf mo t).1.ty.kind == 2) with
  | false =>
   refine AW.rE (by rfl) fun K hK => ?_
   simp -implicitDefEqProofs only [go_sem, ↓reduceIte, Nat.reduceAdd, Nat.reduceEqDiff, reduceCtorEq, x1]
   apply hK; clear hK K
   refine ⟨(), trivial, ?_⟩
   show Ghost _ _ (adR _ _ _ _ _ _ _)
   simp only [adR, memA, rowA, List.cons_append, List.nil_append]
   refine Ghost.sub ?_ ?_ <;> simp -implicitDefEqProofs only [go_sem, ↓reduceIte, Nat.reduceEqDiff, reduceCtorEq, List.forall_mem_cons, List.not_mem_nil, false_implies, implies_true, and_self, labsIn_lift, List.all_cons, List.all_nil, Nat.reduceLT, labsInL, AV.labsIn]
   all_goals first | rfl | decide | skip
  | true =>
   have x2 : ((fOf mn t).1.ty.kind == 1) = false := by
    rw [beq_eq_false_iff_ne]
    exact fun h => k2 ⟨beq_iff_eq.1 x1, h⟩
   refine AW.rE (by rfl) fun K hK => ?_
   simp -implicitDefEqProofs only [go_sem, ↓reduceIte, Nat.reduceAdd, Nat.reduceEqDiff, reduceCtorEq, x1, x2]
   apply hK; clear hK K
   refine ⟨(), trivial, ?_⟩
   show Ghost _ _ (adR _ _ _ _ _ _ _)
   simp only [adR, memA, rowA, List.cons_append, List.nil_append]
   refine Ghost.sub ?_ ?_ <;> simp -implicitDefEqProofs only [go_sem, ↓reduceIte, Nat.reduceEqDiff, reduceCtorEq, List.forall_mem_cons, List.not_mem_nil, false_implies, implies_true, and_self, labsIn_lift, List.all_cons, List.all_nil, Nat.reduceLT, labsInL, AV.labsIn]
   all_goals first | rfl | decide | skip
 simp only [adR, memA, rowA, List.cons_append, List.nil_append]
 refine AW.cF rfl ?_
 by_cases k1 : (fOf mo t).1.ty.kind = (fOf mn t).1.ty.kind ∨ (fOf mo t).1.ty.kind = 1 ∧ (fOf mn t).1.ty.kind = 2
 ·have eA : stepA mo mn t l = (⟨1, t, 0⟩, true) := by unfold stepA stepO; rw [if_pos cc, if_neg k7, if_neg k2, if_pos k1]; rfl
  rw [eA]
  refine AW.cut (fun _ : Unit => adR S U l (fOf mo t).1 (fOf mn t).1 ⟨1, t, 0⟩ [(15, .p (.int .i64 (fOf mo t).1.ty.kind)), (16, .p (.int .i64 (fOf mn t).1.ty.kind)), (82, .p (.bool false))]) (fun _ => True) ?_ fun _ _ => ?_
  ·by_cases x0 : (fOf mo t).1.ty.kind = (fOf mn t).1.ty.kind
   ·have x1 : ((fOf mo t).1.ty.kind != (fOf mn t).1.ty.kind) = false := by simp [x0]
    refine AW.rE (by rfl) fun K hK => ?_
    simp -implicitDefEqProofs only [go_sem, ↓reduceIte, Nat.reduceAdd, Nat.reduceEqDiff, reduceCtorEq, x1]
    apply hK; clear hK K
    refine ⟨(), trivial, ?_⟩
    show Ghost _ _ (adR _ _ _ _ _ _ _)
    simp only [adR, memA, rowA, List.cons_append, List.nil_append]
    refine Ghost.sub ?_ ?_ <;> simp -implicitDefEqProofs only [go_sem, ↓reduceIte, Nat.reduceEqDiff, reduceCtorEq, List.forall_mem_cons, List.not_mem_nil, false_implies, implies_true, and_self, labsIn_lift, List.all_cons, List.all_nil, Nat.reduceLT, labsInL, AV.labsIn]
    all_goals first | rfl | decide | skip
   ·have x1 : ((fOf mo t).1.ty.kind != (fOf mn t).1.ty.kind) = true := by simp [x0]
    have x4 : (fOf mo t).1.ty.kind = 1 ∧ (fOf mn t).1.ty.kind = 2 := by rcases k1 with h | h; exact absurd h x0; exact h
    have x2 : ((fOf mo t).1.ty.kind != 1) = false := by simp [x4.1]
    have x3 : ((fOf mn t).1.ty.kind != 2) = false := by simp [x4.2]
    refine AW.rE (by rfl) fun K hK => ?_
    simp -implicitDefEqProofs only [go_sem, ↓reduceIte, Nat.reduceAdd, Nat.reduceEqDiff, reduceCtorEq, x1, x2, x3]
    apply hK; clear hK K
    refine ⟨(), trivial, ?_⟩
    show Ghost _ _ (adR _ _ _ _ _ _ _)
    simp only [adR, memA, rowA, List.cons_append, List.nil_append]
    refine Ghost.sub ?_ ?_ <;> simp -implicitDefEqProofs only [go_sem, ↓reduceIte, Nat.reduceEqDiff, reduceCtorEq, List.forall_mem_cons, List.not_mem_nil, false_implies, implies_true, and_self, labsIn_lift, List.all_cons, List.all_nil, Nat.reduceLT, labsInL, AV.labsIn]
    all_goals first | rfl | decide | skip
  simp only [adR, memA, rowA, List.cons_append, List.nil_append]
  refine AW.cF rfl ?_
  refine AW.skip ?_
  simp only [andThen, inBlk]
  refine AW.rT (by rfl) fun K hK => ?_
  simp -implicitDefEqProofs only [go_sem, ↓reduceIte, Nat.reduceAdd, Nat.reduceEqDiff, Nat.reduceLeDiff, reduceCtorEq]
  apply hK; clear hK K
  refine AW.ret (stepEnd (b := (⟨1, t, 0⟩, true)) rfl ?_ ?_ ?_ ?_ ⟨?_, ?_, trivial⟩) <;> simp -implicitDefEqProofs only [go_sem, ↓reduceIte, Nat.reduceAdd, Nat.reduceEqDiff, Nat.reduceLeDiff, reduceCtorEq, rowA, encSt]
 have eA : stepA mo mn t l = (⟨0, 0, 0⟩, false) := by unfold stepA stepO; rw [if_pos cc, if_neg k7, if_neg k2, if_neg k1]; rfl
 rw [eA]
 refine AW.cut (fun _ : Unit => adR S U l (fOf mo t).1 (fOf mn t).1 ⟨1, t, 0⟩ [(15, .p (.int .i64 (fOf mo t).1.ty.kind)), (16, .p (.int .i64 (fOf mn t).1.ty.kind)), (82, .p (.bool true))]) (fun _ => True) ?_ fun _ _ => ?_
 ·have x1 : ((fOf mo t).1.ty.kind != (fOf mn t).1.ty.kind) = true := by simp; exact fun h => k1 (.inl h)
  cases x2 : ((fOf mo t).1.ty.kind != 1) with
  | true =>
   refine AW.rE (by rfl) fun K hK => ?_
   simp -implicitDefEqProofs only [go_sem, ↓reduceIte, Nat.reduceAdd, Nat.reduceEqDiff, reduceCtorEq, x1, x2]
   apply hK; clear hK K
   refine ⟨(), trivial, ?_⟩
   show Ghost _ _ (adR _ _ _ _ _ _ _)
   simp only [adR, memA, rowA, List.cons_append, List.nil_append]
   refine Ghost.sub ?_ ?_ <;> simp -implicitDefEqProofs only [go_sem, ↓reduceIte, Nat.reduceEqDiff, reduceCtorEq, List.forall_mem_cons, List.not_mem_nil, false_implies, implies_true, and_self, labsIn_lift, List.all_cons, List.all_nil, Nat.reduceLT, labsInL, AV.labsIn]
   all_goals first | rfl | decide | skip
  | false =>
   have x3 : ((fOf mn t).1.ty.kind != 2) = true := by
    rw [bne_iff_ne]
    exact fun h => k1 (.inr ⟨by simpa using x2, h⟩)
   refine AW.rE (by rfl) fun K hK => ?_
   simp -implicitDefEqProofs only [go_sem, ↓reduceIte, Nat.reduceAdd, Nat.reduceEqDiff, reduceCtorEq, x1, x2, x3]
   apply hK; clear hK K
   refine ⟨(), trivial, ?_⟩
   show Ghost _ _ (adR _ _ _ _ _ _ _)
   simp only [adR, memA, rowA, List.cons_append, List.nil_append]
   refine Ghost.sub ?_ ?_ <;> simp -implicitDefEqProofs only [go_sem, ↓reduceIte, Nat.reduceEqDiff, reduceCtorEq, List.forall_mem_cons, List.not_mem_nil, false_implies, implies_true, and_self, labsIn_lift, List.all_cons, List.all_nil, Nat.reduceLT, labsInL, AV.labsIn]
   all_goals first | rfl | decide | skip
 simp only [adR, memA, rowA, List.cons_append, List.nil_append]
 refine AW.cT rfl ?_
 refine AW.rT (by rfl) fun K hK => ?_
 simp -implicitDefEqProofs only [go_sem, ↓reduceIte, Nat.reduceAdd, Nat.reduceEqDiff, Nat.reduceLeDiff, reduceCtorEq]
 apply hK; clear hK K
 refine AW.ret (stepEnd (b := (⟨0, 0, 0⟩, false)) rfl ?_ ?_ ?_ ?_ ⟨?_, ?_, trivial⟩) <;> simp -implicitDefEqProofs only [go_sem, ↓reduceIte, Nat.reduceAdd, Nat.reduceEqDiff, Nat.reduceLeDiff, reduceCtorEq, rowA, encSt]
end Go.Aw
namespace Go.Aw
open Go.Proofs Go.RowKit
end Go.Aw
namespace Go.Aw
open Go.Proofs Go.RowKit
end Go.Aw
namespace Go.Aw
open Go.Proofs Go.RowKit
def mkM (S U : Sc) (l : List Pr) (ps : List (List Stp)) : List (Nat × Blk) := (0, .row 4 [cellsSc S]) :: (1, .row 4 [cellsSc U]) :: (2, .row 1 [[.ex []]]) :: memA S U l 3 4 5 ++ [(6, .row 1 [[.own 7]]), (7, .row 1 (liftE (ps.map encPt)))]
def mkT (m : List (Nat × AV)) : List (Nat × AV) := (4, .ptr 0 0 0) :: (5, .ptr 1 0 0) :: (8, .ptr 2 0 0) :: (14, .ptr 3 0 0) :: (15, .ptr 6 0 0) :: m
theorem memA_by {p : Nat → Bool} {S U : Sc} {l : List Pr} {r a b : Nat} (h1 : p a = true) (h2 : p b = true) : (memA S U l r a b).all (fun x => x.2.labsBy p) = true := by
 simp only [memA, rowA, List.all_cons, List.all_nil, labsBy_lift, mQ_by, Bool.and_true]
 simp [Blk.labsBy, labsByL, AV.labsBy, h1, h2]
def mk0 (S U : Sc) (l : List Pr) (m : List (Nat × AV)) : St := ⟨ofL ((4, .ptr 0 0 0) :: (5, .ptr 1 0 0) :: (8, .ptr 2 0 0) :: (14, .ptr 3 0 0) :: m), ofH ((0, .row 4 [cellsSc S]) :: (1, .row 4 [cellsSc U]) :: (2, .row 1 [[.ex []]]) :: memA S U l 3 4 5), 6⟩
def mkS (S U : Sc) (l : List Pr) (ps : List (List Stp)) (m : List (Nat × AV)) : St := ⟨ofL (mkT m), ofH (mkM S U l ps), 8⟩
def mkI (S U : Sc) (mo mn : Ms) (l : List Pr) (ps : List (List Stp)) (st : List Stp) (i : Nat) (m : List (Nat × AV)) : St := ⟨ofL (mkT ((16, .p (.int .i64 (i : Int))) :: (17, .ptr 8 0 0) :: (19, .ptr 9 0 0) :: (21, .own 10) :: m)), ofH (mkM S U l ps ++ [(8, .row 3 [cellsMs mo]), (9, .row 3 [cellsMs mn]), (10, .row 3 (liftE (st.map encSt)))]), 11⟩
def mkJ (S U : Sc) (mo mn : Ms) (l : List Pr) (ps : List (List Stp)) (st : List Stp) (i n : Nat) (s : Stp) (b : Bool) : St := ⟨ofL (mkT [(16, .p (.int .i64 (i : Int))), (17, .ptr 8 0 0), (19, .ptr 9 0 0), (21, .own 10), (22, .p (.int .i64 (n : Int))), (23, .ptr 11 0 0), (24, .p (.bool b))]), ofH (mkM S U l ps ++ [(8, .row 3 [cellsMs mo]), (9, .row 3 [cellsMs mn]), (10, .row 3 (liftE (st.map encSt))), (11, .row 3 [[.p (.int .i64 s.op), .p (.int .i64 s.tag), .p (.int .i64 s.sub)]])]), 12⟩
theorem adapt_Make (S U : Sc) (LS : LensS S) (LU : LensS U) (a b : List UInt8) : PFn Tryd.prog 51 [.agg (encSc S), .agg (encSc U), .str a, .str b] (.tuple [.agg [.slice ((makeR S U a b).1.map encPt)], .int .i64 (makeR S U a b).2]) := by
 refine PFn.of Tryd.func51 rfl (by decide) Tryd.ntmps51 Tryd.results51 (Nat.le_of_ble_eq_true rfl) ?_
 have C1 := check_Check S LS
 have C2 := check_Check U LU
 simp only [encSc] at C1 C2
 simp only [argsT, encSc]
 refine AW.rT (by rfl) fun K hK => ?_
 simp -implicitDefEqProofs only [go_sem, ↓reduceIte, Nat.reduceAdd, Nat.reduceEqDiff]
 apply hK; clear hK K
 refine AW.seq ?_
 by_cases hS : checkC S = 0
 case neg =>
  have f1 : (checkC S != 0) = true := by simp [hS]
  have e : makeR S U a b = ([], 1) := by unfold makeR; rw [if_neg (fun h => hS h.1)]
  refine AW.rT (by rfl) fun K hK => ?_
  simp -implicitDefEqProofs only [go_sem, ↓reduceIte, Nat.reduceAdd, Nat.reduceEqDiff, Nat.reduceLeDiff, reduceCtorEq]
  refine ⟨.pure _, C1, ?_⟩
  try simp -implicitDefEqProofs only [go_sem, ↓reduceIte, Nat.reduceAdd, Nat.reduceEqDiff, f1]
  apply hK; clear hK K
  refine AW.cT rfl ?_
  refine AW.rT (by rfl) fun K hK => ?_
  simp -implicitDefEqProofs only [go_sem, ↓reduceIte, Nat.reduceAdd, Nat.reduceEqDiff, Nat.reduceLeDiff]
  apply hK; clear hK K
  refine AW.ret ?_
  simp -implicitDefEqProofs only [go_sem, ↓reduceIte, Nat.reduceEqDiff, Nat.reduceLeDiff, e, List.map_nil]
 have f1 : (checkC S != 0) = false := by simp [hS]
 by_cases hU : checkC U = 0
 case neg =>
  have f2 : (checkC U != 0) = true := by simp [hU]
  have e : makeR S U a b = ([], 1) := by unfold makeR; rw [if_neg (fun h => hU h.2)]
  refine AW.rT (by rfl) fun K hK => ?_
  simp -implicitDefEqProofs only [go_sem, ↓reduceIte, Nat.reduceAdd, Nat.reduceEqDiff, Nat.reduceLeDiff, reduceCtorEq]
  refine ⟨.pure _, C1, ?_⟩
  try simp -implicitDefEqProofs only [go_sem, ↓reduceIte, Nat.reduceAdd, Nat.reduceEqDiff, Nat.reduceLeDiff, f1]
  refine ⟨.pure _, C2, ?_⟩
  try simp -implicitDefEqProofs only [go_sem, ↓reduceIte, Nat.reduceAdd, Nat.reduceEqDiff, f2]
  apply hK; clear hK K
  refine AW.cT rfl ?_
  refine AW.rT (by rfl) fun K hK => ?_
  simp -implicitDefEqProofs only [go_sem, ↓reduceIte, Nat.reduceAdd, Nat.reduceEqDiff, Nat.reduceLeDiff]
  apply hK; clear hK K
  refine AW.ret ?_
  simp -implicitDefEqProofs only [go_sem, ↓reduceIte, Nat.reduceEqDiff, Nat.reduceLeDiff, e, List.map_nil]
 have f2 : (checkC U != 0) = false := by simp [hU]
 have RS := right_of hS
 have RU := right_of hU
 have FS := check_fit.1 hS
 have FU := check_fit.1 hU
 have M1 := check_Message S a (by have := RS.len; omega)
 have M2 := check_Message U b (by have := RU.len; omega)
 have e1 : firstP (fun x => x.name == a) zMs S.msgs = (msgOf S a, hasM S a) := rfl
 have e2 : firstP (fun x => x.name == b) zMs U.msgs = (msgOf U b, hasM U b) := rfl
 rw [e1] at M1
 rw [e2] at M2
 simp only [encSc, encMs] at M1 M2
 refine AW.rT (by rfl) fun K hK => ?_
 simp -implicitDefEqProofs only [go_sem, ↓reduceIte, Nat.reduceAdd, Nat.reduceEqDiff, Nat.reduceLeDiff, reduceCtorEq]
 refine ⟨.pure _, C1, ?_⟩
 try simp -implicitDefEqProofs only [go_sem, ↓reduceIte, Nat.reduceAdd, Nat.reduceEqDiff, Nat.reduceLeDiff, f1]
 refine ⟨.pure _, C2, ?_⟩
 try simp -implicitDefEqProofs only [go_sem, ↓reduceIte, Nat.reduceAdd, Nat.reduceEqDiff, f2]
 apply hK; clear hK K
 refine AW.cF rfl ?_
 refine AW.skip ?_
 simp only [andThen]
 clear C1 C2
 refine AW.rT (by rfl) fun K hK => ?_
 simp -implicitDefEqProofs only [go_sem, ↓reduceIte, Nat.reduceAdd, Nat.reduceEqDiff, Nat.reduceLeDiff, reduceCtorEq]
 refine ⟨.pure _, M1, ?_⟩
 try simp -implicitDefEqProofs only [go_sem, ↓reduceIte, Nat.reduceAdd, Nat.reduceEqDiff, Nat.reduceLeDiff]
 apply hK; clear hK K
 refine AW.rT (by rfl) fun K hK => ?_
 simp -implicitDefEqProofs only [go_sem, ↓reduceIte, Nat.reduceAdd, Nat.reduceEqDiff, Nat.reduceLeDiff, reduceCtorEq]
 refine ⟨.pure _, M2, ?_⟩
 try simp -implicitDefEqProofs only [go_sem, ↓reduceIte, Nat.reduceAdd, Nat.reduceEqDiff, Nat.reduceLeDiff]
 apply hK; clear hK K
 refine AW.seq ?_
 cases ha : hasM S a with
 | false =>
  have e : makeR S U a b = ([], 14) := by unfold makeR; rw [if_pos ⟨hS, hU⟩, if_neg (by rw [ha]; simp)]
  refine AW.rT (by rfl) fun K hK => ?_
  simp -implicitDefEqProofs only [go_sem, ↓reduceIte, Nat.reduceAdd, Nat.reduceEqDiff]
  apply hK; clear hK K
  refine AW.cT rfl ?_
  refine AW.rT (by rfl) fun K hK => ?_
  simp -implicitDefEqProofs only [go_sem, ↓reduceIte, Nat.reduceAdd, Nat.reduceEqDiff, Nat.reduceLeDiff]
  apply hK; clear hK K
  refine AW.ret ?_
  simp -implicitDefEqProofs only [go_sem, ↓reduceIte, Nat.reduceEqDiff, Nat.reduceLeDiff, e, List.map_nil]
 | true =>
 cases hb : hasM U b with
 | false =>
  have e : makeR S U a b = ([], 14) := by unfold makeR; rw [if_pos ⟨hS, hU⟩, if_neg (by rw [hb]; simp)]
  refine AW.rT (by rfl) fun K hK => ?_
  simp -implicitDefEqProofs only [go_sem, ↓reduceIte, Nat.reduceAdd, Nat.reduceEqDiff]
  apply hK; clear hK K
  refine AW.cT rfl ?_
  refine AW.rT (by rfl) fun K hK => ?_
  simp -implicitDefEqProofs only [go_sem, ↓reduceIte, Nat.reduceAdd, Nat.reduceEqDiff, Nat.reduceLeDiff]
  apply hK; clear hK K
  refine AW.ret ?_
  simp -implicitDefEqProofs only [go_sem, ↓reduceIte, Nat.reduceEqDiff, Nat.reduceLeDiff, e, List.map_nil]
 | true =>
 have e : makeR S U a b = (makeP S U 101 0 [⟨a, b⟩], 0) := by unfold makeR; rw [if_pos ⟨hS, hU⟩, if_pos ⟨ha, hb⟩]
 refine AW.rT (by rfl) fun K hK => ?_
 simp -implicitDefEqProofs only [go_sem, ↓reduceIte, Nat.reduceAdd, Nat.reduceEqDiff]
 apply hK; clear hK K
 refine AW.cF rfl ?_
 refine AW.skip ?_
 simp only [andThen]
 refine AW.rT (by rfl) fun K hK => ?_
 simp -implicitDefEqProofs only [go_sem, ↓reduceIte, Nat.reduceAdd, Nat.reduceEqDiff, Nat.reduceLeDiff, reduceCtorEq]
 apply hK; clear hK K
 have AP := adapt_part S U [] ⟨a, b⟩ (by simp)
 have eP : addP [] ⟨a, b⟩ = [⟨a, b⟩] := rfl
 rw [eP] at AP
 simp only [encPr] at AP
 refine AW.ghost (s' := mk0 S U [] [(2, .p (.str a)), (3, .p (.str b))]) (Ghost.trans (Ghost.nilH (l := 40) (i := 0) (j := 8) (sz' := 2) rfl rfl rfl) ?_) ?_
 ·simp only [mk0, memA, rowA, cellsSc, List.map_nil, liftE_nil]
  refine Ghost.ent (fun l => if l = 3 then 40 else if l = 4 then 42 else if l = 5 then 38 else l) ?_ ?_ ?_ <;> simp -implicitDefEqProofs only [go_sem, ↓reduceIte, Nat.reduceEqDiff, reduceCtorEq, mQ, List.zipIdx_nil, List.forall_mem_cons, List.not_mem_nil, false_implies, implies_true, and_self, List.all_cons, List.all_nil, Nat.reduceLT, labsInL, AV.labsIn]
  all_goals first | rfl | decide | skip
 simp only [mk0, memA, rowA, cellsSc]
 refine AW.rR (SeqR.ev 4 (by rfl) (by decide) ?_)
 simp -implicitDefEqProofs only [go_sem, ↓reduceIte, Nat.reduceAdd, Nat.reduceEqDiff, Nat.reduceLeDiff]
 refine SeqR.call (fun k => k + 3) rfl rfl AP ⟨?_, rfl, ?_, rfl, rfl, rfl, rfl, rfl, memA_by (r := 0) rfl rfl⟩ ?_
 ·simp -implicitDefEqProofs only [go_sem, ↓reduceIte, Nat.reduceEqDiff, argD]
 ·simp only [memA, rowA]
  simp -implicitDefEqProofs only [go_sem, ↓reduceIte, Nat.reduceAdd, Nat.reduceEqDiff, reduceCtorEq, List.forall_mem_cons, List.not_mem_nil, false_implies, implies_true]
  first | done | decide
 refine SeqR.last rfl ?_
 refine AW.ghost (s' := mk0 S U [⟨a, b⟩] []) ?_ ?_
 ·simp only [mk0, memA, rowA, cellsSc]
  refine Ghost.ent (fun l => if l = 4 then 10 else if l = 5 then 11 else l) ?_ ?_ ?_ <;> simp -implicitDefEqProofs only [go_sem, ↓reduceIte, Nat.reduceAdd, Nat.reduceEqDiff, reduceCtorEq, lift2, goneU, newU, Nat.reduceSub, List.forall_mem_cons, List.not_mem_nil, false_implies, implies_true, and_self, map_renL_lift, labsIn_lift, List.all_cons, List.all_nil, Nat.reduceLT, labsInL, AV.labsIn]
  all_goals first | rfl | decide | skip
 simp only [mk0, memA, rowA, cellsSc]
 refine AW.rT (by rfl) fun K hK => ?_
 simp -implicitDefEqProofs only [go_sem, Nat.reduceAdd]
 apply hK; clear hK K
 refine AW.ghost (s' := mkS S U [⟨a, b⟩] [] []) (Ghost.trans (Ghost.nilH (l := 6) (i := 0) (j := 0) (sz' := 1) rfl rfl rfl) ?_) ?_
 ·simp only [mkS, mkT, mkM, memA, rowA, cellsSc, List.map_nil, liftE_nil, List.cons_append, List.nil_append]
  refine Ghost.sub ?_ ?_ <;> simp -implicitDefEqProofs only [go_sem, ↓reduceIte, Nat.reduceEqDiff, reduceCtorEq, mQ_labs, List.forall_mem_cons, List.not_mem_nil, false_implies, implies_true, and_self, labsIn_lift, List.all_cons, List.all_nil, Nat.reduceLT, labsInL, AV.labsIn]
  all_goals first | rfl | decide | skip
 have ok0 : PairsOK S U [⟨a, b⟩] := ⟨fun p hp => by simp at hp; subst hp; exact ⟨ha, hb⟩, by simp⟩
 refine AW.cut (fun x : List Pr × List (List Stp) => mkS S U x.1 x.2 []) (fun x => x.2 = makeP S U 101 0 [⟨a, b⟩]) ?_ fun x hx => ?_
 rotate_left
 ·obtain ⟨l, ps⟩ := x
  simp only at hx
  refine AW.ghost (s' := ⟨ofL [(8, .ptr 2 0 0), (15, .ptr 6 0 0)], ofH [(2, .row 1 [[.ex []]]), (6, .row 1 [[.p (.slice (ps.map encPt))]])], 8⟩) (Ghost.trans (Ghost.freeze (lb := 7) (sz := 1) (ps := ps.map encPt) rfl (unlift_liftE _)) (Ghost.sub ?_ ?_)) ?_
  ·simp only [mkS, mkT]
   simp -implicitDefEqProofs only [go_sem, ↓reduceIte, Nat.reduceEqDiff, List.forall_mem_cons, List.not_mem_nil, false_implies, implies_true, thaw, Option.map_some]
   first | done | decide | exact ⟨⟨rfl, rfl⟩, rfl, rfl⟩
  ·simp only [mkS, mkM, memA, rowA, cellsSc, List.cons_append, List.nil_append]
   simp -implicitDefEqProofs only [go_sem, ↓reduceIte, Nat.reduceEqDiff, reduceCtorEq, List.forall_mem_cons, List.not_mem_nil, false_implies, implies_true, thaw1, Option.map_some, List.map_cons, List.map_nil]
   first | done | decide
  refine AW.rT (by rfl) fun K hK => ?_
  simp -implicitDefEqProofs only [go_sem, ↓reduceIte, Nat.reduceAdd, Nat.reduceEqDiff, Nat.reduceLeDiff]
  apply hK; clear hK K
  rw [hx]
  refine AW.ret ?_
  simp -implicitDefEqProofs only [go_sem, ↓reduceIte, Nat.reduceEqDiff, Nat.reduceLeDiff, e]
 simp only [mkS, mkT, mkM, memA, rowA, cellsSc, List.cons_append, List.nil_append]
 refine AW.rT (by rfl) fun K hK => ?_
 simp -implicitDefEqProofs only [go_sem, Nat.reduceAdd]
 apply hK; clear hK K
 refine AW.block ?_
 have y1 : [] ++ makeP S U (101 - 0) 0 [⟨a, b⟩] = makeP S U 101 0 [⟨a, b⟩] := by rw [Nat.sub_zero, List.nil_append]
 refine AW.loop (fun x : List Pr × List (List Stp) × Nat => mkS S U x.1 x.2.1 [(16, .p (.int .i64 (x.2.2 : Int)))]) (fun x => x.2.2 ≤ x.1.length ∧ x.2.1.length = x.2.2 ∧ x.2.1 ++ makeP S U (101 - x.2.2) x.2.2 x.1 = makeP S U 101 0 [⟨a, b⟩] ∧ PairsOK S U x.1) (fun x => 101 - x.2.2) ([⟨a, b⟩], [], 0) ?_ ⟨Nat.zero_le _, rfl, y1, ok0⟩ fun x hx => ?_
 ·simp only [mkS, mkT, mkM, memA, rowA, cellsSc, List.cons_append, List.nil_append]
  refine Ghost.sub ?_ ?_ <;> simp -implicitDefEqProofs only [go_sem, ↓reduceIte, Nat.reduceEqDiff, reduceCtorEq, List.forall_mem_cons, List.not_mem_nil, false_implies, implies_true, and_self, labsIn_lift, List.all_cons, List.all_nil, Nat.reduceLT, labsInL, AV.labsIn]
  all_goals first | rfl | decide | skip
 clear M1 M2 e1 e2 AP ok0
 obtain ⟨l, ps, i⟩ := x
 obtain ⟨i1, i2, eE, okl⟩ := hx
 simp only at i1 i2 eE okl
 have hl100 := pairs_len okl RS.len.2.1 RU.len.2.1
 simp only [mkS, mkT, mkM, memA, rowA, cellsSc, List.cons_append, List.nil_append]
 refine AW.seq ?_
 by_cases hil : i < l.length
 case neg =>
  have hc1 : ((i : Int) < (l.length : Int)) = False := eq_false (by omega)
  have eN : makeP S U (101 - i) i l = [] := by
   rw [show 101 - i = (100 - i) + 1 by omega, makeP, List.getElem?_eq_none (by omega)]
  rw [eN, List.append_nil] at eE
  refine AW.rT (by rfl) fun K hK => ?_
  simp -implicitDefEqProofs only [go_sem, ↓reduceIte, Nat.reduceAdd, Nat.reduceEqDiff, reduceCtorEq, hc1, liftE_length, List.length_map]
  apply hK; clear hK K
  refine AW.cF rfl ?_
  refine AW.exit ?_
  simp only [andThen, inBlk, ↓reduceIte]
  refine ⟨(l, ps), eE, ?_⟩
  show Ghost _ _ (mkS S U l ps [])
  simp only [mkS, mkT, mkM, memA, rowA, cellsSc, List.cons_append, List.nil_append]
  refine Ghost.sub ?_ ?_ <;> simp -implicitDefEqProofs only [go_sem, ↓reduceIte, Nat.reduceEqDiff, reduceCtorEq, List.forall_mem_cons, List.not_mem_nil, false_implies, implies_true, and_self, labsIn_lift, List.all_cons, List.all_nil, Nat.reduceLT, labsInL, AV.labsIn]
  all_goals first | rfl | decide | skip
 obtain ⟨p, hp⟩ : ∃ p, l[i]? = some p := ⟨_, List.getElem?_eq_getElem hil⟩
 have g1 := at_lift encPr hp
 have b0 : 0 ≤ (i : Int) := by omega
 have b1 : (i : Int) < (l.length : Int) := by omega
 have hc1 : ((i : Int) < (l.length : Int)) = True := eq_true (by omega)
 have w1 : IntKind.wrap .i64 ((i : Int) + 1) = ((i + 1 : Nat) : Int) := by rw [w64] <;> omega
 have hh := okl.here p (List.mem_of_getElem? hp)
 have hmo := (msgOf_mem hh.1).1
 have hmn := (msgOf_mem hh.2).1
 have M1 := check_Message S p.o (by have := RS.len; omega)
 have M2 := check_Message U p.n (by have := RU.len; omega)
 have e1 : firstP (fun x => x.name == p.o) zMs S.msgs = (msgOf S p.o, true) := by rw [← hh.1]; rfl
 have e2 : firstP (fun x => x.name == p.n) zMs U.msgs = (msgOf U p.n, true) := by rw [← hh.2]; rfl
 rw [e1] at M1
 rw [e2] at M2
 simp only [encSc, encMs] at M1 M2
 simp only [encPr, List.map_cons, List.map_nil] at g1
 have eN : makeP S U (101 - i) i l = (stepsP (msgOf S p.o) (msgOf U p.n) 500 1 l).1 :: makeP S U (100 - i) (i + 1) (stepsP (msgOf S p.o) (msgOf U p.n) 500 1 l).2 := by
  rw [show 101 - i = (100 - i) + 1 by omega, makeP, hp]
 rw [eN] at eE
 generalize hmo' : msgOf S p.o = mo at *
 generalize hmn' : msgOf U p.n = mn at *
 refine AW.rT (by rfl) fun K hK => ?_
 simp -implicitDefEqProofs only [go_sem, ↓reduceIte, Nat.reduceAdd, Nat.reduceEqDiff, reduceCtorEq, hc1, liftE_length, List.length_map]
 apply hK; clear hK K
 refine AW.cT rfl ?_
 refine AW.skip ?_
 simp only [andThen]
 refine AW.seq ?_
 refine AW.block ?_
 refine AW.dT mixed (by rfl) (by decide +kernel) fun K hK => ?_
 simp -implicitDefEqProofs only [go_sem, ↓reduceIte, Nat.reduceAdd, Nat.reduceEqDiff, Nat.reduceLeDiff, reduceCtorEq, g1, b0, b1, liftE_length, List.length_map]
 refine ⟨.pure _, M1, ?_⟩
 try simp -implicitDefEqProofs only [go_sem, ↓reduceIte, Nat.reduceAdd, Nat.reduceEqDiff, Nat.reduceLeDiff]
 refine ⟨by decide +kernel, ?_⟩
 apply hK; clear hK K
 refine AW.dT mixed (by rfl) (by decide +kernel) fun K hK => ?_
 simp -implicitDefEqProofs only [go_sem, ↓reduceIte, Nat.reduceAdd, Nat.reduceEqDiff, Nat.reduceLeDiff, reduceCtorEq, g1, b0, b1, liftE_length, List.length_map]
 refine ⟨.pure _, M2, ?_⟩
 try simp -implicitDefEqProofs only [go_sem, ↓reduceIte, Nat.reduceAdd, Nat.reduceEqDiff, Nat.reduceLeDiff]
 refine ⟨by decide +kernel, ?_⟩
 apply hK; clear hK K
 refine AW.rT (by rfl) fun K hK => ?_
 simp -implicitDefEqProofs only [go_sem, Nat.reduceAdd]
 apply hK; clear hK K
 refine AW.ghost (s' := mkI S U mo mn l ps [] i []) (Ghost.trans (Ghost.nil (t := 21) (sz := 3) rfl) ?_) ?_
 ·simp only [mkI, mkT, mkM, memA, rowA, cellsSc, cellsMs, List.map_nil, liftE_nil, List.cons_append, List.nil_append]
  refine Ghost.ent (fun l => if l = 8 then 28 else if l = 9 then 44 else if l = 10 then 48 else l) ?_ ?_ ?_ <;> simp -implicitDefEqProofs only [go_sem, ↓reduceIte, Nat.reduceEqDiff, reduceCtorEq, List.forall_mem_cons, List.not_mem_nil, false_implies, implies_true, and_self, map_renL_lift, labsIn_lift, List.all_cons, List.all_nil, Nat.reduceLT, labsInL, AV.labsIn]
  all_goals first | rfl | decide | skip
 have SP : ∃ sp, sp = stepsP mo mn 500 1 l := ⟨_, rfl⟩
 obtain ⟨sp, hsp⟩ := SP
 rw [← hsp] at eE
 have okm : mo ∈ S.msgs ∧ mn ∈ U.msgs := ⟨hmo, hmn⟩
 refine AW.cut (fun x : List Pr × List Stp => mkI S U mo mn x.1 ps x.2 i []) (fun x => x.1 = sp.2 ∧ x.2 = sp.1 ∧ PairsOK S U x.1 ∧ i < x.1.length ∧ x.2.length ≤ 500) ?_ fun x hx => ?_
 rotate_left
 ·obtain ⟨l', st⟩ := x
  obtain ⟨h1, h2, okl', hil', hst⟩ := hx
  simp only at h1 h2 okl' hil' hst
  refine AW.ghost (s' := ⟨ofL (mkT [(16, .p (.int .i64 (i : Int))), (21, .p (.slice (st.map encSt)))]), ofH (mkM S U l' ps), 8⟩) ?_ ?_
  ·refine Ghost.trans (Ghost.freeze (lb := 10) (sz := 3) (ps := st.map encSt) ?_ (unlift_liftE _)) ?_
   ·simp only [mkI, mkM, memA, rowA, cellsSc, List.cons_append, List.nil_append]
    simp -implicitDefEqProofs only [go_sem, ↓reduceIte, Nat.reduceEqDiff, reduceCtorEq]
   ·simp only [mkI, mkT, mkM, memA, rowA, cellsSc, cellsMs, List.cons_append, List.nil_append]
    refine Ghost.sub ?_ ?_ <;> simp -implicitDefEqProofs only [go_sem, ↓reduceIte, Nat.reduceEqDiff, reduceCtorEq, thaw, thaw1, Option.map_some, List.map_cons, List.map_nil, thaw_lift, mQ_labs, List.forall_mem_cons, List.not_mem_nil, false_implies, implies_true, and_self, labsIn_lift, List.all_cons, List.all_nil, Nat.reduceLT, labsInL, AV.labsIn]
    all_goals first | rfl | decide | skip
  simp only [mkT, mkM, memA, rowA, cellsSc, List.cons_append, List.nil_append]
  have hl1 := pairs_len okl' RS.len.2.1 RU.len.2.1
  have cn0 : 101 - (i + 1) = 100 - i := by omega
  have m1 : 101 - (i + 1) < 101 - i := by omega
  refine AW.rE (by rfl) fun K hK => ?_
  simp -implicitDefEqProofs only [go_sem, ↓reduceIte, Nat.reduceAdd, Nat.reduceMul, Nat.reduceEqDiff, Nat.reduceLeDiff, reduceCtorEq]
  refine ⟨⟨by simp, by simp [oneAll, AV.one, PV.one], by simp⟩, by rw [liftE_length, List.length_map]; omega, ?_⟩
  try simp -implicitDefEqProofs only [go_sem, ↓reduceIte, Nat.reduceAdd, Nat.reduceMul, Nat.reduceEqDiff, Nat.reduceLeDiff, reduceCtorEq, Int.reduceToNat]
  apply hK; clear hK K
  simp only [andThen, inBlk]
  refine AW.rE (by rfl) fun K hK => ?_
  simp -implicitDefEqProofs only [go_sem, ↓reduceIte, Nat.reduceAdd, Nat.reduceEqDiff, w1]
  apply hK; clear hK K
  refine ⟨(l', ps ++ [st], i + 1), ⟨hil', by simp only [List.length_append, List.length_cons, List.length_nil]; omega, ?_, okl'⟩, m1, ?_⟩
  ·simp only [List.append_assoc, List.cons_append, List.nil_append]
   rw [cn0, h1, h2]
   exact eE
  ·show Ghost _ _ (mkS S U l' (ps ++ [st]) [(16, .p (.int .i64 ((i + 1 : Nat) : Int)))])
   simp only [mkS, mkT, mkM, memA, rowA, cellsSc, List.cons_append, List.nil_append]
   refine Ghost.ent (fun l => if l = 7 then 12 else l) ?_ ?_ ?_ <;> simp -implicitDefEqProofs only [go_sem, ↓reduceIte, Nat.reduceEqDiff, reduceCtorEq, encPt, List.map_append, liftE_append, List.map_cons, List.map_nil, liftE_cons, liftE_nil, List.forall_mem_cons, List.not_mem_nil, false_implies, implies_true, and_self, map_renL_lift, labsIn_lift, List.all_append, List.all_cons, List.all_nil, List.map_append, Nat.reduceLT, labsInL, AV.labsIn]
   all_goals first | rfl | decide | skip
 simp only [mkI, mkT, mkM, memA, rowA, cellsSc, cellsMs, List.cons_append, List.nil_append]
 refine AW.rT (by rfl) fun K hK => ?_
 simp -implicitDefEqProofs only [go_sem, Nat.reduceAdd]
 apply hK; clear hK K
 refine AW.block ?_
 have z0 : (501 - 1 : Nat) = 500 := rfl
 have z00 : ((1 : Nat) : Int) = 1 := rfl
 have z1 : [] ++ (stepsP mo mn (501 - 1) ((1 : Nat) : Int) l).1 = sp.1 := by rw [z0, z00, List.nil_append, hsp]
 have z2 : (stepsP mo mn (501 - 1) ((1 : Nat) : Int) l).2 = sp.2 := by rw [z0, z00, hsp]
 refine AW.loop (fun x : List Pr × List Stp × Nat => mkI S U mo mn x.1 ps x.2.1 i [(22, .p (.int .i64 (x.2.2 : Int)))]) (fun x => x.2.2 ≤ 501 ∧ 1 ≤ x.2.2 ∧ i < x.1.length ∧ x.2.1 ++ (stepsP mo mn (501 - x.2.2) (x.2.2 : Int) x.1).1 = sp.1 ∧ (stepsP mo mn (501 - x.2.2) (x.2.2 : Int) x.1).2 = sp.2 ∧ PairsOK S U x.1 ∧ x.2.1.length < x.2.2) (fun x => 501 - x.2.2) (l, [], 1) ?_ ⟨Nat.le_of_ble_eq_true rfl, Nat.le_refl _, hil, z1, z2, okl, Nat.lt_succ_self _⟩ fun x hx => ?_
 ·simp only [mkI, mkT, mkM, memA, rowA, cellsSc, cellsMs, List.cons_append, List.nil_append]
  refine Ghost.sub ?_ ?_ <;> simp -implicitDefEqProofs only [go_sem, ↓reduceIte, Nat.reduceEqDiff, reduceCtorEq, Int.cast_ofNat_Int, List.map_nil, liftE_nil, List.forall_mem_cons, List.not_mem_nil, false_implies, implies_true, and_self, labsIn_lift, List.all_cons, List.all_nil, Nat.reduceLT, labsInL, AV.labsIn]
  all_goals first | rfl | decide | skip
 clear okl hl100 g1 hc1 hil hp i1 M1 M2 hsp b0 b1
 obtain ⟨l, st, n⟩ := x
 obtain ⟨n1, n2, hil, q1, q2, okl, q3⟩ := hx
 simp only at n1 n2 hil q1 q2 okl q3
 have hl100 := pairs_len okl RS.len.2.1 RU.len.2.1
 simp only [mkI, mkT, mkM, memA, rowA, cellsSc, cellsMs, List.cons_append, List.nil_append]
 refine AW.seq ?_
 by_cases hn : n ≤ 500
 case neg =>
  have hc1 : ((n : Int) ≤ 500) = False := eq_false (by omega)
  rw [show 501 - n = 0 by omega] at q1 q2
  refine AW.rT (by rfl) fun K hK => ?_
  simp -implicitDefEqProofs only [go_sem, ↓reduceIte, Nat.reduceAdd, Nat.reduceEqDiff, hc1]
  apply hK; clear hK K
  refine AW.cF rfl ?_
  refine AW.exit ?_
  simp only [andThen, inBlk, ↓reduceIte]
  refine ⟨(l, st), ⟨q2, by rw [← q1]; exact (List.append_nil _).symm, okl, hil, by simp only; omega⟩, ?_⟩
  show Ghost _ _ (mkI S U mo mn l ps st i [])
  simp only [mkI, mkT, mkM, memA, rowA, cellsSc, cellsMs, List.cons_append, List.nil_append]
  refine Ghost.sub ?_ ?_ <;> simp -implicitDefEqProofs only [go_sem, ↓reduceIte, Nat.reduceEqDiff, reduceCtorEq, List.forall_mem_cons, List.not_mem_nil, false_implies, implies_true, and_self, labsIn_lift, List.all_cons, List.all_nil, Nat.reduceLT, labsInL, AV.labsIn]
  all_goals first | rfl | decide | skip
 have hc1 : ((n : Int) ≤ 500) = True := eq_true (by omega)
 have w2 : IntKind.wrap .i64 ((n : Int) + 1) = ((n + 1 : Nat) : Int) := by rw [w64] <;> omega
 have no1 := (fit_msgs FS hmo).no
 have no2 := (fit_msgs FU hmn).no
 have ST := adapt_tag S U mo mn (n : Int) l (by omega) (by omega) (by omega)
 rw [show 501 - n = (500 - n) + 1 by omega, stepsP] at q1 q2
 simp only at q1 q2
 refine AW.rT (by rfl) fun K hK => ?_
 simp -implicitDefEqProofs only [go_sem, ↓reduceIte, Nat.reduceAdd, Nat.reduceEqDiff, hc1]
 apply hK; clear hK K
 refine AW.cT rfl ?_
 refine AW.skip ?_
 simp only [andThen]
 refine AW.seq ?_
 refine AW.block ?_
 refine AW.rR (SeqR.ev 4 (by rfl) (by decide) ?_)
 simp -implicitDefEqProofs only [go_sem, ↓reduceIte, Nat.reduceAdd, Nat.reduceEqDiff, Nat.reduceLeDiff, reduceCtorEq]
 refine SeqR.call (fun k => k + 3) rfl rfl ST ⟨?_, rfl, ?_, rfl, rfl, rfl, rfl, rfl, memA_by (r := 0) rfl rfl⟩ ?_
 ·simp -implicitDefEqProofs only [go_sem, ↓reduceIte, Nat.reduceEqDiff, argD, encMs]
 ·simp only [memA, rowA]
  simp -implicitDefEqProofs only [go_sem, ↓reduceIte, Nat.reduceAdd, Nat.reduceEqDiff, reduceCtorEq, List.forall_mem_cons, List.not_mem_nil, false_implies, implies_true]
  first | done | decide
 refine SeqR.ev 6 (by rfl) (by decide) ?_
 simp -implicitDefEqProofs only [go_sem, ↓reduceIte, Nat.reduceAdd, Nat.reduceEqDiff, Nat.reduceLeDiff, encSt, List.map_cons, List.map_nil]
 refine SeqR.last rfl ?_
 refine AW.ghost (s' := mkJ S U mo mn (stepLs mo mn (n : Int) l) ps st i n (stepA mo mn (n : Int) l).1 (stepA mo mn (n : Int) l).2) ?_ ?_
 ·simp only [mkJ, mkT, mkM, memA, rowA, cellsSc, cellsMs, List.cons_append, List.nil_append]
  refine Ghost.ent (fun l => if l = 4 then 17 else if l = 5 then 18 else if l = 11 then 22 else l) ?_ ?_ ?_ <;> simp -implicitDefEqProofs only [go_sem, ↓reduceIte, Nat.reduceAdd, Nat.reduceEqDiff, reduceCtorEq, lift2, goneU, newU, Nat.reduceSub, List.forall_mem_cons, List.not_mem_nil, false_implies, implies_true, and_self, map_renL_lift, labsIn_lift, List.all_cons, List.all_nil, Nat.reduceLT, labsInL, AV.labsIn]
  all_goals first | rfl | decide | skip
 have okl' := stepLs_ok RS RU hmo hmn (t := (n : Int)) okl
 have hil' : i < (stepLs mo mn (n : Int) l).length := by
  have := List.getElem?_eq_getElem hil
  exact (List.getElem?_eq_some_iff.1 (pref_stepLs mo mn (n : Int) l i _ this)).1
 obtain ⟨l', hl'⟩ : ∃ l', l' = stepLs mo mn (n : Int) l := ⟨_, rfl⟩
 rw [← hl'] at okl' hil' q1 q2 ⊢
 simp only [mkJ, mkT, mkM, memA, rowA, cellsSc, cellsMs, List.cons_append, List.nil_append]
 have cs : ((n + 1 : Nat) : Int) = (n : Int) + 1 := by omega
 have cn : 501 - (n + 1) = 500 - n := by omega
 have k1 : n + 1 ≤ 501 := by omega
 have k2 : 501 - (n + 1) < 501 - n := by omega
 obtain ⟨so, ho⟩ : ∃ so, so = stepO mo mn (n : Int) l := ⟨_, rfl⟩
 rw [← ho] at q1
 by_cases hso : so = none
 ·rw [hso] at q1 ho
  simp only [Option.toList_none, List.nil_append] at q1
  have eA : (stepA mo mn (n : Int) l).2 = false := by unfold stepA; rw [← ho]; rfl
  refine AW.rT (by rfl) fun K hK => ?_
  simp -implicitDefEqProofs only [go_sem, ↓reduceIte, Nat.reduceAdd, Nat.reduceEqDiff, eA]
  apply hK; clear hK K
  refine AW.cF rfl ?_
  refine AW.skip ?_
  simp only [andThen, inBlk]
  refine AW.rE (by rfl) fun K hK => ?_
  simp -implicitDefEqProofs only [go_sem, ↓reduceIte, Nat.reduceAdd, Nat.reduceEqDiff, w2]
  apply hK; clear hK K
  refine ⟨(l', st, n + 1), ⟨k1, Nat.le_add_left 1 n, hil', ?_, ?_, okl', Nat.lt_succ_of_lt q3⟩, k2, ?_⟩
  ·simp only
   rw [cn, cs]
   exact q1
  ·simp only
   rw [cn, cs]
   exact q2
  ·show Ghost _ _ (mkI S U mo mn l' ps st i [(22, .p (.int .i64 ((n + 1 : Nat) : Int)))])
   simp only [mkI, mkT, mkM, memA, rowA, cellsSc, cellsMs, List.cons_append, List.nil_append]
   refine Ghost.sub ?_ ?_ <;> simp -implicitDefEqProofs only [go_sem, ↓reduceIte, Nat.reduceEqDiff, reduceCtorEq, List.forall_mem_cons, List.not_mem_nil, false_implies, implies_true, and_self, labsIn_lift, List.all_cons, List.all_nil, Nat.reduceLT, labsInL, AV.labsIn]
   all_goals first | rfl | decide | skip
 ·obtain ⟨s, hs⟩ := Option.ne_none_iff_exists'.1 hso
  rw [hs] at q1 ho
  simp only [Option.toList_some, List.cons_append, List.nil_append] at q1
  have eA : stepA mo mn (n : Int) l = (s, true) := by unfold stepA; rw [← ho]; rfl
  rw [eA]
  refine AW.rT (by rfl) fun K hK => ?_
  simp -implicitDefEqProofs only [go_sem, ↓reduceIte, Nat.reduceAdd, Nat.reduceEqDiff]
  apply hK; clear hK K
  refine AW.cT rfl ?_
  refine AW.rE (by rfl) fun K hK => ?_
  simp -implicitDefEqProofs only [go_sem, ↓reduceIte, Nat.reduceAdd, Nat.reduceMul, Nat.reduceEqDiff, Nat.reduceLeDiff, reduceCtorEq]
  refine ⟨⟨by simp, by simp [oneAll, AV.one, PV.one], by simp⟩, by rw [liftE_length, List.length_map]; omega, ?_⟩
  try simp -implicitDefEqProofs only [go_sem, ↓reduceIte, Nat.reduceAdd, Nat.reduceMul, Nat.reduceEqDiff, Nat.reduceLeDiff, reduceCtorEq, Int.reduceToNat]
  apply hK; clear hK K
  simp only [andThen, inBlk]
  refine AW.rE (by rfl) fun K hK => ?_
  simp -implicitDefEqProofs only [go_sem, ↓reduceIte, Nat.reduceAdd, Nat.reduceEqDiff, w2]
  apply hK; clear hK K
  refine ⟨(l', st ++ [s], n + 1), ⟨k1, Nat.le_add_left 1 n, hil', ?_, ?_, okl', by simp only [List.length_append, List.length_cons, List.length_nil]; omega⟩, k2, ?_⟩
  ·simp only [List.append_assoc, List.cons_append, List.nil_append]
   rw [cn, cs]
   exact q1
  ·simp only
   rw [cn, cs]
   exact q2
  ·show Ghost _ _ (mkI S U mo mn l' ps (st ++ [s]) i [(22, .p (.int .i64 ((n + 1 : Nat) : Int)))])
   simp only [mkI, mkT, mkM, memA, rowA, cellsSc, cellsMs, List.cons_append, List.nil_append]
   refine Ghost.ent (fun l => if l = 10 then 16 else l) ?_ ?_ ?_ <;> simp -implicitDefEqProofs only [go_sem, ↓reduceIte, Nat.reduceEqDiff, reduceCtorEq, encSt, List.map_append, liftE_append, List.map_cons, List.map_nil, liftE_cons, liftE_nil, List.forall_mem_cons, List.not_mem_nil, false_implies, implies_true, and_self, map_renL_lift, labsIn_lift, List.all_append, List.all_cons, List.all_nil, List.map_append, Nat.reduceLT, labsInL, AV.labsIn]
   all_goals first | rfl | decide | skip
end Go.Aw
namespace Go.Aw.T
open Go.Proofs
end Go.Aw.T
namespace Go.Aw.T
open Go.Proofs
end Go.Aw.T
namespace Go.Aw.T
open Go.Proofs
theorem bare_of {k n : Int} {s : List UInt8} {es : List (Int × List Tr)} (h : ∀ e ∈ es, ∀ x ∈ e.2, bareT x = x) : bareT (.mk k n s es []) = .mk k n s es [] := by
 rw [bareT, bareE_map]
 congr 1
 conv => rhs; rw [← List.map_id es]
 refine List.map_congr_left fun e he => ?_
 obtain ⟨g, l⟩ := e
 simp only [id_eq, Prod.mk.injEq, true_and]
 conv => rhs; rw [← List.map_id l]
 exact List.map_congr_left fun x hx => h (g, l) he x hx
theorem leaf_bare (k v : Int) : bareT (leafF k v) = leafF k v := by
 unfold leafF
 repeat' split
 all_goals rw [bareT, bareE]
theorem reps_bare {l : List Int} {sub : List UInt8 → Nat → Tr × Nat} {f : Fd} (hs : ∀ k a, bareT (sub k a).1 = (sub k a).1) (a : Nat) : ∀ n, ∀ x ∈ (itS (fun _ => repF l sub f) n ([], a)).1, bareT x = x
 | 0 => by simp [itS]
 | n + 1 => by
  have ih := reps_bare (l := l) (f := f) hs a n
  rw [itS]
  generalize itS (fun _ => repF l sub f) n ([], a) = y at ih
  have ho : bareT (oneF l sub f y.2).1 = (oneF l sub f y.2).1 := by
   unfold oneF
   split
   ·exact leaf_bare _ _
   ·exact hs _ _
  intro x hx
  unfold repF at hx
  simp only at hx
  split at hx
  ·rcases List.mem_append.1 hx with hx | hx
   ·exact ih x hx
   ·simp only [List.mem_singleton] at hx
    rw [hx]; exact ho
  ·exact ih x hx
theorem tags_bare {m : Ms} {l : List Int} {sub : List UInt8 → Nat → Tr × Nat} {ok : Bool} (hs : ∀ k a, bareT (sub k a).1 = (sub k a).1) (a : Nat) : ∀ n, ∀ e ∈ (itS (tagF m l sub ok) n ([], a)).1, ∀ x ∈ e.2, bareT x = x
 | 0 => by simp [itS]
 | n + 1 => by
  have ih := tags_bare (m := m) (l := l) (ok := ok) hs a n
  rw [itS]
  generalize itS (tagF m l sub ok) n ([], a) = y at ih
  intro e he
  unfold tagF at he
  split at he
  ·exact ih e he
  split at he
  ·exact ih e he
  split at he
  ·exact ih e he
  split at he
  ·exact ih e he
  split at he
  ·exact ih e he
  ·simp only at he
   rcases List.mem_append.1 he with he | he
   ·exact ih e he
   ·simp only [List.mem_singleton] at he
    subst he
    exact reps_bare hs _ _
theorem fit_bare (S : Sc) (l : List Int) : ∀ (d : Nat) (k : List UInt8) (a : Nat), bareT (fitF S l d k a).1 = (fitF S l d k a).1
 | 0, k, a => by
  rw [fitF]
  exact bare_of (tags_bare (fun k a => by unfold nowhere; rw [bareT, bareE]) a 500)
 | d + 1, k, a => by
  rw [fitF]
  exact bare_of (tags_bare (fit_bare S l d) a 500)
end Go.Aw.T
namespace Go.Aw.T
open Go.Proofs Go.RowKit
theorem law16_InterpSelf (S : Sc) (p : Int) (l : List Int) (B : bigS S) (hp : -9223372036854775808 ≤ p) (hp' : p ≤ 9223372036854775807) : PFn Tryd.prog 15 [.agg (encSc S), .int .i64 p, .slice (l.map encI)] (.bool true) := by
 have CF := law00_Few S B
 simp only [encSc] at CF
 refine PFn.of Tryd.func15 rfl (by decide) Tryd.ntmps15 Tryd.results15 (Nat.le_of_ble_eq_true rfl) ?_
 simp only [argsT]
 refine AW.rT (by rfl) fun K hK => ?_
 simp -implicitDefEqProofs only [go_sem, Nat.reduceAdd, encSc]
 apply hK; clear hK K
 refine AW.seq ?_
 cases hf : fewB S with
 | false =>
  rw [hf] at CF
  refine AW.rT (by rfl) fun K hK => ?_
  simp -implicitDefEqProofs only [go_sem, ↓reduceIte, Nat.reduceAdd, Nat.reduceEqDiff, Nat.reduceLeDiff]
  refine ⟨.pure _, CF, ?_⟩
  try simp -implicitDefEqProofs only [go_sem, ↓reduceIte, Nat.reduceAdd, Nat.reduceEqDiff]
  apply hK; clear hK K
  refine AW.cT rfl ?_
  refine AW.rT (by rfl) fun K hK => ?_
  simp -implicitDefEqProofs only [go_sem]
  refine ⟨.pure _, law16_awake, ?_⟩
  try simp -implicitDefEqProofs only [go_sem, Nat.reduceAdd]
  apply hK; clear hK K
  refine AW.ret ?_
  simp -implicitDefEqProofs only [go_sem]
 | true =>
 rw [hf] at CF
 have F := few_spec hf
 have L := F.lens
 have C1 := ref07_Check S L
 simp only [encSc] at C1
 by_cases h0 : checkC S = 0
 case neg =>
  have b0 : (checkC S != 0) = true := by simpa using h0
  refine AW.rT (by rfl) fun K hK => ?_
  simp -implicitDefEqProofs only [go_sem, ↓reduceIte, Nat.reduceAdd, Nat.reduceEqDiff, Nat.reduceLeDiff]
  refine ⟨.pure _, CF, ?_⟩
  try simp -implicitDefEqProofs only [go_sem, ↓reduceIte, Nat.reduceAdd, Nat.reduceEqDiff, Nat.reduceLeDiff]
  refine ⟨.pure _, C1, ?_⟩
  try simp -implicitDefEqProofs only [go_sem, ↓reduceIte, Nat.reduceAdd, Nat.reduceEqDiff, b0]
  apply hK; clear hK K
  refine AW.cT rfl ?_
  refine AW.rT (by rfl) fun K hK => ?_
  simp -implicitDefEqProofs only [go_sem]
  refine ⟨.pure _, law16_awake, ?_⟩
  try simp -implicitDefEqProofs only [go_sem, Nat.reduceAdd]
  apply hK; clear hK K
  refine AW.ret ?_
  simp -implicitDefEqProofs only [go_sem]
 have b0 : (checkC S != 0) = false := by simp [h0]
 by_cases hl : l.length > 200
 ·have b1 : ((l.length : Int) > 200) = True := eq_true (by omega)
  refine AW.rT (by rfl) fun K hK => ?_
  simp -implicitDefEqProofs only [go_sem, ↓reduceIte, Nat.reduceAdd, Nat.reduceEqDiff, Nat.reduceLeDiff]
  refine ⟨.pure _, CF, ?_⟩
  try simp -implicitDefEqProofs only [go_sem, ↓reduceIte, Nat.reduceAdd, Nat.reduceEqDiff, Nat.reduceLeDiff]
  refine ⟨.pure _, C1, ?_⟩
  try simp -implicitDefEqProofs only [go_sem, ↓reduceIte, Nat.reduceAdd, Nat.reduceEqDiff, reduceCtorEq, b0, b1, List.length_map]
  apply hK; clear hK K
  refine AW.cT rfl ?_
  refine AW.rT (by rfl) fun K hK => ?_
  simp -implicitDefEqProofs only [go_sem]
  refine ⟨.pure _, law16_awake, ?_⟩
  try simp -implicitDefEqProofs only [go_sem, Nat.reduceAdd]
  apply hK; clear hK K
  refine AW.ret ?_
  simp -implicitDefEqProofs only [go_sem]
 have b1 : ((l.length : Int) > 200) = False := eq_false (by omega)
 refine AW.rT (by rfl) fun K hK => ?_
 simp -implicitDefEqProofs only [go_sem, ↓reduceIte, Nat.reduceAdd, Nat.reduceEqDiff, Nat.reduceLeDiff]
 refine ⟨.pure _, CF, ?_⟩
 try simp -implicitDefEqProofs only [go_sem, ↓reduceIte, Nat.reduceAdd, Nat.reduceEqDiff, Nat.reduceLeDiff]
 refine ⟨.pure _, C1, ?_⟩
 try simp -implicitDefEqProofs only [go_sem, ↓reduceIte, Nat.reduceAdd, Nat.reduceEqDiff, reduceCtorEq, b0, b1, List.length_map]
 apply hK; clear hK K
 refine AW.cF rfl ?_
 refine AW.skip ?_
 simp only [andThen]
 have R := right_of h0
 have hn := R.len.1
 have CP := Go.Aw.law00_Place p (S.msgs.length : Int) (by omega) (by have := R.len; omega) hp hp'
 have hq0 := Int.emod_nonneg p (show (S.msgs.length : Int) ≠ 0 by omega)
 have hq1 := Int.emod_lt_of_pos p (show (0 : Int) < (S.msgs.length : Int) by omega)
 obtain ⟨q, hq⟩ := Int.eq_ofNat_of_zero_le hq0
 rw [hq] at CP hq1
 obtain ⟨m, hm⟩ : ∃ m, S.msgs[q]? = some m := ⟨_, List.getElem?_eq_getElem (by omega)⟩
 have hmm := List.mem_of_getElem? hm
 have ⟨hm1, hm2, hm3⟩ := at_map' encMs hm
 have hq2 : ((q : Int) < (S.msgs.length : Int)) = True := eq_true (by omega)
 have FT := fit_t h0 hm l
 have hb := fit_bare S l 4 m.name 0
 have SZ := siz_right R
 have CT := law00_Fit S SZ (flds_all R) l (by omega) m.name (by rw [FT.ms])
 have hM : hasM S m.name = true := by
  show (msOf S m.name).2 = true
  rw [FT.ms]
 have MK := adapt_Make S S L L m.name m.name
 rw [makeR_ok h0 h0 hM hM] at MK
 have hmo : msgOf S m.name = m := by
  show (msOf S m.name).1 = m
  rw [FT.ms]
 have hb : bareT (fitB S m.name l) = fitB S m.name l := hb
 generalize fitB S m.name l = t at FT CT hb
 have G := FT.good
 have RN := made_run h0 h0 (cmp_self R) ⟨rfl, hM⟩ G.kind FT.ok (by rw [hmo]; exact G.msg)
 rw [hmo, prM_keeps S (flds_all R) t m (flds_ok R hmm) G.right G.kind G.msg hb] at RN
 generalize makeP S S 101 0 [⟨m.name, m.name⟩] = P at MK RN
 have C2 := law00_Schema S F
 have C3 := law00_Tree t G.lens
 have C4 := interp_Run P t G.lens
 rw [RN] at C4
 have C5 := same_of (ref09_Same t t G.lens) rfl
 simp only [encSc, encTr_eq t] at C2 C3 C4 C5 CT MK
 have e0 : ((0 : Int) == 0) = true := rfl
 refine AW.dT mixed (by rfl) (by decide +kernel) fun K hK => ?_
 simp -implicitDefEqProofs only [go_sem, ↓reduceIte, Nat.reduceAdd, Nat.reduceEqDiff, List.length_map]
 refine ⟨.pure _, CP, ?_⟩
 try simp -implicitDefEqProofs only [go_sem, ↓reduceIte, Nat.reduceAdd, Nat.reduceEqDiff, hm1, hm3, hq2, encMs, List.length_map]
 refine ⟨by decide +kernel, ?_⟩
 apply hK; clear hK K
 refine AW.rT (by rfl) fun K hK => ?_
 simp -implicitDefEqProofs only [go_sem, ↓reduceIte, Nat.reduceAdd, Nat.reduceEqDiff, Nat.reduceLeDiff, reduceCtorEq]
 refine ⟨.pure _, CT, ?_⟩
 try simp -implicitDefEqProofs only [go_sem, ↓reduceIte, Nat.reduceAdd, Nat.reduceEqDiff, Nat.reduceLeDiff]
 apply hK; clear hK K
 refine AW.dT mixed (by rfl) (by decide +kernel) fun K hK => ?_
 simp -implicitDefEqProofs only [go_sem, ↓reduceIte, Nat.reduceAdd, Nat.reduceEqDiff, Nat.reduceLeDiff, reduceCtorEq]
 refine ⟨.pure _, C2, ?_⟩
 try simp -implicitDefEqProofs only [go_sem, ↓reduceIte, Nat.reduceAdd, Nat.reduceEqDiff, Nat.reduceLeDiff, reduceCtorEq]
 refine ⟨.pure _, C2, ?_⟩
 try simp -implicitDefEqProofs only [go_sem, ↓reduceIte, Nat.reduceAdd, Nat.reduceEqDiff]
 refine ⟨.pure _, MK, ?_⟩
 try simp -implicitDefEqProofs only [go_sem, ↓reduceIte, Nat.reduceAdd, Nat.reduceEqDiff, Nat.reduceLeDiff]
 refine ⟨by decide +kernel, ?_⟩
 apply hK; clear hK K
 refine AW.dT mixed (by rfl) (by decide +kernel) fun K hK => ?_
 simp -implicitDefEqProofs only [go_sem, ↓reduceIte, Nat.reduceAdd, Nat.reduceEqDiff, Nat.reduceLeDiff]
 refine ⟨.pure _, C3, ?_⟩
 try simp -implicitDefEqProofs only [go_sem, ↓reduceIte, Nat.reduceAdd, Nat.reduceEqDiff]
 refine ⟨.pure _, C4, ?_⟩
 try simp -implicitDefEqProofs only [go_sem, ↓reduceIte, Nat.reduceAdd, Nat.reduceEqDiff, Nat.reduceLeDiff]
 refine ⟨by decide +kernel, ?_⟩
 apply hK; clear hK K
 refine AW.rT (by rfl) fun K hK => ?_
 simp -implicitDefEqProofs only [go_sem, ↓reduceIte, Nat.reduceAdd, Nat.reduceEqDiff, Nat.reduceLeDiff, e0]
 refine ⟨.pure _, C5, ?_⟩
 try simp -implicitDefEqProofs only [go_sem, ↓reduceIte, Nat.reduceAdd, Nat.reduceEqDiff]
 refine ⟨.pure _, law16_awake, ?_⟩
 try simp -implicitDefEqProofs only [go_sem, ↓reduceIte, Nat.reduceAdd, Nat.reduceEqDiff]
 apply hK; clear hK K
 refine AW.ret ?_
 simp -implicitDefEqProofs only [go_sem]
end Go.Aw.T
namespace Go.Aw.T
open Go.RowKit Go.ChangeShapes
open Go.Proofs
variable {P : Program} {w : World}
def OpnB (B : Nat → Prop) (P : Program) (w : World) (t : TypeId) {α : Type} (e : α → List PV) (G : α → Prop) : Prop :=
 (∀ a, ∀ p ∈ e a, p.one = true) ∧ ∀ (H : Type) (enc : TypeId × Value → H) (fuel : Nat), B fuel → ∀ (cs : List Value) (d : DataW H × List MemPlace), DataW.trod enc P w 0 (fun _ => true) true fuel t cs = some d →
  ∃ a, G a ∧ cs.length = (e a).length ∧ ∀ (j : Nat) u p, cs[j]? = some u → (e a)[j]? = some p → rep w (old w) u p
theorem OpnB.mono {B B' : Nat → Prop} {t : TypeId} {α : Type} {e : α → List PV} {G : α → Prop} (h : OpnB B P w t e G) (hb : ∀ n, B' n → B n) : OpnB B' P w t e G := ⟨h.1, fun H enc fuel hB cs d hd => h.2 H enc fuel (hb _ hB) cs d hd⟩
end Go.Aw.T
namespace Go.Aw.T
open Go.Proofs Go.RowKit Go.ChangeShapes
end Go.Aw.T
