/- What the law LawAdaptSame leans on, joined (part 4). -/
import Derived.Test.YtmeplhcfjihafaaDoorZadaptSame3
set_option linter.unusedSimpArgs false
set_option linter.unusedVariables false
namespace Go.Aw
open Go.Proofs Go.RowKit
set_option linter.unusedSimpArgs false
set_option linter.unusedVariables false
theorem lift_len {α : Type} {f : α → List PV} {n : Nat} (h : ∀ a, (f a).length = n) (l : List α) : ∀ y ∈ liftE (l.map f), y.length = n := by
 intro y hy
 unfold liftE at hy
 rw [List.map_map] at hy
 obtain ⟨a, _, rfl⟩ := List.mem_map.1 hy
 simp [h]
theorem one_lift {l : List PV} (h : ∀ p ∈ l, p.one = true) : oneAll (l.map AV.p) = true := by
 induction l with
 | nil => rfl
 | cons a l ih =>
  rw [List.map_cons, oneAll, ih fun p hp => h p (List.mem_cons_of_mem _ hp), Bool.and_true]
  exact h a List.mem_cons_self
theorem lift_one {α : Type} {f : α → List PV} (h : ∀ a, ∀ p ∈ f a, p.one = true) (l : List α) : ∀ y ∈ liftE (l.map f), oneAll y = true := by
 intro y hy
 unfold liftE at hy
 rw [List.map_map] at hy
 obtain ⟨a, _, rfl⟩ := List.mem_map.1 hy
 exact one_lift (h a)
theorem one_I (a : Int) : ∀ p ∈ encI a, p.one = true := by intro p hp; simp [encI] at hp; subst hp; rfl
theorem one_Fd (a : Fd) : ∀ p ∈ encFd a, p.one = true := by intro p hp; simp [encFd] at hp; rcases hp with rfl | rfl | rfl | rfl | rfl <;> rfl
theorem one_Nm (a : Nm) : ∀ p ∈ encNm a, p.one = true := by intro p hp; simp [encNm] at hp; rcases hp with rfl | rfl <;> rfl
theorem one_Mt (a : Mt) : ∀ p ∈ encMt a, p.one = true := by intro p hp; simp [encMt] at hp; rcases hp with rfl | rfl | rfl <;> rfl
set_option maxRecDepth 100000 in
theorem law00_Ints (l : List Int) (hl : l.length ≤ 1000000) : PFn Tryd.prog 62 [.slice (l.map encI)] (.slice (l.map encI)) := by
 refine PFn.of Tryd.func62 rfl (by decide) Tryd.ntmps62 Tryd.results62 (Nat.le_of_ble_eq_true rfl) ?_
 simp only [argsT]
 refine AW.rT (by rfl) fun K hK => ?_
 simp -implicitDefEqProofs only [go_sem, ↓reduceIte, Nat.reduceAdd, Nat.reduceMul, Nat.reduceEqDiff, Nat.reduceLeDiff, reduceCtorEq, Int.reduceToNat]
 refine hK _ ?_; clear hK K
 refine AW.rT (by rfl) fun K hK => ?_
 simp -implicitDefEqProofs only [go_sem, ↓reduceIte, Nat.reduceAdd, Nat.reduceMul, Nat.reduceEqDiff, Nat.reduceLeDiff, reduceCtorEq, Int.reduceToNat]
 refine ⟨⟨lift_len (f := encI) (fun _ => rfl) l, lift_one one_I l, by simp⟩, ⟨.inl trivial, by simp, by rw [liftE_length, List.length_map]; omega⟩, ?_⟩
 refine hK _ ?_; clear hK K
 refine AW.ret ?_
 simp -implicitDefEqProofs only [go_sem, ↓reduceIte, Nat.reduceAdd, Nat.reduceMul, Nat.reduceEqDiff, Nat.reduceLeDiff, reduceCtorEq, Int.reduceToNat]
def fdFew (f : Fd) : Bool := decide (f.name.length ≤ 200 ∧ f.ty.name.length ≤ 200)
def msFew (m : Ms) : Bool := decide (m.fields.length ≤ 20 ∧ m.res.length ≤ 40) && m.fields.all fdFew
def nmFew (v : Nm) : Bool := decide (v.name.length ≤ 200)
def enFew (e : En) : Bool := decide (e.name.length ≤ 200 ∧ e.vals.length ≤ 24) && e.vals.all nmFew
def mtFew (t : Mt) : Bool := decide (t.name.length ≤ 200 ∧ t.inn.length ≤ 200 ∧ t.out.length ≤ 200)
def totN (S : Sc) (k : Nat) : Nat := S.name.length + ((S.msgs.take k).map fun m => m.name.length).sum
def fewB (S : Sc) : Bool := (S.msgs.take 20).all msFew && ((S.enums.take 20).all enFew && ((S.meths.take 20).all mtFew && decide (totN S 20 < 3000 ∧ S.msgs.length ≤ 14 ∧ S.enums.length ≤ 10 ∧ S.meths.length ≤ 10)))
def bigS (S : Sc) : Prop := S.name.length ≤ reachBytes ∧ ∀ m ∈ S.msgs, m.name.length ≤ reachBytes
theorem tot_next {S : Sc} {i : Nat} {m : Ms} (h : S.msgs[i]? = some m) : totN S (i + 1) = totN S i + m.name.length := by
 unfold totN
 rw [List.take_add_one, h]
 simp; omega
theorem sum_le {l : List Ms} {n : Nat} (h : ∀ m ∈ l, m.name.length ≤ n) : (l.map fun m => m.name.length).sum ≤ l.length * n := by
 induction l with
 | nil => simp
 | cons a l ih =>
  rw [List.map_cons, List.sum_cons, List.length_cons, Nat.add_mul]
  have := h a List.mem_cons_self
  have := ih fun m hm => h m (List.mem_cons_of_mem _ hm)
  omega
theorem tot_le {S : Sc} (h : bigS S) {i : Nat} (hi : i ≤ 20) : totN S i ≤ 21 * 140737488351232 := by
 have h1 := h.1
 have h2 := sum_le (l := S.msgs.take i) (n := reachBytes) fun m hm => h.2 m (List.mem_of_mem_take hm)
 have hl : (S.msgs.take i).length ≤ 20 := by rw [List.length_take]; omega
 have : (S.msgs.take i).length * reachBytes ≤ 20 * reachBytes := Nat.mul_le_mul_right _ hl
 have e : reachBytes = 140737488351232 := by decide
 unfold totN
 omega
theorem take_end {α : Type} {l : List α} {i : Nat} (hi : i ≤ l.length) (h2 : i ≤ 20) (h : ¬ (i < l.length ∧ i < 20)) : l.take i = l.take 20 := by
 by_cases h3 : i = 20
 ·rw [h3]
 ·rw [List.take_of_length_le (by omega), List.take_of_length_le (by omega)]
theorem few_msg {S : Sc} {i : Nat} {m : Ms} (h : S.msgs[i]? = some m) (hi : i < 20) (hm : msFew m = false) : fewB S = false := by
 have : (S.msgs.take 20).all msFew = false := all_not (k := i) (r := m) (by rw [List.getElem?_take, if_pos hi]; exact h) hm
 unfold fewB; rw [this]; rfl
theorem few_enum {S : Sc} {i : Nat} {m : En} (h : S.enums[i]? = some m) (hi : i < 20) (hm : enFew m = false) : fewB S = false := by
 have : (S.enums.take 20).all enFew = false := all_not (k := i) (r := m) (by rw [List.getElem?_take, if_pos hi]; exact h) hm
 unfold fewB; rw [this]; simp
theorem few_meth {S : Sc} {i : Nat} {m : Mt} (h : S.meths[i]? = some m) (hi : i < 20) (hm : mtFew m = false) : fewB S = false := by
 have : (S.meths.take 20).all mtFew = false := all_not (k := i) (r := m) (by rw [List.getElem?_take, if_pos hi]; exact h) hm
 unfold fewB; rw [this]; simp
def fw (S : Sc) (l : List (Nat × AV)) : St := ⟨ofL ((1, .ptr 0 0 0) :: l), ofH [(0, .row 4 [cellsSc S])], 1⟩
set_option maxRecDepth 100000 in
set_option maxHeartbeats 8000000 in
theorem law00_Few (S : Sc) (B : bigS S) : PFn Tryd.prog 21 [.agg (encSc S)] (.bool (fewB S)) := by
 refine PFn.of Tryd.func21 rfl (by decide) Tryd.ntmps21 Tryd.results21 (Nat.le_of_ble_eq_true rfl) ?_
 simp only [argsT, encSc]
 refine AW.rT (by rfl) fun K hK => ?_
 simp -implicitDefEqProofs only [go_sem, ↓reduceIte, Nat.reduceAdd, Nat.reduceMul, Nat.reduceEqDiff, Nat.reduceLeDiff, reduceCtorEq, Int.reduceToNat]
 refine hK _ ?_; clear hK K
 refine AW.rT (by rfl) fun K hK => ?_
 simp -implicitDefEqProofs only [go_sem, ↓reduceIte, Nat.reduceAdd, Nat.reduceMul, Nat.reduceEqDiff, Nat.reduceLeDiff, reduceCtorEq, Int.reduceToNat]
 refine hK _ ?_; clear hK K
 refine AW.cut (fun _ : Unit => fw S [(3, .p (.int .i64 (totN S 20 : Int)))]) (fun _ => (S.msgs.take 20).all msFew = true) ?_ fun _ qA => ?_
 rotate_left
 ·skip
  try simp only [fw, cellsSc]
  refine AW.cut (fun _ : Unit => fw S [(3, .p (.int .i64 (totN S 20 : Int)))]) (fun _ => (S.enums.take 20).all enFew = true) ?_ fun _ qC => ?_
  ·refine AW.rT (by rfl) fun K hK => ?_
   simp -implicitDefEqProofs only [go_sem, ↓reduceIte, Nat.reduceAdd, Nat.reduceMul, Nat.reduceEqDiff, Nat.reduceLeDiff, reduceCtorEq, Int.reduceToNat]
   refine hK _ ?_; clear hK K
   refine AW.block ?_
   refine AW.loop (fun i : Nat => fw S [(3, .p (.int .i64 (totN S 20 : Int))), (7, .p (.int .i64 (i : Int)))]) (fun i => (i ≤ S.enums.length ∧ i ≤ 20) ∧ (S.enums.take i).all enFew = true) (fun i => 20 - i) 0 ?_ ⟨⟨by omega, by omega⟩, by simp⟩ fun i hi => ?_
   ·simp only [fw, cellsSc]
    refine Ghost.sub ?_ ?_ <;> simp -implicitDefEqProofs only [go_sem, ↓reduceIte, Nat.reduceAdd, Nat.reduceMul, Nat.reduceEqDiff, Nat.reduceLeDiff, reduceCtorEq, Int.reduceToNat,  List.forall_mem_cons, List.not_mem_nil, false_implies, implies_true, and_self, labsIn_lift, List.all_append, List.all_cons, List.all_nil, Nat.reduceLT, labsInL, AV.labsIn]
    all_goals first | rfl | decide | skip
   obtain ⟨⟨i1, i0⟩, i2⟩ := hi
   try simp only [fw, cellsSc]
   refine AW.seq ?_
   by_cases hil : i < S.enums.length ∧ i < 20
   ·have c1 : ((i : Int) < (S.enums.length : Int)) = True := eq_true (by omega)
    have c2 : ((i : Int) < 20) = True := eq_true (by omega)
    obtain ⟨m, hm⟩ : ∃ m, S.enums[i]? = some m := ⟨_, List.getElem?_eq_getElem hil.1⟩
    have ⟨hm1, hm2, hm3⟩ := at_map' encEn hm
    have hm2' : (i : Int) < (S.enums.length : Int) := by omega
    have w1 : IntKind.wrap .i64 ((i : Int) + 1) = ((i + 1 : Nat) : Int) := by rw [w64] <;> omega
    refine AW.rT (by rfl) fun K hK => ?_
    simp -implicitDefEqProofs only [go_sem, ↓reduceIte, Nat.reduceAdd, Nat.reduceMul, Nat.reduceEqDiff, Nat.reduceLeDiff, reduceCtorEq, Int.reduceToNat, c1, c2, List.length_map]
    refine hK _ ?_; clear hK K
    refine AW.cond _ (by simp -implicitDefEqProofs only [go_sem, ↓reduceIte, Nat.reduceAdd, Nat.reduceMul, Nat.reduceEqDiff, Nat.reduceLeDiff, reduceCtorEq, Int.reduceToNat]; rfl) (fun hc => ?_) (fun hc => ?_)
    rotate_left
    ·simp at hc
    refine AW.skip ?_
    simp only [andThen, inBlk, reduceCtorEq, ↓reduceIte, if_t, if_f]
    refine AW.seq ?_
    refine AW.block ?_
    refine AW.seq ?_
    by_cases a1 : m.name.length > 200
    ·have f1 : ((m.name.length : Int) > 200) = True := eq_true (by omega)
     have e := few_enum hm hil.2 (by unfold enFew; rw [decide_eq_false (by omega)]; rfl)
     refine AW.rT (by rfl) fun K hK => ?_
     simp -implicitDefEqProofs only [go_sem, ↓reduceIte, Nat.reduceAdd, Nat.reduceMul, Nat.reduceEqDiff, Nat.reduceLeDiff, reduceCtorEq, Int.reduceToNat, hm1, hm2', hm3, encEn, List.length_map, f1]
     refine hK _ ?_; clear hK K
     refine AW.cond _ (by simp -implicitDefEqProofs only [go_sem, ↓reduceIte, Nat.reduceAdd, Nat.reduceMul, Nat.reduceEqDiff, Nat.reduceLeDiff, reduceCtorEq, Int.reduceToNat]; rfl) (fun hc => ?_) (fun hc => ?_)
     rotate_left
     ·simp at hc
     refine AW.rT (by rfl) fun K hK => ?_
     simp -implicitDefEqProofs only [go_sem, ↓reduceIte, Nat.reduceAdd, Nat.reduceMul, Nat.reduceEqDiff, Nat.reduceLeDiff, reduceCtorEq, Int.reduceToNat]
     refine hK _ ?_; clear hK K
     refine AW.ret ?_
     simp -implicitDefEqProofs only [go_sem, ↓reduceIte, Nat.reduceAdd, Nat.reduceMul, Nat.reduceEqDiff, Nat.reduceLeDiff, reduceCtorEq, Int.reduceToNat, e]
    have f1 : ((m.name.length : Int) > 200) = False := eq_false (by omega)
    by_cases a2 : m.vals.length > 24
    ·have f2 : ((m.vals.length : Int) > 24) = True := eq_true (by omega)
     have e := few_enum hm hil.2 (by unfold enFew; rw [decide_eq_false (by omega)]; rfl)
     refine AW.rT (by rfl) fun K hK => ?_
     simp -implicitDefEqProofs only [go_sem, ↓reduceIte, Nat.reduceAdd, Nat.reduceMul, Nat.reduceEqDiff, Nat.reduceLeDiff, reduceCtorEq, Int.reduceToNat, hm1, hm2', hm3, encEn, List.length_map, f1, f2]
     refine hK _ ?_; clear hK K
     refine AW.cond _ (by simp -implicitDefEqProofs only [go_sem, ↓reduceIte, Nat.reduceAdd, Nat.reduceMul, Nat.reduceEqDiff, Nat.reduceLeDiff, reduceCtorEq, Int.reduceToNat]; rfl) (fun hc => ?_) (fun hc => ?_)
     rotate_left
     ·simp at hc
     refine AW.rT (by rfl) fun K hK => ?_
     simp -implicitDefEqProofs only [go_sem, ↓reduceIte, Nat.reduceAdd, Nat.reduceMul, Nat.reduceEqDiff, Nat.reduceLeDiff, reduceCtorEq, Int.reduceToNat]
     refine hK _ ?_; clear hK K
     refine AW.ret ?_
     simp -implicitDefEqProofs only [go_sem, ↓reduceIte, Nat.reduceAdd, Nat.reduceMul, Nat.reduceEqDiff, Nat.reduceLeDiff, reduceCtorEq, Int.reduceToNat, e]
    have f2 : ((m.vals.length : Int) > 24) = False := eq_false (by omega)
    refine AW.rT (by rfl) fun K hK => ?_
    simp -implicitDefEqProofs only [go_sem, ↓reduceIte, Nat.reduceAdd, Nat.reduceMul, Nat.reduceEqDiff, Nat.reduceLeDiff, reduceCtorEq, Int.reduceToNat, hm1, hm2', hm3, encEn, List.length_map, f1, f2]
    refine hK _ ?_; clear hK K
    refine AW.cond _ (by simp -implicitDefEqProofs only [go_sem, ↓reduceIte, Nat.reduceAdd, Nat.reduceMul, Nat.reduceEqDiff, Nat.reduceLeDiff, reduceCtorEq, Int.reduceToNat]; rfl) (fun hc => ?_) (fun hc => ?_)
    ·simp at hc
    refine AW.skip ?_
    simp only [andThen, inBlk, reduceCtorEq, ↓reduceIte, if_t, if_f]
    refine AW.rT (by rfl) fun K hK => ?_
    simp -implicitDefEqProofs only [go_sem, ↓reduceIte, Nat.reduceAdd, Nat.reduceMul, Nat.reduceEqDiff, Nat.reduceLeDiff, reduceCtorEq, Int.reduceToNat]
    refine hK _ ?_; clear hK K
    refine AW.block ?_
    refine AW.loop (fun j : Nat => fw S [(3, .p (.int .i64 (totN S 20 : Int))), (7, .p (.int .i64 (i : Int))), (8, .p (.int .i64 (j : Int)))]) (fun j => j ≤ m.vals.length ∧ (m.vals.take j).all nmFew = true) (fun j => m.vals.length - j) 0 ?_ ⟨by omega, by simp⟩ fun j hj => ?_
    ·simp only [fw, cellsSc]
     refine Ghost.sub ?_ ?_ <;> simp -implicitDefEqProofs only [go_sem, ↓reduceIte, Nat.reduceAdd, Nat.reduceMul, Nat.reduceEqDiff, Nat.reduceLeDiff, reduceCtorEq, Int.reduceToNat,  List.forall_mem_cons, List.not_mem_nil, false_implies, implies_true, and_self, labsIn_lift, List.all_append, List.all_cons, List.all_nil, Nat.reduceLT, labsInL, AV.labsIn]
     all_goals first | rfl | decide | skip
    obtain ⟨j1, j2⟩ := hj
    try simp only [fw, cellsSc]
    refine AW.seq ?_
    by_cases hjl : j < m.vals.length
    case neg =>
     have c3 : ((j : Int) < (m.vals.length : Int)) = False := eq_false (by omega)
     rw [List.take_of_length_le (by omega)] at j2
     have hmf : enFew m = true := by unfold enFew; rw [decide_eq_true (by omega), j2]; rfl
     refine AW.rT (by rfl) fun K hK => ?_
     simp -implicitDefEqProofs only [go_sem, ↓reduceIte, Nat.reduceAdd, Nat.reduceMul, Nat.reduceEqDiff, Nat.reduceLeDiff, reduceCtorEq, Int.reduceToNat, hm1, hm2', hm3, encEn, List.length_map, c3]
     refine hK _ ?_; clear hK K
     refine AW.cond _ (by simp -implicitDefEqProofs only [go_sem, ↓reduceIte, Nat.reduceAdd, Nat.reduceMul, Nat.reduceEqDiff, Nat.reduceLeDiff, reduceCtorEq, Int.reduceToNat]; rfl) (fun hc => ?_) (fun hc => ?_)
     ·simp at hc
     refine AW.exit ?_
     simp only [andThen, inBlk, reduceCtorEq, ↓reduceIte, if_t, if_f]
     refine AW.rE (by rfl) fun K hK => ?_
     simp -implicitDefEqProofs only [go_sem, ↓reduceIte, Nat.reduceAdd, Nat.reduceMul, Nat.reduceEqDiff, Nat.reduceLeDiff, reduceCtorEq, Int.reduceToNat, w1]
     refine hK _ ?_; clear hK K
     refine ⟨i + 1, ⟨⟨by omega, by omega⟩, all_next hm i2 hmf⟩, by omega, ?_⟩
     try simp only [fw, cellsSc]
     refine Ghost.sub ?_ ?_ <;> simp -implicitDefEqProofs only [go_sem, ↓reduceIte, Nat.reduceAdd, Nat.reduceMul, Nat.reduceEqDiff, Nat.reduceLeDiff, reduceCtorEq, Int.reduceToNat,  List.forall_mem_cons, List.not_mem_nil, false_implies, implies_true, and_self, labsIn_lift, List.all_append, List.all_cons, List.all_nil, Nat.reduceLT, labsInL, AV.labsIn]
    obtain ⟨f, hf⟩ : ∃ f, m.vals[j]? = some f := ⟨_, List.getElem?_eq_getElem hjl⟩
    have ⟨hf1, hf2, hf3⟩ := at_map' encNm hf
    have hf2' : (j : Int) < (m.vals.length : Int) := by omega
    have c3 : ((j : Int) < (m.vals.length : Int)) = True := eq_true (by omega)
    have w3 : IntKind.wrap .i64 ((j : Int) + 1) = ((j + 1 : Nat) : Int) := by rw [w64] <;> omega
    refine AW.rT (by rfl) fun K hK => ?_
    simp -implicitDefEqProofs only [go_sem, ↓reduceIte, Nat.reduceAdd, Nat.reduceMul, Nat.reduceEqDiff, Nat.reduceLeDiff, reduceCtorEq, Int.reduceToNat, hm1, hm2', hm3, encEn, List.length_map, c3]
    refine hK _ ?_; clear hK K
    refine AW.cond _ (by simp -implicitDefEqProofs only [go_sem, ↓reduceIte, Nat.reduceAdd, Nat.reduceMul, Nat.reduceEqDiff, Nat.reduceLeDiff, reduceCtorEq, Int.reduceToNat]; rfl) (fun hc => ?_) (fun hc => ?_)
    rotate_left
    ·simp at hc
    refine AW.skip ?_
    simp only [andThen, inBlk, reduceCtorEq, ↓reduceIte, if_t, if_f]
    refine AW.seq ?_
    refine AW.block ?_
    by_cases b1 : f.name.length > 200
    ·have f1 : ((f.name.length : Int) > 200) = True := eq_true (by omega)
     have e := few_enum hm hil.2 (by unfold enFew; rw [all_not hf (show nmFew f = false from decide_eq_false (by omega))]; simp)
     refine AW.rT (by rfl) fun K hK => ?_
     simp -implicitDefEqProofs only [go_sem, ↓reduceIte, Nat.reduceAdd, Nat.reduceMul, Nat.reduceEqDiff, Nat.reduceLeDiff, reduceCtorEq, Int.reduceToNat, hm1, hm2', hm3, encEn, List.length_map, hf1, hf2', hf3, encNm, f1]
     refine hK _ ?_; clear hK K
     refine AW.cond _ (by simp -implicitDefEqProofs only [go_sem, ↓reduceIte, Nat.reduceAdd, Nat.reduceMul, Nat.reduceEqDiff, Nat.reduceLeDiff, reduceCtorEq, Int.reduceToNat]; rfl) (fun hc => ?_) (fun hc => ?_)
     rotate_left
     ·simp at hc
     refine AW.rT (by rfl) fun K hK => ?_
     simp -implicitDefEqProofs only [go_sem, ↓reduceIte, Nat.reduceAdd, Nat.reduceMul, Nat.reduceEqDiff, Nat.reduceLeDiff, reduceCtorEq, Int.reduceToNat]
     refine hK _ ?_; clear hK K
     refine AW.ret ?_
     simp -implicitDefEqProofs only [go_sem, ↓reduceIte, Nat.reduceAdd, Nat.reduceMul, Nat.reduceEqDiff, Nat.reduceLeDiff, reduceCtorEq, Int.reduceToNat, e]
    have f1 : ((f.name.length : Int) > 200) = False := eq_false (by omega)
    refine AW.rT (by rfl) fun K hK => ?_
    simp -implicitDefEqProofs only [go_sem, ↓reduceIte, Nat.reduceAdd, Nat.reduceMul, Nat.reduceEqDiff, Nat.reduceLeDiff, reduceCtorEq, Int.reduceToNat, hm1, hm2', hm3, encEn, List.length_map, hf1, hf2', hf3, encNm, f1]
    refine hK _ ?_; clear hK K
    refine AW.cond _ (by simp -implicitDefEqProofs only [go_sem, ↓reduceIte, Nat.reduceAdd, Nat.reduceMul, Nat.reduceEqDiff, Nat.reduceLeDiff, reduceCtorEq, Int.reduceToNat]; rfl) (fun hc => ?_) (fun hc => ?_)
    ·simp at hc
    refine AW.skip ?_
    simp only [andThen, inBlk, reduceCtorEq, ↓reduceIte, if_t, if_f]
    refine AW.rE (by rfl) fun K hK => ?_
    simp -implicitDefEqProofs only [go_sem, ↓reduceIte, Nat.reduceAdd, Nat.reduceMul, Nat.reduceEqDiff, Nat.reduceLeDiff, reduceCtorEq, Int.reduceToNat, w3]
    refine hK _ ?_; clear hK K
    refine ⟨j + 1, ⟨by omega, all_next hf j2 (decide_eq_true (by omega))⟩, by omega, ?_⟩
    refine Ghost.sub ?_ ?_ <;> simp -implicitDefEqProofs only [go_sem, ↓reduceIte, Nat.reduceAdd, Nat.reduceMul, Nat.reduceEqDiff, Nat.reduceLeDiff, reduceCtorEq, Int.reduceToNat,  List.forall_mem_cons, List.not_mem_nil, false_implies, implies_true, and_self, labsIn_lift, List.all_append, List.all_cons, List.all_nil, Nat.reduceLT, labsInL, AV.labsIn]
   have ea := take_end i1 i0 hil
   rw [ea] at i2
   by_cases hil' : i < S.enums.length
   ·have c1 : ((i : Int) < (S.enums.length : Int)) = True := eq_true (by omega)
    have c2 : ((i : Int) < 20) = False := eq_false (by omega)
    refine AW.rT (by rfl) fun K hK => ?_
    simp -implicitDefEqProofs only [go_sem, ↓reduceIte, Nat.reduceAdd, Nat.reduceMul, Nat.reduceEqDiff, Nat.reduceLeDiff, reduceCtorEq, Int.reduceToNat, c1, c2, List.length_map]
    refine hK _ ?_; clear hK K
    refine AW.cond _ (by simp -implicitDefEqProofs only [go_sem, ↓reduceIte, Nat.reduceAdd, Nat.reduceMul, Nat.reduceEqDiff, Nat.reduceLeDiff, reduceCtorEq, Int.reduceToNat]; rfl) (fun hc => ?_) (fun hc => ?_)
    ·simp at hc
    refine AW.exit ?_
    simp only [andThen, inBlk, reduceCtorEq, ↓reduceIte, if_t, if_f]
    refine ⟨(), i2, ?_⟩
    try simp only [fw, cellsSc]
    refine Ghost.sub ?_ ?_ <;> simp -implicitDefEqProofs only [go_sem, ↓reduceIte, Nat.reduceAdd, Nat.reduceMul, Nat.reduceEqDiff, Nat.reduceLeDiff, reduceCtorEq, Int.reduceToNat,  List.forall_mem_cons, List.not_mem_nil, false_implies, implies_true, and_self, labsIn_lift, List.all_append, List.all_cons, List.all_nil, Nat.reduceLT, labsInL, AV.labsIn]
   ·have c1 : ((i : Int) < (S.enums.length : Int)) = False := eq_false (by omega)
    refine AW.rT (by rfl) fun K hK => ?_
    simp -implicitDefEqProofs only [go_sem, ↓reduceIte, Nat.reduceAdd, Nat.reduceMul, Nat.reduceEqDiff, Nat.reduceLeDiff, reduceCtorEq, Int.reduceToNat, c1, List.length_map]
    refine hK _ ?_; clear hK K
    refine AW.cond _ (by simp -implicitDefEqProofs only [go_sem, ↓reduceIte, Nat.reduceAdd, Nat.reduceMul, Nat.reduceEqDiff, Nat.reduceLeDiff, reduceCtorEq, Int.reduceToNat]; rfl) (fun hc => ?_) (fun hc => ?_)
    ·simp at hc
    refine AW.exit ?_
    simp only [andThen, inBlk, reduceCtorEq, ↓reduceIte, if_t, if_f]
    refine ⟨(), i2, ?_⟩
    try simp only [fw, cellsSc]
    refine Ghost.sub ?_ ?_ <;> simp -implicitDefEqProofs only [go_sem, ↓reduceIte, Nat.reduceAdd, Nat.reduceMul, Nat.reduceEqDiff, Nat.reduceLeDiff, reduceCtorEq, Int.reduceToNat,  List.forall_mem_cons, List.not_mem_nil, false_implies, implies_true, and_self, labsIn_lift, List.all_append, List.all_cons, List.all_nil, Nat.reduceLT, labsInL, AV.labsIn]
  try simp only [fw, cellsSc]
  refine AW.cut (fun _ : Unit => fw S [(3, .p (.int .i64 (totN S 20 : Int)))]) (fun _ => (S.meths.take 20).all mtFew = true) ?_ fun _ qE => ?_
  ·refine AW.rT (by rfl) fun K hK => ?_
   simp -implicitDefEqProofs only [go_sem, ↓reduceIte, Nat.reduceAdd, Nat.reduceMul, Nat.reduceEqDiff, Nat.reduceLeDiff, reduceCtorEq, Int.reduceToNat]
   refine hK _ ?_; clear hK K
   refine AW.block ?_
   refine AW.loop (fun i : Nat => fw S [(3, .p (.int .i64 (totN S 20 : Int))), (9, .p (.int .i64 (i : Int)))]) (fun i => (i ≤ S.meths.length ∧ i ≤ 20) ∧ (S.meths.take i).all mtFew = true) (fun i => 20 - i) 0 ?_ ⟨⟨by omega, by omega⟩, by simp⟩ fun i hi => ?_
   ·simp only [fw, cellsSc]
    refine Ghost.sub ?_ ?_ <;> simp -implicitDefEqProofs only [go_sem, ↓reduceIte, Nat.reduceAdd, Nat.reduceMul, Nat.reduceEqDiff, Nat.reduceLeDiff, reduceCtorEq, Int.reduceToNat,  List.forall_mem_cons, List.not_mem_nil, false_implies, implies_true, and_self, labsIn_lift, List.all_append, List.all_cons, List.all_nil, Nat.reduceLT, labsInL, AV.labsIn]
    all_goals first | rfl | decide | skip
   obtain ⟨⟨i1, i0⟩, i2⟩ := hi
   try simp only [fw, cellsSc]
   refine AW.seq ?_
   by_cases hil : i < S.meths.length ∧ i < 20
   ·have c1 : ((i : Int) < (S.meths.length : Int)) = True := eq_true (by omega)
    have c2 : ((i : Int) < 20) = True := eq_true (by omega)
    obtain ⟨m, hm⟩ : ∃ m, S.meths[i]? = some m := ⟨_, List.getElem?_eq_getElem hil.1⟩
    have ⟨hm1, hm2, hm3⟩ := at_map' encMt hm
    have hm2' : (i : Int) < (S.meths.length : Int) := by omega
    have w1 : IntKind.wrap .i64 ((i : Int) + 1) = ((i + 1 : Nat) : Int) := by rw [w64] <;> omega
    refine AW.rT (by rfl) fun K hK => ?_
    simp -implicitDefEqProofs only [go_sem, ↓reduceIte, Nat.reduceAdd, Nat.reduceMul, Nat.reduceEqDiff, Nat.reduceLeDiff, reduceCtorEq, Int.reduceToNat, c1, c2, List.length_map]
    refine hK _ ?_; clear hK K
    refine AW.cond _ (by simp -implicitDefEqProofs only [go_sem, ↓reduceIte, Nat.reduceAdd, Nat.reduceMul, Nat.reduceEqDiff, Nat.reduceLeDiff, reduceCtorEq, Int.reduceToNat]; rfl) (fun hc => ?_) (fun hc => ?_)
    rotate_left
    ·simp at hc
    refine AW.skip ?_
    simp only [andThen, inBlk, reduceCtorEq, ↓reduceIte, if_t, if_f]
    refine AW.seq ?_
    refine AW.block ?_
    by_cases a1 : m.name.length > 200
    ·have f1 : ((m.name.length : Int) > 200) = True := eq_true (by omega)
     have e := few_meth hm hil.2 (decide_eq_false (by omega))
     refine AW.rT (by rfl) fun K hK => ?_
     simp -implicitDefEqProofs only [go_sem, ↓reduceIte, Nat.reduceAdd, Nat.reduceMul, Nat.reduceEqDiff, Nat.reduceLeDiff, reduceCtorEq, Int.reduceToNat, hm1, hm2', hm3, encMt, List.length_map, f1]
     refine hK _ ?_; clear hK K
     refine AW.cond _ (by simp -implicitDefEqProofs only [go_sem, ↓reduceIte, Nat.reduceAdd, Nat.reduceMul, Nat.reduceEqDiff, Nat.reduceLeDiff, reduceCtorEq, Int.reduceToNat]; rfl) (fun hc => ?_) (fun hc => ?_)
     rotate_left
     ·simp at hc
     refine AW.rT (by rfl) fun K hK => ?_
     simp -implicitDefEqProofs only [go_sem, ↓reduceIte, Nat.reduceAdd, Nat.reduceMul, Nat.reduceEqDiff, Nat.reduceLeDiff, reduceCtorEq, Int.reduceToNat]
     refine hK _ ?_; clear hK K
     refine AW.ret ?_
     simp -implicitDefEqProofs only [go_sem, ↓reduceIte, Nat.reduceAdd, Nat.reduceMul, Nat.reduceEqDiff, Nat.reduceLeDiff, reduceCtorEq, Int.reduceToNat, e]
    have f1 : ((m.name.length : Int) > 200) = False := eq_false (by omega)
    by_cases a2 : m.inn.length > 200
    ·have f2 : ((m.inn.length : Int) > 200) = True := eq_true (by omega)
     have e := few_meth hm hil.2 (decide_eq_false (by omega))
     refine AW.rT (by rfl) fun K hK => ?_
     simp -implicitDefEqProofs only [go_sem, ↓reduceIte, Nat.reduceAdd, Nat.reduceMul, Nat.reduceEqDiff, Nat.reduceLeDiff, reduceCtorEq, Int.reduceToNat, hm1, hm2', hm3, encMt, List.length_map, f1, f2]
     refine hK _ ?_; clear hK K
     refine AW.cond _ (by simp -implicitDefEqProofs only [go_sem, ↓reduceIte, Nat.reduceAdd, Nat.reduceMul, Nat.reduceEqDiff, Nat.reduceLeDiff, reduceCtorEq, Int.reduceToNat]; rfl) (fun hc => ?_) (fun hc => ?_)
     rotate_left
     ·simp at hc
     refine AW.rT (by rfl) fun K hK => ?_
     simp -implicitDefEqProofs only [go_sem, ↓reduceIte, Nat.reduceAdd, Nat.reduceMul, Nat.reduceEqDiff, Nat.reduceLeDiff, reduceCtorEq, Int.reduceToNat]
     refine hK _ ?_; clear hK K
     refine AW.ret ?_
     simp -implicitDefEqProofs only [go_sem, ↓reduceIte, Nat.reduceAdd, Nat.reduceMul, Nat.reduceEqDiff, Nat.reduceLeDiff, reduceCtorEq, Int.reduceToNat, e]
    have f2 : ((m.inn.length : Int) > 200) = False := eq_false (by omega)
    by_cases a3 : m.out.length > 200
    ·have f3 : ((m.out.length : Int) > 200) = True := eq_true (by omega)
     have e := few_meth hm hil.2 (decide_eq_false (by omega))
     refine AW.rT (by rfl) fun K hK => ?_
     simp -implicitDefEqProofs only [go_sem, ↓reduceIte, Nat.reduceAdd, Nat.reduceMul, Nat.reduceEqDiff, Nat.reduceLeDiff, reduceCtorEq, Int.reduceToNat, hm1, hm2', hm3, encMt, List.length_map, f1, f2, f3]
     refine hK _ ?_; clear hK K
     refine AW.cond _ (by simp -implicitDefEqProofs only [go_sem, ↓reduceIte, Nat.reduceAdd, Nat.reduceMul, Nat.reduceEqDiff, Nat.reduceLeDiff, reduceCtorEq, Int.reduceToNat]; rfl) (fun hc => ?_) (fun hc => ?_)
     rotate_left
     ·simp at hc
     refine AW.rT (by rfl) fun K hK => ?_
     simp -implicitDefEqProofs only [go_sem, ↓reduceIte, Nat.reduceAdd, Nat.reduceMul, Nat.reduceEqDiff, Nat.reduceLeDiff, reduceCtorEq, Int.reduceToNat]
     refine hK _ ?_; clear hK K
     refine AW.ret ?_
     simp -implicitDefEqProofs only [go_sem, ↓reduceIte, Nat.reduceAdd, Nat.reduceMul, Nat.reduceEqDiff, Nat.reduceLeDiff, reduceCtorEq, Int.reduceToNat, e]
    have f3 : ((m.out.length : Int) > 200) = False := eq_false (by omega)
    refine AW.rT (by rfl) fun K hK => ?_
    simp -implicitDefEqProofs only [go_sem, ↓reduceIte, Nat.reduceAdd, Nat.reduceMul, Nat.reduceEqDiff, Nat.reduceLeDiff, reduceCtorEq, Int.reduceToNat, hm1, hm2', hm3, encMt, List.length_map, f1, f2, f3]
    refine hK _ ?_; clear hK K
    refine AW.cond _ (by simp -implicitDefEqProofs only [go_sem, ↓reduceIte, Nat.reduceAdd, Nat.reduceMul, Nat.reduceEqDiff, Nat.reduceLeDiff, reduceCtorEq, Int.reduceToNat]; rfl) (fun hc => ?_) (fun hc => ?_)
    ·simp at hc
    refine AW.skip ?_
    simp only [andThen, inBlk, reduceCtorEq, ↓reduceIte, if_t, if_f]
    refine AW.rE (by rfl) fun K hK => ?_
    simp -implicitDefEqProofs only [go_sem, ↓reduceIte, Nat.reduceAdd, Nat.reduceMul, Nat.reduceEqDiff, Nat.reduceLeDiff, reduceCtorEq, Int.reduceToNat, w1]
    refine hK _ ?_; clear hK K
    refine ⟨i + 1, ⟨⟨by omega, by omega⟩, all_next hm i2 (decide_eq_true (by omega))⟩, by omega, ?_⟩
    try simp only [fw, cellsSc]
    refine Ghost.sub ?_ ?_ <;> simp -implicitDefEqProofs only [go_sem, ↓reduceIte, Nat.reduceAdd, Nat.reduceMul, Nat.reduceEqDiff, Nat.reduceLeDiff, reduceCtorEq, Int.reduceToNat,  List.forall_mem_cons, List.not_mem_nil, false_implies, implies_true, and_self, labsIn_lift, List.all_append, List.all_cons, List.all_nil, Nat.reduceLT, labsInL, AV.labsIn]
   have ea := take_end i1 i0 hil
   rw [ea] at i2
   by_cases hil' : i < S.meths.length
   ·have c1 : ((i : Int) < (S.meths.length : Int)) = True := eq_true (by omega)
    have c2 : ((i : Int) < 20) = False := eq_false (by omega)
    refine AW.rT (by rfl) fun K hK => ?_
    simp -implicitDefEqProofs only [go_sem, ↓reduceIte, Nat.reduceAdd, Nat.reduceMul, Nat.reduceEqDiff, Nat.reduceLeDiff, reduceCtorEq, Int.reduceToNat, c1, c2, List.length_map]
    refine hK _ ?_; clear hK K
    refine AW.cond _ (by simp -implicitDefEqProofs only [go_sem, ↓reduceIte, Nat.reduceAdd, Nat.reduceMul, Nat.reduceEqDiff, Nat.reduceLeDiff, reduceCtorEq, Int.reduceToNat]; rfl) (fun hc => ?_) (fun hc => ?_)
    ·simp at hc
    refine AW.exit ?_
    simp only [andThen, inBlk, reduceCtorEq, ↓reduceIte, if_t, if_f]
    refine ⟨(), i2, ?_⟩
    try simp only [fw, cellsSc]
    refine Ghost.sub ?_ ?_ <;> simp -implicitDefEqProofs only [go_sem, ↓reduceIte, Nat.reduceAdd, Nat.reduceMul, Nat.reduceEqDiff, Nat.reduceLeDiff, reduceCtorEq, Int.reduceToNat,  List.forall_mem_cons, List.not_mem_nil, false_implies, implies_true, and_self, labsIn_lift, List.all_append, List.all_cons, List.all_nil, Nat.reduceLT, labsInL, AV.labsIn]
   ·have c1 : ((i : Int) < (S.meths.length : Int)) = False := eq_false (by omega)
    refine AW.rT (by rfl) fun K hK => ?_
    simp -implicitDefEqProofs only [go_sem, ↓reduceIte, Nat.reduceAdd, Nat.reduceMul, Nat.reduceEqDiff, Nat.reduceLeDiff, reduceCtorEq, Int.reduceToNat, c1, List.length_map]
    refine hK _ ?_; clear hK K
    refine AW.cond _ (by simp -implicitDefEqProofs only [go_sem, ↓reduceIte, Nat.reduceAdd, Nat.reduceMul, Nat.reduceEqDiff, Nat.reduceLeDiff, reduceCtorEq, Int.reduceToNat]; rfl) (fun hc => ?_) (fun hc => ?_)
    ·simp at hc
    refine AW.exit ?_
    simp only [andThen, inBlk, reduceCtorEq, ↓reduceIte, if_t, if_f]
    refine ⟨(), i2, ?_⟩
    try simp only [fw, cellsSc]
    refine Ghost.sub ?_ ?_ <;> simp -implicitDefEqProofs only [go_sem, ↓reduceIte, Nat.reduceAdd, Nat.reduceMul, Nat.reduceEqDiff, Nat.reduceLeDiff, reduceCtorEq, Int.reduceToNat,  List.forall_mem_cons, List.not_mem_nil, false_implies, implies_true, and_self, labsIn_lift, List.all_append, List.all_cons, List.all_nil, Nat.reduceLT, labsInL, AV.labsIn]
  try simp only [fw, cellsSc]
  have eF : fewB S = decide (totN S 20 < 3000 ∧ S.msgs.length ≤ 14 ∧ S.enums.length ≤ 10 ∧ S.meths.length ≤ 10) := by
   unfold fewB; rw [qA, qC, qE]; simp only [Bool.true_and]
  by_cases a0 : totN S 20 < 3000
  case neg =>
   have f0 : ((totN S 20 : Int) < 3000) = False := eq_false (by omega)
   rw [decide_eq_false (by omega)] at eF
   refine AW.rT (by rfl) fun K hK => ?_
   simp -implicitDefEqProofs only [go_sem, ↓reduceIte, Nat.reduceAdd, Nat.reduceMul, Nat.reduceEqDiff, Nat.reduceLeDiff, reduceCtorEq, Int.reduceToNat, f0]
   refine hK _ ?_; clear hK K
   refine AW.ret ?_
   simp -implicitDefEqProofs only [go_sem, ↓reduceIte, Nat.reduceAdd, Nat.reduceMul, Nat.reduceEqDiff, Nat.reduceLeDiff, reduceCtorEq, Int.reduceToNat, eF]
  have f0 : ((totN S 20 : Int) < 3000) = True := eq_true (by omega)
  by_cases a1 : S.msgs.length ≤ 14
  case neg =>
   have f1 : ((S.msgs.length : Int) ≤ 14) = False := eq_false (by omega)
   rw [decide_eq_false (by omega)] at eF
   refine AW.rT (by rfl) fun K hK => ?_
   simp -implicitDefEqProofs only [go_sem, ↓reduceIte, Nat.reduceAdd, Nat.reduceMul, Nat.reduceEqDiff, Nat.reduceLeDiff, reduceCtorEq, Int.reduceToNat, f0, f1, List.length_map]
   refine hK _ ?_; clear hK K
   refine AW.ret ?_
   simp -implicitDefEqProofs only [go_sem, ↓reduceIte, Nat.reduceAdd, Nat.reduceMul, Nat.reduceEqDiff, Nat.reduceLeDiff, reduceCtorEq, Int.reduceToNat, eF]
  have f1 : ((S.msgs.length : Int) ≤ 14) = True := eq_true (by omega)
  by_cases a2 : S.enums.length ≤ 10
  case neg =>
   have f2 : ((S.enums.length : Int) ≤ 10) = False := eq_false (by omega)
   rw [decide_eq_false (by omega)] at eF
   refine AW.rT (by rfl) fun K hK => ?_
   simp -implicitDefEqProofs only [go_sem, ↓reduceIte, Nat.reduceAdd, Nat.reduceMul, Nat.reduceEqDiff, Nat.reduceLeDiff, reduceCtorEq, Int.reduceToNat, f0, f1, f2, List.length_map]
   refine hK _ ?_; clear hK K
   refine AW.ret ?_
   simp -implicitDefEqProofs only [go_sem, ↓reduceIte, Nat.reduceAdd, Nat.reduceMul, Nat.reduceEqDiff, Nat.reduceLeDiff, reduceCtorEq, Int.reduceToNat, eF]
  have f2 : ((S.enums.length : Int) ≤ 10) = True := eq_true (by omega)
  by_cases a3 : S.meths.length ≤ 10
  case neg =>
   have f3 : ((S.meths.length : Int) ≤ 10) = False := eq_false (by omega)
   rw [decide_eq_false (by omega)] at eF
   refine AW.rT (by rfl) fun K hK => ?_
   simp -implicitDefEqProofs only [go_sem, ↓reduceIte, Nat.reduceAdd, Nat.reduceMul, Nat.reduceEqDiff, Nat.reduceLeDiff, reduceCtorEq, Int.reduceToNat, f0, f1, f2, f3, List.length_map]
   refine hK _ ?_; clear hK K
   refine AW.ret ?_
   simp -implicitDefEqProofs only [go_sem, ↓reduceIte, Nat.reduceAdd, Nat.reduceMul, Nat.reduceEqDiff, Nat.reduceLeDiff, reduceCtorEq, Int.reduceToNat, eF]
  have f3 : ((S.meths.length : Int) ≤ 10) = True := eq_true (by omega)
  rw [decide_eq_true (by omega)] at eF
  refine AW.rT (by rfl) fun K hK => ?_
  simp -implicitDefEqProofs only [go_sem, ↓reduceIte, Nat.reduceAdd, Nat.reduceMul, Nat.reduceEqDiff, Nat.reduceLeDiff, reduceCtorEq, Int.reduceToNat, f0, f1, f2, f3, List.length_map]
  refine hK _ ?_; clear hK K
  refine AW.ret ?_
  simp -implicitDefEqProofs only [go_sem, ↓reduceIte, Nat.reduceAdd, Nat.reduceMul, Nat.reduceEqDiff, Nat.reduceLeDiff, reduceCtorEq, Int.reduceToNat, eF]
 refine AW.rT (by rfl) fun K hK => ?_
 simp -implicitDefEqProofs only [go_sem, ↓reduceIte, Nat.reduceAdd, Nat.reduceMul, Nat.reduceEqDiff, Nat.reduceLeDiff, reduceCtorEq, Int.reduceToNat]
 refine hK _ ?_; clear hK K
 refine AW.block ?_
 refine AW.loop (fun i : Nat => fw S [(3, .p (.int .i64 (totN S i : Int))), (4, .p (.int .i64 (i : Int)))]) (fun i => (i ≤ S.msgs.length ∧ i ≤ 20) ∧ (S.msgs.take i).all msFew = true) (fun i => 20 - i) 0 ?_ ⟨⟨by omega, by omega⟩, by simp⟩ fun i hi => ?_
 ·simp only [fw, cellsSc]
  refine Ghost.sub ?_ ?_ <;> simp -implicitDefEqProofs only [go_sem, ↓reduceIte, Nat.reduceAdd, Nat.reduceMul, Nat.reduceEqDiff, Nat.reduceLeDiff, reduceCtorEq, Int.reduceToNat, totN, List.take_zero, List.map_nil, List.sum_nil, List.forall_mem_cons, List.not_mem_nil, false_implies, implies_true, and_self, labsIn_lift, List.all_append, List.all_cons, List.all_nil, Nat.reduceLT, labsInL, AV.labsIn]
  all_goals first | rfl | decide | skip
 obtain ⟨⟨i1, i0⟩, i2⟩ := hi
 have ht := tot_le B i0
 try simp only [fw, cellsSc]
 refine AW.seq ?_
 by_cases hil : i < S.msgs.length ∧ i < 20
 ·have c1 : ((i : Int) < (S.msgs.length : Int)) = True := eq_true (by omega)
  have c2 : ((i : Int) < 20) = True := eq_true (by omega)
  obtain ⟨m, hm⟩ : ∃ m, S.msgs[i]? = some m := ⟨_, List.getElem?_eq_getElem hil.1⟩
  have ⟨hm1, hm2, hm3⟩ := at_map' encMs hm
  have hm2' : (i : Int) < (S.msgs.length : Int) := by omega
  have w1 : IntKind.wrap .i64 ((i : Int) + 1) = ((i + 1 : Nat) : Int) := by rw [w64] <;> omega
  have hbm : m.name.length ≤ reachBytes := B.2 m (List.mem_of_getElem? hm)
  have eb : reachBytes = 140737488351232 := by decide
  have hnt := tot_next hm
  have w2 : IntKind.wrap .i64 ((totN S i : Int) + (m.name.length : Int)) = (totN S (i + 1) : Int) := by rw [w64] <;> omega
  refine AW.rT (by rfl) fun K hK => ?_
  simp -implicitDefEqProofs only [go_sem, ↓reduceIte, Nat.reduceAdd, Nat.reduceMul, Nat.reduceEqDiff, Nat.reduceLeDiff, reduceCtorEq, Int.reduceToNat, c1, c2, List.length_map]
  refine hK _ ?_; clear hK K
  refine AW.cond _ (by simp -implicitDefEqProofs only [go_sem, ↓reduceIte, Nat.reduceAdd, Nat.reduceMul, Nat.reduceEqDiff, Nat.reduceLeDiff, reduceCtorEq, Int.reduceToNat]; rfl) (fun hc => ?_) (fun hc => ?_)
  rotate_left
  ·simp at hc
  refine AW.skip ?_
  simp only [andThen, inBlk, reduceCtorEq, ↓reduceIte, if_t, if_f]
  refine AW.seq ?_
  refine AW.block ?_
  refine AW.rT (by rfl) fun K hK => ?_
  simp -implicitDefEqProofs only [go_sem, ↓reduceIte, Nat.reduceAdd, Nat.reduceMul, Nat.reduceEqDiff, Nat.reduceLeDiff, reduceCtorEq, Int.reduceToNat, c1, c2, List.length_map, hm1, hm2', hm3, encMs, w2]
  refine hK _ ?_; clear hK K
  refine AW.seq ?_
  by_cases a1 : m.fields.length > 20
  ·have f1 : ((m.fields.length : Int) > 20) = True := eq_true (by omega)
   have e := few_msg hm hil.2 (by unfold msFew; rw [decide_eq_false (by omega)]; rfl)
   refine AW.rT (by rfl) fun K hK => ?_
   simp -implicitDefEqProofs only [go_sem, ↓reduceIte, Nat.reduceAdd, Nat.reduceMul, Nat.reduceEqDiff, Nat.reduceLeDiff, reduceCtorEq, Int.reduceToNat, hm1, hm2', hm3, encMs, List.length_map, f1]
   refine hK _ ?_; clear hK K
   refine AW.cond _ (by simp -implicitDefEqProofs only [go_sem, ↓reduceIte, Nat.reduceAdd, Nat.reduceMul, Nat.reduceEqDiff, Nat.reduceLeDiff, reduceCtorEq, Int.reduceToNat]; rfl) (fun hc => ?_) (fun hc => ?_)
   rotate_left
   ·simp at hc
   refine AW.rT (by rfl) fun K hK => ?_
   simp -implicitDefEqProofs only [go_sem, ↓reduceIte, Nat.reduceAdd, Nat.reduceMul, Nat.reduceEqDiff, Nat.reduceLeDiff, reduceCtorEq, Int.reduceToNat]
   refine hK _ ?_; clear hK K
   refine AW.ret ?_
   simp -implicitDefEqProofs only [go_sem, ↓reduceIte, Nat.reduceAdd, Nat.reduceMul, Nat.reduceEqDiff, Nat.reduceLeDiff, reduceCtorEq, Int.reduceToNat, e]
  have f1 : ((m.fields.length : Int) > 20) = False := eq_false (by omega)
  by_cases a2 : m.res.length > 40
  ·have f2 : ((m.res.length : Int) > 40) = True := eq_true (by omega)
   have e := few_msg hm hil.2 (by unfold msFew; rw [decide_eq_false (by omega)]; rfl)
   refine AW.rT (by rfl) fun K hK => ?_
   simp -implicitDefEqProofs only [go_sem, ↓reduceIte, Nat.reduceAdd, Nat.reduceMul, Nat.reduceEqDiff, Nat.reduceLeDiff, reduceCtorEq, Int.reduceToNat, hm1, hm2', hm3, encMs, List.length_map, f1, f2]
   refine hK _ ?_; clear hK K
   refine AW.cond _ (by simp -implicitDefEqProofs only [go_sem, ↓reduceIte, Nat.reduceAdd, Nat.reduceMul, Nat.reduceEqDiff, Nat.reduceLeDiff, reduceCtorEq, Int.reduceToNat]; rfl) (fun hc => ?_) (fun hc => ?_)
   rotate_left
   ·simp at hc
   refine AW.rT (by rfl) fun K hK => ?_
   simp -implicitDefEqProofs only [go_sem, ↓reduceIte, Nat.reduceAdd, Nat.reduceMul, Nat.reduceEqDiff, Nat.reduceLeDiff, reduceCtorEq, Int.reduceToNat]
   refine hK _ ?_; clear hK K
   refine AW.ret ?_
   simp -implicitDefEqProofs only [go_sem, ↓reduceIte, Nat.reduceAdd, Nat.reduceMul, Nat.reduceEqDiff, Nat.reduceLeDiff, reduceCtorEq, Int.reduceToNat, e]
  have f2 : ((m.res.length : Int) > 40) = False := eq_false (by omega)
  refine AW.rT (by rfl) fun K hK => ?_
  simp -implicitDefEqProofs only [go_sem, ↓reduceIte, Nat.reduceAdd, Nat.reduceMul, Nat.reduceEqDiff, Nat.reduceLeDiff, reduceCtorEq, Int.reduceToNat, hm1, hm2', hm3, encMs, List.length_map, f1, f2]
  refine hK _ ?_; clear hK K
  refine AW.cond _ (by simp -implicitDefEqProofs only [go_sem, ↓reduceIte, Nat.reduceAdd, Nat.reduceMul, Nat.reduceEqDiff, Nat.reduceLeDiff, reduceCtorEq, Int.reduceToNat]; rfl) (fun hc => ?_) (fun hc => ?_)
  ·simp at hc
  refine AW.skip ?_
  simp only [andThen, inBlk, reduceCtorEq, ↓reduceIte, if_t, if_f]
  refine AW.rT (by rfl) fun K hK => ?_
  simp -implicitDefEqProofs only [go_sem, ↓reduceIte, Nat.reduceAdd, Nat.reduceMul, Nat.reduceEqDiff, Nat.reduceLeDiff, reduceCtorEq, Int.reduceToNat]
  refine hK _ ?_; clear hK K
  refine AW.block ?_
  refine AW.loop (fun j : Nat => fw S [(3, .p (.int .i64 (totN S (i + 1) : Int))), (4, .p (.int .i64 (i : Int))), (5, .p (.int .i64 (j : Int)))]) (fun j => j ≤ m.fields.length ∧ (m.fields.take j).all fdFew = true) (fun j => m.fields.length - j) 0 ?_ ⟨by omega, by simp⟩ fun j hj => ?_
  ·simp only [fw, cellsSc]
   refine Ghost.sub ?_ ?_ <;> simp -implicitDefEqProofs only [go_sem, ↓reduceIte, Nat.reduceAdd, Nat.reduceMul, Nat.reduceEqDiff, Nat.reduceLeDiff, reduceCtorEq, Int.reduceToNat,  List.forall_mem_cons, List.not_mem_nil, false_implies, implies_true, and_self, labsIn_lift, List.all_append, List.all_cons, List.all_nil, Nat.reduceLT, labsInL, AV.labsIn]
   all_goals first | rfl | decide | skip
  obtain ⟨j1, j2⟩ := hj
  try simp only [fw, cellsSc]
  refine AW.seq ?_
  by_cases hjl : j < m.fields.length
  case neg =>
   have c3 : ((j : Int) < (m.fields.length : Int)) = False := eq_false (by omega)
   rw [List.take_of_length_le (by omega)] at j2
   have hmf : msFew m = true := by unfold msFew; rw [decide_eq_true (by omega), j2]; rfl
   refine AW.rT (by rfl) fun K hK => ?_
   simp -implicitDefEqProofs only [go_sem, ↓reduceIte, Nat.reduceAdd, Nat.reduceMul, Nat.reduceEqDiff, Nat.reduceLeDiff, reduceCtorEq, Int.reduceToNat, hm1, hm2', hm3, encMs, List.length_map, c3]
   refine hK _ ?_; clear hK K
   refine AW.cond _ (by simp -implicitDefEqProofs only [go_sem, ↓reduceIte, Nat.reduceAdd, Nat.reduceMul, Nat.reduceEqDiff, Nat.reduceLeDiff, reduceCtorEq, Int.reduceToNat]; rfl) (fun hc => ?_) (fun hc => ?_)
   ·simp at hc
   refine AW.exit ?_
   simp only [andThen, inBlk, reduceCtorEq, ↓reduceIte, if_t, if_f]
   refine AW.rE (by rfl) fun K hK => ?_
   simp -implicitDefEqProofs only [go_sem, ↓reduceIte, Nat.reduceAdd, Nat.reduceMul, Nat.reduceEqDiff, Nat.reduceLeDiff, reduceCtorEq, Int.reduceToNat, w1]
   refine hK _ ?_; clear hK K
   refine ⟨i + 1, ⟨⟨by omega, by omega⟩, all_next hm i2 hmf⟩, by omega, ?_⟩
   try simp only [fw, cellsSc]
   refine Ghost.sub ?_ ?_ <;> simp -implicitDefEqProofs only [go_sem, ↓reduceIte, Nat.reduceAdd, Nat.reduceMul, Nat.reduceEqDiff, Nat.reduceLeDiff, reduceCtorEq, Int.reduceToNat,  List.forall_mem_cons, List.not_mem_nil, false_implies, implies_true, and_self, labsIn_lift, List.all_append, List.all_cons, List.all_nil, Nat.reduceLT, labsInL, AV.labsIn]
  obtain ⟨f, hf⟩ : ∃ f, m.fields[j]? = some f := ⟨_, List.getElem?_eq_getElem hjl⟩
  have ⟨hf1, hf2, hf3⟩ := at_map' encFd hf
  have hf2' : (j : Int) < (m.fields.length : Int) := by omega
  have c3 : ((j : Int) < (m.fields.length : Int)) = True := eq_true (by omega)
  have w3 : IntKind.wrap .i64 ((j : Int) + 1) = ((j + 1 : Nat) : Int) := by rw [w64] <;> omega
  refine AW.rT (by rfl) fun K hK => ?_
  simp -implicitDefEqProofs only [go_sem, ↓reduceIte, Nat.reduceAdd, Nat.reduceMul, Nat.reduceEqDiff, Nat.reduceLeDiff, reduceCtorEq, Int.reduceToNat, hm1, hm2', hm3, encMs, List.length_map, c3]
  refine hK _ ?_; clear hK K
  refine AW.cond _ (by simp -implicitDefEqProofs only [go_sem, ↓reduceIte, Nat.reduceAdd, Nat.reduceMul, Nat.reduceEqDiff, Nat.reduceLeDiff, reduceCtorEq, Int.reduceToNat]; rfl) (fun hc => ?_) (fun hc => ?_)
  rotate_left
  ·simp at hc
  refine AW.skip ?_
  simp only [andThen, inBlk, reduceCtorEq, ↓reduceIte, if_t, if_f]
  refine AW.seq ?_
  refine AW.block ?_
  refine AW.rT (by rfl) fun K hK => ?_
  simp -implicitDefEqProofs only [go_sem, ↓reduceIte, Nat.reduceAdd, Nat.reduceMul, Nat.reduceEqDiff, Nat.reduceLeDiff, reduceCtorEq, Int.reduceToNat, hm1, hm2', hm3, encMs, List.length_map, hf1, hf2', hf3, encFd]
  refine hK _ ?_; clear hK K
  have bad : fdFew f = false → fewB S = false := fun h => few_msg hm hil.2 (by unfold msFew; rw [all_not hf h]; simp)
  by_cases b1 : f.name.length > 200
  ·have f1 : ((f.name.length : Int) > 200) = True := eq_true (by omega)
   have e := bad (decide_eq_false (by omega))
   refine AW.rT (by rfl) fun K hK => ?_
   simp -implicitDefEqProofs only [go_sem, ↓reduceIte, Nat.reduceAdd, Nat.reduceMul, Nat.reduceEqDiff, Nat.reduceLeDiff, reduceCtorEq, Int.reduceToNat, f1]
   refine hK _ ?_; clear hK K
   refine AW.cond _ (by simp -implicitDefEqProofs only [go_sem, ↓reduceIte, Nat.reduceAdd, Nat.reduceMul, Nat.reduceEqDiff, Nat.reduceLeDiff, reduceCtorEq, Int.reduceToNat]; rfl) (fun hc => ?_) (fun hc => ?_)
   rotate_left
   ·simp at hc
   refine AW.rT (by rfl) fun K hK => ?_
   simp -implicitDefEqProofs only [go_sem, ↓reduceIte, Nat.reduceAdd, Nat.reduceMul, Nat.reduceEqDiff, Nat.reduceLeDiff, reduceCtorEq, Int.reduceToNat]
   refine hK _ ?_; clear hK K
   refine AW.ret ?_
   simp -implicitDefEqProofs only [go_sem, ↓reduceIte, Nat.reduceAdd, Nat.reduceMul, Nat.reduceEqDiff, Nat.reduceLeDiff, reduceCtorEq, Int.reduceToNat, e]
  have f1 : ((f.name.length : Int) > 200) = False := eq_false (by omega)
  by_cases b2 : f.ty.name.length > 200
  ·have f2 : ((f.ty.name.length : Int) > 200) = True := eq_true (by omega)
   have e := bad (decide_eq_false (by omega))
   refine AW.rT (by rfl) fun K hK => ?_
   simp -implicitDefEqProofs only [go_sem, ↓reduceIte, Nat.reduceAdd, Nat.reduceMul, Nat.reduceEqDiff, Nat.reduceLeDiff, reduceCtorEq, Int.reduceToNat, f1, f2]
   refine hK _ ?_; clear hK K
   refine AW.cond _ (by simp -implicitDefEqProofs only [go_sem, ↓reduceIte, Nat.reduceAdd, Nat.reduceMul, Nat.reduceEqDiff, Nat.reduceLeDiff, reduceCtorEq, Int.reduceToNat]; rfl) (fun hc => ?_) (fun hc => ?_)
   rotate_left
   ·simp at hc
   refine AW.rT (by rfl) fun K hK => ?_
   simp -implicitDefEqProofs only [go_sem, ↓reduceIte, Nat.reduceAdd, Nat.reduceMul, Nat.reduceEqDiff, Nat.reduceLeDiff, reduceCtorEq, Int.reduceToNat]
   refine hK _ ?_; clear hK K
   refine AW.ret ?_
   simp -implicitDefEqProofs only [go_sem, ↓reduceIte, Nat.reduceAdd, Nat.reduceMul, Nat.reduceEqDiff, Nat.reduceLeDiff, reduceCtorEq, Int.reduceToNat, e]
  have f2 : ((f.ty.name.length : Int) > 200) = False := eq_false (by omega)
  refine AW.rT (by rfl) fun K hK => ?_
  simp -implicitDefEqProofs only [go_sem, ↓reduceIte, Nat.reduceAdd, Nat.reduceMul, Nat.reduceEqDiff, Nat.reduceLeDiff, reduceCtorEq, Int.reduceToNat, f1, f2]
  refine hK _ ?_; clear hK K
  refine AW.cond _ (by simp -implicitDefEqProofs only [go_sem, ↓reduceIte, Nat.reduceAdd, Nat.reduceMul, Nat.reduceEqDiff, Nat.reduceLeDiff, reduceCtorEq, Int.reduceToNat]; rfl) (fun hc => ?_) (fun hc => ?_)
  ·simp at hc
  refine AW.skip ?_
  simp only [andThen, inBlk, reduceCtorEq, ↓reduceIte, if_t, if_f]
  refine AW.rE (by rfl) fun K hK => ?_
  simp -implicitDefEqProofs only [go_sem, ↓reduceIte, Nat.reduceAdd, Nat.reduceMul, Nat.reduceEqDiff, Nat.reduceLeDiff, reduceCtorEq, Int.reduceToNat, w3]
  refine hK _ ?_; clear hK K
  refine ⟨j + 1, ⟨by omega, all_next hf j2 (decide_eq_true (by omega))⟩, by omega, ?_⟩
  refine Ghost.sub ?_ ?_ <;> simp -implicitDefEqProofs only [go_sem, ↓reduceIte, Nat.reduceAdd, Nat.reduceMul, Nat.reduceEqDiff, Nat.reduceLeDiff, reduceCtorEq, Int.reduceToNat,  List.forall_mem_cons, List.not_mem_nil, false_implies, implies_true, and_self, labsIn_lift, List.all_append, List.all_cons, List.all_nil, Nat.reduceLT, labsInL, AV.labsIn]
 have ea := take_end i1 i0 hil
 have et : totN S i = totN S 20 := by unfold totN; rw [ea]
 rw [ea] at i2
 by_cases hil' : i < S.msgs.length
 ·have c1 : ((i : Int) < (S.msgs.length : Int)) = True := eq_true (by omega)
  have c2 : ((i : Int) < 20) = False := eq_false (by omega)
  refine AW.rT (by rfl) fun K hK => ?_
  simp -implicitDefEqProofs only [go_sem, ↓reduceIte, Nat.reduceAdd, Nat.reduceMul, Nat.reduceEqDiff, Nat.reduceLeDiff, reduceCtorEq, Int.reduceToNat, c1, c2, List.length_map]
  refine hK _ ?_; clear hK K
  refine AW.cond _ (by simp -implicitDefEqProofs only [go_sem, ↓reduceIte, Nat.reduceAdd, Nat.reduceMul, Nat.reduceEqDiff, Nat.reduceLeDiff, reduceCtorEq, Int.reduceToNat]; rfl) (fun hc => ?_) (fun hc => ?_)
  ·simp at hc
  refine AW.exit ?_
  simp only [andThen, inBlk, reduceCtorEq, ↓reduceIte, if_t, if_f]
  refine ⟨(), i2, ?_⟩
  try simp only [fw, cellsSc]
  refine Ghost.sub ?_ ?_ <;> simp -implicitDefEqProofs only [go_sem, ↓reduceIte, Nat.reduceAdd, Nat.reduceMul, Nat.reduceEqDiff, Nat.reduceLeDiff, reduceCtorEq, Int.reduceToNat, et, List.forall_mem_cons, List.not_mem_nil, false_implies, implies_true, and_self, labsIn_lift, List.all_append, List.all_cons, List.all_nil, Nat.reduceLT, labsInL, AV.labsIn]
 ·have c1 : ((i : Int) < (S.msgs.length : Int)) = False := eq_false (by omega)
  refine AW.rT (by rfl) fun K hK => ?_
  simp -implicitDefEqProofs only [go_sem, ↓reduceIte, Nat.reduceAdd, Nat.reduceMul, Nat.reduceEqDiff, Nat.reduceLeDiff, reduceCtorEq, Int.reduceToNat, c1, List.length_map]
  refine hK _ ?_; clear hK K
  refine AW.cond _ (by simp -implicitDefEqProofs only [go_sem, ↓reduceIte, Nat.reduceAdd, Nat.reduceMul, Nat.reduceEqDiff, Nat.reduceLeDiff, reduceCtorEq, Int.reduceToNat]; rfl) (fun hc => ?_) (fun hc => ?_)
  ·simp at hc
  refine AW.exit ?_
  simp only [andThen, inBlk, reduceCtorEq, ↓reduceIte, if_t, if_f]
  refine ⟨(), i2, ?_⟩
  try simp only [fw, cellsSc]
  refine Ghost.sub ?_ ?_ <;> simp -implicitDefEqProofs only [go_sem, ↓reduceIte, Nat.reduceAdd, Nat.reduceMul, Nat.reduceEqDiff, Nat.reduceLeDiff, reduceCtorEq, Int.reduceToNat, et, List.forall_mem_cons, List.not_mem_nil, false_implies, implies_true, and_self, labsIn_lift, List.all_append, List.all_cons, List.all_nil, Nat.reduceLT, labsInL, AV.labsIn]
end Go.Aw
namespace Go.Aw
set_option linter.unusedSimpArgs false
set_option linter.unusedVariables false
theorem Ghost.nilH {nt : Fm} {s : St} {l i j sz sz' : Nat} {es : List (List AV)} {e : List AV} (hl : s.H l = some (.row sz es)) (hi : es[i]? = some e) (hj : e[j]? = some (.ex [])) :
  Ghost nt s ⟨s.T, upd (upd s.H l (some (.row sz (es.set i (e.set j (.own s.nx)))))) s.nx (some (.row sz' [])), s.nx + 1⟩ := by
 rintro w0 X I0 a w ⟨σ, I, hσ, m⟩
 have hb := m.heap.rows l _ hl
 cases hb with
 | emp h => simp at hi
 | row h hg hcur hc hs ho hr =>
  rename_i g c cur et
  obtain ⟨u, hu, hru⟩ := hr i e j _ hi hj
  have hnx := hσ s.nx (Nat.le_refl _)
  have hln : l ≠ s.nx := by rintro rfl; rw [hnx] at h; cases h
  cases hru with
  | ex he hrep =>
   rename_i ad n
   subst he
   have ext : ∀ l' s', σ l' = some s' → upd σ s.nx (some (.emp ad)) l' = some s' := fun l' s' h' => by
    rw [upd_ne _ _ (by rintro rfl; rw [hnx] at h'; cases h')]
    exact h'
   have H2 := m.heap.empty hnx ad sz'
   refine ⟨upd σ s.nx (some (.emp ad)), I, fun l' h' => ?_, m.defers, m.size, m.pins, ⟨fun l' b' h' => ?_, fun l1 l2 g s1 s2 h1 h2 => ?_, fun l' g s' h1 => ?_, H2.imm, H2.sub, H2.fr⟩, fun i' x hx => ?_⟩
   ·simp only at h'
    rw [upd_ne _ _ (by omega)]
    exact hσ l' (by omega)
   ·simp only at h'
    by_cases e1 : l' = s.nx
    ·subst e1
     rw [upd_same] at h'
     exact H2.rows s.nx b' (by rw [upd_same]; exact h')
    ·rw [upd_ne _ _ e1] at h'
     by_cases e2 : l' = l
     ·subst e2
      rw [upd_same] at h'
      injection h' with h'
      subst h'
      refine .row (by rw [List.length_set]; exact ext _ _ h) hg hcur (by rw [List.length_set]; exact hc) (fun e' he' => ?_) (fun e' he' x hx => ?_) fun i' e' j' x q1 q2 => ?_
      ·rcases List.mem_or_eq_of_mem_set he' with he' | rfl
       ·exact hs e' he'
       ·rw [List.length_set]; exact hs e (List.mem_of_getElem? hi)
      ·rcases List.mem_or_eq_of_mem_set he' with he' | rfl
       ·exact ho e' he' x hx
       ·rcases List.mem_or_eq_of_mem_set hx with hx | rfl
        ·exact ho e (List.mem_of_getElem? hi) x hx
        ·rfl
      ·rw [List.getElem?_set] at q1
       split at q1
       ·rename_i e3
        subst e3
        split at q1
        ·injection q1 with q1
         subst q1
         rw [List.getElem?_set] at q2
         split at q2
         ·rename_i e4
          subst e4
          split at q2
          ·injection q2 with q2
           subst q2
           exact ⟨_, hu, .ownE (upd_same _ _ _)⟩
          ·cases q2
         ·obtain ⟨u', hu', hr'⟩ := hr i e j' x hi q2
          exact ⟨u', hu', hr'.mono ext (fun _ h => h) (fun _ _ => rfl)⟩
        ·cases q1
       ·obtain ⟨u', hu', hr'⟩ := hr i' e' j' x q1 q2
        exact ⟨u', hu', hr'.mono ext (fun _ h => h) (fun _ _ => rfl)⟩
     ·rw [upd_ne _ _ e2] at h'
      exact H2.rows l' b' (by rw [upd_ne _ _ e1]; exact h')
   ·refine H2.inj l1 l2 g s1 s2 ?_ ?_
    ·intro h0; apply h1
     show upd (upd s.H l _) s.nx _ l1 = none
     by_cases e1 : l1 = s.nx
     ·subst e1; rw [upd_same] at h0; cases h0
     ·rw [upd_ne _ _ e1] at h0 ⊢
      by_cases e2 : l1 = l
      ·subst e2; rw [hl] at h0; cases h0
      ·rw [upd_ne _ _ e2]; exact h0
    ·intro h0; apply h2
     show upd (upd s.H l _) s.nx _ l2 = none
     by_cases e1 : l2 = s.nx
     ·subst e1; rw [upd_same] at h0; cases h0
     ·rw [upd_ne _ _ e1] at h0 ⊢
      by_cases e2 : l2 = l
      ·subst e2; rw [hl] at h0; cases h0
      ·rw [upd_ne _ _ e2]; exact h0
   ·refine H2.mine l' g s' ?_
    intro h0; apply h1
    show upd (upd s.H l _) s.nx _ l' = none
    by_cases e1 : l' = s.nx
    ·subst e1; rw [upd_same] at h0; cases h0
    ·rw [upd_ne _ _ e1] at h0 ⊢
     by_cases e2 : l' = l
     ·subst e2; rw [hl] at h0; cases h0
     ·rw [upd_ne _ _ e2]; exact h0
   ·obtain ⟨v, hv, hrv⟩ := m.tmps i' x hx
    exact ⟨v, hv, hrv.mono ext (fun _ h => h) (fun _ _ => rfl)⟩
theorem thaw_lift (lb : Nat) (qs ps : List (List PV)) : (liftE ps).map (fun e => e.map (thaw1 lb qs)) = liftE ps := by
 simp [liftE, thaw1]
end Go.Aw
namespace Go.Aw
open Go.Proofs Go.RowKit
set_option linter.unusedSimpArgs false
set_option linter.unusedVariables false
structure FewM (m : Ms) : Prop where
 name : m.name.length < 3000
 fields : m.fields.length ≤ 20
 res : m.res.length ≤ 40
 fd : ∀ f ∈ m.fields, f.name.length ≤ 200 ∧ f.ty.name.length ≤ 200
structure FewE (e : En) : Prop where
 name : e.name.length ≤ 200
 vals : e.vals.length ≤ 24
 nm : ∀ v ∈ e.vals, v.name.length ≤ 200
structure FewS (S : Sc) : Prop where
 name : S.name.length < 3000
 msgs : S.msgs.length ≤ 14
 enums : S.enums.length ≤ 10
 meths : S.meths.length ≤ 10
 ms : ∀ m ∈ S.msgs, FewM m
 en : ∀ e ∈ S.enums, FewE e
 mt : ∀ t ∈ S.meths, t.name.length ≤ 200 ∧ t.inn.length ≤ 200 ∧ t.out.length ≤ 200
theorem le_sum {l : List Ms} {m : Ms} (h : m ∈ l) : m.name.length ≤ (l.map fun m => m.name.length).sum := by
 induction l with
 | nil => cases h
 | cons a l ih =>
  rw [List.map_cons, List.sum_cons]
  rcases List.mem_cons.1 h with rfl | h
  ·omega
  ·have := ih h; omega
theorem few_spec {S : Sc} (h : fewB S = true) : FewS S := by
 unfold fewB at h
 simp only [Bool.and_eq_true, decide_eq_true_eq] at h
 obtain ⟨h1, h2, h3, h4, h5, h6, h7⟩ := h
 rw [List.take_of_length_le (by omega)] at h1 h2 h3
 unfold totN at h4
 rw [List.take_of_length_le (by omega)] at h4
 refine ⟨by omega, h5, h6, h7, fun m hm => ?_, fun e he => ?_, fun t ht => ?_⟩
 ·have q := List.all_eq_true.1 h1 m hm
  unfold msFew at q
  simp only [Bool.and_eq_true, decide_eq_true_eq] at q
  have := le_sum hm
  exact ⟨by omega, q.1.1, q.1.2, fun f hf => by have := List.all_eq_true.1 q.2 f hf; simpa [fdFew] using this⟩
 ·have q := List.all_eq_true.1 h2 e he
  unfold enFew at q
  simp only [Bool.and_eq_true, decide_eq_true_eq] at q
  exact ⟨q.1.1, q.1.2, fun f hf => by have := List.all_eq_true.1 q.2 f hf; simpa [nmFew] using this⟩
 ·have q := List.all_eq_true.1 h3 t ht
  simpa [mtFew] using q
theorem FewS.lens {S : Sc} (h : FewS S) : LensS S := by
 refine ⟨by have := h.name; omega, fun m hm => ⟨by have := (h.ms m hm).name; omega, fun f hf => by have := ((h.ms m hm).fd f hf).1; omega⟩, fun e he => ⟨by have := (h.en e he).name; omega, fun v hv => by have := (h.en e he).nm v hv; omega⟩, fun t ht => by have := (h.mt t ht).1; omega, by have := h.msgs; omega, by have := h.enums; omega, by have := h.meths; omega⟩
def sc1 (S : Sc) (i : Nat) : St := ⟨ofL [(1, .ptr 0 0 0), (2, .ptr 1 0 0), (3, .ptr 2 0 0), (4, .p (.int .i64 (i : Int)))],
 ofH [(0, .row 4 [cellsSc S]), (1, .row 4 [[.p (.str []), .ex [], .ex [], .ex []]]), (2, .row 4 [[.p (.str S.name), .own 3, .ex [], .p (.slice (S.meths.map encMt))]]), (3, .row 3 (liftE ((S.msgs.take i).map encMs)))], 4⟩
def scA (S : Sc) : St := ⟨ofL [(1, .ptr 0 0 0), (2, .ptr 1 0 0), (3, .ptr 2 0 0), (4, .p (.int .i64 0))],
 ofH [(0, .row 4 [cellsSc S]), (1, .row 4 [[.p (.str []), .ex [], .ex [], .ex []]]), (2, .row 4 [[.p (.str S.name), .ex [], .ex [], .p (.slice (S.meths.map encMt))]])], 3⟩
def scB (S : Sc) (m : Ms) (i : Nat) : St := ⟨ofL [(1, .ptr 0 0 0), (2, .ptr 1 0 0), (3, .ptr 2 0 0), (4, .p (.int .i64 (i : Int)))],
 ofH [(0, .row 4 [cellsSc S]), (1, .row 4 [[.p (.str []), .ex [], .ex [], .ex []]]), (2, .row 4 [[.p (.str S.name), .own 3, .ex [], .p (.slice (S.meths.map encMt))]]), (3, .row 3 (liftE ((S.msgs.take i).map encMs) ++ [[.p (.str m.name), .own 4, .p (.slice (m.res.map encI))]])), (4, .row 5 (liftE (m.fields.map encFd)))], 5⟩
def scC (S : Sc) (m : Ms) (i : Nat) : St := ⟨ofL [(1, .ptr 0 0 0), (2, .ptr 1 0 0), (3, .ptr 2 0 0), (4, .p (.int .i64 (i : Int)))],
 ofH [(0, .row 4 [cellsSc S]), (1, .row 4 [[.p (.str []), .ex [], .ex [], .ex []]]), (2, .row 4 [[.p (.str S.name), .own 3, .ex [], .p (.slice (S.meths.map encMt))]]), (3, .row 3 (liftE ((S.msgs.take i).map encMs) ++ [[.p (.str m.name), .p (.slice (m.fields.map encFd)), .p (.slice (m.res.map encI))]]))], 5⟩
def scD (S : Sc) : St := ⟨ofL [(1, .ptr 0 0 0), (2, .ptr 1 0 0), (3, .ptr 2 0 0)],
 ofH [(0, .row 4 [cellsSc S]), (1, .row 4 [[.p (.str []), .ex [], .ex [], .ex []]]), (2, .row 4 [[.p (.str S.name), .p (.slice (S.msgs.map encMs)), .ex [], .p (.slice (S.meths.map encMt))]])], 3⟩
def scE (S : Sc) (i : Nat) : St := ⟨ofL [(1, .ptr 0 0 0), (2, .ptr 1 0 0), (3, .ptr 2 0 0), (6, .p (.int .i64 (i : Int)))],
 ofH [(0, .row 4 [cellsSc S]), (1, .row 4 [[.p (.str []), .ex [], .ex [], .ex []]]), (2, .row 4 [[.p (.str S.name), .p (.slice (S.msgs.map encMs)), .own 3, .p (.slice (S.meths.map encMt))]]), (3, .row 2 (liftE ((S.enums.take i).map encEn)))], 4⟩
def scF (S : Sc) (m : En) (i : Nat) : St := ⟨ofL [(1, .ptr 0 0 0), (2, .ptr 1 0 0), (3, .ptr 2 0 0), (6, .p (.int .i64 (i : Int)))],
 ofH [(0, .row 4 [cellsSc S]), (1, .row 4 [[.p (.str []), .ex [], .ex [], .ex []]]), (2, .row 4 [[.p (.str S.name), .p (.slice (S.msgs.map encMs)), .own 3, .p (.slice (S.meths.map encMt))]]), (3, .row 2 (liftE ((S.enums.take i).map encEn) ++ [[.p (.str m.name), .own 4]])), (4, .row 2 (liftE (m.vals.map encNm)))], 5⟩
def scG (S : Sc) (m : En) (i : Nat) : St := ⟨ofL [(1, .ptr 0 0 0), (2, .ptr 1 0 0), (3, .ptr 2 0 0), (6, .p (.int .i64 (i : Int)))],
 ofH [(0, .row 4 [cellsSc S]), (1, .row 4 [[.p (.str []), .ex [], .ex [], .ex []]]), (2, .row 4 [[.p (.str S.name), .p (.slice (S.msgs.map encMs)), .own 3, .p (.slice (S.meths.map encMt))]]), (3, .row 2 (liftE ((S.enums.take i).map encEn) ++ [[.p (.str m.name), .p (.slice (m.vals.map encNm))]]))], 5⟩
def scH (S : Sc) : St := ⟨ofL [(1, .ptr 0 0 0), (2, .ptr 1 0 0), (3, .ptr 2 0 0)],
 ofH [(0, .row 4 [cellsSc S]), (1, .row 4 [[.p (.str []), .ex [], .ex [], .ex []]]), (2, .row 4 [[.p (.str S.name), .p (.slice (S.msgs.map encMs)), .p (.slice (S.enums.map encEn)), .p (.slice (S.meths.map encMt))]])], 3⟩
def sc0 (S : Sc) : St := ⟨ofL [(1, .ptr 0 0 0), (2, .ptr 1 0 0), (3, .ptr 2 0 0), (4, .p (.int .i64 0))],
 ofH [(0, .row 4 [cellsSc S]), (1, .row 4 [[.p (.str []), .ex [], .ex [], .ex []]]), (2, .row 4 [[.p (.str S.name), .ex [], .ex [], .own 3]]), (3, .row 3 (liftE (S.meths.map encMt)))], 4⟩
set_option maxRecDepth 100000 in
set_option maxHeartbeats 8000000 in
theorem law00_Schema (S : Sc) (F : FewS S) : PFn Tryd.prog 23 [.agg (encSc S)] (.agg (encSc S)) := by
 refine PFn.of Tryd.func23 rfl (by decide) Tryd.ntmps23 Tryd.results23 (Nat.le_of_ble_eq_true rfl) ?_
 simp only [argsT, encSc]
 have Fm := F.msgs
 have Fe := F.enums
 have Ft := F.meths
 refine AW.rT (by rfl) fun K hK => ?_
 simp -implicitDefEqProofs only [go_sem, ↓reduceIte, Nat.reduceAdd, Nat.reduceMul, Nat.reduceEqDiff, Nat.reduceLeDiff, reduceCtorEq, Int.reduceToNat]
 refine hK _ ?_; clear hK K
 refine AW.dT mixed (by rfl) (by decide +kernel) fun K hK => ?_
 simp -implicitDefEqProofs only [go_sem, ↓reduceIte, Nat.reduceAdd, Nat.reduceMul, Nat.reduceEqDiff, Nat.reduceLeDiff, reduceCtorEq, Int.reduceToNat]
 refine ⟨⟨lift_len (f := encMt) (fun _ => rfl) _, lift_one one_Mt _, by simp⟩, ⟨.inl trivial, by simp, by rw [liftE_length, List.length_map]; omega⟩, ?_⟩
 try simp -implicitDefEqProofs only [go_sem, ↓reduceIte, Nat.reduceAdd, Nat.reduceMul, Nat.reduceEqDiff, Nat.reduceLeDiff, reduceCtorEq, Int.reduceToNat]
 refine ⟨by decide +kernel, ?_⟩
 refine hK _ ?_; clear hK K
 refine AW.seq ?_
 refine AW.rT (by rfl) fun K hK => ?_
 simp -implicitDefEqProofs only [go_sem, ↓reduceIte, Nat.reduceAdd, Nat.reduceMul, Nat.reduceEqDiff, Nat.reduceLeDiff, reduceCtorEq, Int.reduceToNat]
 refine hK _ ?_; clear hK K
 refine AW.block ?_
 refine AW.loop (sc1 S) (fun i => i ≤ S.msgs.length) (fun i => S.msgs.length - i) 0 ?_ (by omega) fun i i1 => ?_
 ·refine Ghost.trans (s' := sc0 S) ?_ ?_
  ·simp only [sc0, cellsSc]
   refine Ghost.ent (fun l => if l = 0 then 0 else if l = 1 then 1 else if l = 2 then 8 else 6) ?_ ?_ ?_ <;> simp -implicitDefEqProofs only [go_sem, ↓reduceIte, Nat.reduceAdd, Nat.reduceMul, Nat.reduceEqDiff, Nat.reduceLeDiff, reduceCtorEq, Int.reduceToNat,  List.forall_mem_cons, List.not_mem_nil, false_implies, implies_true, and_self, map_renL_lift, labsIn_lift, List.all_append, List.all_cons, List.all_nil, List.map_append, Nat.reduceLT, labsInL, AV.labsIn]
   all_goals first | rfl | decide | skip
  refine Ghost.trans (s' := scA S) (Ghost.trans (Ghost.freeze (lb := 3) (ps := S.meths.map encMt) rfl (unlift_liftE _)) ?_) (Ghost.trans (Ghost.nilH (l := 2) (i := 0) (j := 1) (sz' := 3) rfl rfl rfl) ?_)
  ·simp only [sc0, scA, cellsSc]
   refine Ghost.sub ?_ ?_ <;> simp -implicitDefEqProofs only [go_sem, ↓reduceIte, Nat.reduceAdd, Nat.reduceMul, Nat.reduceEqDiff, Nat.reduceLeDiff, reduceCtorEq, Int.reduceToNat, thaw, thaw1, Option.map_some, List.map_cons, List.map_nil, List.forall_mem_cons, List.not_mem_nil, false_implies, implies_true, and_self, labsIn_lift, List.all_append, List.all_cons, List.all_nil, Nat.reduceLT, labsInL, AV.labsIn]
   all_goals first | rfl | decide | skip
  ·simp only [scA, sc1, cellsSc]
   refine Ghost.sub ?_ ?_ <;> simp -implicitDefEqProofs only [go_sem, ↓reduceIte, Nat.reduceAdd, Nat.reduceMul, Nat.reduceEqDiff, Nat.reduceLeDiff, reduceCtorEq, Int.reduceToNat, List.take_zero, List.map_nil, liftE_nil, List.forall_mem_cons, List.not_mem_nil, false_implies, implies_true, and_self, labsIn_lift, List.all_append, List.all_cons, List.all_nil, Nat.reduceLT, labsInL, AV.labsIn]
   all_goals first | rfl | decide | skip
 simp only [sc1, cellsSc]
 refine AW.seq ?_
 by_cases hil : i < S.msgs.length
 ·obtain ⟨m, hm⟩ : ∃ m, S.msgs[i]? = some m := ⟨_, List.getElem?_eq_getElem hil⟩
  have ⟨hm1, hm2, hm3⟩ := at_map' encMs hm
  have hm2' : (i : Int) < (S.msgs.length : Int) := by omega
  have hc1 : ((i : Int) < (S.msgs.length : Int)) = True := eq_true (by omega)
  have w1 : IntKind.wrap .i64 ((i : Int) + 1) = ((i + 1 : Nat) : Int) := by rw [w64] <;> omega
  have FM := F.ms m (List.mem_of_getElem? hm)
  have f1 := FM.fields
  have f2 := FM.res
  have CI := law00_Ints m.res (by omega)
  refine AW.rT (by rfl) fun K hK => ?_
  simp -implicitDefEqProofs only [go_sem, ↓reduceIte, Nat.reduceAdd, Nat.reduceMul, Nat.reduceEqDiff, Nat.reduceLeDiff, reduceCtorEq, Int.reduceToNat, hc1, List.length_map]
  refine hK _ ?_; clear hK K
  refine AW.cond _ (by simp -implicitDefEqProofs only [go_sem, ↓reduceIte, Nat.reduceAdd, Nat.reduceMul, Nat.reduceEqDiff, Nat.reduceLeDiff, reduceCtorEq, Int.reduceToNat]; rfl) (fun hc => ?_) (fun hc => ?_)
  rotate_left
  ·simp at hc
  refine AW.skip ?_
  simp only [andThen, inBlk, reduceCtorEq, ↓reduceIte, if_t, if_f]
  refine AW.seq ?_
  refine AW.block ?_
  refine AW.rT (by rfl) fun K hK => ?_
  simp -implicitDefEqProofs only [go_sem, ↓reduceIte, Nat.reduceAdd, Nat.reduceMul, Nat.reduceEqDiff, Nat.reduceLeDiff, reduceCtorEq, Int.reduceToNat, hm1, hm2', hm3, encMs, List.length_map]
  refine hK _ ?_; clear hK K
  refine AW.dE mixed (by rfl) (by decide +kernel) fun K hK => ?_
  simp -implicitDefEqProofs only [go_sem, ↓reduceIte, Nat.reduceAdd, Nat.reduceMul, Nat.reduceEqDiff, Nat.reduceLeDiff, reduceCtorEq, Int.reduceToNat]
  refine ⟨⟨lift_len (f := encFd) (fun _ => rfl) _, lift_one one_Fd _, by simp⟩, ⟨.inl trivial, by simp, by rw [liftE_length, List.length_map]; omega⟩, ?_⟩
  try simp -implicitDefEqProofs only [go_sem, ↓reduceIte, Nat.reduceAdd, Nat.reduceMul, Nat.reduceEqDiff, Nat.reduceLeDiff, reduceCtorEq, Int.reduceToNat]
  refine ⟨.pure _, CI, ?_⟩
  try simp -implicitDefEqProofs only [go_sem, ↓reduceIte, Nat.reduceAdd, Nat.reduceMul, Nat.reduceEqDiff, Nat.reduceLeDiff, reduceCtorEq, Int.reduceToNat]
  refine ⟨⟨by simp, by simp [oneAll, AV.one, PV.one], by simp⟩, by simp [liftE_length]; omega, by decide +kernel, ?_⟩
  refine hK _ ?_; clear hK K
  simp only [andThen, inBlk, reduceCtorEq, ↓reduceIte, if_t, if_f]
  refine AW.ghost (s' := scB S m i) ?_ (AW.ghost (s' := scC S m i) (Ghost.trans (Ghost.freeze (lb := 4) (ps := m.fields.map encFd) rfl (unlift_liftE _)) ?_) ?_)
  ·simp only [scB, cellsSc]
   refine Ghost.ent (fun l => if l = 0 then 0 else if l = 1 then 1 else if l = 2 then 2 else if l = 3 then 28 else 22) ?_ ?_ ?_ <;> simp -implicitDefEqProofs only [go_sem, ↓reduceIte, Nat.reduceAdd, Nat.reduceMul, Nat.reduceEqDiff, Nat.reduceLeDiff, reduceCtorEq, Int.reduceToNat, encMs, List.forall_mem_cons, List.not_mem_nil, false_implies, implies_true, and_self, map_renL_lift, labsIn_lift, List.all_append, List.all_cons, List.all_nil, List.map_append, Nat.reduceLT, labsInL, AV.labsIn]
   all_goals first | rfl | decide | skip
  ·simp only [scB, scC, cellsSc]
   refine Ghost.sub ?_ ?_ <;> simp -implicitDefEqProofs only [go_sem, ↓reduceIte, Nat.reduceAdd, Nat.reduceMul, Nat.reduceEqDiff, Nat.reduceLeDiff, reduceCtorEq, Int.reduceToNat, thaw, thaw1, Option.map_some, List.map_cons, List.map_nil, List.map_append, thaw_lift, List.forall_mem_cons, List.not_mem_nil, false_implies, implies_true, and_self, labsIn_lift, List.all_append, List.all_cons, List.all_nil, Nat.reduceLT, labsInL, AV.labsIn]
   all_goals first | rfl | decide | skip
  simp only [scC, cellsSc]
  have e8 : liftE ((S.msgs.take i).map encMs) ++ [[AV.p (.str m.name), .p (.slice (m.fields.map encFd)), .p (.slice (m.res.map encI))]] = liftE ((S.msgs.take (i + 1)).map encMs) := by
   rw [List.take_add_one, hm]
   simp [liftE, encMs]
  rw [e8]
  refine AW.rE (by rfl) fun K hK => ?_
  simp -implicitDefEqProofs only [go_sem, ↓reduceIte, Nat.reduceAdd, Nat.reduceMul, Nat.reduceEqDiff, Nat.reduceLeDiff, reduceCtorEq, Int.reduceToNat, w1]
  refine hK _ ?_; clear hK K
  refine ⟨i + 1, by omega, by omega, ?_⟩
  refine Ghost.sub ?_ ?_ <;> simp -implicitDefEqProofs only [go_sem, ↓reduceIte, Nat.reduceAdd, Nat.reduceMul, Nat.reduceEqDiff, Nat.reduceLeDiff, reduceCtorEq, Int.reduceToNat,  List.forall_mem_cons, List.not_mem_nil, false_implies, implies_true, and_self, labsIn_lift, List.all_append, List.all_cons, List.all_nil, Nat.reduceLT, labsInL, AV.labsIn]
 have hc1 : ((i : Int) < (S.msgs.length : Int)) = False := eq_false (by omega)
 have ea : S.msgs.take i = S.msgs := List.take_of_length_le (by omega)
 rw [ea]
 clear ea
 refine AW.rT (by rfl) fun K hK => ?_
 simp -implicitDefEqProofs only [go_sem, ↓reduceIte, Nat.reduceAdd, Nat.reduceMul, Nat.reduceEqDiff, Nat.reduceLeDiff, reduceCtorEq, Int.reduceToNat, hc1, List.length_map]
 refine hK _ ?_; clear hK K
 refine AW.cond _ (by simp -implicitDefEqProofs only [go_sem, ↓reduceIte, Nat.reduceAdd, Nat.reduceMul, Nat.reduceEqDiff, Nat.reduceLeDiff, reduceCtorEq, Int.reduceToNat]; rfl) (fun hc => ?_) (fun hc => ?_)
 ·simp at hc
 refine AW.exit ?_
 simp only [andThen, inBlk, reduceCtorEq, ↓reduceIte, if_t, if_f]
 refine AW.ghost (s' := scD S) (Ghost.trans (Ghost.freeze (lb := 3) (ps := S.msgs.map encMs) rfl (unlift_liftE _)) ?_) ?_
 ·simp only [scD, cellsSc]
  refine Ghost.sub ?_ ?_ <;> simp -implicitDefEqProofs only [go_sem, ↓reduceIte, Nat.reduceAdd, Nat.reduceMul, Nat.reduceEqDiff, Nat.reduceLeDiff, reduceCtorEq, Int.reduceToNat, thaw, thaw1, Option.map_some, List.map_cons, List.map_nil, List.map_append, thaw_lift, List.forall_mem_cons, List.not_mem_nil, false_implies, implies_true, and_self, labsIn_lift, List.all_append, List.all_cons, List.all_nil, Nat.reduceLT, labsInL, AV.labsIn]
  all_goals first | rfl | decide | skip
 clear hc1 hil i1
 refine AW.seq ?_
 simp only [scD, cellsSc]
 refine AW.rT (by rfl) fun K hK => ?_
 simp -implicitDefEqProofs only [go_sem, ↓reduceIte, Nat.reduceAdd, Nat.reduceMul, Nat.reduceEqDiff, Nat.reduceLeDiff, reduceCtorEq, Int.reduceToNat]
 refine hK _ ?_; clear hK K
 refine AW.block ?_
 refine AW.loop (scE S) (fun i => i ≤ S.enums.length) (fun i => S.enums.length - i) 0 ?_ (by omega) fun j j1 => ?_
 ·refine Ghost.trans (Ghost.nilH (l := 2) (i := 0) (j := 2) (sz' := 2) rfl rfl rfl) ?_
  simp only [scE, cellsSc]
  refine Ghost.ent (fun l => if l = 3 then 4 else l) ?_ ?_ ?_ <;> simp -implicitDefEqProofs only [go_sem, ↓reduceIte, Nat.reduceAdd, Nat.reduceMul, Nat.reduceEqDiff, Nat.reduceLeDiff, reduceCtorEq, Int.reduceToNat, List.take_zero, List.map_nil, liftE_nil, List.forall_mem_cons, List.not_mem_nil, false_implies, implies_true, and_self, map_renL_lift, labsIn_lift, List.all_append, List.all_cons, List.all_nil, List.map_append, Nat.reduceLT, labsInL, AV.labsIn]
  all_goals first | rfl | decide | skip
 simp only [scE, cellsSc]
 refine AW.seq ?_
 by_cases hil : j < S.enums.length
 ·obtain ⟨m, hm⟩ : ∃ m, S.enums[j]? = some m := ⟨_, List.getElem?_eq_getElem hil⟩
  have ⟨hm1, hm2, hm3⟩ := at_map' encEn hm
  have hm2' : (j : Int) < (S.enums.length : Int) := by omega
  have hc1 : ((j : Int) < (S.enums.length : Int)) = True := eq_true (by omega)
  have w1 : IntKind.wrap .i64 ((j : Int) + 1) = ((j + 1 : Nat) : Int) := by rw [w64] <;> omega
  have FE := F.en m (List.mem_of_getElem? hm)
  have f1 := FE.vals
  refine AW.rT (by rfl) fun K hK => ?_
  simp -implicitDefEqProofs only [go_sem, ↓reduceIte, Nat.reduceAdd, Nat.reduceMul, Nat.reduceEqDiff, Nat.reduceLeDiff, reduceCtorEq, Int.reduceToNat, hc1, List.length_map]
  refine hK _ ?_; clear hK K
  refine AW.cond _ (by simp -implicitDefEqProofs only [go_sem, ↓reduceIte, Nat.reduceAdd, Nat.reduceMul, Nat.reduceEqDiff, Nat.reduceLeDiff, reduceCtorEq, Int.reduceToNat]; rfl) (fun hc => ?_) (fun hc => ?_)
  rotate_left
  ·simp at hc
  refine AW.skip ?_
  simp only [andThen, inBlk, reduceCtorEq, ↓reduceIte, if_t, if_f]
  refine AW.seq ?_
  refine AW.block ?_
  refine AW.dE mixed (by rfl) (by decide +kernel) fun K hK => ?_
  simp -implicitDefEqProofs only [go_sem, ↓reduceIte, Nat.reduceAdd, Nat.reduceMul, Nat.reduceEqDiff, Nat.reduceLeDiff, reduceCtorEq, Int.reduceToNat, hm1, hm2', hm3, encEn, List.length_map]
  refine ⟨⟨lift_len (f := encNm) (fun _ => rfl) _, lift_one one_Nm _, by simp⟩, ⟨.inl trivial, by simp, by rw [liftE_length, List.length_map]; omega⟩, ?_⟩
  try simp -implicitDefEqProofs only [go_sem, ↓reduceIte, Nat.reduceAdd, Nat.reduceMul, Nat.reduceEqDiff, Nat.reduceLeDiff, reduceCtorEq, Int.reduceToNat]
  refine ⟨⟨by simp, by simp [oneAll, AV.one, PV.one], by simp⟩, by simp [liftE_length]; omega, by decide +kernel, ?_⟩
  refine hK _ ?_; clear hK K
  simp only [andThen, inBlk, reduceCtorEq, ↓reduceIte, if_t, if_f]
  refine AW.ghost (s' := scF S m j) ?_ (AW.ghost (s' := scG S m j) (Ghost.trans (Ghost.freeze (lb := 4) (ps := m.vals.map encNm) rfl (unlift_liftE _)) ?_) ?_)
  ·simp only [scF, cellsSc]
   refine Ghost.ent (fun l => if l = 0 then 0 else if l = 1 then 1 else if l = 2 then 2 else if l = 3 then 26 else 23) ?_ ?_ ?_ <;> simp -implicitDefEqProofs only [go_sem, ↓reduceIte, Nat.reduceAdd, Nat.reduceMul, Nat.reduceEqDiff, Nat.reduceLeDiff, reduceCtorEq, Int.reduceToNat, encEn, List.forall_mem_cons, List.not_mem_nil, false_implies, implies_true, and_self, map_renL_lift, labsIn_lift, List.all_append, List.all_cons, List.all_nil, List.map_append, Nat.reduceLT, labsInL, AV.labsIn]
   all_goals first | rfl | decide | skip
  ·simp only [scF, scG, cellsSc]
   refine Ghost.sub ?_ ?_ <;> simp -implicitDefEqProofs only [go_sem, ↓reduceIte, Nat.reduceAdd, Nat.reduceMul, Nat.reduceEqDiff, Nat.reduceLeDiff, reduceCtorEq, Int.reduceToNat, thaw, thaw1, Option.map_some, List.map_cons, List.map_nil, List.map_append, thaw_lift, List.forall_mem_cons, List.not_mem_nil, false_implies, implies_true, and_self, labsIn_lift, List.all_append, List.all_cons, List.all_nil, Nat.reduceLT, labsInL, AV.labsIn]
   all_goals first | rfl | decide | skip
  simp only [scG, cellsSc]
  have e8 : liftE ((S.enums.take j).map encEn) ++ [[AV.p (.str m.name), .p (.slice (m.vals.map encNm))]] = liftE ((S.enums.take (j + 1)).map encEn) := by
   rw [List.take_add_one, hm]
   simp [liftE, encEn]
  rw [e8]
  refine AW.rE (by rfl) fun K hK => ?_
  simp -implicitDefEqProofs only [go_sem, ↓reduceIte, Nat.reduceAdd, Nat.reduceMul, Nat.reduceEqDiff, Nat.reduceLeDiff, reduceCtorEq, Int.reduceToNat, w1]
  refine hK _ ?_; clear hK K
  refine ⟨j + 1, by omega, by omega, ?_⟩
  refine Ghost.sub ?_ ?_ <;> simp -implicitDefEqProofs only [go_sem, ↓reduceIte, Nat.reduceAdd, Nat.reduceMul, Nat.reduceEqDiff, Nat.reduceLeDiff, reduceCtorEq, Int.reduceToNat,  List.forall_mem_cons, List.not_mem_nil, false_implies, implies_true, and_self, labsIn_lift, List.all_append, List.all_cons, List.all_nil, Nat.reduceLT, labsInL, AV.labsIn]
 have hc1 : ((j : Int) < (S.enums.length : Int)) = False := eq_false (by omega)
 have ea : S.enums.take j = S.enums := List.take_of_length_le (by omega)
 rw [ea]
 clear ea
 refine AW.rT (by rfl) fun K hK => ?_
 simp -implicitDefEqProofs only [go_sem, ↓reduceIte, Nat.reduceAdd, Nat.reduceMul, Nat.reduceEqDiff, Nat.reduceLeDiff, reduceCtorEq, Int.reduceToNat, hc1, List.length_map]
 refine hK _ ?_; clear hK K
 refine AW.cond _ (by simp -implicitDefEqProofs only [go_sem, ↓reduceIte, Nat.reduceAdd, Nat.reduceMul, Nat.reduceEqDiff, Nat.reduceLeDiff, reduceCtorEq, Int.reduceToNat]; rfl) (fun hc => ?_) (fun hc => ?_)
 ·simp at hc
 refine AW.exit ?_
 simp only [andThen, inBlk, reduceCtorEq, ↓reduceIte, if_t, if_f]
 refine AW.ghost (s' := scH S) (Ghost.trans (Ghost.freeze (lb := 3) (ps := S.enums.map encEn) rfl (unlift_liftE _)) ?_) ?_
 ·simp only [scH, cellsSc]
  refine Ghost.sub ?_ ?_ <;> simp -implicitDefEqProofs only [go_sem, ↓reduceIte, Nat.reduceAdd, Nat.reduceMul, Nat.reduceEqDiff, Nat.reduceLeDiff, reduceCtorEq, Int.reduceToNat, thaw, thaw1, Option.map_some, List.map_cons, List.map_nil, List.map_append, thaw_lift, List.forall_mem_cons, List.not_mem_nil, false_implies, implies_true, and_self, labsIn_lift, List.all_append, List.all_cons, List.all_nil, Nat.reduceLT, labsInL, AV.labsIn]
  all_goals first | rfl | decide | skip
 simp only [scH, cellsSc]
 refine AW.rT (by rfl) fun K hK => ?_
 simp -implicitDefEqProofs only [go_sem, ↓reduceIte, Nat.reduceAdd, Nat.reduceMul, Nat.reduceEqDiff, Nat.reduceLeDiff, reduceCtorEq, Int.reduceToNat]
 refine hK _ ?_; clear hK K
 refine AW.ret ?_
 simp -implicitDefEqProofs only [go_sem, ↓reduceIte, Nat.reduceAdd, Nat.reduceMul, Nat.reduceEqDiff, Nat.reduceLeDiff, reduceCtorEq, Int.reduceToNat]
end Go.Aw
namespace Go.Aw
open Go.Proofs Go.RowKit
set_option linter.unusedSimpArgs false
set_option linter.unusedVariables false
theorem GSc.big {S : Sc} (G : GSc S) : bigS S := ⟨G.name, fun m hm => (G.msgs.2 m hm).name⟩
theorem lens_few {S : Sc} (h : fewB S = true) : LensS S := (few_spec h).lens
end Go.Aw
namespace Go.Aw
open Go.Proofs Go.RowKit
set_option linter.unusedSimpArgs false
set_option linter.unusedVariables false
theorem msgsC_zero {S : Sc} {K : List (List UInt8) → Int} : ∀ {l : List Ms} {ns : List (List UInt8)}, msgsC S K ns l = 0 → (∀ (i : Nat) m, l[i]? = some m → msgC S (ns ++ (l.take i).map Ms.name) m = 0) ∧ K (ns ++ l.map Ms.name) = 0
 | [], ns, h => ⟨fun i m hm => by simp at hm, by simpa [msgsC] using h⟩
 | a :: l, ns, h => by
  rw [msgsC] at h
  split at h
  ·rename_i h0
   obtain ⟨h1, h2⟩ := msgsC_zero h
   refine ⟨fun i m hm => ?_, by simpa [List.append_assoc] using h2⟩
   cases i with
   | zero => simp at hm; subst hm; simpa using h0
   | succ i => have := h1 i m (by simpa using hm); simpa [List.append_assoc] using this
  ·rename_i h0; exact absurd h h0
theorem enumsC_zero : ∀ {l : List En} {ns : List (List UInt8)}, enumsC ns l = 0 → ∀ (i : Nat) m, l[i]? = some m → enumC (ns ++ (l.take i).map En.name) m = 0
 | [], ns, h, i, m, hm => by simp at hm
 | a :: l, ns, h, i, m, hm => by
  rw [enumsC] at h
  split at h
  ·rename_i h0
   have h1 := enumsC_zero h
   cases i with
   | zero => simp at hm; subst hm; simpa using h0
   | succ i => have := h1 i m (by simpa using hm); simpa [List.append_assoc] using this
  ·rename_i h0; exact absurd h h0
theorem methsC_zero {S : Sc} : ∀ {l : List Mt} {ns : List (List UInt8)}, methsC S ns l = 0 → ∀ (i : Nat) m, l[i]? = some m → takesB (ns ++ (l.take i).map Mt.name) m.name = true ∧ hasM S m.inn = true ∧ hasM S m.out = true
 | [], ns, h, i, m, hm => by simp at hm
 | a :: l, ns, h, i, m, hm => by
  rw [methsC] at h
  split at h
  ·rename_i h0
   split at h
   ·rename_i h2
    have h1 := methsC_zero h
    cases i with
    | zero =>
     simp at hm; subst hm
     simp only [Bool.and_eq_true] at h2
     exact ⟨by simpa using h0, h2⟩
    | succ i => have := h1 i m (by simpa using hm); simpa [List.append_assoc] using this
   ·cases h
  ·cases h
theorem fldsC_zero {S : Sc} : ∀ {l : List Fd} {ns : List (List UInt8)} {us : List Int}, fldsC S ns us l = 0 → ∀ (i : Nat) f, l[i]? = some f → takesB (ns ++ (l.take i).map Fd.name) f.name = true ∧ tagB f.tag = true ∧ (us ++ (l.take i).map Fd.tag).contains f.tag = false ∧ fieldB S f = true
 | [], ns, us, h, i, f, hf => by simp at hf
 | a :: l, ns, us, h, i, f, hf => by
  rw [fldsC] at h
  split at h
  ·rename_i h0
   split at h
   ·rename_i h2
    split at h
    ·rename_i h3
     have h1 := fldsC_zero h
     cases i with
     | zero =>
      simp at hf; subst hf
      simp only [Bool.and_eq_true, Bool.not_eq_true'] at h2
      exact ⟨by simpa using h0, h2.1, by simpa using h2.2, h3⟩
     | succ i => have := h1 i f (by simpa using hf); simpa [List.append_assoc] using this
    ·cases h
   ·cases h
  ·cases h
theorem contains_apart {α : Type} {f : α → List UInt8} {l : List α} {k : List UInt8} (h : (l.map f).contains k = false) : l.all (fun x => !(f x == k)) = true := by
 rw [List.all_eq_true]
 intro x hx
 rw [contains_any, List.any_map] at h
 have := List.any_eq_false.1 h x hx
 simp at this ⊢
 intro e
 exact this e.symm
theorem contains_apartI {α : Type} {f : α → Int} {l : List α} {k : Int} (h : (l.map f).contains k = false) : l.all (fun x => !(f x == k)) = true := by
 rw [List.all_eq_true]
 intro x hx
 rw [contains_any, List.any_map] at h
 have := List.any_eq_false.1 h x hx
 simp at this ⊢
 intro e
 exact this e.symm
theorem contains_app {α : Type} [BEq α] {a b : List α} {k : α} (h : (a ++ b).contains k = false) : a.contains k = false ∧ b.contains k = false := by
 rw [contains_any, List.any_append, Bool.or_eq_false_iff] at h
 exact ⟨by rw [contains_any]; exact h.1, by rw [contains_any]; exact h.2⟩
structure RightS (S : Sc) : Prop where
 msg : ∀ (i : Nat) m, S.msgs[i]? = some m → firstP (fun x => x.name == m.name) zMs S.msgs = (m, true) ∧ firstP (fun x => x.name == m.name) zEn S.enums = (zEn, false) ∧ nameB m.name = true
 enum : ∀ (i : Nat) m, S.enums[i]? = some m → firstP (fun x => x.name == m.name) zEn S.enums = (m, true)
 meth : ∀ (i : Nat) m, S.meths[i]? = some m → firstP (fun x => x.name == m.name) zMt S.meths = (m, true) ∧ hasM S m.inn = true ∧ hasM S m.out = true
 fld : ∀ m ∈ S.msgs, ∀ (i : Nat) f, m.fields[i]? = some f → firstP (fun x => x.tag == f.tag) zFd m.fields = (f, true) ∧ m.res.contains f.tag = false ∧ fieldB S f = true ∧ tagB f.tag = true ∧ nameB f.name = true
 res : ∀ m ∈ S.msgs, ∀ t ∈ m.res, firstP (fun x => x.tag == t) zFd m.fields = (zFd, false)
 no : ∀ m ∈ S.msgs, m.fields.length ≤ 16 ∧ m.res.length ≤ 32
 len : S.msgs.length ≠ 0 ∧ S.msgs.length ≤ 10 ∧ S.enums.length ≤ 6 ∧ S.meths.length ≤ 6
theorem right_of {S : Sc} (h : checkC S = 0) : RightS S := by
 unfold checkC at h
 split at h
 case isFalse => cases h
 split at h
 ·cases h
 rename_i hl0
 split at h
 ·cases h
 rename_i hl1
 split at h
 case isFalse h0 => exact absurd h h0
 rename_i h0
 obtain ⟨h1, h2⟩ := msgsC_zero h0
 have h3 := enumsC_zero h2
 have h4 := methsC_zero h
 have mz : ∀ (i : Nat) m, S.msgs[i]? = some m → takesB ((S.msgs.take i).map Ms.name) m.name = true ∧ bodyC S m = 0 := fun i m hm => by
  have := h1 i m hm
  unfold msgC at this
  rw [List.nil_append] at this
  split at this
  ·rename_i q; exact ⟨q, this⟩
  ·cases this
 have ez : ∀ (i : Nat) m, S.enums[i]? = some m → takesB (S.msgs.map Ms.name ++ (S.enums.take i).map En.name) m.name = true := fun i m hm => by
  have := h3 i m hm
  unfold enumC at this
  rw [List.nil_append] at this
  split at this
  ·rename_i q; exact q
  ·cases this
 have tk : ∀ {ns : List (List UInt8)} {k : List UInt8}, takesB ns k = true → ns.contains k = false ∧ nameB k = true := fun q => by
  unfold takesB at q
  simp only [Bool.and_eq_true, Bool.not_eq_true'] at q
  exact ⟨q.2, q.1⟩
 have bz : ∀ m ∈ S.msgs, (m.fields.length ≤ 16 ∧ m.res.length ≤ 32) ∧ fldsC S [] m.res m.fields = 0 := fun m hm => by
  obtain ⟨i, hi⟩ := List.getElem?_of_mem hm
  have q := (mz i m hi).2
  unfold bodyC at q
  split at q
  ·cases q
  rename_i q1
  split at q
  ·cases q
  ·exact ⟨by omega, q⟩
 have fz : ∀ m ∈ S.msgs, ∀ (i : Nat) f, m.fields[i]? = some f → takesB ((m.fields.take i).map Fd.name) f.name = true ∧ tagB f.tag = true ∧ (m.res ++ (m.fields.take i).map Fd.tag).contains f.tag = false ∧ fieldB S f = true := fun m hm i f hf => by
  have := fldsC_zero (bz m hm).2 i f hf
  rwa [List.nil_append] at this
 refine ⟨fun i m hm => ?_, fun i m hm => ?_, fun i m hm => ?_, fun m hm i f hf => ?_, fun m hm t ht => ?_, fun m hm => (bz m hm).1, ⟨hl0, by omega⟩⟩
 ·refine ⟨first_at hm (contains_apart (tk (mz i m hm).1).1) (by simp), first_not ?_, (tk (mz i m hm).1).2⟩
  rw [List.all_eq_true]
  intro e he
  obtain ⟨j, hj⟩ := List.getElem?_of_mem he
  have q := (contains_app (tk (ez j e hj)).1).1
  have q' := List.all_eq_true.1 (contains_apart q) m (List.mem_of_getElem? hm)
  simp at q' ⊢
  intro e'
  exact q' e'.symm
 ·exact first_at hm (contains_apart (contains_app (tk (ez i m hm)).1).2) (by simp)
 ·have q := h4 i m hm
  rw [List.nil_append] at q
  exact ⟨first_at hm (contains_apart (tk q.1).1) (by simp), q.2⟩
 ·obtain ⟨q1, q2, q3, q4⟩ := fz m hm i f hf
  exact ⟨first_at hf (contains_apartI (contains_app q3).2) (by simp), (contains_app q3).1, q4, q2, (tk q1).2⟩
 ·refine first_not ?_
  rw [List.all_eq_true]
  intro f hf
  obtain ⟨j, hj⟩ := List.getElem?_of_mem hf
  have q := (contains_app (fz m hm j f hj).2.2.1).1
  have : f.tag ≠ t := by
   intro e
   rw [e] at q
   have : m.res.contains t = true := by rw [List.contains_iff_mem]; exact ht
   rw [this] at q
   cases q
  simpa using this
end Go.Aw
namespace Go.Aw
open Go.Proofs Go.RowKit
set_option linter.unusedSimpArgs false
set_option linter.unusedVariables false
theorem msgsC_back {S : Sc} {K : List (List UInt8) → Int} : ∀ {l : List Ms} {ns : List (List UInt8)}, (∀ (i : Nat) m, l[i]? = some m → msgC S (ns ++ (l.take i).map Ms.name) m = 0) → K (ns ++ l.map Ms.name) = 0 → msgsC S K ns l = 0
 | [], ns, _, h => by simpa [msgsC] using h
 | a :: l, ns, h1, h2 => by
  have h0 := h1 0 a rfl
  rw [msgsC, if_pos (by simpa using h0)]
  exact msgsC_back (fun i m hm => by have := h1 (i + 1) m (by simpa using hm); simpa [List.append_assoc] using this) (by simpa [List.append_assoc] using h2)
theorem enumsC_back : ∀ {l : List En} {ns : List (List UInt8)}, (∀ (i : Nat) m, l[i]? = some m → enumC (ns ++ (l.take i).map En.name) m = 0) → enumsC ns l = 0
 | [], ns, _ => rfl
 | a :: l, ns, h1 => by
  have h0 := h1 0 a rfl
  rw [enumsC, if_pos (by simpa using h0)]
  exact enumsC_back (fun i m hm => by have := h1 (i + 1) m (by simpa using hm); simpa [List.append_assoc] using this)
theorem methsC_back {S : Sc} : ∀ {l : List Mt} {ns : List (List UInt8)}, (∀ (i : Nat) m, l[i]? = some m → takesB (ns ++ (l.take i).map Mt.name) m.name = true ∧ hasM S m.inn = true ∧ hasM S m.out = true) → methsC S ns l = 0
 | [], ns, _ => rfl
 | a :: l, ns, h1 => by
  obtain ⟨q1, q2, q3⟩ := h1 0 a rfl
  rw [methsC, if_pos (by simpa using q1), if_pos (by rw [q2, q3]; rfl)]
  exact methsC_back (fun i m hm => by have := h1 (i + 1) m (by simpa using hm); simpa [List.append_assoc] using this)
theorem takes_iff {ns : List (List UInt8)} {k : List UInt8} : takesB ns k = true ↔ nameB k = true ∧ k ∉ ns := by
 unfold takesB
 rw [Bool.and_eq_true, Bool.not_eq_true', ← Bool.not_eq_true, List.contains_iff_mem]
theorem takes_all {α : Type} {f : α → List UInt8} : ∀ {l : List α} {ns : List (List UInt8)}, ns.Nodup → ((∀ (i : Nat) a, l[i]? = some a → takesB (ns ++ (l.take i).map f) (f a) = true) ↔ (∀ a ∈ l, nameB (f a) = true) ∧ (ns ++ l.map f).Nodup)
 | [], ns, hn => by simp [hn]
 | a :: l, ns, hn => by
  constructor
  ·intro h
   have h0 := takes_iff.1 (h 0 a rfl)
   have hn' : (ns ++ [f a]).Nodup := by
    rw [List.nodup_append]
    refine ⟨hn, by simp, fun x hx y hy => ?_⟩
    simp at hy
    subst hy
    rintro rfl
    exact h0.2 (by simpa using hx)
   have := (takes_all (f := f) (l := l) hn').1 fun i b hb => by
    have := h (i + 1) b (by simpa using hb)
    simpa [List.append_assoc] using this
   refine ⟨fun b hb => ?_, by simpa [List.append_assoc] using this.2⟩
   rcases List.mem_cons.1 hb with rfl | hb
   ·exact h0.1
   ·exact this.1 b hb
  ·rintro ⟨h1, h2⟩ i b hb
   have h2' : ((ns ++ [f a]) ++ l.map f).Nodup := by simpa [List.append_assoc] using h2
   cases i with
   | zero =>
    simp at hb
    subst hb
    refine takes_iff.2 ⟨h1 _ List.mem_cons_self, fun hm => ?_⟩
    have q := (List.nodup_append.1 h2').1
    rw [List.nodup_append] at q
    exact q.2.2 (f a) (by simpa using hm) (f a) (by simp) rfl
   | succ i =>
    have hn' := (List.nodup_append.1 h2').1
    have := (takes_all (f := f) (l := l) hn').2 ⟨fun c hc => h1 c (List.mem_cons_of_mem _ hc), h2'⟩ i b (by simpa using hb)
    simpa [List.append_assoc] using this
def namesS (S : Sc) : List (List UInt8) := S.msgs.map Ms.name ++ S.enums.map En.name
structure FitS (S : Sc) : Prop where
 name : nameB S.name = true
 lens : S.msgs.length ≠ 0 ∧ S.msgs.length ≤ 10 ∧ S.enums.length ≤ 6 ∧ S.meths.length ≤ 6
 mn : ∀ m ∈ S.msgs, nameB m.name = true
 en : ∀ m ∈ S.enums, nameB m.name = true
 nd : (namesS S).Nodup
 body : ∀ m ∈ S.msgs, bodyC S m = 0
 ebody : ∀ m ∈ S.enums, enumBody m = 0
 tn : ∀ t ∈ S.meths, nameB t.name = true
 tnd : (S.meths.map Mt.name).Nodup
 tio : ∀ t ∈ S.meths, hasM S t.inn = true ∧ hasM S t.out = true
theorem msgC_zero {S : Sc} {ns : List (List UInt8)} {m : Ms} : msgC S ns m = 0 ↔ takesB ns m.name = true ∧ bodyC S m = 0 := by
 unfold msgC
 split
 ·rename_i h; simp [h]
 ·rename_i h; simp [h]
theorem enumC_zero {ns : List (List UInt8)} {m : En} : enumC ns m = 0 ↔ takesB ns m.name = true ∧ enumBody m = 0 := by
 unfold enumC
 split
 ·rename_i h; simp [h]
 ·rename_i h; simp [h]
theorem check_fit {S : Sc} : checkC S = 0 ↔ FitS S := by
 constructor
 ·intro h
  have R := right_of h
  unfold checkC at h
  split at h
  case isFalse => cases h
  rename_i hn
  split at h
  ·cases h
  split at h
  ·cases h
  split at h
  case isFalse h0 => exact absurd h h0
  rename_i h0
  obtain ⟨h1, h2⟩ := msgsC_zero h0
  have h3 := enumsC_zero h2
  have h4 := methsC_zero h
  rw [List.nil_append] at h3
  have a1 := (takes_all (f := Ms.name) (l := S.msgs) (ns := []) List.nodup_nil).1 fun i m hm => (msgC_zero.1 (h1 i m hm)).1
  rw [List.nil_append] at a1
  have a2 := (takes_all (f := En.name) (l := S.enums) a1.2).1 fun i m hm => (enumC_zero.1 (h3 i m hm)).1
  have a3 := (takes_all (f := Mt.name) (l := S.meths) (ns := []) List.nodup_nil).1 fun i m hm => (h4 i m hm).1
  refine ⟨hn, R.len, a1.1, a2.1, a2.2, fun m hm => ?_, fun m hm => ?_, a3.1, by simpa using a3.2, fun t ht => ?_⟩
  ·obtain ⟨i, hi⟩ := List.getElem?_of_mem hm
   exact (msgC_zero.1 (h1 i m hi)).2
  ·obtain ⟨i, hi⟩ := List.getElem?_of_mem hm
   exact (enumC_zero.1 (h3 i m hi)).2
  ·obtain ⟨i, hi⟩ := List.getElem?_of_mem ht
   exact (h4 i t hi).2
 ·intro F
  have nd := F.nd
  unfold namesS at nd
  have nd1 := (List.nodup_append.1 nd).1
  have a1 := (takes_all (f := Ms.name) (l := S.msgs) (ns := []) List.nodup_nil).2 ⟨F.mn, by simpa using nd1⟩
  have a2 := (takes_all (f := En.name) (l := S.enums) nd1).2 ⟨F.en, nd⟩
  have a3 := (takes_all (f := Mt.name) (l := S.meths) (ns := []) List.nodup_nil).2 ⟨F.tn, by simpa using F.tnd⟩
  have hp : partsC S = 0 := by
   refine msgsC_back (fun i m hm => msgC_zero.2 ⟨a1 i m hm, F.body m (List.mem_of_getElem? hm)⟩) ?_
   rw [List.nil_append]
   exact enumsC_back fun i m hm => enumC_zero.2 ⟨a2 i m hm, F.ebody m (List.mem_of_getElem? hm)⟩
  have hm : methsC S [] S.meths = 0 := methsC_back fun i m hm => ⟨a3 i m hm, F.tio m (List.mem_of_getElem? hm)⟩
  have l := F.lens
  unfold checkC
  rw [if_pos F.name, if_neg l.1, if_neg (by omega), if_pos hp, hm]
theorem found_any {α : Type} {p : α → Bool} {z : α} {l : List α} : (firstP p z l).2 = l.any p := by
 unfold firstP
 cases h : l.find? p with
 | none =>
  symm
  rw [List.find?_eq_none] at h
  rw [List.any_eq_false]
  exact h
 | some a =>
  symm
  rw [List.any_eq_true]
  exact ⟨a, List.mem_of_find?_eq_some h, List.find?_some h⟩
end Go.Aw
namespace Go.Aw
open Go.Proofs Go.RowKit
set_option linter.unusedSimpArgs false
set_option linter.unusedVariables false
end Go.Aw
namespace Go.Aw
open Go.Proofs Go.RowKit
set_option linter.unusedSimpArgs false
set_option linter.unusedVariables false
structure Pr where
 o : List UInt8
 n : List UInt8
 deriving DecidableEq
def encPr (p : Pr) : List PV := [.str p.o, .str p.n]
end Go.Aw
namespace Go.Aw
open Go.RowKit
variable {P : Program}
theorem seq_part {w0 : World} {X I0 : Nat → Prop} {nt : Fm} {ops : Array Oper} {Q : Exit → Act → World → Prop} {K : (Nat → Option AV) → (Nat → Option Blk) → Nat → Prop} (hd : ops.toList.all (dstOK nt) = true) (tx : TabX w0 X I0) {r' : List Oper} :
  ∀ (r : List Oper) (i nx : Nat) (T : Nat → Option AV) (H : Nat → Option Blk) (σ : Lab) (I : Nat → Prop) (a : Act) (w : World), ops.toList.drop i = r ++ r' → Match nt w0 X I0 σ I T H a w → (∀ l, nx ≤ l → σ l = none) → seqW P ops.toList nx r T H K →
   (∀ T H n σ I a w, Match nt w0 X I0 σ I T H a w → (∀ l, n ≤ l → σ l = none) → K T H n → wpOps P ops Q (List.range' (i + r.length) r'.length) a w) → wpOps P ops Q (List.range' i (r ++ r').length) a w := by
 intro r
 induction r with
 | nil => intro i nx T H σ I a w _ m hn hk hK; exact hK T H nx σ I a w m hn hk
 | cons o r ih =>
  intro i nx T H σ I a w hr m hn hk hK
  have hi : ops[i]? = some o := by
   rw [← Array.getElem?_toList, show i = i + 0 from rfl, ← List.getElem?_drop, hr]; rfl
  have hdr : ops.toList.drop (i + 1) = r ++ r' := by rw [← List.drop_drop, hr]; rfl
  have hdo : dstOK nt o = true := List.all_eq_true.1 hd o (List.mem_of_getElem? (by rw [Array.getElem?_toList]; exact hi))
  have hK' : ∀ T H n σ I a w, Match nt w0 X I0 σ I T H a w → (∀ l, n ≤ l → σ l = none) → K T H n → wpOps P ops Q (List.range' (i + 1 + r.length) r'.length) a w := by
   intro T H n σ I a w h1 h2 h3
   have := hK T H n σ I a w h1 h2 h3
   rwa [List.length_cons, show i + (r.length + 1) = i + 1 + r.length by omega] at this
  rw [List.cons_append, List.length_cons, List.range'_succ]
  simp only [wpOps, hi]
  simp only [seqW] at hk
  have run : (opW P nx o.op T H fun e => seqW P ops.toList (nx + 1) r (putT T o.dst e.val) (putH H e.upd) K) → o.wp P a w (wpOps P ops Q (List.range' (i + 1) (r ++ r').length)) Q := by
   intro hop
   refine snd_op (w0 := w0) (X := X) (I0 := I0) ⟨m.heap, m.tmps, hn nx (Nat.le_refl _), tx⟩ hop _ _ fun e v w' σ' I' hk' out => ?_
   refine ih (i + 1) (nx + 1) _ _ σ' I' _ w' hdr (m.put hdo out.heap out.ext out.imm out.same out.val) (fun l hl => ?_) hk' hK'
   rw [out.lab l (by omega)]
   exact hn l (by omega)
  have skip : seqW P ops.toList (nx + 1) r (putT T o.dst (some (.p (.cst undef)))) H K → wpOps P ops Q (List.range' (i + 1) (r ++ r').length) (a.put o.dst undef) w := by
   intro hk'
   exact ih (i + 1) (nx + 1) _ _ σ I _ w hdr (m.put hdo m.heap (fun _ _ h => h) (fun _ h => h) (fun _ _ => rfl) (fun y hy => by injection hy with hy; subst hy; exact .p (.cst undef))) (fun l hl => hn l (by omega)) hk' hK'
  unfold guardS at hk
  cases hg : o.guard with
  | none =>
   rw [hg] at hk
   have : Region.wanted o (yielded ops a.tmps) = true := by simp [Region.wanted, hg]
   rw [if_pos this]
   exact .inl (run hk)
  | some jw =>
   obtain ⟨j, want⟩ := jw
   rw [hg] at hk
   simp only at hk
   split at hk
   ·rename_i b hb
    obtain ⟨d, hd1, hd2⟩ := Option.bind_eq_some_iff.1 hb
    rw [Array.getElem?_toList] at hd1
    obtain ⟨u, hu, hru⟩ := m.tmps d _ hd2
    have hy : yielded ops a.tmps j = some b := by
     cases hru with
     | p h => cases h; simp [yielded, hd1, hu]
    have hw : Region.wanted o (yielded ops a.tmps) = (b == want) := by
     simp only [Region.wanted, hg, hy]
     cases b <;> cases want <;> rfl
    split at hk
    ·rename_i hbw
     rw [hw, if_pos (by simp [hbw])]
     exact .inl (run hk)
    ·rename_i hbw
     rw [hw, if_neg (by simp [hbw])]
     exact skip hk
   ·rename_i x hb
    obtain ⟨d, hd1, hd2⟩ := Option.bind_eq_some_iff.1 hb
    rw [Array.getElem?_toList] at hd1
    obtain ⟨u, hu, hru⟩ := m.tmps d _ hd2
    have hy : yielded ops a.tmps j = none := by
     cases hru with
     | p h =>
      cases h
      simp only [yielded, hd1, Option.bind_some, hd2, hu]
      have := hk.1
      cases x <;> first | rfl | exact this.elim
    have hw : Region.wanted o (yielded ops a.tmps) = false := by
     simp only [Region.wanted, hg, hy]
     cases want <;> rfl
    rw [hw, if_neg (by simp)]
    exact skip hk.2
   ·exact hk.elim
end Go.Aw
namespace Go.Aw
open Go.RowKit
variable {P : Program}
def SeqR (P : Program) (nt : Fm) (ops : Array Oper) (i : Nat) (s : St) (K : St → Prop) : Prop :=
 ∀ w0 X I0 a w (Q : Exit → Act → World → Prop), TabX w0 X I0 → Matches nt w0 X I0 s a w → (∀ s' a' w', Matches nt w0 X I0 s' a' w' → K s' → Q .normal a' w') → wpOps P ops Q (List.range' i (ops.size - i)) a w
theorem SeqR.ghost {nt : Fm} {ops : Array Oper} {i : Nat} {s s' : St} {K : St → Prop} (g : Ghost nt s s') (h : SeqR P nt ops i s' K) : SeqR P nt ops i s K :=
 fun w0 X I0 a w Q tx m hQ => h w0 X I0 a w Q tx (g w0 X I0 a w m) hQ
theorem SeqR.last {nt : Fm} {ops : Array Oper} {i : Nat} {s : St} {K : St → Prop} (hi : ops.size = i) (h : K s) : SeqR P nt ops i s K := by
 intro w0 X I0 a w Q tx m hQ
 subst hi
 rw [Nat.sub_self]
 exact hQ s a w m h
theorem SeqR.ev {nt : Fm} {ops : Array Oper} {i : Nat} {s : St} {K : St → Prop} (k : Nat) (hd : ops.toList.all (dstOK nt) = true) (hk : i + k ≤ ops.size) (h : seqO P ops.toList s.nx ((ops.toList.drop i).take k) s.T s.H fun T H n => SeqR P nt ops (i + k) ⟨T, H, n⟩ K) : SeqR P nt ops i s K := by
 intro w0 X I0 a w Q tx ⟨σ, I, hn, m⟩ hQ
 rw [seqO_eq] at h
 have hl : ops.toList.length = ops.size := Array.length_toList
 have main := seq_part (P := P) (w0 := w0) (X := X) (I0 := I0) (r' := ops.toList.drop (i + k)) (Q := Q) hd tx ((ops.toList.drop i).take k) i s.nx s.T s.H σ I a w (by rw [← List.drop_drop, List.take_append_drop]) m hn h
  (fun T H n σ I a w m hn hq => by
   have := hq w0 X I0 a w Q tx ⟨σ, I, hn, m⟩ hQ
   rw [List.length_take, List.length_drop, Nat.min_eq_left (by omega), List.length_drop, hl]
   exact this)
 rw [← List.drop_drop, List.take_append_drop, List.length_drop, hl] at main
 exact main
def CallD (P : Program) (nt : Fm) (o : Oper) (s : St) (K : St → Prop) : Prop :=
 ∀ w0 X I0 a w (next : Act → World → Prop) (Q : Exit → Act → World → Prop), TabX w0 X I0 → Matches nt w0 X I0 s a w → (∀ s' a' w', Matches nt w0 X I0 s' a' w' → K s' → next a' w') → o.wp P a w next Q
theorem SeqR.op {nt : Fm} {ops : Array Oper} {i : Nat} {s : St} {K : St → Prop} {o : Oper} (ho : ops[i]? = some o) (hg : o.guard = none) (h : CallD P nt o s fun s' => SeqR P nt ops (i + 1) s' K) : SeqR P nt ops i s K := by
 intro w0 X I0 a w Q tx m hQ
 have hi : i < ops.size := (Array.getElem?_eq_some_iff.1 ho).1
 rw [show ops.size - i = (ops.size - (i + 1)) + 1 by omega, List.range'_succ]
 simp only [wpOps, ho]
 have : Region.wanted o (yielded ops a.tmps) = true := by simp [Region.wanted, hg]
 rw [if_pos this]
 exact .inl (h w0 X I0 a w _ Q tx m fun s' a' w' m' k => k w0 X I0 a' w' Q tx m' hQ)
theorem AW.rR {nt : Fm} {id : Nat} {ops : Array Oper} {y : Code} {s : St} {Q : Exit → St → Prop} (h : SeqR P nt ops 0 s fun s' => AW P nt y s' Q) : AW P nt (.seq (.region id ops false) y) s Q := by
 refine AW.seq ?_
 intro w0 X I0 a w tx m
 refine wp_region ?_
 have := h w0 X I0 a w (fun e a' w' => ∃ s', Matches nt w0 X I0 s' a' w' ∧ andThen (fun s' => AW P nt y s' Q) Q e s') tx m fun s' a' w' m' k => ⟨s', m', k⟩
 rw [List.range_eq_range']
 simpa using this
mutual
def AV.labsBy (p : Nat → Bool) : AV → Bool
 | .p _ | .ex _ | .vw _ _ => true
 | .own l | .cut l _ _ | .ptr l _ _ | .map l | .it l => p l
 | .agg cs | .tuple cs | .fn _ cs => labsByL p cs
 | .iface _ x => x.labsBy p
def labsByL (p : Nat → Bool) : List AV → Bool
 | [] => true
 | x :: l => x.labsBy p && labsByL p l
end
theorem labsByL_mem {p : Nat → Bool} {l : List AV} (h : labsByL p l = true) {x : AV} (hx : x ∈ l) : x.labsBy p = true := by
 induction l with
 | nil => cases hx
 | cons y l ih =>
  rw [labsByL, Bool.and_eq_true] at h
  rcases List.mem_cons.1 hx with rfl | hx
  ·exact h.1
  ·exact ih h.2 hx
def Blk.labsBy (p : Nat → Bool) : Blk → Bool
 | .row _ es => es.all (labsByL p)
 | .map es => es.all fun e => e.2.labsBy p
 | .iter _ _ => true
theorem repA_by {σ σ' : Lab} {w : World} {I : Nat → Prop} {ρ : Nat → Nat} {p : Nat → Bool} (hp : ∀ l, p l = true → ∀ s, σ l = some s → σ' (ρ l) = some s) {u : Value} {x : AV} (h : repA σ w I u x) : x.labsBy p = true → repA σ' w I u (x.ren ρ) := by
 induction h with
 | p h => intro _; exact .p h
 | ex hn h => intro _; exact .ex hn h
 | vw hn hm hc h => intro _; exact .vw hn hm hc h
 | ownE h => intro q; exact .ownE (hp _ q _ h)
 | own h => intro q; exact .own (hp _ q _ h)
 | cut h hm hc => intro q; exact .cut (hp _ q _ h) hm hc
 | ptr h => intro q; exact .ptr (hp _ q _ h)
 | map h => intro q; exact .map (hp _ q _ h)
 | it h => intro q; exact .it (hp _ q _ h)
 | agg hs hr ih =>
  intro q
  refine .agg (by rw [renL_length]; exact hs) fun j u y h1 h2 => ?_
  rw [renL_get, Option.map_eq_some_iff] at h2
  obtain ⟨z, hz, rfl⟩ := h2
  exact ih j u z h1 hz (labsByL_mem q (List.mem_of_getElem? hz))
 | tuple hs hr ih =>
  intro q
  refine .tuple (by rw [renL_length]; exact hs) fun j u y h1 h2 => ?_
  rw [renL_get, Option.map_eq_some_iff] at h2
  obtain ⟨z, hz, rfl⟩ := h2
  exact ih j u z h1 hz (labsByL_mem q (List.mem_of_getElem? hz))
 | iface t h ih => intro q; exact .iface t (ih q)
 | fn f hs hr ih =>
  intro q
  refine .fn f (by rw [renL_length]; exact hs) fun j u y h1 h2 => ?_
  rw [renL_get, Option.map_eq_some_iff] at h2
  obtain ⟨z, hz, rfl⟩ := h2
  exact ih j u z h1 hz (labsByL_mem q (List.mem_of_getElem? hz))
theorem repB_by {σ σ' : Lab} {w : World} {I : Nat → Prop} {ρ : Nat → Nat} {p : Nat → Bool} (hp : ∀ l, p l = true → ∀ s, σ l = some s → σ' (ρ l) = some s) {l : Nat} {b : Blk} (hl : p l = true) (h : repB σ w I l b) (hb : b.labsBy p = true) : repB σ' w I (ρ l) (b.ren ρ) := by
 cases h with
 | emp h => exact .emp (hp _ hl _ h)
 | row h hg hcur hc hs ho hr =>
  rename_i g c sz cur et es
  refine .row (by rw [List.length_map]; exact hp _ hl _ h) hg hcur (by rw [List.length_map]; exact hc) (fun e he => ?_) (fun e he x hx => ?_) fun i e j x q1 q2 => ?_
  ·obtain ⟨e', he', rfl⟩ := List.mem_map.1 he
   rw [renL_length]
   exact hs e' he'
  ·obtain ⟨e', he', rfl⟩ := List.mem_map.1 he
   obtain ⟨j, hj⟩ := List.getElem?_of_mem hx
   rw [renL_get, Option.map_eq_some_iff] at hj
   obtain ⟨x', hx', rfl⟩ := hj
   rw [AV.one_ren]
   exact ho e' he' x' (List.mem_of_getElem? hx')
  ·rw [List.getElem?_map, Option.map_eq_some_iff] at q1
   obtain ⟨e', he', rfl⟩ := q1
   rw [renL_get, Option.map_eq_some_iff] at q2
   obtain ⟨x', hx', rfl⟩ := q2
   obtain ⟨u, hu, hru⟩ := hr i e' j x' he' hx'
   exact ⟨u, hu, repA_by hp hru (labsByL_mem (List.all_eq_true.1 hb e' (List.mem_of_getElem? he')) (List.mem_of_getElem? hx'))⟩
 | map h hg hn hr =>
  rename_i g k ms es
  refine .map (hp _ hl _ h) hg (by rw [List.length_map]; exact hn) fun i m e q1 q2 => ?_
  rw [List.getElem?_map, Option.map_eq_some_iff] at q2
  obtain ⟨e', he', rfl⟩ := q2
  obtain ⟨r1, r2⟩ := hr i m e' q1 he'
  exact ⟨r1, repA_by hp r2 (List.all_eq_true.1 hb e' (List.mem_of_getElem? he'))⟩
 | iter h hg => exact .iter (hp _ hl _ h) hg
def DFn (P : Program) (f : FuncId) (args : List AV) (h : List (Nat × Blk)) (n : Nat) (rt : List Nat) (r : AV) (h' : List (Nat × Blk)) (m : Nat) : Prop :=
 enters P f = true ∧ ∀ (w : World) (I : Nat → Prop) (σ : Lab) (vals : Array Value), vals.size = args.length → (∀ l, n ≤ l → σ l = none) → (∀ (j : Nat) u x, vals[j]? = some u → args[j]? = some x → repA σ w I u x) →
  HOK σ w I (ofH h) w (lentX σ (ofH h)) I → tabOK w I →
  Calls P f vals w fun e w' => ∃ v σ' I', e = .returned v ∧ HOK σ' w' I' (ofH h') w (lentX σ (ofH h)) I ∧ repA σ' w' I' v r ∧ (∀ l ∈ rt, σ' l = σ l) ∧ (∀ l, n + m ≤ l → σ' l = none)
def avT : List AV → Nat → Nat → Option AV
 | [], _ => fun _ => none
 | x :: l, i => upd (avT l (i + 1)) i (some x)
theorem avT_at : ∀ (l : List AV) (i j : Nat), avT l i j = if j < i then none else l[j - i]? := by
 intro l
 induction l with
 | nil => intro i j; simp [avT]
 | cons a l ih =>
  intro i j
  rw [avT]
  by_cases h : j = i
  ·subst h; rw [upd_same, if_neg (by omega), Nat.sub_self]; rfl
  ·rw [upd_ne _ _ h, ih]
   by_cases h2 : j < i
   ·rw [if_pos (by omega), if_pos h2]
   ·rw [if_neg (by omega), if_neg h2, show j - i = (j - (i + 1)) + 1 by omega, List.getElem?_cons_succ]
def resD (P : Program) (s : St) : List ResultVar → List AV → Prop
 | [], [] => True
 | .tmp t :: r, x :: l => s.T t = some x ∧ resD P s r l
 | .cell t ty :: r, x :: l => loadW P ty (s.T t) s.H (fun e => e = ⟨some x, []⟩) ∧ resD P s r l
 | _, _ => False
def oneOrA : List AV → AV
 | [x] => x
 | l => .tuple l
def rootOK (s : St) (args : List AV) (h h' : List (Nat × Blk)) (pins : List Nat) (ρ : Nat → Nat) (l : Nat) : Prop :=
 (∃ j i off sz es es', j ∈ pins ∧ args[j]? = some (.ptr l i off) ∧ s.T j = some (.ptr (ρ l) i off) ∧ ofH h l = some (.row sz es) ∧ ofH h' l = some (.row sz es') ∧ es'.length = es.length ∧ 0 < sz) ∨
 (∃ j es, j ∈ pins ∧ args[j]? = some (.map l) ∧ s.T j = some (.map (ρ l)) ∧ ofH h l = some (.map es))
def EndD (P : Program) (rs : Array ResultVar) (args : List AV) (h : List (Nat × Blk)) (n : Nat) (rt : List Nat) (r : AV) (h' : List (Nat × Blk)) (m : Nat) (pins : List Nat) : Exit → St → Prop
 | .normal, s | .ret, s => ∃ (ρ : Nat → Nat) (l : List AV), resD P s rs.toList l ∧ oneOrA l = r.ren ρ ∧ r.labsIn (n + m) = true ∧ (∀ x ∈ h', s.H (ρ x.1) = some (x.2.ren ρ) ∧ x.1 < n + m ∧ x.2.labsIn (n + m) = true) ∧
   (∀ x ∈ h', ∀ y ∈ h', ρ x.1 = ρ y.1 → x.1 = y.1) ∧ ∀ l ∈ rt, l < n ∧ rootOK s args h h' pins ρ l
 | _, _ => False
theorem slot_kept {σ0 σ1 : Lab} {w0 w1 : World} {I0 I1 : Nat → Prop} {v : Value} {l l1 i off sz : Nat} {es es1 : List (List AV)} (h0 : repA σ0 w0 I0 v (.ptr l i off)) (h1 : repA σ1 w1 I1 v (.ptr l1 i off)) (b0 : repB σ0 w0 I0 l (.row sz es)) (b1 : repB σ1 w1 I1 l1 (.row sz es1))
  (hl : es1.length = es.length) (hz : 0 < sz) (hfr : ∀ (b : Nat) (cur : Array Value) (et : TypeId) (p : Nat × Nat), w0.heap[b]? = some (Obj.cells cur et p) → ∃ (cur' : Array Value) (et' : TypeId) (p' : Nat × Nat), w1.heap[b]? = some (Obj.cells cur' et' p') ∧ cur'.size = cur.size) : σ1 l1 = σ0 l := by
 cases h0 with
 | ptr s0 =>
  rename_i g n c sz0
  generalize hxe : Value.pointer (some ⟨g, i * sz0 + off, none⟩) = xv at h1
  cases h1 with
  | ptr s1 =>
   rename_i g1 n1 c1 sz1
   injection hxe with hxe
   injection hxe with hxe
   injection hxe with hg _ _
   subst hg
   obtain ⟨cur0, et0, p0, e0, f0⟩ := cells_slot b0 s0
   obtain ⟨cur1, et1, p1, e1, f1⟩ := cells_slot b1 s1
   obtain ⟨cur2, et2, p2, e2, f2⟩ := hfr g cur0 et0 p0 e0
   rw [e1] at e2
   injection e2 with e2
   injection e2 with e2
   subst e2
   have n0 : n = es.length ∧ sz0 = sz := by
    cases b0 with
    | emp h => rw [s0] at h; cases h
    | row h => rw [s0] at h; injection h with h; injection h with _ h2 _ h4; exact ⟨h2, h4⟩
   have n1' : n1 = es1.length ∧ sz1 = sz := by
    cases b1 with
    | emp h => rw [s1] at h; cases h
    | row h => rw [s1] at h; injection h with h; injection h with _ h2 _ h4; exact ⟨h2, h4⟩
   obtain ⟨rfl, rfl⟩ := n0
   obtain ⟨rfl, rfl⟩ := n1'
   have hc : c1 = c := Nat.eq_of_mul_eq_mul_right hz (by rw [← f1, f2, f0])
   rw [s0, s1, hc, hl]
theorem resD_run {nt : Fm} {w0 : World} {X I0 : Nat → Prop} {σ : Lab} {I : Nat → Prop} {s : St} {a : Act} {w : World} (tx : TabX w0 X I0) (m : Match nt w0 X I0 σ I s.T s.H a w) (hlab : σ s.nx = none) (f : ResultVar → Sem Value) (hf : ∀ t, f (.tmp t) = pure (a.tmps.getD t undef)) (hf' : ∀ t ty, f (.cell t ty) = (do loadVar ty (← asAddr (a.tmps.getD t undef)))) : ∀ (rs : List ResultVar) (l : List AV), resD P s rs l →
  ∃ vs : List Value, (rs.mapM f).run P w = .ok vs w ∧ vs.length = l.length ∧ ∀ (j : Nat) u x, vs[j]? = some u → l[j]? = some x → repA σ w I u x := by
 intro rs
 induction rs with
 | nil =>
  intro l h
  cases l with
  | nil => exact ⟨[], rfl, rfl, fun j u p h _ => by simp at h⟩
  | cons x l => simp [resD] at h
 | cons r rs ih =>
  intro l h
  cases l with
  | nil => cases r <;> simp [resD] at h
  | cons x l =>
   cases r with
   | cell t ty =>
    obtain ⟨hx, hl⟩ := h
    obtain ⟨ad, v, y, q1, q2, q3, q4⟩ := load_run (P := P) (lab := s.nx) (t := ty) (x := .tmp t) (k := fun e => e = ⟨some x, []⟩) ⟨m.heap, m.tmps, hlab, tx⟩ hx
    simp only [Eff.mk.injEq, Option.some.injEq, and_true] at q4
    subst q4
    obtain ⟨vs, h1, h2, h3⟩ := ih l hl
    refine ⟨v :: vs, ?_, by simp [h2], fun j u p r1 r2 => ?_⟩
    ·have q1' : a.tmps.getD t undef = .pointer (some ad) := q1
     rw [List.mapM_cons, hf', q1']
     simp [asAddr, q2, h1]
    ·rcases j with _ | j
     ·simp at r1 r2; subst r1 r2; exact q3
     ·exact h3 j u p (by simpa using r1) (by simpa using r2)
   | tmp t =>
    obtain ⟨hx, hl⟩ := h
    obtain ⟨u, hu, hru⟩ := m.tmps t x hx
    obtain ⟨vs, h1, h2, h3⟩ := ih l hl
    refine ⟨u :: vs, ?_, by simp [h2], fun j u' p r1 r2 => ?_⟩
    ·rw [List.mapM_cons, hf]
     have : a.tmps.getD t undef = u := by simp [Array.getD_eq_getD_getElem?, hu]
     rw [this]
     simp [h1]
    ·rcases j with _ | j
     ·simp at r1 r2; subst r1 r2; exact hru
     ·exact h3 j u' p (by simpa using r1) (by simpa using r2)
end Go.Aw
namespace Go.Aw
open Go.RowKit
variable {P : Program}
theorem DFn.of {f : FuncId} {fn : Func} {c : Code} {args : List AV} {h : List (Nat × Blk)} {n : Nat} {rt : List Nat} {r : AV} {h' : List (Nat × Blk)} {m : Nat} (pins : List Nat) (hf : P.funcs[f]? = some fn) (hb : fn.body = some c) (hn : fn.name ≠ "runtime.NumGoroutine") {nt : Nat} (hnt : fn.ntmps = nt) {rs : Array ResultVar} (hrs : fn.results = rs) (hnt' : args.length ≤ nt)
  (hpins : ∀ i ∈ pins, i < args.length) (hw : ∀ val : Nat → Value, AW P ⟨nt, pins, val⟩ c ⟨avT args 0, ofH h, n⟩ (EndD P rs args h n rt r h' m pins)) : DFn P f args h n rt r h' m := by
 subst hnt hrs
 refine ⟨by simp [enters, hf, hb, hn], fun w I σ vals hs hσ hr hH ht => ?_⟩
 have tx : TabX w (lentX σ (ofH h)) I := ⟨ht, fun g hg => (hH.imm g hg).1, fun g ⟨l, s, q1, q2, q3⟩ => (hH.mine l g s q1 q2 q3).1⟩
 refine calls_of_wp hf hb ?_
 have at_ : ∀ i, i < vals.size → (vals ++ Array.replicate (fn.ntmps - vals.size) undef)[i]? = vals[i]? := fun i hi => by rw [Array.getElem?_append_left hi]
 have mt : Matches ⟨fn.ntmps, pins, fun i => vals.getD i undef⟩ w (lentX σ (ofH h)) I ⟨avT args 0, ofH h, n⟩ { tmps := vals ++ Array.replicate (fn.ntmps - vals.size) undef, defers := [] } w := by
  refine ⟨σ, I, hσ, rfl, (by simp; omega), fun i hi => ?_, hH, fun i x hx => ?_⟩
  ·have hlt := hpins i hi
   rw [← hs] at hlt
   simp only
   rw [at_ i hlt, Array.getD_eq_getD_getElem?, Array.getElem?_eq_getElem hlt]
   rfl
  ·simp only at hx
   rw [avT_at, if_neg (by omega), Nat.sub_zero] at hx
   have hi : i < vals.size := by rw [hs]; exact (List.getElem?_eq_some_iff.1 hx).1
   exact ⟨vals[i], by rw [at_ i hi, Array.getElem?_eq_getElem hi], hr i _ x (Array.getElem?_eq_getElem hi) hx⟩
 refine wp_mono (hw _ w _ I _ w tx mt) ?_
 rintro e a' w' ⟨s', ⟨σ', I', hn', m'⟩, q⟩
 have fin : EndD P fn.results args h n rt r h' m pins .ret s' → a'.defers = [] ∧ ∃ v, (results fn a'.tmps).run P w' = .ok v w' ∧
   ∃ v' σ'' I'', Ending.returned v = .returned v' ∧ HOK σ'' w' I'' (ofH h') w (lentX σ (ofH h)) I ∧ repA σ'' w' I'' v' r ∧ (∀ l ∈ rt, σ'' l = σ l) ∧ (∀ l, n + m ≤ l → σ'' l = none) := by
  rintro ⟨ρ, l, q1, q2, q3, q4, q5, q6⟩
  obtain ⟨vs, h1, h2, h3⟩ := resD_run (P := P) tx m' (hn' _ (Nat.le_refl _)) (resF a'.tmps) (fun t => rfl) (fun t ty => rfl) fn.results.toList l q1
  have hrun : (results fn a'.tmps).run P w' = .ok (if h : vs.length = 1 then vs[0] else .tuple vs.toArray) w' := by
   rw [results_eq, show fn.results = fn.results.toList.toArray by simp, List.mapM_toArray]
   simp only [Sem.run_bind, Sem.run_map, h1, Result.andThen_ok, Sem.run_pure, List.size_toArray, List.getElem_toArray]
  have hat : ∀ l b, ofH h' l = some b → s'.H (ρ l) = some (b.ren ρ) ∧ l < n + m ∧ b.labsIn (n + m) = true := fun l b hl => q4 (l, b) (ofH_mem hl)
  have hv : repA σ' w' I' (if h : vs.length = 1 then vs[0] else .tuple vs.toArray) (oneOrA l) := by
   by_cases h4 : vs.length = 1
   ·rw [dif_pos h4]
    obtain ⟨p, rfl⟩ : ∃ p, l = [p] := List.length_eq_one_iff.1 (by omega)
    exact h3 0 _ p (List.getElem?_eq_getElem (by omega)) rfl
   ·rw [dif_neg h4]
    have : oneOrA l = .tuple l := by
     unfold oneOrA
     split
     ·exact absurd h2 h4
     ·rfl
    rw [this]
    exact .tuple (by simpa using h2) (fun j u p q1 q2 => h3 j u p (by simpa using q1) q2)
  refine ⟨m'.defers, _, hrun, _, relab ρ (n + m) σ', I', rfl, ⟨fun l b hl => ?_, fun l l' g s1 s2 n1 n2 e1 e2 g1 g2 => ?_, fun l g s1 n1 e1 g1 => ?_, m'.heap.imm, m'.heap.sub, m'.heap.fr⟩, repA_ren hv r q2 q3, fun l hl => ?_, fun l hl => ?_⟩
  ·obtain ⟨p1, p2, p3⟩ := hat l b hl
   exact repB_ren p2 (m'.heap.rows _ _ p1) p3
  ·obtain ⟨b1, hb1⟩ := Option.ne_none_iff_exists'.1 n1
   obtain ⟨b2, hb2⟩ := Option.ne_none_iff_exists'.1 n2
   obtain ⟨p1, p2, p3⟩ := hat l b1 hb1
   obtain ⟨p1', p2', p3'⟩ := hat l' b2 hb2
   unfold relab at e1 e2
   rw [if_pos p2] at e1
   rw [if_pos p2'] at e2
   have := m'.heap.inj (ρ l) (ρ l') g s1 s2 (by rw [p1]; simp) (by rw [p1']; simp) e1 e2 g1 g2
   exact q5 (l, b1) (ofH_mem hb1) (l', b2) (ofH_mem hb2) this
  ·obtain ⟨b1, hb1⟩ := Option.ne_none_iff_exists'.1 n1
   obtain ⟨p1, p2, p3⟩ := hat l b1 hb1
   unfold relab at e1
   rw [if_pos p2] at e1
   exact m'.heap.mine (ρ l) g s1 (by rw [p1]; simp) e1 g1
  ·obtain ⟨hln, hroot⟩ := q6 l hl
   unfold relab
   rw [if_pos (by omega)]
   have pin : ∀ j, j ∈ pins → ∀ x, s'.T j = some x → ∃ u, vals[j]? = some u ∧ repA σ' w' I' u x := fun j hj x hx => by
    have hp := m'.pins j hj
    obtain ⟨u, hu, hru⟩ := m'.tmps j x hx
    rw [hp] at hu
    have hlt : j < vals.size := by rw [hs]; exact hpins j hj
    simp only [Option.some.injEq] at hu
    rw [Array.getD_eq_getD_getElem?, Array.getElem?_eq_getElem hlt] at hu
    simp only [Option.getD_some] at hu
    subst hu
    exact ⟨_, Array.getElem?_eq_getElem hlt, hru⟩
   rcases hroot with ⟨j, i, off, sz, es, es', r1, r2, r3, r4, r5, r6, r7⟩ | ⟨j, es, r1, r2, r3, r4⟩
   ·obtain ⟨u, hu, hru⟩ := pin j r1 _ r3
    obtain ⟨p1, p2, p3⟩ := hat l _ r5
    have hu0 := hr j u _ hu r2
    have b0 := hH.rows l _ r4
    have b1 := m'.heap.rows _ _ p1
    exact slot_kept hu0 hru b0 b1 (by rw [List.length_map]; exact r6) r7 m'.heap.fr.shape
   ·obtain ⟨u, hu, hru⟩ := pin j r1 _ r3
    have hu0 := hr j u _ hu r2
    cases hu0 with
    | map s0 =>
     cases hru with
     | map s1 => rw [s0, s1]
  ·unfold relab
   rw [if_neg (by omega)]
 cases e with
 | normal => exact fin q
 | ret => exact fin q
 | exit _ => exact q.elim
 | goto _ => exact q.elim
 | panic _ => exact q.elim
 | outgrown => exact q.elim
def argD (T : Nat → Option AV) (ρ : Nat → Nat) : List Operand → List AV → Prop
 | [], [] => True
 | x :: xs, .p p :: ys => (match ev T x with | some v => pureA v = some p | none => False) ∧ argD T ρ xs ys
 | x :: xs, y :: ys => ev T x = some (y.ren ρ) ∧ argD T ρ xs ys
 | _, _ => False
theorem argD_spec {T : Nat → Option AV} {ρ : Nat → Nat} : ∀ {xs : List Operand} {ys : List AV}, argD T ρ xs ys → xs.length = ys.length ∧ ∀ (j : Nat) x y, xs[j]? = some x → ys[j]? = some y → (∃ p v, y = .p p ∧ ev T x = some v ∧ pureA v = some p) ∨ ev T x = some (y.ren ρ) := by
 intro xs
 induction xs with
 | nil =>
  intro ys h
  cases ys with
  | nil => exact ⟨rfl, fun j x y h => by simp at h⟩
  | cons y ys => simp [argD] at h
 | cons x xs ih =>
  intro ys h
  cases ys with
  | nil => simp [argD] at h
  | cons y ys =>
   have main : argD T ρ xs ys → ((∃ p v, y = .p p ∧ ev T x = some v ∧ pureA v = some p) ∨ ev T x = some (y.ren ρ)) → (x :: xs).length = (y :: ys).length ∧ ∀ (j : Nat) x' y', (x :: xs)[j]? = some x' → (y :: ys)[j]? = some y' → (∃ p v, y' = .p p ∧ ev T x' = some v ∧ pureA v = some p) ∨ ev T x' = some (y'.ren ρ) := by
    intro h1 h2
    obtain ⟨q1, q2⟩ := ih h1
    refine ⟨by simp [q1], fun j x' y' e1 e2 => ?_⟩
    cases j with
    | zero => simp at e1 e2; subst e1 e2; exact h2
    | succ j => exact q2 j x' y' (by simpa using e1) (by simpa using e2)
   cases y with
   | p p =>
    simp only [argD] at h
    obtain ⟨h1, h2⟩ := h
    split at h1
    ·rename_i v hv
     exact main h2 (.inl ⟨p, v, rfl, hv, h1⟩)
    ·exact h1.elim
   | _ => exact main h.2 (.inr h.1)
def lift2 (ρ : Nat → Nat) (n nx : Nat) (l : Nat) : Nat := if l < n then ρ l else nx + (l - n)
def goneU (ρ : Nat → Nat) (h : List (Nat × Blk)) : List (Nat × Option Blk) := h.map fun x => (ρ x.1, none)
def newU (ρ : Nat → Nat) (h : List (Nat × Blk)) : List (Nat × Option Blk) := h.map fun x => (ρ x.1, some (x.2.ren ρ))
theorem putH_gone (ρ : Nat → Nat) (l : Nat) : ∀ (h : List (Nat × Blk)) (H : Nat → Option Blk), (putH H (goneU ρ h) l = H l ∧ ∀ x ∈ h, ρ x.1 ≠ l) ∨ (putH H (goneU ρ h) l = none ∧ ∃ x ∈ h, ρ x.1 = l)
 | [], H => .inl ⟨rfl, fun x hx => by cases hx⟩
 | x :: h, H => by
  have e : putH H (goneU ρ (x :: h)) = putH (upd H (ρ x.1) none) (goneU ρ h) := rfl
  rw [e]
  rcases putH_gone ρ l h (upd H (ρ x.1) none) with ⟨h1, h2⟩ | ⟨h1, y, hy, h2⟩
  ·by_cases hl : ρ x.1 = l
   ·right
    refine ⟨?_, x, List.mem_cons_self, hl⟩
    rw [h1, hl, upd_same]
   ·left
    refine ⟨by rw [h1, upd_ne _ _ (fun h => hl h.symm)], fun y hy => ?_⟩
    rcases List.mem_cons.1 hy with rfl | hy
    ·exact hl
    ·exact h2 y hy
  ·exact .inr ⟨h1, y, List.mem_cons_of_mem _ hy, h2⟩
theorem putH_new (ρ : Nat → Nat) (l : Nat) : ∀ (h : List (Nat × Blk)) (H : Nat → Option Blk), (putH H (newU ρ h) l = H l ∧ ∀ x ∈ h, ρ x.1 ≠ l) ∨ (∃ x ∈ h, ρ x.1 = l ∧ putH H (newU ρ h) l = some (x.2.ren ρ))
 | [], H => .inl ⟨rfl, fun x hx => by cases hx⟩
 | x :: h, H => by
  have e : putH H (newU ρ (x :: h)) = putH (upd H (ρ x.1) (some (x.2.ren ρ))) (newU ρ h) := rfl
  rw [e]
  rcases putH_new ρ l h (upd H (ρ x.1) (some (x.2.ren ρ))) with ⟨h1, h2⟩ | ⟨y, hy, h1, h2⟩
  ·by_cases hl : ρ x.1 = l
   ·right
    refine ⟨x, List.mem_cons_self, hl, ?_⟩
    rw [h1, ← hl, upd_same]
   ·left
    refine ⟨by rw [h1, upd_ne _ _ (fun h => hl h.symm)], fun y hy => ?_⟩
    rcases List.mem_cons.1 hy with rfl | hy
    ·exact hl
    ·exact h2 y hy
  ·exact .inr ⟨y, List.mem_cons_of_mem _ hy, h1, h2⟩
def distinct : List Nat → Bool
 | [] => true
 | x :: l => !l.contains x && distinct l
theorem ofH_of_mem : ∀ {h : List (Nat × Blk)} {x : Nat × Blk}, distinct (h.map (·.1)) = true → x ∈ h → ofH h x.1 = some x.2
 | [], _, _, h => by cases h
 | y :: h, x, hd, hx => by
  simp only [List.map_cons, distinct, Bool.and_eq_true, Bool.not_eq_true'] at hd
  obtain ⟨a, b⟩ := y
  rcases List.mem_cons.1 hx with rfl | hx'
  ·simp [ofH]
  ·have : x.1 ≠ a := by
    intro e
    have : (h.map (·.1)).contains a = true := by
     rw [List.contains_iff_mem]
     exact List.mem_map.2 ⟨x, hx', e⟩
    rw [this] at hd
    cases hd.1
   simp only [ofH, if_neg this]
   exact ofH_of_mem hd.2 hx'
structure FitD (s : St) (xs : List Operand) (args : List AV) (h : List (Nat × Blk)) (n : Nat) (rt : List Nat) (r : AV) (h' : List (Nat × Blk)) (ρ : Nat → Nat) : Prop where
 opd : argD s.T ρ xs args
 labs : args.all (fun y => y.labsIn n) = true
 here : ∀ x ∈ h, s.H (ρ x.1) = some (x.2.ren ρ) ∧ x.1 < n ∧ x.2.labsIn n = true
 inj : distinct (h.map fun x => ρ x.1) = true
 dist : distinct (h.map (·.1)) = true
 dist' : distinct (h'.map (·.1)) = true
 roots : rt.all (fun l => (h.map (·.1)).contains l) = true
 res : r.labsBy (fun l => rt.contains l || decide (n ≤ l)) = true
 mem : h'.all (fun x => (rt.contains x.1 || decide (n ≤ x.1)) && x.2.labsBy (fun l => rt.contains l || decide (n ≤ l))) = true
theorem distinct_inj {ρ : Nat → Nat} : ∀ {h : List (Nat × Blk)}, distinct (h.map fun x => ρ x.1) = true → ∀ x ∈ h, ∀ y ∈ h, ρ x.1 = ρ y.1 → x = y
 | [], _, x, hx, _, _, _ => by cases hx
 | z :: h, hd, x, hx, y, hy, e => by
  simp only [List.map_cons, distinct, Bool.and_eq_true, Bool.not_eq_true'] at hd
  have no : ∀ v ∈ h, ρ v.1 ≠ ρ z.1 := fun v hv e => by
   have : (h.map fun x => ρ x.1).contains (ρ z.1) = true := by
    rw [List.contains_iff_mem]
    exact List.mem_map.2 ⟨v, hv, e⟩
   rw [this] at hd
   cases hd.1
  rcases List.mem_cons.1 hx with hx' | hx'
  ·rcases List.mem_cons.1 hy with hy' | hy'
   ·rw [hx', hy']
   ·rw [hx'] at e
    exact absurd e.symm (no y hy')
  ·rcases List.mem_cons.1 hy with hy' | hy'
   ·rw [hy'] at e
    exact absurd e (no x hx')
   ·exact distinct_inj hd.2 x hx' y hy' e
theorem callD_fn {nt : Fm} {s : St} {K : St → Prop} {o : Oper} {f : FuncId} {xs : Array Operand} {ts : Array TypeId} {args : List AV} {h : List (Nat × Blk)} {n : Nat} {rt : List Nat} {r : AV} {h' : List (Nat × Blk)} {m : Nat} (ρ : Nat → Nat)
  (ho : o.op = .call { callee := .value (.func f), args := xs, argTypes := ts }) (hd : dstOK nt o = true) (D : DFn P f args h n rt r h' m) (F : FitD s xs.toList args h n rt r h' ρ)
  (hk : K ⟨putT s.T o.dst (some (r.ren (lift2 ρ n s.nx))), putH (putH s.H (goneU ρ h)) (newU (lift2 ρ n s.nx) h'), s.nx + m⟩) : CallD P nt o s K := by
 obtain ⟨hen, hp⟩ := D
 intro w0 X I0 a w next Q tx ⟨σ, I, hn, mm⟩ hnext
 have IN : In σ w I s.T s.H w0 X I0 a s.nx := ⟨mm.heap, mm.tmps, hn _ (Nat.le_refl _), tx⟩
 have hrun : (execOp a.eval o).run P w = .ok (.enter f (xs.map a.eval)) w := by
  have he : a.eval (.func f) = .func (.func f) #[] #[] := rfl
  simp only [execOp, ho, resolve, he, Deferred.ofValue, Sem.run_bind, Sem.run_pure, Result.andThen_ok, invoke, Array.append_empty, Array.empty_append, run_enter hen]
 obtain ⟨p1, p2⟩ := argD_spec F.opd
 have here : ∀ l b, ofH h l = some b → s.H (ρ l) = some (b.ren ρ) ∧ l < n ∧ b.labsIn n = true := fun l b hl => F.here (l, b) (ofH_mem hl)
 have inj : ∀ l l' b b', ofH h l = some b → ofH h l' = some b' → ρ l = ρ l' → l = l' := fun l l' b b' h1 h2 e => by
  have := distinct_inj F.inj (l, b) (ofH_mem h1) (l', b') (ofH_mem h2) e
  injection this
 generalize hσc : relab ρ n σ = σc
 have σat : ∀ l, l < n → σc l = σ (ρ l) := fun l hl => by rw [← hσc]; unfold relab; rw [if_pos hl]
 have σno : ∀ l, n ≤ l → σc l = none := fun l hl => by rw [← hσc]; unfold relab; rw [if_neg (by omega)]
 have Xof : ∀ g, lentX σc (ofH h) g → ∃ l b sl, ofH h l = some b ∧ s.H (ρ l) = some (b.ren ρ) ∧ σ (ρ l) = some sl ∧ sl.block = some g := fun g ⟨l, sl, q1, q2, q3⟩ => by
  obtain ⟨b, hb⟩ := Option.ne_none_iff_exists'.1 q1
  obtain ⟨r1, r2, _⟩ := here l b hb
  exact ⟨l, b, sl, hb, r1, by rw [← σat l r2]; exact q2, q3⟩
 have hH : HOK σc w I (ofH h) w (lentX σc (ofH h)) I := by
  refine ⟨fun l b hl => ?_, fun l l' g s1 s2 n1 n2 e1 e2 g1 g2 => ?_, fun l g s1 n1 e1 g1 => ?_, fun g hg => ⟨(mm.heap.imm g hg).1, .inl hg⟩, fun _ h => h, Fr.refl _ _⟩
  ·obtain ⟨r1, r2, r3⟩ := here l b hl
   rw [← hσc]
   exact repB_ren r2 (mm.heap.rows _ _ r1) r3
  ·obtain ⟨b1, hb1⟩ := Option.ne_none_iff_exists'.1 n1
   obtain ⟨b2, hb2⟩ := Option.ne_none_iff_exists'.1 n2
   obtain ⟨r1, r2, _⟩ := here l b1 hb1
   obtain ⟨r1', r2', _⟩ := here l' b2 hb2
   rw [σat l r2] at e1
   rw [σat l' r2'] at e2
   exact inj l l' b1 b2 hb1 hb2 (mm.heap.inj _ _ g s1 s2 (by rw [r1]; simp) (by rw [r1']; simp) e1 e2 g1 g2)
  ·obtain ⟨b1, hb1⟩ := Option.ne_none_iff_exists'.1 n1
   obtain ⟨r1, r2, _⟩ := here l b1 hb1
   refine ⟨?_, .inl ⟨l, s1, n1, e1, g1⟩⟩
   rw [σat l r2] at e1
   exact (mm.heap.mine _ g s1 (by rw [r1]; simp) e1 g1).1
 have hargs := hp w I σc (xs.map a.eval) (by simpa using p1) σno (fun j u y q1 q2 => by
  rw [Array.getElem?_map, Option.map_eq_some_iff] at q1
  obtain ⟨x, hx, rfl⟩ := q1
  have hlab : y.labsIn n = true := List.all_eq_true.1 F.labs y (List.mem_of_getElem? q2)
  rcases p2 j x y (by simpa using hx) q2 with ⟨p, v, rfl, hv, hpv⟩ | hv
  ·exact .p (rep_pureA (IN.ev hv) hpv)
  ·rw [← hσc]
   exact repA_ren (IN.ev hv) y rfl hlab) hH IN.tabs
 unfold Oper.wp
 rw [hrun, Oper.upon_enter]
 refine hargs.mono fun e w' he => ?_
 obtain ⟨v, σ', I', rfl, hh, hrv, hroot, hnew⟩ := he
 -- the caller's labels behind the call
 obtain ⟨σ2, hσ2⟩ : ∃ σ2 : Lab, ∀ l, σ2 l = if l < s.nx then σ l else σ' (n + (l - s.nx)) := ⟨fun l => if l < s.nx then σ l else σ' (n + (l - s.nx)), fun _ => rfl⟩
 have old : ∀ l sl, σ l = some sl → σ2 l = some sl := fun l sl hl => by
  rw [hσ2]
  rcases Nat.lt_or_ge l s.nx with q | q
  ·rw [if_pos q]; exact hl
  ·rw [hn l q] at hl; cases hl
 have new : ∀ l, (rt.contains l || decide (n ≤ l)) = true → ∀ sl, σ' l = some sl → σ2 (lift2 ρ n s.nx l) = some sl := fun l hl sl hs => by
  unfold lift2
  rcases Nat.lt_or_ge l n with q | q
  ·rw [if_pos q]
   have hm : l ∈ rt := by
    rcases Bool.or_eq_true_iff.1 hl with hl | hl
    ·exact List.contains_iff_mem.1 hl
    ·simp at hl; omega
   rw [hroot l hm, σat l q] at hs
   exact old _ _ hs
  ·rw [if_neg (by omega), hσ2, if_neg (by omega), show n + (s.nx + (l - n) - s.nx) = l by omega]
   exact hs
 have blk : ∀ l g sl, s.H l ≠ none → σ l = some sl → sl.block = some g → g < w.heap.size := fun l g sl hn hs hg => by
  obtain ⟨b, hb⟩ := Option.ne_none_iff_exists'.1 hn
  obtain ⟨s', hs', hlt⟩ := (mm.heap.rows l b hb).block
  rw [hs] at hs'; injection hs' with hs'; subst hs'
  exact hlt g hg
 have Xmine : ∀ g, lentX σc (ofH h) g → ¬ I g ∧ (X g ∨ w0.heap.size ≤ g) ∧ g < w.heap.size := fun g hg => by
  obtain ⟨l, b, sl, q1, q2, q3, q4⟩ := Xof g hg
  obtain ⟨m1, m2⟩ := mm.heap.mine _ g sl (by rw [q2]; simp) q3 q4
  exact ⟨m1, m2, blk _ g sl (by rw [q2]; simp) q3 q4⟩
 have same : ∀ b, I b → w'.heap[b]? = w.heap[b]? := fun b hb => hh.fr.block b (mm.heap.imm b hb).1 fun hx => (Xmine b hx).1 hb
 have hI : ∀ g, I g → I' g := hh.sub
 have fresh : ∀ g, I' g → I g ∨ lentX σc (ofH h) g ∨ w.heap.size ≤ g := fun g hg => (hh.imm g hg).2
 have frame : ∀ l b, s.H l = some b → (∀ x ∈ h, ρ x.1 ≠ l) → ∀ g sl, σ l = some sl → sl.block = some g → ¬ lentX σc (ofH h) g := fun l b hl hno g sl hs hg hx => by
  obtain ⟨l2, b2, sl2, q1, q2, q3, q4⟩ := Xof g hx
  exact hno (l2, b2) (ofH_mem q1) (mm.heap.inj _ _ g sl2 sl (by rw [q2]; simp) (by rw [hl]; simp) q3 hs q4 hg)
 -- what stands where
 have cls : ∀ l b, putH (putH s.H (goneU ρ h)) (newU (lift2 ρ n s.nx) h') l = some b → (∃ x ∈ h', lift2 ρ n s.nx x.1 = l ∧ b = x.2.ren (lift2 ρ n s.nx)) ∨ (s.H l = some b ∧ (∀ x ∈ h, ρ x.1 ≠ l)) := fun l b hl => by
  rcases putH_new (lift2 ρ n s.nx) l h' (putH s.H (goneU ρ h)) with ⟨e1, e2⟩ | ⟨x, hx, e1, e2⟩
  ·rw [e1] at hl
   rcases putH_gone ρ l h s.H with ⟨e3, e4⟩ | ⟨e3, _⟩
   ·rw [e3] at hl; exact .inr ⟨hl, e4⟩
   ·rw [e3] at hl; cases hl
  ·rw [e2] at hl
   injection hl with hl
   exact .inl ⟨x, hx, e1, hl.symm⟩
 have mem' : ∀ x ∈ h', (rt.contains x.1 || decide (n ≤ x.1)) = true ∧ x.2.labsBy (fun l => rt.contains l || decide (n ≤ l)) = true := fun x hx => by
  have := List.all_eq_true.1 F.mem x hx
  rwa [Bool.and_eq_true] at this
 have inv : ∀ l, (rt.contains l || decide (n ≤ l)) = true → ∀ sl, σ2 (lift2 ρ n s.nx l) = some sl → σ' l = some sl := fun l hl sl hs => by
  unfold lift2 at hs
  rcases Nat.lt_or_ge l n with q | q
  ·rw [if_pos q] at hs
   have hm : l ∈ rt := by
    rcases Bool.or_eq_true_iff.1 hl with hl | hl
    ·exact List.contains_iff_mem.1 hl
    ·simp at hl; omega
   rw [hroot l hm, σat l q]
   have hc := List.contains_iff_mem.1 (List.all_eq_true.1 F.roots l hm)
   obtain ⟨x, hx, hxl⟩ := List.mem_map.1 hc
   obtain ⟨r1, r2, _⟩ := F.here x hx
   have hlt : ρ l < s.nx := by
    rcases Nat.lt_or_ge (ρ l) s.nx with z | z
    ·exact z
    ·obtain ⟨sl', hsl', _⟩ := (mm.heap.rows _ _ r1).block
     rw [hxl, hn _ z] at hsl'; cases hsl'
   rw [hσ2, if_pos hlt] at hs
   exact hs
  ·rw [if_neg (by omega), hσ2, if_neg (by omega), show n + (s.nx + (l - n) - s.nx) = l by omega] at hs
   exact hs
 have OK : HOK σ2 w' I' (putH (putH s.H (goneU ρ h)) (newU (lift2 ρ n s.nx) h')) w0 X I0 := by
  have rowN : ∀ x ∈ h', repB σ' w' I' x.1 x.2 := fun x hx => hh.rows x.1 x.2 (ofH_of_mem F.dist' hx)
  have neN : ∀ x ∈ h', ofH h' x.1 ≠ none := fun x hx => by rw [ofH_of_mem F.dist' hx]; simp
  have slotF : ∀ l b sl, s.H l = some b → σ2 l = some sl → σ l = some sl := fun l b sl hl hs => by
   obtain ⟨sl', hsl', _⟩ := (mm.heap.rows l b hl).block
   rw [old l sl' hsl'] at hs
   rw [hsl']; exact hs
  refine ⟨fun l b hl => ?_, fun l1 l2 g s1 s2 n1 n2 e1 e2 g1 g2 => ?_, fun l g sl n1 e1 g1 => ?_, fun g hg => ?_, fun g hg => hh.sub g (mm.heap.sub g hg), ⟨hh.fr.os.trans mm.heap.fr.os, hh.fr.tape.trans mm.heap.fr.tape, hh.fr.output.trans mm.heap.fr.output, Nat.le_trans mm.heap.fr.size hh.fr.size, fun b hb hx => ?_, mm.heap.fr.step fun b cur et p hb hc => hh.fr.shape b cur et p hc⟩⟩
  ·rcases cls l b hl with ⟨x, hx, rfl, rfl⟩ | ⟨hl', hno⟩
   ·exact repB_by new (mem' x hx).1 (rowN x hx) (mem' x hx).2
   ·obtain ⟨sl, hsl, hlt⟩ := (mm.heap.rows l b hl').block
    refine (mm.heap.rows l b hl').mono old hI same fun g s' q1 q2 => ?_
    rw [hsl] at q1; injection q1 with q1; subst q1
    exact hh.fr.block g (hlt g q2) (frame l b hl' hno g _ hsl q2)
  ·obtain ⟨b1, hb1⟩ := Option.ne_none_iff_exists'.1 n1
   obtain ⟨b2, hb2⟩ := Option.ne_none_iff_exists'.1 n2
   rcases cls l1 b1 hb1 with ⟨x, hx, rfl, rfl⟩ | ⟨h1, no1⟩
   ·have f1 := inv x.1 (mem' x hx).1 s1 e1
    rcases cls l2 b2 hb2 with ⟨y, hy, rfl, rfl⟩ | ⟨h2, no2⟩
    ·have f2 := inv y.1 (mem' y hy).1 s2 e2
     rw [hh.inj x.1 y.1 g s1 s2 (neN x hx) (neN y hy) f1 f2 g1 g2]
    ·exfalso
     have f2 := slotF l2 b2 s2 h2 e2
     rcases (hh.mine x.1 g s1 (neN x hx) f1 g1).2 with q | q
     ·exact frame l2 b2 h2 no2 g s2 f2 g2 q
     ·have := blk l2 g s2 (by rw [h2]; simp) f2 g2; omega
   ·have f1 := slotF l1 b1 s1 h1 e1
    rcases cls l2 b2 hb2 with ⟨y, hy, rfl, rfl⟩ | ⟨h2, no2⟩
    ·exfalso
     have f2 := inv y.1 (mem' y hy).1 s2 e2
     rcases (hh.mine y.1 g s2 (neN y hy) f2 g2).2 with q | q
     ·exact frame l1 b1 h1 no1 g s1 f1 g1 q
     ·have := blk l1 g s1 (by rw [h1]; simp) f1 g1; omega
    ·exact mm.heap.inj l1 l2 g s1 s2 (by rw [h1]; simp) (by rw [h2]; simp) f1 (slotF l2 b2 s2 h2 e2) g1 g2
  ·obtain ⟨b1, hb1⟩ := Option.ne_none_iff_exists'.1 n1
   rcases cls l b1 hb1 with ⟨x, hx, rfl, rfl⟩ | ⟨h1, no1⟩
   ·have f1 := inv x.1 (mem' x hx).1 sl e1
    obtain ⟨m1, m2⟩ := hh.mine x.1 g sl (neN x hx) f1 g1
    refine ⟨m1, ?_⟩
    rcases m2 with q | q
    ·exact (Xmine g q).2.1
    ·exact .inr (Nat.le_trans mm.heap.fr.size q)
   ·have f1 := slotF l b1 sl h1 e1
    obtain ⟨m1, m2⟩ := mm.heap.mine l g sl (by rw [h1]; simp) f1 g1
    refine ⟨fun hg => ?_, m2⟩
    rcases fresh g hg with q | q | q
    ·exact m1 q
    ·exact frame l b1 h1 no1 g sl f1 g1 q
    ·have := blk l g sl (by rw [h1]; simp) f1 g1; omega
  ·refine ⟨(hh.imm g hg).1, ?_⟩
   rcases fresh g hg with q | q | q
   ·exact (mm.heap.imm g q).2
   ·exact .inr (Xmine g q).2.1
   ·exact .inr (.inr (Nat.le_trans mm.heap.fr.size q))
  ·rw [hh.fr.block b (by have := mm.heap.fr.size; omega) fun hx' => ?_]
   ·exact mm.heap.fr.block b hb hx
   ·rcases (Xmine b hx').2.1 with q | q
    ·exact hx q
    ·omega
 refine hnext ⟨putT s.T o.dst (some (r.ren (lift2 ρ n s.nx))), _, s.nx + m⟩ _ w' ⟨σ2, I', fun l hl => ?_, mm.put hd OK old hI same fun y hy => by injection hy with hy; subst hy; exact repA_by new hrv F.res⟩ hk
 simp only at hl
 rw [hσ2, if_neg (by omega)]
 exact hnew _ (by omega)
end Go.Aw
namespace Go.Aw
open Go.Proofs Go.RowKit
set_option linter.unusedSimpArgs false
set_option linter.unusedVariables false
theorem SeqR.call {P : Program} {nt : Fm} {s : St} {ops : Array Oper} {i : Nat} {K : St → Prop} {d : Tmp} {f : FuncId} {xs : Array Operand} {ts : Array TypeId} {ty : TypeId} {ps : String} {af : Array Edge} {args : List AV} {h : List (Nat × Blk)} {n : Nat} {rt : List Nat} {r : AV} {h' : List (Nat × Blk)} {m : Nat} (ρ : Nat → Nat)
  (ho : ops[i]? = some ⟨some d, .call { callee := .value (.func f), args := xs, argTypes := ts }, ty, ps, af, none⟩) (hd : dstOK nt ⟨some d, .call { callee := .value (.func f), args := xs, argTypes := ts }, ty, ps, af, none⟩ = true) (D : DFn P f args h n rt r h' m) (F : FitD s xs.toList args h n rt r h' ρ)
  (hk : SeqR P nt ops (i + 1) ⟨upd s.T d (some (r.ren (lift2 ρ n s.nx))), putH (putH s.H (goneU ρ h)) (newU (lift2 ρ n s.nx) h'), s.nx + m⟩ K) : SeqR P nt ops i s K :=
 SeqR.op ho rfl (callD_fn ρ rfl hd D F hk)
theorem labsBy_lift {p : Nat → Bool} {sz : Nat} {es : List (List PV)} : (Blk.row sz (liftE es)).labsBy p = true := by
 have : ∀ l : List PV, labsByL p (l.map AV.p) = true := fun l => by
  induction l with
  | nil => rfl
  | cons a l ih => rw [List.map_cons, labsByL, ih]; rfl
 simp only [Blk.labsBy, liftE, List.all_map, List.all_eq_true]
 intro e _
 exact this e
end Go.Aw
namespace Go.Aw
open Go.Proofs Go.RowKit
set_option linter.unusedSimpArgs false
set_option linter.unusedVariables false
def addP (l : List Pr) (p : Pr) : List Pr := if l.contains p = true then l else l ++ [p]
end Go.Aw
namespace Go.Aw
open Go.Proofs Go.RowKit
set_option linter.unusedSimpArgs false
set_option linter.unusedVariables false
def fOf (m : Ms) (t : Int) : Fd × Bool := firstP (fun x => x.tag == t) zFd m.fields
end Go.Aw
namespace Go.Aw
open Go.Proofs Go.RowKit
set_option linter.unusedSimpArgs false
set_option linter.unusedVariables false
end Go.Aw
namespace Go.Aw
open Go.Proofs Go.RowKit
set_option linter.unusedSimpArgs false
set_option linter.unusedVariables false
def noGo (Q : Exit → St → Prop) : Exit → St → Prop
 | .goto _, _ => False
 | e, s => Q e s
attribute [go_sem] noGo
end Go.Aw
namespace Go.Aw
open Go.Proofs Go.RowKit
set_option linter.unusedSimpArgs false
set_option linter.unusedVariables false
def msgOf (S : Sc) (k : List UInt8) : Ms := (firstP (fun x => x.name == k) zMs S.msgs).1
structure PairsOK (S U : Sc) (l : List Pr) : Prop where
 here : ∀ p ∈ l, hasM S p.o = true ∧ hasM U p.n = true
 nd : l.Nodup
theorem addP_ok {S U : Sc} {l : List Pr} {p : Pr} (h : PairsOK S U l) (h1 : hasM S p.o = true) (h2 : hasM U p.n = true) : PairsOK S U (addP l p) := by
 unfold addP
 split
 ·exact h
 ·rename_i hn
  refine ⟨fun q hq => ?_, ?_⟩
  ·rcases List.mem_append.1 hq with hq | hq
   ·exact h.here q hq
   ·simp at hq; subst hq; exact ⟨h1, h2⟩
  ·rw [List.nodup_append]
   refine ⟨h.nd, by simp, fun x hx y hy => ?_⟩
   simp at hy
   subst hy
   rintro rfl
   exact hn (by rw [List.contains_iff_mem]; exact hx)
theorem sub_len {α : Type} [DecidableEq α] : ∀ {a b : List α}, a.Nodup → (∀ x ∈ a, x ∈ b) → a.length ≤ b.length
 | [], b, _, _ => Nat.zero_le _
 | x :: a, b, hn, hs => by
  have hx := hs x List.mem_cons_self
  have h := sub_len (a := a) (b := b.erase x) (List.nodup_cons.1 hn).2 fun y hy => by
   have hy' := hs y (List.mem_cons_of_mem _ hy)
   have hne : y ≠ x := by
    rintro rfl
    exact (List.nodup_cons.1 hn).1 hy
   exact (List.mem_erase_of_ne hne).2 hy'
  have hl := List.length_erase_of_mem hx
  have : 0 < b.length := List.length_pos_of_mem hx
  rw [List.length_cons]
  omega
def allPairs (S U : Sc) : List Pr := S.msgs.flatMap fun x => U.msgs.map fun y => ⟨x.name, y.name⟩
theorem flat_len {α β : Type} {f : α → List β} {n : Nat} : ∀ {l : List α}, (∀ x ∈ l, (f x).length = n) → (l.flatMap f).length = l.length * n
 | [], _ => by simp
 | x :: l, h => by
  rw [List.flatMap_cons, List.length_append, flat_len (l := l) fun y hy => h y (List.mem_cons_of_mem _ hy), h x List.mem_cons_self, List.length_cons, Nat.add_mul, Nat.one_mul, Nat.add_comm]
theorem pairs_len {S U : Sc} {l : List Pr} (h : PairsOK S U l) (h1 : S.msgs.length ≤ 10) (h2 : U.msgs.length ≤ 10) : l.length ≤ 100 := by
 have q := sub_len (b := allPairs S U) h.nd fun p hp => by
  obtain ⟨q1, q2⟩ := h.here p hp
  unfold hasM at q1 q2
  rw [found_any, List.any_eq_true] at q1 q2
  obtain ⟨x, hx, ex⟩ := q1
  obtain ⟨y, hy, ey⟩ := q2
  unfold allPairs
  rw [List.mem_flatMap]
  refine ⟨x, hx, List.mem_map.2 ⟨y, hy, ?_⟩⟩
  have e1 : x.name = p.o := by simpa using ex
  have e2 : y.name = p.n := by simpa using ey
  rw [e1, e2]
 have e : (allPairs S U).length = S.msgs.length * U.msgs.length := flat_len fun x _ => by simp
 have : S.msgs.length * U.msgs.length ≤ 10 * 10 := Nat.mul_le_mul h1 h2
 omega
theorem first_found {α : Type} {p : α → Bool} {z : α} {l : List α} (h : (firstP p z l).2 = true) : (firstP p z l).1 ∈ l ∧ p (firstP p z l).1 = true := by
 unfold firstP at *
 cases e : l.find? p with
 | none => rw [e] at h; cases h
 | some a => exact ⟨List.mem_of_find?_eq_some e, List.find?_some e⟩
theorem kind7 {S : Sc} (R : RightS S) {m : Ms} (hm : m ∈ S.msgs) {f : Fd} (hf : f ∈ m.fields) (k : f.ty.kind = 7) : hasM S f.ty.name = true := by
 obtain ⟨i, hi⟩ := List.getElem?_of_mem hf
 have q := (R.fld m hm i f hi).2.2.1
 unfold fieldB at q
 rw [Bool.and_eq_true] at q
 have q := q.2
 unfold kindB at q
 rw [if_neg (by omega), if_pos k] at q
 exact q
end Go.Aw
namespace Go.Aw
open Go.Proofs Go.RowKit
set_option linter.unusedSimpArgs false
set_option linter.unusedVariables false
theorem msgOf_mem {S : Sc} {k : List UInt8} (h : hasM S k = true) : msgOf S k ∈ S.msgs ∧ (msgOf S k).name = k := by
 have := first_found (p := fun x : Ms => x.name == k) (z := zMs) (l := S.msgs) h
 exact ⟨this.1, eq_of_beq this.2⟩
end Go.Aw
namespace Go.Aw
open Go.Proofs Go.RowKit
set_option linter.unusedSimpArgs false
set_option linter.unusedVariables false
end Go.Aw
namespace Go.Aw
open Go.Proofs Go.RowKit
set_option linter.unusedSimpArgs false
set_option linter.unusedVariables false
theorem flds_iff {S : Sc} : ∀ {l : List Fd} {ns : List (List UInt8)} {us : List Int}, fldsC S ns us l = 0 ↔ (∀ f ∈ l, nameB f.name = true ∧ tagB f.tag = true ∧ fieldB S f = true ∧ f.name ∉ ns ∧ f.tag ∉ us) ∧ (l.map Fd.name).Nodup ∧ (l.map Fd.tag).Nodup
 | [], ns, us => by simp [fldsC]
 | f :: l, ns, us => by
  rw [fldsC, List.map_cons, List.map_cons, List.nodup_cons, List.nodup_cons]
  constructor
  ·intro h
   split at h
   ·rename_i h1
    split at h
    ·rename_i h2
     split at h
     ·rename_i h3
      obtain ⟨q1, q2, q3⟩ := (flds_iff (l := l)).1 h
      have t1 := takes_iff.1 h1
      rw [Bool.and_eq_true, Bool.not_eq_true', ← Bool.not_eq_true, List.contains_iff_mem] at h2
      refine ⟨fun g hg => ?_, ⟨fun hm => ?_, q2⟩, ⟨fun hm => ?_, q3⟩⟩
      ·rcases List.mem_cons.1 hg with rfl | hg
       ·exact ⟨t1.1, h2.1, h3, t1.2, h2.2⟩
       ·obtain ⟨a, b, c, d, e⟩ := q1 g hg
        exact ⟨a, b, c, fun hm => d (List.mem_append.2 (.inl hm)), fun hm => e (List.mem_append.2 (.inl hm))⟩
      ·obtain ⟨g, hg, e⟩ := List.mem_map.1 hm
       exact (q1 g hg).2.2.2.1 (by rw [e]; simp)
      ·obtain ⟨g, hg, e⟩ := List.mem_map.1 hm
       exact (q1 g hg).2.2.2.2 (by rw [e]; simp)
     ·cases h
    ·cases h
   ·cases h
  ·rintro ⟨h, ⟨n1, n2⟩, ⟨m1, m2⟩⟩
   obtain ⟨a, b, c, d, e⟩ := h f List.mem_cons_self
   rw [if_pos (takes_iff.2 ⟨a, d⟩), if_pos (by rw [Bool.and_eq_true, Bool.not_eq_true', ← Bool.not_eq_true, List.contains_iff_mem]; exact ⟨b, e⟩), if_pos c]
   refine (flds_iff (l := l)).2 ⟨fun g hg => ?_, n2, m2⟩
   obtain ⟨a', b', c', d', e'⟩ := h g (List.mem_cons_of_mem _ hg)
   refine ⟨a', b', c', fun hm => ?_, fun hm => ?_⟩
   ·rcases List.mem_append.1 hm with hm | hm
    ·exact d' hm
    ·simp at hm; exact n1 (List.mem_map.2 ⟨g, hg, hm⟩)
   ·rcases List.mem_append.1 hm with hm | hm
    ·exact e' hm
    ·simp at hm; exact m1 (List.mem_map.2 ⟨g, hg, hm⟩)
theorem res_iff : ∀ {l : List Int} {us : List Int}, resBad us l = false ↔ (∀ t ∈ l, tagB t = true ∧ t ∉ us) ∧ l.Nodup
 | [], us => by simp [resBad]
 | t :: l, us => by
  rw [resBad, List.nodup_cons]
  constructor
  ·intro h
   split at h
   ·rename_i h2
    rw [Bool.and_eq_true, Bool.not_eq_true', ← Bool.not_eq_true, List.contains_iff_mem] at h2
    obtain ⟨q1, q2⟩ := (res_iff (l := l)).1 h
    refine ⟨fun g hg => ?_, fun hm => ?_, q2⟩
    ·rcases List.mem_cons.1 hg with rfl | hg
     ·exact h2
     ·exact ⟨(q1 g hg).1, fun hm => (q1 g hg).2 (List.mem_append.2 (.inl hm))⟩
    ·exact (q1 t hm).2 (by simp)
   ·cases h
  ·rintro ⟨h, n1, n2⟩
   obtain ⟨a, b⟩ := h t List.mem_cons_self
   rw [if_pos (by rw [Bool.and_eq_true, Bool.not_eq_true', ← Bool.not_eq_true, List.contains_iff_mem]; exact ⟨a, b⟩)]
   refine (res_iff (l := l)).2 ⟨fun g hg => ?_, n2⟩
   obtain ⟨a', b'⟩ := h g (List.mem_cons_of_mem _ hg)
   refine ⟨a', fun hm => ?_⟩
   rcases List.mem_append.1 hm with hm | hm
   ·exact b' hm
   ·simp at hm; subst hm; exact n1 hg
structure FitM (S : Sc) (m : Ms) : Prop where
 no : m.fields.length ≤ 16 ∧ m.res.length ≤ 32
 res : ∀ t ∈ m.res, tagB t = true
 rnd : m.res.Nodup
 fld : ∀ f ∈ m.fields, nameB f.name = true ∧ tagB f.tag = true ∧ fieldB S f = true ∧ f.tag ∉ m.res
 nnd : (m.fields.map Fd.name).Nodup
 tnd : (m.fields.map Fd.tag).Nodup
theorem body_iff {S : Sc} {m : Ms} : bodyC S m = 0 ↔ FitM S m := by
 unfold bodyC
 constructor
 ·intro h
  split at h
  ·cases h
  rename_i h1
  split at h
  ·cases h
  rename_i h2
  obtain ⟨q1, q2, q3⟩ := flds_iff.1 h
  obtain ⟨r1, r2⟩ := res_iff.1 (by simpa using h2)
  exact ⟨by omega, fun t ht => (r1 t ht).1, r2, fun f hf => ⟨(q1 f hf).1, (q1 f hf).2.1, (q1 f hf).2.2.1, (q1 f hf).2.2.2.2⟩, q2, q3⟩
 ·intro F
  have := F.no
  rw [if_neg (by omega), if_neg (by rw [Bool.not_eq_true]; exact res_iff.2 ⟨fun t ht => ⟨F.res t ht, by simp⟩, F.rnd⟩)]
  exact flds_iff.2 ⟨fun f hf => ⟨(F.fld f hf).1, (F.fld f hf).2.1, (F.fld f hf).2.2.1, by simp, (F.fld f hf).2.2.2⟩, F.nnd, F.tnd⟩
theorem fOf_tag {m : Ms} {t : Int} (h : (fOf m t).2 = true) : (fOf m t).1 ∈ m.fields ∧ (fOf m t).1.tag = t := by
 have := first_found (p := fun x : Fd => x.tag == t) (z := zFd) (l := m.fields) h
 exact ⟨this.1, eq_of_beq this.2⟩
theorem fit_msgs {S : Sc} (F : FitS S) {m : Ms} (h : m ∈ S.msgs) : FitM S m := body_iff.1 (F.body m h)
theorem hasM_iff {S : Sc} {k : List UInt8} : hasM S k = true ↔ ∃ m ∈ S.msgs, m.name = k := by
 unfold hasM
 rw [found_any, List.any_eq_true]
 simp
end Go.Aw
namespace Go.Aw
open Go.Proofs Go.RowKit
set_option linter.unusedSimpArgs false
set_option linter.unusedVariables false
end Go.Aw
namespace Go.Aw
open Go.Proofs Go.RowKit
set_option linter.unusedSimpArgs false
set_option linter.unusedVariables false
structure Stp where
 op : Int
 tag : Int
 sub : Int
 deriving DecidableEq
def encSt (s : Stp) : List PV := [.int .i64 s.op, .int .i64 s.tag, .int .i64 s.sub]
def encPt (l : List Stp) : List PV := [.slice (l.map encSt)]
def placeP (l : List Pr) (p : Pr) : Nat := l.findIdx (fun x => x == p)
theorem place_yes {l : List Pr} {p : Pr} (h : p ∈ l) : placeP l p < l.length ∧ l[placeP l p]? = some p := by
 have h1 : placeP l p < l.length := List.findIdx_lt_length_of_exists ⟨p, h, by simp⟩
 refine ⟨h1, ?_⟩
 have h2 : l[placeP l p]? = some l[placeP l p] := List.getElem?_eq_getElem h1
 have h3 : (l[placeP l p] == p) = true := List.findIdx_getElem (p := fun x => x == p) (w := h1)
 rw [h2, show l[placeP l p] = p by simpa using h3]
theorem place_no {l : List Pr} {p : Pr} (h : p ∉ l) : placeP l p = l.length :=
 List.findIdx_eq_length_of_false fun x hx => by
  rw [beq_eq_false_iff_ne]
  rintro rfl
  exact h hx
def intoB (mo mn : Ms) (t : Int) : Bool := (fOf mo t).2 && (fOf mn t).2 && ((fOf mo t).1.label == (fOf mn t).1.label) && ((fOf mo t).1.ty.kind == 7) && ((fOf mn t).1.ty.kind == 7)
def pairO (mo mn : Ms) (t : Int) : Pr := ⟨(fOf mo t).1.ty.name, (fOf mn t).1.ty.name⟩
def stepO (mo mn : Ms) (t : Int) (l : List Pr) : Option Stp :=
 if (fOf mo t).2 = true ∧ (fOf mn t).2 = true ∧ (fOf mo t).1.label = (fOf mn t).1.label then
  (if (fOf mo t).1.ty.kind = 7 ∧ (fOf mn t).1.ty.kind = 7 then some ⟨if (fOf mo t).1.label = 1 then 4 else 3, t, placeP l (pairO mo mn t)⟩
  else if (fOf mo t).1.ty.kind = 2 ∧ (fOf mn t).1.ty.kind = 1 then some ⟨2, t, 0⟩
  else if (fOf mo t).1.ty.kind = (fOf mn t).1.ty.kind ∨ (fOf mo t).1.ty.kind = 1 ∧ (fOf mn t).1.ty.kind = 2 then some ⟨1, t, 0⟩ else none)
 else none
def stepLs (mo mn : Ms) (t : Int) (l : List Pr) : List Pr := if intoB mo mn t = true then addP l (pairO mo mn t) else l
def stepsP (mo mn : Ms) : Nat → Int → List Pr → List Stp × List Pr
 | 0, _, l => ([], l)
 | n + 1, t, l => ((stepO mo mn t l).toList ++ (stepsP mo mn n (t + 1) (stepLs mo mn t l)).1, (stepsP mo mn n (t + 1) (stepLs mo mn t l)).2)
def makeP (S U : Sc) : Nat → Nat → List Pr → List (List Stp)
 | 0, _, _ => []
 | n + 1, i, l => match l[i]? with
  | none => []
  | some p => (stepsP (msgOf S p.o) (msgOf U p.n) 500 1 l).1 :: makeP S U n (i + 1) (stepsP (msgOf S p.o) (msgOf U p.n) 500 1 l).2
def makeL (S U : Sc) : Nat → Nat → List Pr → List Pr
 | 0, _, l => l
 | n + 1, i, l => match l[i]? with
  | none => l
  | some p => makeL S U n (i + 1) (stepsP (msgOf S p.o) (msgOf U p.n) 500 1 l).2
def makeR (S U : Sc) (a b : List UInt8) : List (List Stp) × Int :=
 if checkC S = 0 ∧ checkC U = 0 then (if hasM S a = true ∧ hasM U b = true then (makeP S U 101 0 [⟨a, b⟩], 0) else ([], 14)) else ([], 1)
theorem pref_stepLs (mo mn : Ms) (t : Int) (l : List Pr) : ∀ (i : Nat) p, l[i]? = some p → (stepLs mo mn t l)[i]? = some p := by
 intro i p h
 unfold stepLs addP
 split
 ·split
  ·exact h
  ·rw [List.getElem?_append_left (List.getElem?_eq_some_iff.1 h).1]; exact h
 ·exact h
theorem pref_stepsP (mo mn : Ms) : ∀ (n : Nat) (t : Int) (l : List Pr) (i : Nat) p, l[i]? = some p → (stepsP mo mn n t l).2[i]? = some p
 | 0, t, l, i, p, h => h
 | n + 1, t, l, i, p, h => pref_stepsP mo mn n (t + 1) _ i p (pref_stepLs mo mn t l i p h)
theorem pref_makeL (S U : Sc) : ∀ (n i : Nat) (l : List Pr) (j : Nat) p, l[j]? = some p → (makeL S U n i l)[j]? = some p
 | 0, i, l, j, p, h => h
 | n + 1, i, l, j, p, h => by
  rw [makeL]
  split
  ·exact h
  ·exact pref_makeL S U n (i + 1) _ j p (pref_stepsP _ _ 500 1 l j p h)
theorem intoB_spec {mo mn : Ms} {t : Int} (h : intoB mo mn t = true) : (fOf mo t).2 = true ∧ (fOf mn t).2 = true ∧ (fOf mo t).1.label = (fOf mn t).1.label ∧ (fOf mo t).1.ty.kind = 7 ∧ (fOf mn t).1.ty.kind = 7 := by
 unfold intoB at h
 simp only [Bool.and_eq_true, beq_iff_eq] at h
 obtain ⟨⟨⟨⟨a, b⟩, c⟩, d⟩, e⟩ := h
 exact ⟨a, b, c, d, e⟩
theorem stepLs_ok {S U : Sc} (RS : RightS S) (RU : RightS U) {mo mn : Ms} (hmo : mo ∈ S.msgs) (hmn : mn ∈ U.msgs) {t : Int} {l : List Pr} (h : PairsOK S U l) : PairsOK S U (stepLs mo mn t l) := by
 unfold stepLs
 split
 ·rename_i hb
  obtain ⟨a, b, _, d, e⟩ := intoB_spec hb
  exact addP_ok h (kind7 RS hmo (fOf_tag a).1 d) (kind7 RU hmn (fOf_tag b).1 e)
 ·exact h
theorem stepsP_ok {S U : Sc} (RS : RightS S) (RU : RightS U) {mo mn : Ms} (hmo : mo ∈ S.msgs) (hmn : mn ∈ U.msgs) : ∀ (n : Nat) (t : Int) (l : List Pr), PairsOK S U l → PairsOK S U (stepsP mo mn n t l).2
 | 0, t, l, h => h
 | n + 1, t, l, h => stepsP_ok RS RU hmo hmn n (t + 1) _ (stepLs_ok RS RU hmo hmn h)
theorem makeL_ok {S U : Sc} (RS : RightS S) (RU : RightS U) : ∀ (n i : Nat) (l : List Pr), PairsOK S U l → PairsOK S U (makeL S U n i l)
 | 0, i, l, h => h
 | n + 1, i, l, h => by
  rw [makeL]
  split
  ·exact h
  ·rename_i p hp
   obtain ⟨a, b⟩ := h.here p (List.mem_of_getElem? hp)
   exact makeL_ok RS RU n (i + 1) _ (stepsP_ok RS RU (msgOf_mem a).1 (msgOf_mem b).1 500 1 l h)
theorem make_len {S U : Sc} (RS : RightS S) (RU : RightS U) : ∀ (n i : Nat) (l : List Pr), 101 ≤ n + i → i ≤ l.length → PairsOK S U l → (makeP S U n i l).length + i = (makeL S U n i l).length
 | 0, i, l, hn, hi, h => by
  have := pairs_len h RS.len.2.1 RU.len.2.1
  omega
 | n + 1, i, l, hn, hi, h => by
  rw [makeP, makeL]
  cases hp : l[i]? with
  | none =>
   have := List.getElem?_eq_none_iff.1 hp
   simp only [List.length_nil]
   omega
  | some p =>
   obtain ⟨a, b⟩ := h.here p (List.mem_of_getElem? hp)
   have ok := stepsP_ok RS RU (msgOf_mem a).1 (msgOf_mem b).1 500 1 l h
   have hl : i + 1 ≤ (stepsP (msgOf S p.o) (msgOf U p.n) 500 1 l).2.length := by
    have := (List.getElem?_eq_some_iff.1 (pref_stepsP (msgOf S p.o) (msgOf U p.n) 500 1 l i p hp)).1
    omega
   have := make_len RS RU n (i + 1) _ (by omega) hl ok
   simp only [List.length_cons]
   omega
def stOK (n : Nat) (last : Int) (s : Stp) : Bool := decide (last < s.tag ∧ s.tag ≤ 500) && ((decide (s.op = 1 ∨ s.op = 2) && (s.sub == 0)) || (decide (s.op = 3 ∨ s.op = 4) && decide (0 ≤ s.sub ∧ s.sub < n)))
def partB (n : Nat) : Int → List Stp → Bool
 | _, [] => true
 | last, s :: l => stOK n last s && partB n s.tag l
def progB (p : List (List Stp)) : Bool := decide (1 ≤ p.length ∧ p.length ≤ 100) && p.all (partB p.length 0)
theorem partB_low {n : Nat} {a b : Int} (h : a ≤ b) : ∀ {l : List Stp}, partB n b l = true → partB n a l = true
 | [], _ => rfl
 | s :: l, q => by
  rw [partB, Bool.and_eq_true] at q ⊢
  refine ⟨?_, q.2⟩
  have := q.1
  unfold stOK at this ⊢
  rw [Bool.and_eq_true, decide_eq_true_eq] at this ⊢
  exact ⟨by omega, this.2⟩
theorem stepO_sub {mo mn : Ms} {t : Int} {l : List Pr} {s : Stp} (h : stepO mo mn t l = some s) : s.tag = t ∧ ((s.op = 1 ∨ s.op = 2) ∧ s.sub = 0 ∨ (s.op = 3 ∨ s.op = 4) ∧ s.sub = (placeP l (pairO mo mn t) : Int) ∧ (stepLs mo mn t l)[placeP l (pairO mo mn t)]? = some (pairO mo mn t)) := by
 unfold stepO at h
 split at h
 ·rename_i h1
  split at h
  ·rename_i h2
   injection h with h
   subst h
   refine ⟨rfl, .inr ⟨by split <;> simp, rfl, ?_⟩⟩
   have hb : intoB mo mn t = true := by unfold intoB; simp [h1, h2]
   unfold stepLs
   rw [if_pos hb]
   unfold addP
   split
   ·rename_i h3
    rw [List.contains_iff_mem] at h3
    exact (place_yes h3).2
   ·rename_i h3
    rw [List.contains_iff_mem] at h3
    rw [place_no h3, List.getElem?_append_right (Nat.le_refl _), Nat.sub_self]
    rfl
  ·split at h
   ·injection h with h; subst h; exact ⟨rfl, .inl ⟨.inr rfl, rfl⟩⟩
   ·split at h
    ·injection h with h; subst h; exact ⟨rfl, .inl ⟨.inl rfl, rfl⟩⟩
    ·cases h
 ·cases h
theorem steps_part {mo mn : Ms} {N : Nat} : ∀ (n : Nat) (t : Int) (l : List Pr), t + n ≤ 501 → (stepsP mo mn n t l).2.length ≤ N → partB N (t - 1) (stepsP mo mn n t l).1 = true
 | 0, t, l, _, _ => rfl
 | n + 1, t, l, ht, hN => by
  rw [stepsP] at hN ⊢
  simp only at hN ⊢
  have ih := steps_part (N := N) n (t + 1) (stepLs mo mn t l) (by push_cast at ht; omega) hN
  rw [show t + 1 - 1 = t by omega] at ih
  cases hs : stepO mo mn t l with
  | none => exact partB_low (by omega) ih
  | some s =>
   obtain ⟨a, b⟩ := stepO_sub hs
   show partB N (t - 1) (s :: _) = true
   rw [partB, Bool.and_eq_true]
   refine ⟨?_, by rw [a]; exact ih⟩
   unfold stOK
   rw [Bool.and_eq_true, decide_eq_true_eq]
   refine ⟨by push_cast at ht; omega, ?_⟩
   rw [Bool.or_eq_true, Bool.and_eq_true, Bool.and_eq_true, decide_eq_true_eq, decide_eq_true_eq, decide_eq_true_eq, beq_iff_eq]
   rcases b with ⟨b1, b2⟩ | ⟨b1, b2, b3⟩
   ·exact .inl ⟨b1, b2⟩
   ·refine .inr ⟨b1, by omega, ?_⟩
    have := (List.getElem?_eq_some_iff.1 (pref_stepsP mo mn n (t + 1) _ _ _ b3)).1
    omega
theorem make_parts {S U : Sc} {N : Nat} : ∀ (n i : Nat) (l : List Pr), (makeL S U n i l).length ≤ N → ∀ x ∈ makeP S U n i l, partB N 0 x = true
 | 0, i, l, _, x, hx => by cases hx
 | n + 1, i, l, hN, x, hx => by
  rw [makeP] at hx
  rw [makeL] at hN
  cases hp : l[i]? with
  | none => rw [hp] at hx; cases hx
  | some p =>
   simp only [hp] at hx hN
   rcases List.mem_cons.1 hx with rfl | hx
   ·have hl : (stepsP (msgOf S p.o) (msgOf U p.n) 500 1 l).2.length ≤ N := by
     refine Nat.le_trans ?_ hN
     rcases Nat.eq_zero_or_pos (stepsP (msgOf S p.o) (msgOf U p.n) 500 1 l).2.length with z | z
     ·omega
     ·obtain ⟨q, hq⟩ : ∃ q, (stepsP (msgOf S p.o) (msgOf U p.n) 500 1 l).2[(stepsP (msgOf S p.o) (msgOf U p.n) 500 1 l).2.length - 1]? = some q := ⟨_, List.getElem?_eq_getElem (by omega)⟩
      have := (List.getElem?_eq_some_iff.1 (pref_makeL S U n (i + 1) _ _ q hq)).1
      omega
    exact steps_part 500 1 l (by omega) hl
   ·exact make_parts n (i + 1) _ hN x hx
theorem make_prog {S U : Sc} {a b : List UInt8} (hS : checkC S = 0) (hU : checkC U = 0) (ha : hasM S a = true) (hb : hasM U b = true) :
  progB (makeP S U 101 0 [⟨a, b⟩]) = true ∧ (makeP S U 101 0 [⟨a, b⟩]).length ≤ S.msgs.length * U.msgs.length ∧ ∃ r, makeP S U 101 0 [⟨a, b⟩] = (stepsP (msgOf S a) (msgOf U b) 500 1 [⟨a, b⟩]).1 :: r := by
 have RS := right_of hS
 have RU := right_of hU
 have ok : PairsOK S U [⟨a, b⟩] := ⟨fun p hp => by simp at hp; subst hp; exact ⟨ha, hb⟩, by simp⟩
 have hl := make_len RS RU 101 0 [⟨a, b⟩] (by omega) (by omega) ok
 have ok' := makeL_ok RS RU 101 0 [⟨a, b⟩] ok
 have h100 := pairs_len ok' RS.len.2.1 RU.len.2.1
 have e : makeP S U 101 0 [⟨a, b⟩] = (stepsP (msgOf S a) (msgOf U b) 500 1 [⟨a, b⟩]).1 :: makeP S U 100 1 (stepsP (msgOf S a) (msgOf U b) 500 1 [⟨a, b⟩]).2 := rfl
 refine ⟨?_, ?_, _, e⟩
 ·unfold progB
  rw [Bool.and_eq_true, decide_eq_true_eq, List.all_eq_true]
  refine ⟨⟨by rw [e, List.length_cons]; omega, by omega⟩, fun x hx => ?_⟩
  exact make_parts (N := (makeP S U 101 0 [⟨a, b⟩]).length) 101 0 [⟨a, b⟩] (by omega) x hx
 ·have q := sub_len (b := allPairs S U) ok'.nd fun p hp => by
   obtain ⟨q1, q2⟩ := ok'.here p hp
   obtain ⟨x, hx, ex⟩ := hasM_iff.1 q1
   obtain ⟨y, hy, ey⟩ := hasM_iff.1 q2
   unfold allPairs
   rw [List.mem_flatMap]
   exact ⟨x, hx, List.mem_map.2 ⟨y, hy, by rw [ex, ey]⟩⟩
  have e2 : (allPairs S U).length = S.msgs.length * U.msgs.length := flat_len fun x _ => by simp
  omega
end Go.Aw
namespace Go.Aw
open Go.Proofs Go.RowKit
set_option linter.unusedSimpArgs false
set_option linter.unusedVariables false
def stepB (s : Stp) (n : Int) : Bool := (decide (s.op = 1 ∨ s.op = 2) && (s.sub == 0)) || (decide (s.op = 3 ∨ s.op = 4) && decide (0 ≤ s.sub ∧ s.sub < n))
theorem adapt_step (s : Stp) (n : Int) : PFn Tryd.prog 73 [.agg (encSt s), .int .i64 n] (.bool (stepB s n)) := by
 refine PFn.of Tryd.func73 rfl (by decide) Tryd.ntmps73 Tryd.results73 (Nat.le_of_ble_eq_true rfl) ?_
 simp only [argsT, encSt]
 refine AW.rT (by rfl) fun K hK => ?_
 simp -implicitDefEqProofs only [go_sem, ↓reduceIte, Nat.reduceAdd, Nat.reduceMul, Nat.reduceEqDiff, Nat.reduceLeDiff, reduceCtorEq, Int.reduceToNat]
 refine hK _ ?_; clear hK K
 refine AW.seq ?_
 refine AW.rT (by rfl) fun K hK => ?_
 simp -implicitDefEqProofs only [go_sem, ↓reduceIte, Nat.reduceAdd, Nat.reduceMul, Nat.reduceEqDiff, Nat.reduceLeDiff, reduceCtorEq, Int.reduceToNat]
 refine hK _ ?_; clear hK K
 refine AW.block ?_
 refine AW.seq ?_
 by_cases h1 : s.op = 1
 ·have q1 : (s.op == 1) = true := by simp [h1]
  have e : stepB s n = (s.sub == 0) := by unfold stepB; simp [h1]
  refine AW.rT (by rfl) fun K hK => ?_
  simp -implicitDefEqProofs only [go_sem, ↓reduceIte, Nat.reduceAdd, Nat.reduceMul, Nat.reduceEqDiff, Nat.reduceLeDiff, reduceCtorEq, Int.reduceToNat, q1]
  refine hK _ ?_; clear hK K
  refine AW.cond _ (by simp -implicitDefEqProofs only [go_sem, ↓reduceIte, Nat.reduceAdd, Nat.reduceMul, Nat.reduceEqDiff, Nat.reduceLeDiff, reduceCtorEq, Int.reduceToNat]; rfl) (fun hc => ?_) (fun hc => ?_)
  rotate_left
  ·simp at hc
  refine AW.skip ?_
  simp only [andThen, inBlk, reduceCtorEq, ↓reduceIte, if_t, if_f]
  refine AW.cond _ (by simp -implicitDefEqProofs only [go_sem, ↓reduceIte, Nat.reduceAdd, Nat.reduceMul, Nat.reduceEqDiff, Nat.reduceLeDiff, reduceCtorEq, Int.reduceToNat]; rfl) (fun hc => ?_) (fun hc => ?_)
  rotate_left
  ·simp at hc
  refine AW.rT (by rfl) fun K hK => ?_
  simp -implicitDefEqProofs only [go_sem, ↓reduceIte, Nat.reduceAdd, Nat.reduceMul, Nat.reduceEqDiff, Nat.reduceLeDiff, reduceCtorEq, Int.reduceToNat]
  refine hK _ ?_; clear hK K
  refine AW.ret ?_
  simp -implicitDefEqProofs only [go_sem, ↓reduceIte, Nat.reduceAdd, Nat.reduceMul, Nat.reduceEqDiff, Nat.reduceLeDiff, reduceCtorEq, Int.reduceToNat, e]
 have q1 : (s.op == 1) = false := beq_eq_false_iff_ne.2 h1
 by_cases h2 : s.op = 2
 ·have q2 : (s.op == 2) = true := by simp [h2]
  have e : stepB s n = (s.sub == 0) := by unfold stepB; simp [h2]
  refine AW.rT (by rfl) fun K hK => ?_
  simp -implicitDefEqProofs only [go_sem, ↓reduceIte, Nat.reduceAdd, Nat.reduceMul, Nat.reduceEqDiff, Nat.reduceLeDiff, reduceCtorEq, Int.reduceToNat, q1]
  refine hK _ ?_; clear hK K
  refine AW.cond _ (by simp -implicitDefEqProofs only [go_sem, ↓reduceIte, Nat.reduceAdd, Nat.reduceMul, Nat.reduceEqDiff, Nat.reduceLeDiff, reduceCtorEq, Int.reduceToNat]; rfl) (fun hc => ?_) (fun hc => ?_)
  ·simp at hc
  refine AW.rE (by rfl) fun K hK => ?_
  simp -implicitDefEqProofs only [go_sem, ↓reduceIte, Nat.reduceAdd, Nat.reduceMul, Nat.reduceEqDiff, Nat.reduceLeDiff, reduceCtorEq, Int.reduceToNat, q2]
  refine hK _ ?_; clear hK K
  simp only [andThen, inBlk, reduceCtorEq, ↓reduceIte, if_t, if_f]
  refine AW.cond _ (by simp -implicitDefEqProofs only [go_sem, ↓reduceIte, Nat.reduceAdd, Nat.reduceMul, Nat.reduceEqDiff, Nat.reduceLeDiff, reduceCtorEq, Int.reduceToNat]; rfl) (fun hc => ?_) (fun hc => ?_)
  rotate_left
  ·simp at hc
  refine AW.rT (by rfl) fun K hK => ?_
  simp -implicitDefEqProofs only [go_sem, ↓reduceIte, Nat.reduceAdd, Nat.reduceMul, Nat.reduceEqDiff, Nat.reduceLeDiff, reduceCtorEq, Int.reduceToNat]
  refine hK _ ?_; clear hK K
  refine AW.ret ?_
  simp -implicitDefEqProofs only [go_sem, ↓reduceIte, Nat.reduceAdd, Nat.reduceMul, Nat.reduceEqDiff, Nat.reduceLeDiff, reduceCtorEq, Int.reduceToNat, e]
 have q2 : (s.op == 2) = false := beq_eq_false_iff_ne.2 h2
 refine AW.rT (by rfl) fun K hK => ?_
 simp -implicitDefEqProofs only [go_sem, ↓reduceIte, Nat.reduceAdd, Nat.reduceMul, Nat.reduceEqDiff, Nat.reduceLeDiff, reduceCtorEq, Int.reduceToNat, q1]
 refine hK _ ?_; clear hK K
 refine AW.cond _ (by simp -implicitDefEqProofs only [go_sem, ↓reduceIte, Nat.reduceAdd, Nat.reduceMul, Nat.reduceEqDiff, Nat.reduceLeDiff, reduceCtorEq, Int.reduceToNat]; rfl) (fun hc => ?_) (fun hc => ?_)
 ·simp at hc
 refine AW.rE (by rfl) fun K hK => ?_
 simp -implicitDefEqProofs only [go_sem, ↓reduceIte, Nat.reduceAdd, Nat.reduceMul, Nat.reduceEqDiff, Nat.reduceLeDiff, reduceCtorEq, Int.reduceToNat, q2]
 refine hK _ ?_; clear hK K
 simp only [andThen, inBlk, reduceCtorEq, ↓reduceIte, if_t, if_f]
 refine AW.cond _ (by simp -implicitDefEqProofs only [go_sem, ↓reduceIte, Nat.reduceAdd, Nat.reduceMul, Nat.reduceEqDiff, Nat.reduceLeDiff, reduceCtorEq, Int.reduceToNat]; rfl) (fun hc => ?_) (fun hc => ?_)
 ·simp at hc
 refine AW.seq ?_
 have g1 : ((0 : Int) ≤ s.sub) = (0 ≤ s.sub) := rfl
 have e34 : (s.op = 3 ∨ s.op = 4) → stepB s n = decide (0 ≤ s.sub ∧ s.sub < n) := fun h => by
  unfold stepB
  rw [show decide (s.op = 1 ∨ s.op = 2) = false from decide_eq_false (by omega), show decide (s.op = 3 ∨ s.op = 4) = true from decide_eq_true h]
  rfl
 by_cases h3 : s.op = 3
 ·have q3 : (s.op == 3) = true := by simp [h3]
  have e := e34 (.inl h3)
  refine AW.rT (by rfl) fun K hK => ?_
  simp -implicitDefEqProofs only [go_sem, ↓reduceIte, Nat.reduceAdd, Nat.reduceMul, Nat.reduceEqDiff, Nat.reduceLeDiff, reduceCtorEq, Int.reduceToNat, q3]
  refine hK _ ?_; clear hK K
  refine AW.cond _ (by simp -implicitDefEqProofs only [go_sem, ↓reduceIte, Nat.reduceAdd, Nat.reduceMul, Nat.reduceEqDiff, Nat.reduceLeDiff, reduceCtorEq, Int.reduceToNat]; rfl) (fun hc => ?_) (fun hc => ?_)
  rotate_left
  ·simp at hc
  refine AW.skip ?_
  simp only [andThen, inBlk, reduceCtorEq, ↓reduceIte, if_t, if_f]
  refine AW.cond _ (by simp -implicitDefEqProofs only [go_sem, ↓reduceIte, Nat.reduceAdd, Nat.reduceMul, Nat.reduceEqDiff, Nat.reduceLeDiff, reduceCtorEq, Int.reduceToNat]; rfl) (fun hc => ?_) (fun hc => ?_)
  rotate_left
  ·simp at hc
  by_cases hs : 0 ≤ s.sub
  ·by_cases hlt : s.sub < n
   ·have e' : stepB s n = true := by rw [e]; exact decide_eq_true ⟨hs, hlt⟩
    refine AW.rT (by rfl) fun K hK => ?_
    simp -implicitDefEqProofs only [go_sem, ↓reduceIte, Nat.reduceAdd, Nat.reduceMul, Nat.reduceEqDiff, Nat.reduceLeDiff, reduceCtorEq, Int.reduceToNat, hs, hlt]
    refine hK _ ?_; clear hK K
    refine AW.ret ?_
    simp -implicitDefEqProofs only [go_sem, ↓reduceIte, Nat.reduceAdd, Nat.reduceMul, Nat.reduceEqDiff, Nat.reduceLeDiff, reduceCtorEq, Int.reduceToNat, e']
   ·have e' : stepB s n = false := by rw [e]; exact decide_eq_false (by omega)
    refine AW.rT (by rfl) fun K hK => ?_
    simp -implicitDefEqProofs only [go_sem, ↓reduceIte, Nat.reduceAdd, Nat.reduceMul, Nat.reduceEqDiff, Nat.reduceLeDiff, reduceCtorEq, Int.reduceToNat, hs, hlt]
    refine hK _ ?_; clear hK K
    refine AW.ret ?_
    simp -implicitDefEqProofs only [go_sem, ↓reduceIte, Nat.reduceAdd, Nat.reduceMul, Nat.reduceEqDiff, Nat.reduceLeDiff, reduceCtorEq, Int.reduceToNat, e']
  ·have e' : stepB s n = false := by rw [e]; exact decide_eq_false (by omega)
   refine AW.rT (by rfl) fun K hK => ?_
   simp -implicitDefEqProofs only [go_sem, ↓reduceIte, Nat.reduceAdd, Nat.reduceMul, Nat.reduceEqDiff, Nat.reduceLeDiff, reduceCtorEq, Int.reduceToNat, hs]
   refine hK _ ?_; clear hK K
   refine AW.ret ?_
   simp -implicitDefEqProofs only [go_sem, ↓reduceIte, Nat.reduceAdd, Nat.reduceMul, Nat.reduceEqDiff, Nat.reduceLeDiff, reduceCtorEq, Int.reduceToNat, e']
 have q3 : (s.op == 3) = false := beq_eq_false_iff_ne.2 h3
 by_cases h4 : s.op = 4
 ·have q4 : (s.op == 4) = true := by simp [h4]
  have e := e34 (.inr h4)
  refine AW.rT (by rfl) fun K hK => ?_
  simp -implicitDefEqProofs only [go_sem, ↓reduceIte, Nat.reduceAdd, Nat.reduceMul, Nat.reduceEqDiff, Nat.reduceLeDiff, reduceCtorEq, Int.reduceToNat, q3]
  refine hK _ ?_; clear hK K
  refine AW.cond _ (by simp -implicitDefEqProofs only [go_sem, ↓reduceIte, Nat.reduceAdd, Nat.reduceMul, Nat.reduceEqDiff, Nat.reduceLeDiff, reduceCtorEq, Int.reduceToNat]; rfl) (fun hc => ?_) (fun hc => ?_)
  ·simp at hc
  refine AW.rE (by rfl) fun K hK => ?_
  simp -implicitDefEqProofs only [go_sem, ↓reduceIte, Nat.reduceAdd, Nat.reduceMul, Nat.reduceEqDiff, Nat.reduceLeDiff, reduceCtorEq, Int.reduceToNat, q4]
  refine hK _ ?_; clear hK K
  simp only [andThen, inBlk, reduceCtorEq, ↓reduceIte, if_t, if_f]
  refine AW.cond _ (by simp -implicitDefEqProofs only [go_sem, ↓reduceIte, Nat.reduceAdd, Nat.reduceMul, Nat.reduceEqDiff, Nat.reduceLeDiff, reduceCtorEq, Int.reduceToNat]; rfl) (fun hc => ?_) (fun hc => ?_)
  rotate_left
  ·simp at hc
  by_cases hs : 0 ≤ s.sub
  ·by_cases hlt : s.sub < n
   ·have e' : stepB s n = true := by rw [e]; exact decide_eq_true ⟨hs, hlt⟩
    refine AW.rT (by rfl) fun K hK => ?_
    simp -implicitDefEqProofs only [go_sem, ↓reduceIte, Nat.reduceAdd, Nat.reduceMul, Nat.reduceEqDiff, Nat.reduceLeDiff, reduceCtorEq, Int.reduceToNat, hs, hlt]
    refine hK _ ?_; clear hK K
    refine AW.ret ?_
    simp -implicitDefEqProofs only [go_sem, ↓reduceIte, Nat.reduceAdd, Nat.reduceMul, Nat.reduceEqDiff, Nat.reduceLeDiff, reduceCtorEq, Int.reduceToNat, e']
   ·have e' : stepB s n = false := by rw [e]; exact decide_eq_false (by omega)
    refine AW.rT (by rfl) fun K hK => ?_
    simp -implicitDefEqProofs only [go_sem, ↓reduceIte, Nat.reduceAdd, Nat.reduceMul, Nat.reduceEqDiff, Nat.reduceLeDiff, reduceCtorEq, Int.reduceToNat, hs, hlt]
    refine hK _ ?_; clear hK K
    refine AW.ret ?_
    simp -implicitDefEqProofs only [go_sem, ↓reduceIte, Nat.reduceAdd, Nat.reduceMul, Nat.reduceEqDiff, Nat.reduceLeDiff, reduceCtorEq, Int.reduceToNat, e']
  ·have e' : stepB s n = false := by rw [e]; exact decide_eq_false (by omega)
   refine AW.rT (by rfl) fun K hK => ?_
   simp -implicitDefEqProofs only [go_sem, ↓reduceIte, Nat.reduceAdd, Nat.reduceMul, Nat.reduceEqDiff, Nat.reduceLeDiff, reduceCtorEq, Int.reduceToNat, hs]
   refine hK _ ?_; clear hK K
   refine AW.ret ?_
   simp -implicitDefEqProofs only [go_sem, ↓reduceIte, Nat.reduceAdd, Nat.reduceMul, Nat.reduceEqDiff, Nat.reduceLeDiff, reduceCtorEq, Int.reduceToNat, e']
 have q4 : (s.op == 4) = false := beq_eq_false_iff_ne.2 h4
 have e : stepB s n = false := by
  unfold stepB
  rw [show decide (s.op = 1 ∨ s.op = 2) = false from decide_eq_false (by omega), show decide (s.op = 3 ∨ s.op = 4) = false from decide_eq_false (by omega)]
  rfl
 refine AW.rT (by rfl) fun K hK => ?_
 simp -implicitDefEqProofs only [go_sem, ↓reduceIte, Nat.reduceAdd, Nat.reduceMul, Nat.reduceEqDiff, Nat.reduceLeDiff, reduceCtorEq, Int.reduceToNat, q3]
 refine hK _ ?_; clear hK K
 refine AW.cond _ (by simp -implicitDefEqProofs only [go_sem, ↓reduceIte, Nat.reduceAdd, Nat.reduceMul, Nat.reduceEqDiff, Nat.reduceLeDiff, reduceCtorEq, Int.reduceToNat]; rfl) (fun hc => ?_) (fun hc => ?_)
 ·simp at hc
 refine AW.rE (by rfl) fun K hK => ?_
 simp -implicitDefEqProofs only [go_sem, ↓reduceIte, Nat.reduceAdd, Nat.reduceMul, Nat.reduceEqDiff, Nat.reduceLeDiff, reduceCtorEq, Int.reduceToNat, q4]
 refine hK _ ?_; clear hK K
 simp only [andThen, inBlk, reduceCtorEq, ↓reduceIte, if_t, if_f]
 refine AW.cond _ (by simp -implicitDefEqProofs only [go_sem, ↓reduceIte, Nat.reduceAdd, Nat.reduceMul, Nat.reduceEqDiff, Nat.reduceLeDiff, reduceCtorEq, Int.reduceToNat]; rfl) (fun hc => ?_) (fun hc => ?_)
 ·simp at hc
 refine AW.skip ?_
 simp only [andThen, inBlk, reduceCtorEq, ↓reduceIte, if_t, if_f]
 refine AW.rT (by rfl) fun K hK => ?_
 simp -implicitDefEqProofs only [go_sem, ↓reduceIte, Nat.reduceAdd, Nat.reduceMul, Nat.reduceEqDiff, Nat.reduceLeDiff, reduceCtorEq, Int.reduceToNat]
 refine hK _ ?_; clear hK K
 refine AW.ret ?_
 simp -implicitDefEqProofs only [go_sem, ↓reduceIte, Nat.reduceAdd, Nat.reduceMul, Nat.reduceEqDiff, Nat.reduceLeDiff, reduceCtorEq, Int.reduceToNat, e]
def adS (p : List (List Stp)) (l : List (Nat × AV)) : St := ⟨ofL ((1, .ptr 0 0 0) :: (19, .p (.slice (p.map encPt))) :: (20, .p (.int .i64 (p.length : Int))) :: l), ofH [(0, .row 1 [[.p (.slice (p.map encPt))]])], 1⟩
theorem prog_no {p : List (List Stp)} {x : List Stp} (hx : x ∈ p) (h : partB p.length 0 x = false) : progB p = false := by
 unfold progB
 rw [List.all_eq_false.2 ⟨x, hx, by rw [h]; exact Bool.false_ne_true⟩, Bool.and_false]
theorem adapt_Check (p : List (List Stp)) : PFn Tryd.prog 50 [.agg [.slice (p.map encPt)]] (.bool (progB p)) := by
 refine PFn.of Tryd.func50 rfl (by decide) Tryd.ntmps50 Tryd.results50 (Nat.le_of_ble_eq_true rfl) ?_
 simp only [argsT]
 refine AW.rT (by rfl) fun K hK => ?_
 simp -implicitDefEqProofs only [go_sem, ↓reduceIte, Nat.reduceAdd, Nat.reduceMul, Nat.reduceEqDiff, Nat.reduceLeDiff, reduceCtorEq, Int.reduceToNat]
 refine hK _ ?_; clear hK K
 refine AW.seq ?_
 by_cases hz : p.length < 1
 ·have z1 : ((p.length : Int) < 1) = True := eq_true (by omega)
  have e : progB p = false := by unfold progB; rw [decide_eq_false (by omega)]; rfl
  refine AW.rT (by rfl) fun K hK => ?_
  simp -implicitDefEqProofs only [go_sem, ↓reduceIte, Nat.reduceAdd, Nat.reduceMul, Nat.reduceEqDiff, Nat.reduceLeDiff, reduceCtorEq, Int.reduceToNat, z1, List.length_map]
  refine hK _ ?_; clear hK K
  refine AW.cond _ (by simp -implicitDefEqProofs only [go_sem, ↓reduceIte, Nat.reduceAdd, Nat.reduceMul, Nat.reduceEqDiff, Nat.reduceLeDiff, reduceCtorEq, Int.reduceToNat]; rfl) (fun hc => ?_) (fun hc => ?_)
  rotate_left
  ·simp at hc
  refine AW.rT (by rfl) fun K hK => ?_
  simp -implicitDefEqProofs only [go_sem, ↓reduceIte, Nat.reduceAdd, Nat.reduceMul, Nat.reduceEqDiff, Nat.reduceLeDiff, reduceCtorEq, Int.reduceToNat]
  refine hK _ ?_; clear hK K
  refine AW.ret ?_
  simp -implicitDefEqProofs only [go_sem, ↓reduceIte, Nat.reduceAdd, Nat.reduceMul, Nat.reduceEqDiff, Nat.reduceLeDiff, reduceCtorEq, Int.reduceToNat, e]
 have z1 : ((p.length : Int) < 1) = False := eq_false (by omega)
 by_cases hb : p.length > 100
 ·have b1 : ((p.length : Int) > 100) = True := eq_true (by omega)
  have e : progB p = false := by unfold progB; rw [decide_eq_false (by omega)]; rfl
  refine AW.rT (by rfl) fun K hK => ?_
  simp -implicitDefEqProofs only [go_sem, ↓reduceIte, Nat.reduceAdd, Nat.reduceMul, Nat.reduceEqDiff, Nat.reduceLeDiff, reduceCtorEq, Int.reduceToNat, z1, b1, List.length_map]
  refine hK _ ?_; clear hK K
  refine AW.cond _ (by simp -implicitDefEqProofs only [go_sem, ↓reduceIte, Nat.reduceAdd, Nat.reduceMul, Nat.reduceEqDiff, Nat.reduceLeDiff, reduceCtorEq, Int.reduceToNat]; rfl) (fun hc => ?_) (fun hc => ?_)
  rotate_left
  ·simp at hc
  refine AW.rT (by rfl) fun K hK => ?_
  simp -implicitDefEqProofs only [go_sem, ↓reduceIte, Nat.reduceAdd, Nat.reduceMul, Nat.reduceEqDiff, Nat.reduceLeDiff, reduceCtorEq, Int.reduceToNat]
  refine hK _ ?_; clear hK K
  refine AW.ret ?_
  simp -implicitDefEqProofs only [go_sem, ↓reduceIte, Nat.reduceAdd, Nat.reduceMul, Nat.reduceEqDiff, Nat.reduceLeDiff, reduceCtorEq, Int.reduceToNat, e]
 have b1 : ((p.length : Int) > 100) = False := eq_false (by omega)
 refine AW.rT (by rfl) fun K hK => ?_
 simp -implicitDefEqProofs only [go_sem, ↓reduceIte, Nat.reduceAdd, Nat.reduceMul, Nat.reduceEqDiff, Nat.reduceLeDiff, reduceCtorEq, Int.reduceToNat, z1, b1, List.length_map]
 refine hK _ ?_; clear hK K
 refine AW.cond _ (by simp -implicitDefEqProofs only [go_sem, ↓reduceIte, Nat.reduceAdd, Nat.reduceMul, Nat.reduceEqDiff, Nat.reduceLeDiff, reduceCtorEq, Int.reduceToNat]; rfl) (fun hc => ?_) (fun hc => ?_)
 ·simp at hc
 refine AW.skip ?_
 simp only [andThen, inBlk, reduceCtorEq, ↓reduceIte, if_t, if_f]
 refine AW.cut (fun _ : Unit => ⟨ofL [], ofH [], 0⟩) (fun _ => p.all (partB p.length 0) = true) ?_ fun _ qa => ?_
 rotate_left
 ·have e : progB p = true := by unfold progB; rw [qa, decide_eq_true (by omega)]; rfl
  refine AW.rT (by rfl) fun K hK => ?_
  simp -implicitDefEqProofs only [go_sem, ↓reduceIte, Nat.reduceAdd, Nat.reduceMul, Nat.reduceEqDiff, Nat.reduceLeDiff, reduceCtorEq, Int.reduceToNat]
  refine hK _ ?_; clear hK K
  refine AW.ret ?_
  simp -implicitDefEqProofs only [go_sem, ↓reduceIte, Nat.reduceAdd, Nat.reduceMul, Nat.reduceEqDiff, Nat.reduceLeDiff, reduceCtorEq, Int.reduceToNat, e]
 refine AW.rT (by rfl) fun K hK => ?_
 simp -implicitDefEqProofs only [go_sem, ↓reduceIte, Nat.reduceAdd, Nat.reduceMul, Nat.reduceEqDiff, Nat.reduceLeDiff, reduceCtorEq, Int.reduceToNat, List.length_map]
 refine hK _ ?_; clear hK K
 refine AW.block ?_
 refine AW.loop (fun i : Nat => adS p [(21, .p (.int .i64 (i : Int)))]) (fun i => i ≤ p.length ∧ (p.take i).all (partB p.length 0) = true) (fun i => p.length - i) 0 ?_ ⟨by omega, by simp⟩ fun i hi => ?_
 ·simp only [adS]
  refine Ghost.sub ?_ ?_ <;> simp -implicitDefEqProofs only [go_sem, ↓reduceIte, Nat.reduceAdd, Nat.reduceMul, Nat.reduceEqDiff, Nat.reduceLeDiff, reduceCtorEq, Int.reduceToNat,  List.forall_mem_cons, List.not_mem_nil, false_implies, implies_true, and_self, labsIn_lift, List.all_append, List.all_cons, List.all_nil, Nat.reduceLT, labsInL, AV.labsIn]
  all_goals first | rfl | decide | skip
 obtain ⟨i1, i2⟩ := hi
 simp only [adS]
 by_cases hil : i < p.length
 case neg =>
  have c1 : ((i : Int) < (p.length : Int)) = False := eq_false (by omega)
  rw [List.take_of_length_le (by omega)] at i2
  refine AW.rT (by rfl) fun K hK => ?_
  simp -implicitDefEqProofs only [go_sem, ↓reduceIte, Nat.reduceAdd, Nat.reduceMul, Nat.reduceEqDiff, Nat.reduceLeDiff, reduceCtorEq, Int.reduceToNat, c1]
  refine hK _ ?_; clear hK K
  refine AW.seq ?_
  refine AW.cond _ (by simp -implicitDefEqProofs only [go_sem, ↓reduceIte, Nat.reduceAdd, Nat.reduceMul, Nat.reduceEqDiff, Nat.reduceLeDiff, reduceCtorEq, Int.reduceToNat]; rfl) (fun hc => ?_) (fun hc => ?_)
  ·simp at hc
  refine AW.exit ?_
  simp only [andThen, inBlk, reduceCtorEq, ↓reduceIte, if_t, if_f]
  refine ⟨(), i2, ?_⟩
  show Ghost _ _ ⟨ofL [], ofH [], 0⟩
  refine Ghost.sub ?_ ?_ <;> simp -implicitDefEqProofs only [go_sem, ↓reduceIte, Nat.reduceAdd, Nat.reduceMul, Nat.reduceEqDiff, Nat.reduceLeDiff, reduceCtorEq, Int.reduceToNat,  List.forall_mem_cons, List.not_mem_nil, false_implies, implies_true, and_self, labsIn_lift, List.all_append, List.all_cons, List.all_nil, Nat.reduceLT, labsInL, AV.labsIn]
 have c1 : ((i : Int) < (p.length : Int)) = True := eq_true (by omega)
 obtain ⟨x, hx⟩ : ∃ x, p[i]? = some x := ⟨_, List.getElem?_eq_getElem hil⟩
 have hxm := List.mem_of_getElem? hx
 have ⟨hm1, hm2, hm3⟩ := at_map' encPt hx
 have hm2' : (i : Int) < (p.length : Int) := by omega
 have w1 : IntKind.wrap .i64 ((i : Int) + 1) = ((i + 1 : Nat) : Int) := by rw [w64] <;> omega
 refine AW.rT (by rfl) fun K hK => ?_
 simp -implicitDefEqProofs only [go_sem, ↓reduceIte, Nat.reduceAdd, Nat.reduceMul, Nat.reduceEqDiff, Nat.reduceLeDiff, reduceCtorEq, Int.reduceToNat, c1]
 refine hK _ ?_; clear hK K
 refine AW.seq ?_
 refine AW.cond _ (by simp -implicitDefEqProofs only [go_sem, ↓reduceIte, Nat.reduceAdd, Nat.reduceMul, Nat.reduceEqDiff, Nat.reduceLeDiff, reduceCtorEq, Int.reduceToNat]; rfl) (fun hc => ?_) (fun hc => ?_)
 rotate_left
 ·simp at hc
 refine AW.skip ?_
 simp only [andThen, inBlk, reduceCtorEq, ↓reduceIte, if_t, if_f]
 refine AW.seq ?_
 refine AW.block ?_
 refine AW.rT (by rfl) fun K hK => ?_
 simp -implicitDefEqProofs only [go_sem, ↓reduceIte, Nat.reduceAdd, Nat.reduceMul, Nat.reduceEqDiff, Nat.reduceLeDiff, reduceCtorEq, Int.reduceToNat, hm1, hm2', hm3, encPt, List.length_map]
 refine hK _ ?_; clear hK K
 refine AW.rT (by rfl) fun K hK => ?_
 simp -implicitDefEqProofs only [go_sem, ↓reduceIte, Nat.reduceAdd, Nat.reduceMul, Nat.reduceEqDiff, Nat.reduceLeDiff, reduceCtorEq, Int.reduceToNat]
 refine hK _ ?_; clear hK K
 refine AW.rT (by rfl) fun K hK => ?_
 simp -implicitDefEqProofs only [go_sem, ↓reduceIte, Nat.reduceAdd, Nat.reduceMul, Nat.reduceEqDiff, Nat.reduceLeDiff, reduceCtorEq, Int.reduceToNat, List.length_map]
 refine hK _ ?_; clear hK K
 refine AW.block ?_
 refine AW.loop (fun j : Nat => adS p [(21, .p (.int .i64 (i : Int))), (25, .p (.slice (x.map encSt))), (26, .p (.int .i64 (x.length : Int))), (27, .p (.int .i64 (j : Int))), (5, .p (.int .i64 (if j = 0 then 0 else (x[j - 1]?.map Stp.tag).getD 0)))]) (fun j => j ≤ x.length ∧ (j : Int) ≤ (if j = 0 then 0 else (x[j - 1]?.map Stp.tag).getD 0) ∧ (if j = 0 then 0 else (x[j - 1]?.map Stp.tag).getD 0) ≤ 500 ∧ partB p.length 0 x = partB p.length (if j = 0 then 0 else (x[j - 1]?.map Stp.tag).getD 0) (x.drop j)) (fun j => x.length - j) 0 ?_ ⟨by omega, by simp, by simp, by simp⟩ fun j hj => ?_
 ·simp only [adS]
  refine Ghost.sub ?_ ?_ <;> simp -implicitDefEqProofs only [go_sem, ↓reduceIte, Nat.reduceAdd, Nat.reduceMul, Nat.reduceEqDiff, Nat.reduceLeDiff, reduceCtorEq, Int.reduceToNat,  List.forall_mem_cons, List.not_mem_nil, false_implies, implies_true, and_self, labsIn_lift, List.all_append, List.all_cons, List.all_nil, Nat.reduceLT, labsInL, AV.labsIn]
  all_goals first | rfl | decide | skip
 obtain ⟨j1, j2, j3, j4⟩ := hj
 simp only [adS]
 generalize hla : (if j = 0 then (0 : Int) else (x[j - 1]?.map Stp.tag).getD 0) = la at *
 by_cases hjl : j < x.length
 case neg =>
  have c2 : ((j : Int) < (x.length : Int)) = False := eq_false (by omega)
  rw [List.drop_of_length_le (by omega)] at j4
  refine AW.rT (by rfl) fun K hK => ?_
  simp -implicitDefEqProofs only [go_sem, ↓reduceIte, Nat.reduceAdd, Nat.reduceMul, Nat.reduceEqDiff, Nat.reduceLeDiff, reduceCtorEq, Int.reduceToNat, c2]
  refine hK _ ?_; clear hK K
  refine AW.seq ?_
  refine AW.cond _ (by simp -implicitDefEqProofs only [go_sem, ↓reduceIte, Nat.reduceAdd, Nat.reduceMul, Nat.reduceEqDiff, Nat.reduceLeDiff, reduceCtorEq, Int.reduceToNat]; rfl) (fun hc => ?_) (fun hc => ?_)
  ·simp at hc
  refine AW.exit ?_
  simp only [andThen, inBlk, reduceCtorEq, ↓reduceIte, if_t, if_f]
  refine AW.rE (by rfl) fun K hK => ?_
  simp -implicitDefEqProofs only [go_sem, ↓reduceIte, Nat.reduceAdd, Nat.reduceMul, Nat.reduceEqDiff, Nat.reduceLeDiff, reduceCtorEq, Int.reduceToNat, w1]
  refine hK _ ?_; clear hK K
  refine ⟨i + 1, ⟨by omega, all_next hx i2 j4⟩, by omega, ?_⟩
  refine Ghost.sub ?_ ?_ <;> simp -implicitDefEqProofs only [go_sem, ↓reduceIte, Nat.reduceAdd, Nat.reduceMul, Nat.reduceEqDiff, Nat.reduceLeDiff, reduceCtorEq, Int.reduceToNat,  List.forall_mem_cons, List.not_mem_nil, false_implies, implies_true, and_self, labsIn_lift, List.all_append, List.all_cons, List.all_nil, Nat.reduceLT, labsInL, AV.labsIn]
 have c2 : ((j : Int) < (x.length : Int)) = True := eq_true (by omega)
 obtain ⟨s, hs⟩ : ∃ s, x[j]? = some s := ⟨_, List.getElem?_eq_getElem hjl⟩
 have ⟨hs1, hs2, hs3⟩ := at_map' encSt hs
 have hs2' : (j : Int) < (x.length : Int) := by omega
 have w2 : IntKind.wrap .i64 ((j : Int) + 1) = ((j + 1 : Nat) : Int) := by rw [w64] <;> omega
 have dj : x.drop j = s :: x.drop (j + 1) := by
  rw [List.drop_eq_getElem_cons hjl]
  rw [List.getElem?_eq_getElem hjl, Option.some.injEq] at hs
  rw [hs]
 rw [dj] at j4
 have jp : partB p.length la (s :: x.drop (j + 1)) = (stOK p.length la s && partB p.length s.tag (x.drop (j + 1))) := rfl
 rw [jp] at j4
 have so : stOK p.length la s = (decide (la < s.tag ∧ s.tag ≤ 500) && stepB s (p.length : Int)) := rfl
 have ST := adapt_step s (p.length : Int)
 simp only [encSt] at ST
 refine AW.rT (by rfl) fun K hK => ?_
 simp -implicitDefEqProofs only [go_sem, ↓reduceIte, Nat.reduceAdd, Nat.reduceMul, Nat.reduceEqDiff, Nat.reduceLeDiff, reduceCtorEq, Int.reduceToNat, c2]
 refine hK _ ?_; clear hK K
 refine AW.seq ?_
 refine AW.cond _ (by simp -implicitDefEqProofs only [go_sem, ↓reduceIte, Nat.reduceAdd, Nat.reduceMul, Nat.reduceEqDiff, Nat.reduceLeDiff, reduceCtorEq, Int.reduceToNat]; rfl) (fun hc => ?_) (fun hc => ?_)
 rotate_left
 ·simp at hc
 refine AW.skip ?_
 simp only [andThen, inBlk, reduceCtorEq, ↓reduceIte, if_t, if_f]
 refine AW.seq ?_
 refine AW.block ?_
 refine AW.rT (by rfl) fun K hK => ?_
 simp -implicitDefEqProofs only [go_sem, ↓reduceIte, Nat.reduceAdd, Nat.reduceMul, Nat.reduceEqDiff, Nat.reduceLeDiff, reduceCtorEq, Int.reduceToNat, hs1, hs2', hs3, encSt, List.length_map]
 refine hK _ ?_; clear hK K
 refine AW.seq ?_
 by_cases t1 : s.tag ≤ la
 ·have f1 : (s.tag ≤ la) = True := eq_true t1
  have e : progB p = false := prog_no hxm (by rw [j4, so, decide_eq_false (by omega)]; rfl)
  refine AW.rT (by rfl) fun K hK => ?_
  simp -implicitDefEqProofs only [go_sem, ↓reduceIte, Nat.reduceAdd, Nat.reduceMul, Nat.reduceEqDiff, Nat.reduceLeDiff, reduceCtorEq, Int.reduceToNat, f1]
  refine hK _ ?_; clear hK K
  refine AW.cond _ (by simp -implicitDefEqProofs only [go_sem, ↓reduceIte, Nat.reduceAdd, Nat.reduceMul, Nat.reduceEqDiff, Nat.reduceLeDiff, reduceCtorEq, Int.reduceToNat]; rfl) (fun hc => ?_) (fun hc => ?_)
  rotate_left
  ·simp at hc
  refine AW.rT (by rfl) fun K hK => ?_
  simp -implicitDefEqProofs only [go_sem, ↓reduceIte, Nat.reduceAdd, Nat.reduceMul, Nat.reduceEqDiff, Nat.reduceLeDiff, reduceCtorEq, Int.reduceToNat]
  refine hK _ ?_; clear hK K
  refine AW.ret ?_
  simp -implicitDefEqProofs only [go_sem, ↓reduceIte, Nat.reduceAdd, Nat.reduceMul, Nat.reduceEqDiff, Nat.reduceLeDiff, reduceCtorEq, Int.reduceToNat, e]
 have f1 : (s.tag ≤ la) = False := eq_false t1
 by_cases t2 : s.tag > 500
 ·have f2 : (s.tag > 500) = True := eq_true t2
  have e : progB p = false := prog_no hxm (by rw [j4, so, decide_eq_false (by omega)]; rfl)
  refine AW.rT (by rfl) fun K hK => ?_
  simp -implicitDefEqProofs only [go_sem, ↓reduceIte, Nat.reduceAdd, Nat.reduceMul, Nat.reduceEqDiff, Nat.reduceLeDiff, reduceCtorEq, Int.reduceToNat, f1, f2]
  refine hK _ ?_; clear hK K
  refine AW.cond _ (by simp -implicitDefEqProofs only [go_sem, ↓reduceIte, Nat.reduceAdd, Nat.reduceMul, Nat.reduceEqDiff, Nat.reduceLeDiff, reduceCtorEq, Int.reduceToNat]; rfl) (fun hc => ?_) (fun hc => ?_)
  rotate_left
  ·simp at hc
  refine AW.rT (by rfl) fun K hK => ?_
  simp -implicitDefEqProofs only [go_sem, ↓reduceIte, Nat.reduceAdd, Nat.reduceMul, Nat.reduceEqDiff, Nat.reduceLeDiff, reduceCtorEq, Int.reduceToNat]
  refine hK _ ?_; clear hK K
  refine AW.ret ?_
  simp -implicitDefEqProofs only [go_sem, ↓reduceIte, Nat.reduceAdd, Nat.reduceMul, Nat.reduceEqDiff, Nat.reduceLeDiff, reduceCtorEq, Int.reduceToNat, e]
 have f2 : (s.tag > 500) = False := eq_false t2
 cases hb : stepB s (p.length : Int) with
 | false =>
  rw [hb] at ST
  have e : progB p = false := prog_no hxm (by rw [j4, so, hb, Bool.and_false]; rfl)
  refine AW.rT (by rfl) fun K hK => ?_
  simp -implicitDefEqProofs only [go_sem, ↓reduceIte, Nat.reduceAdd, Nat.reduceMul, Nat.reduceEqDiff, Nat.reduceLeDiff, reduceCtorEq, Int.reduceToNat, f1, f2, List.length_map]
  refine ⟨.pure _, ST, ?_⟩
  try simp -implicitDefEqProofs only [go_sem, ↓reduceIte, Nat.reduceAdd, Nat.reduceMul, Nat.reduceEqDiff, Nat.reduceLeDiff, reduceCtorEq, Int.reduceToNat]
  refine hK _ ?_; clear hK K
  refine AW.cond _ (by simp -implicitDefEqProofs only [go_sem, ↓reduceIte, Nat.reduceAdd, Nat.reduceMul, Nat.reduceEqDiff, Nat.reduceLeDiff, reduceCtorEq, Int.reduceToNat]; rfl) (fun hc => ?_) (fun hc => ?_)
  rotate_left
  ·simp at hc
  refine AW.rT (by rfl) fun K hK => ?_
  simp -implicitDefEqProofs only [go_sem, ↓reduceIte, Nat.reduceAdd, Nat.reduceMul, Nat.reduceEqDiff, Nat.reduceLeDiff, reduceCtorEq, Int.reduceToNat]
  refine hK _ ?_; clear hK K
  refine AW.ret ?_
  simp -implicitDefEqProofs only [go_sem, ↓reduceIte, Nat.reduceAdd, Nat.reduceMul, Nat.reduceEqDiff, Nat.reduceLeDiff, reduceCtorEq, Int.reduceToNat, e]
 | true =>
 rw [hb] at ST
 refine AW.rT (by rfl) fun K hK => ?_
 simp -implicitDefEqProofs only [go_sem, ↓reduceIte, Nat.reduceAdd, Nat.reduceMul, Nat.reduceEqDiff, Nat.reduceLeDiff, reduceCtorEq, Int.reduceToNat, f1, f2, List.length_map]
 refine ⟨.pure _, ST, ?_⟩
 try simp -implicitDefEqProofs only [go_sem, ↓reduceIte, Nat.reduceAdd, Nat.reduceMul, Nat.reduceEqDiff, Nat.reduceLeDiff, reduceCtorEq, Int.reduceToNat]
 refine hK _ ?_; clear hK K
 refine AW.cond _ (by simp -implicitDefEqProofs only [go_sem, ↓reduceIte, Nat.reduceAdd, Nat.reduceMul, Nat.reduceEqDiff, Nat.reduceLeDiff, reduceCtorEq, Int.reduceToNat]; rfl) (fun hc => ?_) (fun hc => ?_)
 ·simp at hc
 refine AW.skip ?_
 simp only [andThen, inBlk, reduceCtorEq, ↓reduceIte, if_t, if_f]
 refine AW.rE (by rfl) fun K hK => ?_
 simp -implicitDefEqProofs only [go_sem, ↓reduceIte, Nat.reduceAdd, Nat.reduceMul, Nat.reduceEqDiff, Nat.reduceLeDiff, reduceCtorEq, Int.reduceToNat]
 refine hK _ ?_; clear hK K
 refine AW.rE (by rfl) fun K hK => ?_
 simp -implicitDefEqProofs only [go_sem, ↓reduceIte, Nat.reduceAdd, Nat.reduceMul, Nat.reduceEqDiff, Nat.reduceLeDiff, reduceCtorEq, Int.reduceToNat, w2]
 refine hK _ ?_; clear hK K
 have en : (if j + 1 = 0 then (0 : Int) else (x[j + 1 - 1]?.map Stp.tag).getD 0) = s.tag := by
  rw [if_neg (by omega), Nat.add_sub_cancel, hs]
  rfl
 refine ⟨j + 1, ⟨by omega, by rw [en]; omega, by rw [en]; omega, by rw [en, j4, so, hb, decide_eq_true (by omega)]; rfl⟩, by omega, ?_⟩
 rw [en]
 refine Ghost.sub ?_ ?_ <;> simp -implicitDefEqProofs only [go_sem, ↓reduceIte, Nat.reduceAdd, Nat.reduceMul, Nat.reduceEqDiff, Nat.reduceLeDiff, reduceCtorEq, Int.reduceToNat,  List.forall_mem_cons, List.not_mem_nil, false_implies, implies_true, and_self, labsIn_lift, List.all_append, List.all_cons, List.all_nil, Nat.reduceLT, labsInL, AV.labsIn]
end Go.Aw
namespace Go.Aw
open Go.Proofs Go.RowKit
set_option linter.unusedSimpArgs false
set_option linter.unusedVariables false
theorem eq129 (x y : Pr) (w : World) : (Op.equalIn 10000 129 (.agg #[.string ⟨⟨x.o⟩⟩, .string ⟨⟨x.n⟩⟩]) (.agg #[.string ⟨⟨y.o⟩⟩, .string ⟨⟨y.n⟩⟩])).run Tryd.prog w = .ok (decide (x = y)) w := by
 have u3 := Tryd.underlying3
 have u9 := Tryd.underlying9
 have a3 := Tryd.isAgg3
 have a9 := Tryd.isAgg9
 have z3 := Tryd.sizeOf3
 have z9 := Tryd.sizeOf9
 have hS : Tryd.prog.underlying 129 = some (.struct (Tryd.prog.fieldsOf 129)) := by kernel_rfl
 have hp : Tryd.prog.stoodInHeld 129 = false := by kernel_rfl
 rw [show (10000 : Nat) = 9999 + 1 from rfl, run_equalIn_agg w 9999 129 _ _ hS hp]
 simp only [Program.fieldsOf, Tryd.underlying129]
 go_simp
 obtain ⟨a0, a1⟩ := x
 obtain ⟨b0, b1⟩ := y
 simp only [Pr.mk.injEq]
 by_cases h0 : a0 = b0 <;> by_cases h1 : a1 = b1 <;> simp [h0, h1]
theorem keyQ (a b : List UInt8) : KeyT Tryd.prog 129 (.agg [.str a, .str b]) := by
 refine key_pair Tryd.underlying129 (fun a b e w => ?_) (fun a b c d w => ?_) a b
 ·have u9 := Tryd.underlying9
  have u129 := Tryd.underlying129
  have a9 := Tryd.isAgg9
  have z9 := Tryd.sizeOf9
  have ck : ∀ (x : List UInt8) w, (Instr.checkKey e 9999 9 (.string ⟨⟨x⟩⟩)).run Tryd.prog w = .ok () w := fun x w => by
   rw [show (9999 : Nat) = 9998 + 1 from rfl]
   unfold Instr.checkKey
   go_simp
  rw [show (10000 : Nat) = 9999 + 1 from rfl]
  unfold Instr.checkKey
  go_simp
 ·have h := eq129 ⟨a, b⟩ ⟨c, d⟩ w
  simp only at h
  have e : decide ((⟨a, b⟩ : Pr) = ⟨c, d⟩) = (a == c && b == d) := by
   rw [Bool.eq_iff_iff]; simp
  rw [e] at h
  exact h
def mQ (l : List Pr) : List (PV × AV) := l.zipIdx.map fun x => (.agg [.str x.1.o, .str x.1.n], .p (.int .i64 (x.2 : Int)))
theorem key_pr (p : Pr) (a : Pr × Nat) : keyEq (.agg [.str p.o, .str p.n]) (.agg [.str a.1.o, .str a.1.n]) = some (p == a.1) := by
 simp only [keyEq]
 congr 1
 rw [Bool.eq_iff_iff]
 obtain ⟨a, k⟩ := a
 cases p; cases a
 simp
theorem mQ_no {l : List Pr} {p : Pr} (h : p ∉ l) : MapAt (mQ l) (.agg [.str p.o, .str p.n]) none :=
 mapAt_none (q := fun a : Pr × Nat => p == a.1) (key_pr p) (List.any_eq_false.2 fun x hx e => by
  obtain ⟨a, k⟩ := x
  have := List.mem_zipIdx hx
  refine h ?_
  rw [beq_iff_eq.1 e]
  rw [this.2.2]
  exact List.getElem_mem _)
theorem mQ_yes {l : List Pr} {p : Pr} (h : p ∈ l) : MapAt (mQ l) (.agg [.str p.o, .str p.n]) (some (placeP l p, .p (.int .i64 (placeP l p : Int)))) := by
 obtain ⟨h1, h2⟩ := place_yes h
 refine mapAt_some (l := l.zipIdx) (f := fun x => (.agg [.str x.1.o, .str x.1.n], .p (.int .i64 (x.2 : Int)))) (q := fun a : Pr × Nat => p == a.1) (key_pr p) (i := placeP l p) (a := (p, placeP l p)) ?_ (by simp) fun j b hj hb => ?_
 ·rw [List.getElem?_zipIdx, h2]
  simp
 ·rw [List.getElem?_zipIdx, Option.map_eq_some_iff] at hb
  obtain ⟨y, hy, rfl⟩ := hb
  have := List.not_of_lt_findIdx (p := fun x => x == p) (xs := l) (i := j) hj
  have jl : j < l.length := (List.getElem?_eq_some_iff.1 hy).1
  rw [List.getElem?_eq_getElem jl, Option.some.injEq] at hy
  rw [hy] at this
  simp only [beq_eq_false_iff_ne]
  intro e
  rw [← e] at this
  simp at this
theorem mQ_add (l : List Pr) (p : Pr) : mQ l ++ [(.agg [.str p.o, .str p.n], .p (.int .i64 (l.length : Int)))] = mQ (l ++ [p]) := by
 unfold mQ
 rw [List.zipIdx_append, List.map_append]
 simp
theorem mQ_ren (l : List Pr) (ρ : Nat → Nat) : (mQ l).map (fun e => (e.1, AV.ren ρ e.2)) = mQ l := by
 simp [mQ, AV.ren]
theorem mQ_labs (l : List Pr) (n : Nat) : (mQ l).all (fun e => AV.labsIn n e.2) = true := by
 simp [mQ, AV.labsIn]
attribute [go_sem] mQ_ren mQ_labs
def rowA (S U : Sc) (a b : Nat) : List AV := [.p (.str S.name), .p (.slice (S.msgs.map encMs)), .p (.slice (S.enums.map encEn)), .p (.slice (S.meths.map encMt)), .p (.str U.name), .p (.slice (U.msgs.map encMs)), .p (.slice (U.enums.map encEn)), .p (.slice (U.meths.map encMt)), .own a, .map b]
def memA (S U : Sc) (l : List Pr) (r a b : Nat) : List (Nat × Blk) := [(r, .row 10 [rowA S U a b]), (a, .row 2 (liftE (l.map encPr))), (b, .map (mQ l))]
theorem partEnd {S U : Sc} {l0 l : List Pr} {b : Int} {rs : Array ResultVar} {args : List AV} {s : St} (ha : args[0]? = some (.ptr 0 0 0)) (hs : s.T 0 = some (.ptr 0 0 0)) (h0 : s.H 0 = some (.row 10 [rowA S U 1 2])) (h1 : s.H 1 = some (.row 2 (liftE (l.map encPr)))) (h2 : s.H 2 = some (.map (mQ l))) (hr : resD Tryd.prog s rs.toList [.p (.int .i64 b)]) :
  EndD Tryd.prog rs args (memA S U l0 0 1 2) 3 [0] (.p (.int .i64 b)) (memA S U l 0 3 4) 2 [0] .ret s := by
 refine ⟨fun k => if k = 0 then 0 else k - 2, [.p (.int .i64 b)], hr, rfl, rfl, ?_, ?_, ?_⟩
 ·simp only [memA, rowA] at h0 ⊢
  simp -implicitDefEqProofs only [go_sem, ↓reduceIte, Nat.reduceAdd, Nat.reduceMul, Nat.reduceEqDiff, Nat.reduceLeDiff, reduceCtorEq, Int.reduceToNat, List.forall_mem_cons, List.not_mem_nil, false_implies, implies_true, and_self, Nat.reduceSub, h0, h1, h2]
  first | done | decide
 ·simp [memA]
 ·intro k hk'
  simp at hk'
  subst hk'
  exact ⟨by decide, .inl ⟨0, 0, 0, 10, _, _, by simp, ha, hs, rfl, rfl, rfl, by decide⟩⟩
def adZ9 (S U : Sc) (l : List Pr) (m : List (Nat × AV)) : St := ⟨ofL ((0, .ptr 0 0 0) :: m), ofH (memA S U l 0 1 2), 3⟩
set_option maxRecDepth 100000 in
set_option maxHeartbeats 4000000 in
theorem adapt_part (S U : Sc) (l : List Pr) (p : Pr) (hl : l.length ≤ 1000000) : DFn Tryd.prog 71 [.ptr 0 0 0, .p (.agg (encPr p))] (memA S U l 0 1 2) 3 [0] (.p (.int .i64 (placeP l p : Int))) (memA S U (addP l p) 0 3 4) 2 := by
 refine DFn.of [0] Tryd.func71 rfl (by decide) Tryd.ntmps71 Tryd.results71 (Nat.le_of_ble_eq_true rfl) (by simp) fun val => ?_
 simp only [avT, memA, rowA, encPr]
 refine AW.rT (by rfl) fun K hK => ?_
 simp -implicitDefEqProofs only [go_sem, ↓reduceIte, Nat.reduceAdd, Nat.reduceMul, Nat.reduceEqDiff, Nat.reduceLeDiff, reduceCtorEq, Int.reduceToNat]
 refine hK _ ?_; clear hK K
 by_cases hk : p ∈ l
 ·have hm := mQ_yes hk
  refine AW.dT mixed (by rfl) (by decide +kernel) fun K hK => ?_
  simp -implicitDefEqProofs only [go_sem, ↓reduceIte, Nat.reduceAdd, Nat.reduceMul, Nat.reduceEqDiff, Nat.reduceLeDiff, reduceCtorEq, Int.reduceToNat]
  refine ⟨keyQ p.o p.n, _, hm, _, rfl, ?_⟩
  try simp -implicitDefEqProofs only [go_sem, ↓reduceIte, Nat.reduceAdd, Nat.reduceMul, Nat.reduceEqDiff, Nat.reduceLeDiff, reduceCtorEq, Int.reduceToNat]
  refine ⟨heapOK_nil rfl, ?_⟩
  refine hK _ ?_; clear hK K
  have e : addP l p = l := by unfold addP; rw [if_pos (List.contains_iff_mem.2 hk)]
  refine AW.seq ?_
  refine AW.rT (by rfl) fun K hK => ?_
  simp -implicitDefEqProofs only [go_sem, ↓reduceIte, Nat.reduceAdd, Nat.reduceMul, Nat.reduceEqDiff, Nat.reduceLeDiff, reduceCtorEq, Int.reduceToNat]
  refine hK _ ?_; clear hK K
  refine AW.cond _ (by simp -implicitDefEqProofs only [go_sem, ↓reduceIte, Nat.reduceAdd, Nat.reduceMul, Nat.reduceEqDiff, Nat.reduceLeDiff, reduceCtorEq, Int.reduceToNat]; rfl) (fun hc => ?_) (fun hc => ?_)
  ·simp at hc
  refine AW.skip ?_
  simp only [andThen, inBlk, reduceCtorEq, ↓reduceIte, if_t, if_f]
  refine AW.rT (by rfl) fun K hK => ?_
  simp -implicitDefEqProofs only [go_sem, ↓reduceIte, Nat.reduceAdd, Nat.reduceMul, Nat.reduceEqDiff, Nat.reduceLeDiff, reduceCtorEq, Int.reduceToNat]
  refine hK _ ?_; clear hK K
  rw [e]
  refine AW.ret (partEnd rfl ?_ ?_ ?_ ?_ ⟨?_, trivial⟩) <;> simp -implicitDefEqProofs only [go_sem, ↓reduceIte, Nat.reduceAdd, Nat.reduceMul, Nat.reduceEqDiff, Nat.reduceLeDiff, reduceCtorEq, Int.reduceToNat, memA, rowA]
 ·have hm := mQ_no hk
  refine AW.dT mixed (by rfl) (by decide +kernel) fun K hK => ?_
  simp -implicitDefEqProofs only [go_sem, ↓reduceIte, Nat.reduceAdd, Nat.reduceMul, Nat.reduceEqDiff, Nat.reduceLeDiff, reduceCtorEq, Int.reduceToNat]
  refine ⟨keyQ p.o p.n, _, hm, _, rfl, ?_⟩
  try simp -implicitDefEqProofs only [go_sem, ↓reduceIte, Nat.reduceAdd, Nat.reduceMul, Nat.reduceEqDiff, Nat.reduceLeDiff, reduceCtorEq, Int.reduceToNat]
  refine ⟨heapOK_nil rfl, ?_⟩
  refine hK _ ?_; clear hK K
  have e : addP l p = l ++ [p] := by unfold addP; rw [if_neg fun h => hk (List.contains_iff_mem.1 h)]
  have eP : placeP l p = l.length := place_no hk
  refine AW.seq ?_
  refine AW.rT (by rfl) fun K hK => ?_
  simp -implicitDefEqProofs only [go_sem, ↓reduceIte, Nat.reduceAdd, Nat.reduceMul, Nat.reduceEqDiff, Nat.reduceLeDiff, reduceCtorEq, Int.reduceToNat]
  refine hK _ ?_; clear hK K
  refine AW.cond _ (by simp -implicitDefEqProofs only [go_sem, ↓reduceIte, Nat.reduceAdd, Nat.reduceMul, Nat.reduceEqDiff, Nat.reduceLeDiff, reduceCtorEq, Int.reduceToNat]; rfl) (fun hc => ?_) (fun hc => ?_)
  rotate_left
  ·simp at hc
  refine AW.rT (by rfl) fun K hK => ?_
  simp -implicitDefEqProofs only [go_sem, ↓reduceIte, Nat.reduceAdd, Nat.reduceMul, Nat.reduceEqDiff, Nat.reduceLeDiff, reduceCtorEq, Int.reduceToNat, liftE_length, List.length_map]
  refine hK _ ?_; clear hK K
  refine AW.dT mixed (by rfl) (by decide +kernel) fun K hK => ?_
  simp -implicitDefEqProofs only [go_sem, ↓reduceIte, Nat.reduceAdd, Nat.reduceMul, Nat.reduceEqDiff, Nat.reduceLeDiff, reduceCtorEq, Int.reduceToNat]
  refine ⟨keyQ p.o p.n, _, hm, ?_⟩
  try simp -implicitDefEqProofs only [go_sem, ↓reduceIte, Nat.reduceAdd, Nat.reduceMul, Nat.reduceEqDiff, Nat.reduceLeDiff, reduceCtorEq, Int.reduceToNat]
  refine ⟨by decide +kernel, ?_⟩
  refine hK _ ?_; clear hK K
  refine AW.dE mixed (by rfl) (by decide +kernel) fun K hK => ?_
  simp -implicitDefEqProofs only [go_sem, ↓reduceIte, Nat.reduceAdd, Nat.reduceMul, Nat.reduceEqDiff, Nat.reduceLeDiff, reduceCtorEq, Int.reduceToNat]
  refine ⟨⟨by simp, by simp [oneAll, AV.one, PV.one], by simp⟩, by simp [liftE_length]; omega, ?_⟩
  try simp -implicitDefEqProofs only [go_sem, ↓reduceIte, Nat.reduceAdd, Nat.reduceMul, Nat.reduceEqDiff, Nat.reduceLeDiff, reduceCtorEq, Int.reduceToNat]
  refine ⟨by decide +kernel, ?_⟩
  refine hK _ ?_; clear hK K
  rw [mQ_add]
  simp only [andThen, inBlk, reduceCtorEq, ↓reduceIte, if_t, if_f]
  refine AW.ghost (s' := adZ9 S U (l ++ [p]) [(5, .p (.int .i64 (l.length : Int)))]) ?_ ?_
  ·simp only [adZ9, memA, rowA]
   refine Ghost.ent (fun l => if l = 1 then 38 else l) ?_ ?_ ?_ <;> simp -implicitDefEqProofs only [go_sem, ↓reduceIte, Nat.reduceAdd, Nat.reduceMul, Nat.reduceEqDiff, Nat.reduceLeDiff, reduceCtorEq, Int.reduceToNat, encPr, List.map_append, liftE_append, List.map_cons, List.map_nil, liftE_cons, liftE_nil, List.forall_mem_cons, List.not_mem_nil, false_implies, implies_true, and_self, map_renL_lift, labsIn_lift, List.all_append, List.all_cons, List.all_nil, List.map_append, Nat.reduceLT, labsInL, AV.labsIn]
   all_goals first | rfl | decide | skip
  rw [e, eP]
  simp only [adZ9, memA, rowA]
  refine AW.rT (by rfl) fun K hK => ?_
  simp -implicitDefEqProofs only [go_sem, ↓reduceIte, Nat.reduceAdd, Nat.reduceMul, Nat.reduceEqDiff, Nat.reduceLeDiff, reduceCtorEq, Int.reduceToNat]
  refine hK _ ?_; clear hK K
  refine AW.ret (partEnd rfl ?_ ?_ ?_ ?_ ⟨?_, trivial⟩) <;> simp -implicitDefEqProofs only [go_sem, ↓reduceIte, Nat.reduceAdd, Nat.reduceMul, Nat.reduceEqDiff, Nat.reduceLeDiff, reduceCtorEq, Int.reduceToNat, memA, rowA]
end Go.Aw
namespace Go.Aw
open Go.Proofs Go.RowKit
set_option linter.unusedSimpArgs false
set_option linter.unusedVariables false
def stepA (mo mn : Ms) (t : Int) (l : List Pr) : Stp × Bool := ((stepO mo mn t l).getD ⟨0, 0, 0⟩, (stepO mo mn t l).isSome)
theorem stepEnd {S U : Sc} {l0 l : List Pr} {b : Stp × Bool} {rs : Array ResultVar} {args : List AV} {s : St} (ha : args[0]? = some (.ptr 0 0 0)) (hs : s.T 0 = some (.ptr 0 0 0)) (h0 : s.H 0 = some (.row 10 [rowA S U 1 2])) (h1 : s.H 1 = some (.row 2 (liftE (l.map encPr)))) (h2 : s.H 2 = some (.map (mQ l))) (hr : resD Tryd.prog s rs.toList [.p (.agg (encSt b.1)), .p (.bool b.2)]) :
  EndD Tryd.prog rs args (memA S U l0 0 1 2) 3 [0] (.tuple [.p (.agg (encSt b.1)), .p (.bool b.2)]) (memA S U l 0 3 4) 2 [0] .ret s := by
 refine ⟨fun k => if k = 0 then 0 else k - 2, [.p (.agg (encSt b.1)), .p (.bool b.2)], hr, rfl, rfl, ?_, ?_, ?_⟩
 ·simp only [memA, rowA] at h0 ⊢
  simp -implicitDefEqProofs only [go_sem, ↓reduceIte, Nat.reduceAdd, Nat.reduceMul, Nat.reduceEqDiff, Nat.reduceLeDiff, reduceCtorEq, Int.reduceToNat, List.forall_mem_cons, List.not_mem_nil, false_implies, implies_true, and_self, Nat.reduceSub, h0, h1, h2]
  first | done | decide
 ·simp [memA]
 ·intro k hk'
  simp at hk'
  subst hk'
  exact ⟨by decide, .inl ⟨0, 0, 0, 10, _, _, by simp, ha, hs, rfl, rfl, rfl, by decide⟩⟩
def adR (S U : Sc) (l : List Pr) (o n : Fd) (s : Stp) (m : List (Nat × AV)) : St := ⟨ofL ((0, .ptr 0 0 0) :: (8, .ptr 3 0 0) :: (10, .ptr 4 0 0) :: (12, .ptr 5 0 0) :: (14, .ptr 6 0 0) :: m), ofH (memA S U l 0 1 2 ++ [(3, .row 3 [[.p (.int .i64 0), .p (.int .i64 0), .p (.int .i64 0)]]), (4, .row 5 [[.p (.str o.name), .p (.int .i64 o.tag), .p (.int .i64 o.label), .p (.int .i64 o.ty.kind), .p (.str o.ty.name)]]), (5, .row 5 [[.p (.str n.name), .p (.int .i64 n.tag), .p (.int .i64 n.label), .p (.int .i64 n.ty.kind), .p (.str n.ty.name)]]), (6, .row 3 [[.p (.int .i64 s.op), .p (.int .i64 s.tag), .p (.int .i64 s.sub)]])]), 7⟩
theorem mQ_by {p : Nat → Bool} (l : List Pr) : (Blk.map (mQ l)).labsBy p = true := by
 simp [Blk.labsBy, mQ, AV.labsBy]
set_option maxRecDepth 100000 in
set_option maxHeartbeats 4000000 in
theorem adapt_tag (S U : Sc) (mo mn : Ms) (t : Int) (l : List Pr) (hl : l.length ≤ 1000000) (ho : mo.fields.length ≤ 1000000) (hn : mn.fields.length ≤ 1000000) :
  DFn Tryd.prog 72 [.ptr 0 0 0, .p (.agg (encMs mo)), .p (.agg (encMs mn)), .p (.int .i64 t)] (memA S U l 0 1 2) 3 [0] (.tuple [.p (.agg (encSt (stepA mo mn t l).1)), .p (.bool (stepA mo mn t l).2)]) (memA S U (stepLs mo mn t l) 0 3 4) 2 := by
 refine DFn.of [0] Tryd.func72 rfl (by decide) Tryd.ntmps72 Tryd.results72 (Nat.le_of_ble_eq_true rfl) (by simp) fun val => ?_
 have F1 := check_Field mo t ho
 have F2 := check_Field mn t hn
 have e1 : firstP (fun x => x.tag == t) zFd mo.fields = fOf mo t := rfl
 have e2 : firstP (fun x => x.tag == t) zFd mn.fields = fOf mn t := rfl
 rw [e1] at F1
 rw [e2] at F2
 simp only [encMs, encFd] at F1 F2
 simp only [avT, encMs]
 refine AW.rT (by rfl) fun K hK => ?_
 simp -implicitDefEqProofs only [go_sem, ↓reduceIte, Nat.reduceAdd, Nat.reduceMul, Nat.reduceEqDiff, Nat.reduceLeDiff, reduceCtorEq, Int.reduceToNat, memA, rowA]
 refine hK _ ?_; clear hK K
 refine AW.rT (by rfl) fun K hK => ?_
 simp -implicitDefEqProofs only [go_sem, ↓reduceIte, Nat.reduceAdd, Nat.reduceMul, Nat.reduceEqDiff, Nat.reduceLeDiff, reduceCtorEq, Int.reduceToNat, memA, rowA]
 refine ⟨.pure _, F1, ?_⟩
 try simp -implicitDefEqProofs only [go_sem, ↓reduceIte, Nat.reduceAdd, Nat.reduceMul, Nat.reduceEqDiff, Nat.reduceLeDiff, reduceCtorEq, Int.reduceToNat]
 refine hK _ ?_; clear hK K
 refine AW.rT (by rfl) fun K hK => ?_
 simp -implicitDefEqProofs only [go_sem, ↓reduceIte, Nat.reduceAdd, Nat.reduceMul, Nat.reduceEqDiff, Nat.reduceLeDiff, reduceCtorEq, Int.reduceToNat]
 refine ⟨.pure _, F2, ?_⟩
 try simp -implicitDefEqProofs only [go_sem, ↓reduceIte, Nat.reduceAdd, Nat.reduceMul, Nat.reduceEqDiff, Nat.reduceLeDiff, reduceCtorEq, Int.reduceToNat]
 refine hK _ ?_; clear hK K
 refine AW.rT (by rfl) fun K hK => ?_
 simp -implicitDefEqProofs only [go_sem, ↓reduceIte, Nat.reduceAdd, Nat.reduceMul, Nat.reduceEqDiff, Nat.reduceLeDiff, reduceCtorEq, Int.reduceToNat]
 refine hK _ ?_; clear hK K
 refine AW.seq ?_
 refine AW.dT mixed (by rfl) (by decide +kernel) fun K hK => ?_
 simp -implicitDefEqProofs only [go_sem, ↓reduceIte, Nat.reduceAdd, Nat.reduceMul, Nat.reduceEqDiff, Nat.reduceLeDiff, reduceCtorEq, Int.reduceToNat]
 refine ⟨heapOK_nil rfl, ?_⟩
 refine hK _ ?_; clear hK K
 refine AW.ghost (s' := adR S U l (fOf mo t).1 (fOf mn t).1 ⟨1, t, 0⟩ [(11, .p (.bool (fOf mo t).2)), (13, .p (.bool (fOf mn t).2)), (15, .p (.int .i64 (fOf mo t).1.ty.kind)), (16, .p (.int .i64 (fOf mn t).1.ty.kind))]) ?_ ?_
 ·simp only [adR, memA, rowA, List.cons_append, List.nil_append]
  refine Ghost.ent (fun l => if l = 3 then 5 else if l = 4 then 13 else if l = 5 then 22 else if l = 6 then 27 else l) ?_ ?_ ?_ <;> simp -implicitDefEqProofs only [go_sem, ↓reduceIte, Nat.reduceAdd, Nat.reduceMul, Nat.reduceEqDiff, Nat.reduceLeDiff, reduceCtorEq, Int.reduceToNat,  List.forall_mem_cons, List.not_mem_nil, false_implies, implies_true, and_self, map_renL_lift, labsIn_lift, List.all_append, List.all_cons, List.all_nil, List.map_append, Nat.reduceLT, labsInL, AV.labsIn]
  all_goals first | rfl | decide | skip
 refine AW.block ?_
 have no : ¬ ((fOf mo t).2 = true ∧ (fOf mn t).2 = true ∧ (fOf mo t).1.label = (fOf mn t).1.label) → stepA mo mn t l = (⟨0, 0, 0⟩, false) ∧ stepLs mo mn t l = l := fun h => by
  have e : stepO mo mn t l = none := by unfold stepO; rw [if_neg h]
  have i : intoB mo mn t = false := by
   rw [Bool.eq_false_iff]
   intro q
   have := intoB_spec q
   exact h ⟨this.1, this.2.1, this.2.2.1⟩
  unfold stepA stepLs
  rw [e, i]
  exact ⟨rfl, rfl⟩
 simp only [adR, memA, rowA, List.cons_append, List.nil_append]
 cases hf : (fOf mo t).2 with
 | false =>
  obtain ⟨n1, n2⟩ := no (by rw [hf]; simp)
  refine AW.rT (by rfl) fun K hK => ?_
  simp -implicitDefEqProofs only [go_sem, ↓reduceIte, Nat.reduceAdd, Nat.reduceMul, Nat.reduceEqDiff, Nat.reduceLeDiff, reduceCtorEq, Int.reduceToNat, hf]
  refine hK _ ?_; clear hK K
  refine AW.cond _ (by simp -implicitDefEqProofs only [go_sem, ↓reduceIte, Nat.reduceAdd, Nat.reduceMul, Nat.reduceEqDiff, Nat.reduceLeDiff, reduceCtorEq, Int.reduceToNat]; rfl) (fun hc => ?_) (fun hc => ?_)
  rotate_left
  ·simp at hc
  refine AW.rT (by rfl) fun K hK => ?_
  simp -implicitDefEqProofs only [go_sem, ↓reduceIte, Nat.reduceAdd, Nat.reduceMul, Nat.reduceEqDiff, Nat.reduceLeDiff, reduceCtorEq, Int.reduceToNat]
  refine hK _ ?_; clear hK K
  rw [n1, n2]
  refine AW.ret (stepEnd rfl ?_ ?_ ?_ ?_ ⟨?_, ?_, trivial⟩) <;> simp -implicitDefEqProofs only [go_sem, ↓reduceIte, Nat.reduceAdd, Nat.reduceMul, Nat.reduceEqDiff, Nat.reduceLeDiff, reduceCtorEq, Int.reduceToNat, memA, rowA, encSt]
 | true =>
 cases hg : (fOf mn t).2 with
 | false =>
  obtain ⟨n1, n2⟩ := no (by rw [hg]; simp)
  refine AW.rT (by rfl) fun K hK => ?_
  simp -implicitDefEqProofs only [go_sem, ↓reduceIte, Nat.reduceAdd, Nat.reduceMul, Nat.reduceEqDiff, Nat.reduceLeDiff, reduceCtorEq, Int.reduceToNat, hf, hg]
  refine hK _ ?_; clear hK K
  refine AW.cond _ (by simp -implicitDefEqProofs only [go_sem, ↓reduceIte, Nat.reduceAdd, Nat.reduceMul, Nat.reduceEqDiff, Nat.reduceLeDiff, reduceCtorEq, Int.reduceToNat]; rfl) (fun hc => ?_) (fun hc => ?_)
  rotate_left
  ·simp at hc
  refine AW.rT (by rfl) fun K hK => ?_
  simp -implicitDefEqProofs only [go_sem, ↓reduceIte, Nat.reduceAdd, Nat.reduceMul, Nat.reduceEqDiff, Nat.reduceLeDiff, reduceCtorEq, Int.reduceToNat]
  refine hK _ ?_; clear hK K
  rw [n1, n2]
  refine AW.ret (stepEnd rfl ?_ ?_ ?_ ?_ ⟨?_, ?_, trivial⟩) <;> simp -implicitDefEqProofs only [go_sem, ↓reduceIte, Nat.reduceAdd, Nat.reduceMul, Nat.reduceEqDiff, Nat.reduceLeDiff, reduceCtorEq, Int.reduceToNat, memA, rowA, encSt]
 | true =>
 by_cases hlb : (fOf mo t).1.label = (fOf mn t).1.label
 case neg =>
  obtain ⟨n1, n2⟩ := no (fun h => hlb h.2.2)
  have f1 : ((fOf mo t).1.label != (fOf mn t).1.label) = true := by simp [hlb]
  refine AW.rT (by rfl) fun K hK => ?_
  simp -implicitDefEqProofs only [go_sem, ↓reduceIte, Nat.reduceAdd, Nat.reduceMul, Nat.reduceEqDiff, Nat.reduceLeDiff, reduceCtorEq, Int.reduceToNat, hf, hg, f1]
  refine hK _ ?_; clear hK K
  refine AW.cond _ (by simp -implicitDefEqProofs only [go_sem, ↓reduceIte, Nat.reduceAdd, Nat.reduceMul, Nat.reduceEqDiff, Nat.reduceLeDiff, reduceCtorEq, Int.reduceToNat]; rfl) (fun hc => ?_) (fun hc => ?_)
  rotate_left
  ·simp at hc
  refine AW.rT (by rfl) fun K hK => ?_
  simp -implicitDefEqProofs only [go_sem, ↓reduceIte, Nat.reduceAdd, Nat.reduceMul, Nat.reduceEqDiff, Nat.reduceLeDiff, reduceCtorEq, Int.reduceToNat]
  refine hK _ ?_; clear hK K
  rw [n1, n2]
  refine AW.ret (stepEnd rfl ?_ ?_ ?_ ?_ ⟨?_, ?_, trivial⟩) <;> simp -implicitDefEqProofs only [go_sem, ↓reduceIte, Nat.reduceAdd, Nat.reduceMul, Nat.reduceEqDiff, Nat.reduceLeDiff, reduceCtorEq, Int.reduceToNat, memA, rowA, encSt]
 have f1 : ((fOf mo t).1.label != (fOf mn t).1.label) = false := by simp [hlb]
 have cc : (fOf mo t).2 = true ∧ (fOf mn t).2 = true ∧ (fOf mo t).1.label = (fOf mn t).1.label := ⟨hf, hg, hlb⟩
 refine AW.rT (by rfl) fun K hK => ?_
 simp -implicitDefEqProofs only [go_sem, ↓reduceIte, Nat.reduceAdd, Nat.reduceMul, Nat.reduceEqDiff, Nat.reduceLeDiff, reduceCtorEq, Int.reduceToNat, hf, hg, f1]
 refine hK _ ?_; clear hK K
 refine AW.cond _ (by simp -implicitDefEqProofs only [go_sem, ↓reduceIte, Nat.reduceAdd, Nat.reduceMul, Nat.reduceEqDiff, Nat.reduceLeDiff, reduceCtorEq, Int.reduceToNat]; rfl) (fun hc => ?_) (fun hc => ?_)
 ·simp at hc
 by_cases k7 : (fOf mo t).1.ty.kind = 7 ∧ (fOf mn t).1.ty.kind = 7
 ·have q1 : ((fOf mo t).1.ty.kind == 7) = true := by simp [k7.1]
  have q2 : ((fOf mn t).1.ty.kind == 7) = true := by simp [k7.2]
  have eO : stepO mo mn t l = some ⟨if (fOf mo t).1.label = 1 then 4 else 3, t, placeP l (pairO mo mn t)⟩ := by unfold stepO; rw [if_pos cc, if_pos k7]
  have eI : stepLs mo mn t l = addP l (pairO mo mn t) := by
   unfold stepLs intoB
   rw [if_pos (by simp [hf, hg, hlb, k7.1, k7.2])]
  have eA : stepA mo mn t l = (⟨if (fOf mo t).1.label = 1 then 4 else 3, t, placeP l (pairO mo mn t)⟩, true) := by unfold stepA; rw [eO]; rfl
  have AP := adapt_part S U l (pairO mo mn t) hl
  rw [eA, eI]
  generalize addP l (pairO mo mn t) = l' at *
  generalize placeP l (pairO mo mn t) = pl at *
  simp only [pairO, encPr] at AP
  refine AW.rT (by rfl) fun K hK => ?_
  simp -implicitDefEqProofs only [go_sem, ↓reduceIte, Nat.reduceAdd, Nat.reduceMul, Nat.reduceEqDiff, Nat.reduceLeDiff, reduceCtorEq, Int.reduceToNat, q1, q2]
  refine hK _ ?_; clear hK K
  refine AW.cond _ (by simp -implicitDefEqProofs only [go_sem, ↓reduceIte, Nat.reduceAdd, Nat.reduceMul, Nat.reduceEqDiff, Nat.reduceLeDiff, reduceCtorEq, Int.reduceToNat]; rfl) (fun hc => ?_) (fun hc => ?_)
  rotate_left
  ·simp at hc
  refine AW.rR (SeqR.ev 8 (by rfl) (by decide) ?_)
  simp -implicitDefEqProofs only [go_sem, ↓reduceIte, Nat.reduceAdd, Nat.reduceMul, Nat.reduceEqDiff, Nat.reduceLeDiff, reduceCtorEq, Int.reduceToNat]
  refine SeqR.call (fun k => k) rfl rfl AP ⟨?_, rfl, ?_, rfl, rfl, rfl, rfl, rfl, ?_⟩ ?_
  ·simp -implicitDefEqProofs only [go_sem, ↓reduceIte, Nat.reduceAdd, Nat.reduceMul, Nat.reduceEqDiff, Nat.reduceLeDiff, reduceCtorEq, Int.reduceToNat, argD]
  ·simp only [memA, rowA]
   simp -implicitDefEqProofs only [go_sem, ↓reduceIte, Nat.reduceAdd, Nat.reduceMul, Nat.reduceEqDiff, Nat.reduceLeDiff, reduceCtorEq, Int.reduceToNat, List.forall_mem_cons, List.not_mem_nil, false_implies, implies_true, and_self]
   first | done | decide
  ·simp only [memA, rowA, List.all_cons, List.all_nil, labsBy_lift, mQ_by]
   rfl
  refine SeqR.ghost (s' := adR S U l' (fOf mo t).1 (fOf mn t).1 ⟨1, t, 0⟩ [(67, .p (.int .i64 (pl : Int)))]) ?_ ?_
  ·simp only [adR, memA, rowA, List.cons_append, List.nil_append]
   refine Ghost.ent (fun k => if k = 1 then 36 else if k = 2 then 37 else k) ?_ ?_ ?_ <;> simp -implicitDefEqProofs only [go_sem, ↓reduceIte, Nat.reduceAdd, Nat.reduceMul, Nat.reduceEqDiff, Nat.reduceLeDiff, reduceCtorEq, Int.reduceToNat, lift2, goneU, newU, Nat.reduceSub, List.forall_mem_cons, List.not_mem_nil, false_implies, implies_true, and_self, map_renL_lift, labsIn_lift, List.all_append, List.all_cons, List.all_nil, List.map_append, Nat.reduceLT, labsInL, AV.labsIn]
   all_goals first | rfl | decide | skip
  simp only [adR, memA, rowA, List.cons_append, List.nil_append]
  refine SeqR.ev 4 (by rfl) (by decide) ?_
  simp -implicitDefEqProofs only [go_sem, ↓reduceIte, Nat.reduceAdd, Nat.reduceMul, Nat.reduceEqDiff, Nat.reduceLeDiff, reduceCtorEq, Int.reduceToNat]
  refine SeqR.last rfl ?_
  by_cases lb1 : (fOf mo t).1.label = 1
  ·have b1 : ((fOf mo t).1.label == 1) = true := by simp [lb1]
   rw [if_pos lb1]
   refine AW.rT (by rfl) fun K hK => ?_
   simp -implicitDefEqProofs only [go_sem, ↓reduceIte, Nat.reduceAdd, Nat.reduceMul, Nat.reduceEqDiff, Nat.reduceLeDiff, reduceCtorEq, Int.reduceToNat, b1]
   refine hK _ ?_; clear hK K
   refine AW.cond _ (by simp -implicitDefEqProofs only [go_sem, ↓reduceIte, Nat.reduceAdd, Nat.reduceMul, Nat.reduceEqDiff, Nat.reduceLeDiff, reduceCtorEq, Int.reduceToNat]; rfl) (fun hc => ?_) (fun hc => ?_)
   rotate_left
   ·simp at hc
   refine AW.rE (by rfl) fun K hK => ?_
   simp -implicitDefEqProofs only [go_sem, ↓reduceIte, Nat.reduceAdd, Nat.reduceMul, Nat.reduceEqDiff, Nat.reduceLeDiff, reduceCtorEq, Int.reduceToNat]
   refine hK _ ?_; clear hK K
   simp only [andThen, inBlk, reduceCtorEq, ↓reduceIte, if_t, if_f]
   refine AW.rT (by rfl) fun K hK => ?_
   simp -implicitDefEqProofs only [go_sem, ↓reduceIte, Nat.reduceAdd, Nat.reduceMul, Nat.reduceEqDiff, Nat.reduceLeDiff, reduceCtorEq, Int.reduceToNat]
   refine hK _ ?_; clear hK K
   refine AW.ret (stepEnd (b := (⟨4, t, pl⟩, true)) rfl ?_ ?_ ?_ ?_ ⟨?_, ?_, trivial⟩) <;> simp -implicitDefEqProofs only [go_sem, ↓reduceIte, Nat.reduceAdd, Nat.reduceMul, Nat.reduceEqDiff, Nat.reduceLeDiff, reduceCtorEq, Int.reduceToNat, memA, rowA, encSt]
  ·have b1 : ((fOf mo t).1.label == 1) = false := beq_eq_false_iff_ne.2 lb1
   rw [if_neg lb1]
   refine AW.rT (by rfl) fun K hK => ?_
   simp -implicitDefEqProofs only [go_sem, ↓reduceIte, Nat.reduceAdd, Nat.reduceMul, Nat.reduceEqDiff, Nat.reduceLeDiff, reduceCtorEq, Int.reduceToNat, b1]
   refine hK _ ?_; clear hK K
   refine AW.cond _ (by simp -implicitDefEqProofs only [go_sem, ↓reduceIte, Nat.reduceAdd, Nat.reduceMul, Nat.reduceEqDiff, Nat.reduceLeDiff, reduceCtorEq, Int.reduceToNat]; rfl) (fun hc => ?_) (fun hc => ?_)
   ·simp at hc
   refine AW.skip ?_
   simp only [andThen, inBlk, reduceCtorEq, ↓reduceIte, if_t, if_f]
   refine AW.rT (by rfl) fun K hK => ?_
   simp -implicitDefEqProofs only [go_sem, ↓reduceIte, Nat.reduceAdd, Nat.reduceMul, Nat.reduceEqDiff, Nat.reduceLeDiff, reduceCtorEq, Int.reduceToNat]
   refine hK _ ?_; clear hK K
   refine AW.ret (stepEnd (b := (⟨3, t, pl⟩, true)) rfl ?_ ?_ ?_ ?_ ⟨?_, ?_, trivial⟩) <;> simp -implicitDefEqProofs only [go_sem, ↓reduceIte, Nat.reduceAdd, Nat.reduceMul, Nat.reduceEqDiff, Nat.reduceLeDiff, reduceCtorEq, Int.reduceToNat, memA, rowA, encSt]
 have eI : stepLs mo mn t l = l := by
  unfold stepLs
  rw [if_neg]
  intro h
  exact k7 ⟨(intoB_spec h).2.2.2.1, (intoB_spec h).2.2.2.2⟩
 rw [eI]
 refine AW.cut (fun _ : Unit => adR S U l (fOf mo t).1 (fOf mn t).1 ⟨1, t, 0⟩ [(15, .p (.int .i64 (fOf mo t).1.ty.kind)), (16, .p (.int .i64 (fOf mn t).1.ty.kind)), (52, .p (.bool false))]) (fun _ => True) ?_ fun _ _ => ?_
 ·cases x1 : ((fOf mo t).1.ty.kind == 7) with
  | false =>
   refine AW.rE (by rfl) fun K hK => ?_
   simp -implicitDefEqProofs only [go_sem, ↓reduceIte, Nat.reduceAdd, Nat.reduceMul, Nat.reduceEqDiff, Nat.reduceLeDiff, reduceCtorEq, Int.reduceToNat, x1]
   refine hK _ ?_; clear hK K
   refine ⟨(), trivial, ?_⟩
   show Ghost _ _ (adR _ _ _ _ _ _ _)
   simp only [adR, memA, rowA, List.cons_append, List.nil_append]
   refine Ghost.sub ?_ ?_ <;> simp -implicitDefEqProofs only [go_sem, ↓reduceIte, Nat.reduceAdd, Nat.reduceMul, Nat.reduceEqDiff, Nat.reduceLeDiff, reduceCtorEq, Int.reduceToNat,  List.forall_mem_cons, List.not_mem_nil, false_implies, implies_true, and_self, labsIn_lift, List.all_append, List.all_cons, List.all_nil, Nat.reduceLT, labsInL, AV.labsIn]
   all_goals first | rfl | decide | skip
  | true =>
   have x2 : ((fOf mn t).1.ty.kind == 7) = false := by
    rw [beq_eq_false_iff_ne]
    exact fun h => k7 ⟨beq_iff_eq.1 x1, h⟩
   refine AW.rE (by rfl) fun K hK => ?_
   simp -implicitDefEqProofs only [go_sem, ↓reduceIte, Nat.reduceAdd, Nat.reduceMul, Nat.reduceEqDiff, Nat.reduceLeDiff, reduceCtorEq, Int.reduceToNat, x1, x2]
   refine hK _ ?_; clear hK K
   refine ⟨(), trivial, ?_⟩
   show Ghost _ _ (adR _ _ _ _ _ _ _)
   simp only [adR, memA, rowA, List.cons_append, List.nil_append]
   refine Ghost.sub ?_ ?_ <;> simp -implicitDefEqProofs only [go_sem, ↓reduceIte, Nat.reduceAdd, Nat.reduceMul, Nat.reduceEqDiff, Nat.reduceLeDiff, reduceCtorEq, Int.reduceToNat,  List.forall_mem_cons, List.not_mem_nil, false_implies, implies_true, and_self, labsIn_lift, List.all_append, List.all_cons, List.all_nil, Nat.reduceLT, labsInL, AV.labsIn]
   all_goals first | rfl | decide | skip
 simp only [adR, memA, rowA, List.cons_append, List.nil_append]
 refine AW.cond _ (by simp -implicitDefEqProofs only [go_sem, ↓reduceIte, Nat.reduceAdd, Nat.reduceMul, Nat.reduceEqDiff, Nat.reduceLeDiff, reduceCtorEq, Int.reduceToNat]; rfl) (fun hc => ?_) (fun hc => ?_)
 ·simp at hc
 by_cases k2 : (fOf mo t).1.ty.kind = 2 ∧ (fOf mn t).1.ty.kind = 1
 ·have q1 : ((fOf mo t).1.ty.kind == 2) = true := by simp [k2.1]
  have q2 : ((fOf mn t).1.ty.kind == 1) = true := by simp [k2.2]
  have eA : stepA mo mn t l = (⟨2, t, 0⟩, true) := by unfold stepA stepO; rw [if_pos cc, if_neg k7, if_pos k2]; rfl
  rw [eA]
  refine AW.rT (by rfl) fun K hK => ?_
  simp -implicitDefEqProofs only [go_sem, ↓reduceIte, Nat.reduceAdd, Nat.reduceMul, Nat.reduceEqDiff, Nat.reduceLeDiff, reduceCtorEq, Int.reduceToNat, q1, q2]
  refine hK _ ?_; clear hK K
  refine AW.cond _ (by simp -implicitDefEqProofs only [go_sem, ↓reduceIte, Nat.reduceAdd, Nat.reduceMul, Nat.reduceEqDiff, Nat.reduceLeDiff, reduceCtorEq, Int.reduceToNat]; rfl) (fun hc => ?_) (fun hc => ?_)
  rotate_left
  ·simp at hc
  refine AW.rE (by rfl) fun K hK => ?_
  simp -implicitDefEqProofs only [go_sem, ↓reduceIte, Nat.reduceAdd, Nat.reduceMul, Nat.reduceEqDiff, Nat.reduceLeDiff, reduceCtorEq, Int.reduceToNat]
  refine hK _ ?_; clear hK K
  simp only [andThen, inBlk, reduceCtorEq, ↓reduceIte, if_t, if_f]
  refine AW.rT (by rfl) fun K hK => ?_
  simp -implicitDefEqProofs only [go_sem, ↓reduceIte, Nat.reduceAdd, Nat.reduceMul, Nat.reduceEqDiff, Nat.reduceLeDiff, reduceCtorEq, Int.reduceToNat]
  refine hK _ ?_; clear hK K
  refine AW.ret (stepEnd (b := (⟨2, t, 0⟩, true)) rfl ?_ ?_ ?_ ?_ ⟨?_, ?_, trivial⟩) <;> simp -implicitDefEqProofs only [go_sem, ↓reduceIte, Nat.reduceAdd, Nat.reduceMul, Nat.reduceEqDiff, Nat.reduceLeDiff, reduceCtorEq, Int.reduceToNat, memA, rowA, encSt]
 refine AW.cut (fun _ : Unit => adR S U l (fOf mo t).1 (fOf mn t).1 ⟨1, t, 0⟩ [(15, .p (.int .i64 (fOf mo t).1.ty.kind)), (16, .p (.int .i64 (fOf mn t).1.ty.kind)), (74, .p (.bool false))]) (fun _ => True) ?_ fun _ _ => ?_
 ·cases x1 : ((fOf mo t).1.ty.kind == 2) with
  | false =>
   refine AW.rE (by rfl) fun K hK => ?_
   simp -implicitDefEqProofs only [go_sem, ↓reduceIte, Nat.reduceAdd, Nat.reduceMul, Nat.reduceEqDiff, Nat.reduceLeDiff, reduceCtorEq, Int.reduceToNat, x1]
   refine hK _ ?_; clear hK K
   refine ⟨(), trivial, ?_⟩
   show Ghost _ _ (adR _ _ _ _ _ _ _)
   simp only [adR, memA, rowA, List.cons_append, List.nil_append]
   refine Ghost.sub ?_ ?_ <;> simp -implicitDefEqProofs only [go_sem, ↓reduceIte, Nat.reduceAdd, Nat.reduceMul, Nat.reduceEqDiff, Nat.reduceLeDiff, reduceCtorEq, Int.reduceToNat,  List.forall_mem_cons, List.not_mem_nil, false_implies, implies_true, and_self, labsIn_lift, List.all_append, List.all_cons, List.all_nil, Nat.reduceLT, labsInL, AV.labsIn]
   all_goals first | rfl | decide | skip
  | true =>
   have x2 : ((fOf mn t).1.ty.kind == 1) = false := by
    rw [beq_eq_false_iff_ne]
    exact fun h => k2 ⟨beq_iff_eq.1 x1, h⟩
   refine AW.rE (by rfl) fun K hK => ?_
   simp -implicitDefEqProofs only [go_sem, ↓reduceIte, Nat.reduceAdd, Nat.reduceMul, Nat.reduceEqDiff, Nat.reduceLeDiff, reduceCtorEq, Int.reduceToNat, x1, x2]
   refine hK _ ?_; clear hK K
   refine ⟨(), trivial, ?_⟩
   show Ghost _ _ (adR _ _ _ _ _ _ _)
   simp only [adR, memA, rowA, List.cons_append, List.nil_append]
   refine Ghost.sub ?_ ?_ <;> simp -implicitDefEqProofs only [go_sem, ↓reduceIte, Nat.reduceAdd, Nat.reduceMul, Nat.reduceEqDiff, Nat.reduceLeDiff, reduceCtorEq, Int.reduceToNat,  List.forall_mem_cons, List.not_mem_nil, false_implies, implies_true, and_self, labsIn_lift, List.all_append, List.all_cons, List.all_nil, Nat.reduceLT, labsInL, AV.labsIn]
   all_goals first | rfl | decide | skip
 simp only [adR, memA, rowA, List.cons_append, List.nil_append]
 refine AW.cond _ (by simp -implicitDefEqProofs only [go_sem, ↓reduceIte, Nat.reduceAdd, Nat.reduceMul, Nat.reduceEqDiff, Nat.reduceLeDiff, reduceCtorEq, Int.reduceToNat]; rfl) (fun hc => ?_) (fun hc => ?_)
 ·simp at hc
 by_cases k1 : (fOf mo t).1.ty.kind = (fOf mn t).1.ty.kind ∨ (fOf mo t).1.ty.kind = 1 ∧ (fOf mn t).1.ty.kind = 2
 ·have eA : stepA mo mn t l = (⟨1, t, 0⟩, true) := by unfold stepA stepO; rw [if_pos cc, if_neg k7, if_neg k2, if_pos k1]; rfl
  rw [eA]
  refine AW.cut (fun _ : Unit => adR S U l (fOf mo t).1 (fOf mn t).1 ⟨1, t, 0⟩ [(15, .p (.int .i64 (fOf mo t).1.ty.kind)), (16, .p (.int .i64 (fOf mn t).1.ty.kind)), (82, .p (.bool false))]) (fun _ => True) ?_ fun _ _ => ?_
  ·by_cases x0 : (fOf mo t).1.ty.kind = (fOf mn t).1.ty.kind
   ·have x1 : ((fOf mo t).1.ty.kind != (fOf mn t).1.ty.kind) = false := by simp [x0]
    refine AW.rE (by rfl) fun K hK => ?_
    simp -implicitDefEqProofs only [go_sem, ↓reduceIte, Nat.reduceAdd, Nat.reduceMul, Nat.reduceEqDiff, Nat.reduceLeDiff, reduceCtorEq, Int.reduceToNat, x1]
    refine hK _ ?_; clear hK K
    refine ⟨(), trivial, ?_⟩
    show Ghost _ _ (adR _ _ _ _ _ _ _)
    simp only [adR, memA, rowA, List.cons_append, List.nil_append]
    refine Ghost.sub ?_ ?_ <;> simp -implicitDefEqProofs only [go_sem, ↓reduceIte, Nat.reduceAdd, Nat.reduceMul, Nat.reduceEqDiff, Nat.reduceLeDiff, reduceCtorEq, Int.reduceToNat,  List.forall_mem_cons, List.not_mem_nil, false_implies, implies_true, and_self, labsIn_lift, List.all_append, List.all_cons, List.all_nil, Nat.reduceLT, labsInL, AV.labsIn]
    all_goals first | rfl | decide | skip
   ·have x1 : ((fOf mo t).1.ty.kind != (fOf mn t).1.ty.kind) = true := by simp [x0]
    have x4 : (fOf mo t).1.ty.kind = 1 ∧ (fOf mn t).1.ty.kind = 2 := by rcases k1 with h | h; exact absurd h x0; exact h
    have x2 : ((fOf mo t).1.ty.kind != 1) = false := by simp [x4.1]
    have x3 : ((fOf mn t).1.ty.kind != 2) = false := by simp [x4.2]
    refine AW.rE (by rfl) fun K hK => ?_
    simp -implicitDefEqProofs only [go_sem, ↓reduceIte, Nat.reduceAdd, Nat.reduceMul, Nat.reduceEqDiff, Nat.reduceLeDiff, reduceCtorEq, Int.reduceToNat, x1, x2, x3]
    refine hK _ ?_; clear hK K
    refine ⟨(), trivial, ?_⟩
    show Ghost _ _ (adR _ _ _ _ _ _ _)
    simp only [adR, memA, rowA, List.cons_append, List.nil_append]
    refine Ghost.sub ?_ ?_ <;> simp -implicitDefEqProofs only [go_sem, ↓reduceIte, Nat.reduceAdd, Nat.reduceMul, Nat.reduceEqDiff, Nat.reduceLeDiff, reduceCtorEq, Int.reduceToNat,  List.forall_mem_cons, List.not_mem_nil, false_implies, implies_true, and_self, labsIn_lift, List.all_append, List.all_cons, List.all_nil, Nat.reduceLT, labsInL, AV.labsIn]
    all_goals first | rfl | decide | skip
  simp only [adR, memA, rowA, List.cons_append, List.nil_append]
  refine AW.cond _ (by simp -implicitDefEqProofs only [go_sem, ↓reduceIte, Nat.reduceAdd, Nat.reduceMul, Nat.reduceEqDiff, Nat.reduceLeDiff, reduceCtorEq, Int.reduceToNat]; rfl) (fun hc => ?_) (fun hc => ?_)
  ·simp at hc
  refine AW.skip ?_
  simp only [andThen, inBlk, reduceCtorEq, ↓reduceIte, if_t, if_f]
  refine AW.rT (by rfl) fun K hK => ?_
  simp -implicitDefEqProofs only [go_sem, ↓reduceIte, Nat.reduceAdd, Nat.reduceMul, Nat.reduceEqDiff, Nat.reduceLeDiff, reduceCtorEq, Int.reduceToNat]
  refine hK _ ?_; clear hK K
  refine AW.ret (stepEnd (b := (⟨1, t, 0⟩, true)) rfl ?_ ?_ ?_ ?_ ⟨?_, ?_, trivial⟩) <;> simp -implicitDefEqProofs only [go_sem, ↓reduceIte, Nat.reduceAdd, Nat.reduceMul, Nat.reduceEqDiff, Nat.reduceLeDiff, reduceCtorEq, Int.reduceToNat, memA, rowA, encSt]
 have eA : stepA mo mn t l = (⟨0, 0, 0⟩, false) := by unfold stepA stepO; rw [if_pos cc, if_neg k7, if_neg k2, if_neg k1]; rfl
 rw [eA]
 refine AW.cut (fun _ : Unit => adR S U l (fOf mo t).1 (fOf mn t).1 ⟨1, t, 0⟩ [(15, .p (.int .i64 (fOf mo t).1.ty.kind)), (16, .p (.int .i64 (fOf mn t).1.ty.kind)), (82, .p (.bool true))]) (fun _ => True) ?_ fun _ _ => ?_
 ·have x1 : ((fOf mo t).1.ty.kind != (fOf mn t).1.ty.kind) = true := by simp; exact fun h => k1 (.inl h)
  cases x2 : ((fOf mo t).1.ty.kind != 1) with
  | true =>
   refine AW.rE (by rfl) fun K hK => ?_
   simp -implicitDefEqProofs only [go_sem, ↓reduceIte, Nat.reduceAdd, Nat.reduceMul, Nat.reduceEqDiff, Nat.reduceLeDiff, reduceCtorEq, Int.reduceToNat, x1, x2]
   refine hK _ ?_; clear hK K
   refine ⟨(), trivial, ?_⟩
   show Ghost _ _ (adR _ _ _ _ _ _ _)
   simp only [adR, memA, rowA, List.cons_append, List.nil_append]
   refine Ghost.sub ?_ ?_ <;> simp -implicitDefEqProofs only [go_sem, ↓reduceIte, Nat.reduceAdd, Nat.reduceMul, Nat.reduceEqDiff, Nat.reduceLeDiff, reduceCtorEq, Int.reduceToNat,  List.forall_mem_cons, List.not_mem_nil, false_implies, implies_true, and_self, labsIn_lift, List.all_append, List.all_cons, List.all_nil, Nat.reduceLT, labsInL, AV.labsIn]
   all_goals first | rfl | decide | skip
  | false =>
   have x3 : ((fOf mn t).1.ty.kind != 2) = true := by
    rw [bne_iff_ne]
    exact fun h => k1 (.inr ⟨by simpa using x2, h⟩)
   refine AW.rE (by rfl) fun K hK => ?_
   simp -implicitDefEqProofs only [go_sem, ↓reduceIte, Nat.reduceAdd, Nat.reduceMul, Nat.reduceEqDiff, Nat.reduceLeDiff, reduceCtorEq, Int.reduceToNat, x1, x2, x3]
   refine hK _ ?_; clear hK K
   refine ⟨(), trivial, ?_⟩
   show Ghost _ _ (adR _ _ _ _ _ _ _)
   simp only [adR, memA, rowA, List.cons_append, List.nil_append]
   refine Ghost.sub ?_ ?_ <;> simp -implicitDefEqProofs only [go_sem, ↓reduceIte, Nat.reduceAdd, Nat.reduceMul, Nat.reduceEqDiff, Nat.reduceLeDiff, reduceCtorEq, Int.reduceToNat,  List.forall_mem_cons, List.not_mem_nil, false_implies, implies_true, and_self, labsIn_lift, List.all_append, List.all_cons, List.all_nil, Nat.reduceLT, labsInL, AV.labsIn]
   all_goals first | rfl | decide | skip
 simp only [adR, memA, rowA, List.cons_append, List.nil_append]
 refine AW.cond _ (by simp -implicitDefEqProofs only [go_sem, ↓reduceIte, Nat.reduceAdd, Nat.reduceMul, Nat.reduceEqDiff, Nat.reduceLeDiff, reduceCtorEq, Int.reduceToNat]; rfl) (fun hc => ?_) (fun hc => ?_)
 rotate_left
 ·simp at hc
 refine AW.rT (by rfl) fun K hK => ?_
 simp -implicitDefEqProofs only [go_sem, ↓reduceIte, Nat.reduceAdd, Nat.reduceMul, Nat.reduceEqDiff, Nat.reduceLeDiff, reduceCtorEq, Int.reduceToNat]
 refine hK _ ?_; clear hK K
 refine AW.ret (stepEnd (b := (⟨0, 0, 0⟩, false)) rfl ?_ ?_ ?_ ?_ ⟨?_, ?_, trivial⟩) <;> simp -implicitDefEqProofs only [go_sem, ↓reduceIte, Nat.reduceAdd, Nat.reduceMul, Nat.reduceEqDiff, Nat.reduceLeDiff, reduceCtorEq, Int.reduceToNat, memA, rowA, encSt]
end Go.Aw
namespace Go.Aw
open Go.Proofs Go.RowKit
set_option linter.unusedSimpArgs false
set_option linter.unusedVariables false
end Go.Aw
namespace Go.Aw
open Go.Proofs Go.RowKit
set_option linter.unusedSimpArgs false
set_option linter.unusedVariables false
end Go.Aw
namespace Go.Aw
open Go.Proofs Go.RowKit
set_option linter.unusedSimpArgs false
set_option linter.unusedVariables false
def mkM (S U : Sc) (l : List Pr) (ps : List (List Stp)) : List (Nat × Blk) := (0, .row 4 [cellsSc S]) :: (1, .row 4 [cellsSc U]) :: (2, .row 1 [[.ex []]]) :: memA S U l 3 4 5 ++ [(6, .row 1 [[.own 7]]), (7, .row 1 (liftE (ps.map encPt)))]
def mkT (m : List (Nat × AV)) : List (Nat × AV) := (4, .ptr 0 0 0) :: (5, .ptr 1 0 0) :: (8, .ptr 2 0 0) :: (14, .ptr 3 0 0) :: (15, .ptr 6 0 0) :: m
theorem memA_by {p : Nat → Bool} {S U : Sc} {l : List Pr} {r a b : Nat} (h1 : p a = true) (h2 : p b = true) : (memA S U l r a b).all (fun x => x.2.labsBy p) = true := by
 simp only [memA, rowA, List.all_cons, List.all_nil, labsBy_lift, mQ_by, Bool.and_true]
 simp [Blk.labsBy, labsByL, AV.labsBy, h1, h2]
def mk0 (S U : Sc) (l : List Pr) (m : List (Nat × AV)) : St := ⟨ofL ((4, .ptr 0 0 0) :: (5, .ptr 1 0 0) :: (8, .ptr 2 0 0) :: (14, .ptr 3 0 0) :: m), ofH ((0, .row 4 [cellsSc S]) :: (1, .row 4 [cellsSc U]) :: (2, .row 1 [[.ex []]]) :: memA S U l 3 4 5), 6⟩
def mkS (S U : Sc) (l : List Pr) (ps : List (List Stp)) (m : List (Nat × AV)) : St := ⟨ofL (mkT m), ofH (mkM S U l ps), 8⟩
def mkI (S U : Sc) (mo mn : Ms) (l : List Pr) (ps : List (List Stp)) (st : List Stp) (i : Nat) (m : List (Nat × AV)) : St := ⟨ofL (mkT ((16, .p (.int .i64 (i : Int))) :: (17, .ptr 8 0 0) :: (19, .ptr 9 0 0) :: (21, .own 10) :: m)), ofH (mkM S U l ps ++ [(8, .row 3 [cellsMs mo]), (9, .row 3 [cellsMs mn]), (10, .row 3 (liftE (st.map encSt)))]), 11⟩
def mkJ (S U : Sc) (mo mn : Ms) (l : List Pr) (ps : List (List Stp)) (st : List Stp) (i n : Nat) (s : Stp) (b : Bool) : St := ⟨ofL (mkT [(16, .p (.int .i64 (i : Int))), (17, .ptr 8 0 0), (19, .ptr 9 0 0), (21, .own 10), (22, .p (.int .i64 (n : Int))), (23, .ptr 11 0 0), (24, .p (.bool b))]), ofH (mkM S U l ps ++ [(8, .row 3 [cellsMs mo]), (9, .row 3 [cellsMs mn]), (10, .row 3 (liftE (st.map encSt))), (11, .row 3 [[.p (.int .i64 s.op), .p (.int .i64 s.tag), .p (.int .i64 s.sub)]])]), 12⟩
set_option maxRecDepth 100000 in
set_option maxHeartbeats 4000000 in
theorem adapt_Make (S U : Sc) (LS : LensS S) (LU : LensS U) (a b : List UInt8) : PFn Tryd.prog 49 [.agg (encSc S), .agg (encSc U), .str a, .str b] (.tuple [.agg [.slice ((makeR S U a b).1.map encPt)], .int .i64 (makeR S U a b).2]) := by
 refine PFn.of Tryd.func49 rfl (by decide) Tryd.ntmps49 Tryd.results49 (Nat.le_of_ble_eq_true rfl) ?_
 have C1 := check_Check S LS
 have C2 := check_Check U LU
 simp only [encSc] at C1 C2
 simp only [argsT, encSc]
 refine AW.rT (by rfl) fun K hK => ?_
 simp -implicitDefEqProofs only [go_sem, ↓reduceIte, Nat.reduceAdd, Nat.reduceMul, Nat.reduceEqDiff, Nat.reduceLeDiff, reduceCtorEq, Int.reduceToNat]
 refine hK _ ?_; clear hK K
 refine AW.seq ?_
 by_cases hS : checkC S = 0
 case neg =>
  have f1 : (checkC S != 0) = true := by simp [hS]
  have e : makeR S U a b = ([], 1) := by unfold makeR; rw [if_neg (fun h => hS h.1)]
  refine AW.rT (by rfl) fun K hK => ?_
  simp -implicitDefEqProofs only [go_sem, ↓reduceIte, Nat.reduceAdd, Nat.reduceMul, Nat.reduceEqDiff, Nat.reduceLeDiff, reduceCtorEq, Int.reduceToNat]
  refine ⟨.pure _, C1, ?_⟩
  try simp -implicitDefEqProofs only [go_sem, ↓reduceIte, Nat.reduceAdd, Nat.reduceMul, Nat.reduceEqDiff, Nat.reduceLeDiff, reduceCtorEq, Int.reduceToNat, f1]
  refine hK _ ?_; clear hK K
  refine AW.cond _ (by simp -implicitDefEqProofs only [go_sem, ↓reduceIte, Nat.reduceAdd, Nat.reduceMul, Nat.reduceEqDiff, Nat.reduceLeDiff, reduceCtorEq, Int.reduceToNat]; rfl) (fun hc => ?_) (fun hc => ?_)
  rotate_left
  ·simp at hc
  refine AW.rT (by rfl) fun K hK => ?_
  simp -implicitDefEqProofs only [go_sem, ↓reduceIte, Nat.reduceAdd, Nat.reduceMul, Nat.reduceEqDiff, Nat.reduceLeDiff, reduceCtorEq, Int.reduceToNat]
  refine hK _ ?_; clear hK K
  refine AW.ret ?_
  simp -implicitDefEqProofs only [go_sem, ↓reduceIte, Nat.reduceAdd, Nat.reduceMul, Nat.reduceEqDiff, Nat.reduceLeDiff, reduceCtorEq, Int.reduceToNat, e, List.map_nil]
 have f1 : (checkC S != 0) = false := by simp [hS]
 by_cases hU : checkC U = 0
 case neg =>
  have f2 : (checkC U != 0) = true := by simp [hU]
  have e : makeR S U a b = ([], 1) := by unfold makeR; rw [if_neg (fun h => hU h.2)]
  refine AW.rT (by rfl) fun K hK => ?_
  simp -implicitDefEqProofs only [go_sem, ↓reduceIte, Nat.reduceAdd, Nat.reduceMul, Nat.reduceEqDiff, Nat.reduceLeDiff, reduceCtorEq, Int.reduceToNat]
  refine ⟨.pure _, C1, ?_⟩
  try simp -implicitDefEqProofs only [go_sem, ↓reduceIte, Nat.reduceAdd, Nat.reduceMul, Nat.reduceEqDiff, Nat.reduceLeDiff, reduceCtorEq, Int.reduceToNat, f1]
  refine ⟨.pure _, C2, ?_⟩
  try simp -implicitDefEqProofs only [go_sem, ↓reduceIte, Nat.reduceAdd, Nat.reduceMul, Nat.reduceEqDiff, Nat.reduceLeDiff, reduceCtorEq, Int.reduceToNat, f2]
  refine hK _ ?_; clear hK K
  refine AW.cond _ (by simp -implicitDefEqProofs only [go_sem, ↓reduceIte, Nat.reduceAdd, Nat.reduceMul, Nat.reduceEqDiff, Nat.reduceLeDiff, reduceCtorEq, Int.reduceToNat]; rfl) (fun hc => ?_) (fun hc => ?_)
  rotate_left
  ·simp at hc
  refine AW.rT (by rfl) fun K hK => ?_
  simp -implicitDefEqProofs only [go_sem, ↓reduceIte, Nat.reduceAdd, Nat.reduceMul, Nat.reduceEqDiff, Nat.reduceLeDiff, reduceCtorEq, Int.reduceToNat]
  refine hK _ ?_; clear hK K
  refine AW.ret ?_
  simp -implicitDefEqProofs only [go_sem, ↓reduceIte, Nat.reduceAdd, Nat.reduceMul, Nat.reduceEqDiff, Nat.reduceLeDiff, reduceCtorEq, Int.reduceToNat, e, List.map_nil]
 have f2 : (checkC U != 0) = false := by simp [hU]
 have RS := right_of hS
 have RU := right_of hU
 have FS := check_fit.1 hS
 have FU := check_fit.1 hU
 have M1 := check_Message S a (by have := RS.len; omega)
 have M2 := check_Message U b (by have := RU.len; omega)
 have e1 : firstP (fun x => x.name == a) zMs S.msgs = (msgOf S a, hasM S a) := rfl
 have e2 : firstP (fun x => x.name == b) zMs U.msgs = (msgOf U b, hasM U b) := rfl
 rw [e1] at M1
 rw [e2] at M2
 simp only [encSc, encMs] at M1 M2
 refine AW.rT (by rfl) fun K hK => ?_
 simp -implicitDefEqProofs only [go_sem, ↓reduceIte, Nat.reduceAdd, Nat.reduceMul, Nat.reduceEqDiff, Nat.reduceLeDiff, reduceCtorEq, Int.reduceToNat]
 refine ⟨.pure _, C1, ?_⟩
 try simp -implicitDefEqProofs only [go_sem, ↓reduceIte, Nat.reduceAdd, Nat.reduceMul, Nat.reduceEqDiff, Nat.reduceLeDiff, reduceCtorEq, Int.reduceToNat, f1]
 refine ⟨.pure _, C2, ?_⟩
 try simp -implicitDefEqProofs only [go_sem, ↓reduceIte, Nat.reduceAdd, Nat.reduceMul, Nat.reduceEqDiff, Nat.reduceLeDiff, reduceCtorEq, Int.reduceToNat, f2]
 refine hK _ ?_; clear hK K
 refine AW.cond _ (by simp -implicitDefEqProofs only [go_sem, ↓reduceIte, Nat.reduceAdd, Nat.reduceMul, Nat.reduceEqDiff, Nat.reduceLeDiff, reduceCtorEq, Int.reduceToNat]; rfl) (fun hc => ?_) (fun hc => ?_)
 ·simp at hc
 refine AW.skip ?_
 simp only [andThen, inBlk, reduceCtorEq, ↓reduceIte, if_t, if_f]
 clear C1 C2
 refine AW.rT (by rfl) fun K hK => ?_
 simp -implicitDefEqProofs only [go_sem, ↓reduceIte, Nat.reduceAdd, Nat.reduceMul, Nat.reduceEqDiff, Nat.reduceLeDiff, reduceCtorEq, Int.reduceToNat]
 refine ⟨.pure _, M1, ?_⟩
 try simp -implicitDefEqProofs only [go_sem, ↓reduceIte, Nat.reduceAdd, Nat.reduceMul, Nat.reduceEqDiff, Nat.reduceLeDiff, reduceCtorEq, Int.reduceToNat]
 refine hK _ ?_; clear hK K
 refine AW.rT (by rfl) fun K hK => ?_
 simp -implicitDefEqProofs only [go_sem, ↓reduceIte, Nat.reduceAdd, Nat.reduceMul, Nat.reduceEqDiff, Nat.reduceLeDiff, reduceCtorEq, Int.reduceToNat]
 refine ⟨.pure _, M2, ?_⟩
 try simp -implicitDefEqProofs only [go_sem, ↓reduceIte, Nat.reduceAdd, Nat.reduceMul, Nat.reduceEqDiff, Nat.reduceLeDiff, reduceCtorEq, Int.reduceToNat]
 refine hK _ ?_; clear hK K
 refine AW.seq ?_
 cases ha : hasM S a with
 | false =>
  have e : makeR S U a b = ([], 14) := by unfold makeR; rw [if_pos ⟨hS, hU⟩, if_neg (by rw [ha]; simp)]
  refine AW.rT (by rfl) fun K hK => ?_
  simp -implicitDefEqProofs only [go_sem, ↓reduceIte, Nat.reduceAdd, Nat.reduceMul, Nat.reduceEqDiff, Nat.reduceLeDiff, reduceCtorEq, Int.reduceToNat, ha]
  refine hK _ ?_; clear hK K
  refine AW.cond _ (by simp -implicitDefEqProofs only [go_sem, ↓reduceIte, Nat.reduceAdd, Nat.reduceMul, Nat.reduceEqDiff, Nat.reduceLeDiff, reduceCtorEq, Int.reduceToNat]; rfl) (fun hc => ?_) (fun hc => ?_)
  rotate_left
  ·simp at hc
  refine AW.rT (by rfl) fun K hK => ?_
  simp -implicitDefEqProofs only [go_sem, ↓reduceIte, Nat.reduceAdd, Nat.reduceMul, Nat.reduceEqDiff, Nat.reduceLeDiff, reduceCtorEq, Int.reduceToNat]
  refine hK _ ?_; clear hK K
  refine AW.ret ?_
  simp -implicitDefEqProofs only [go_sem, ↓reduceIte, Nat.reduceAdd, Nat.reduceMul, Nat.reduceEqDiff, Nat.reduceLeDiff, reduceCtorEq, Int.reduceToNat, e, List.map_nil]
 | true =>
 cases hb : hasM U b with
 | false =>
  have e : makeR S U a b = ([], 14) := by unfold makeR; rw [if_pos ⟨hS, hU⟩, if_neg (by rw [hb]; simp)]
  refine AW.rT (by rfl) fun K hK => ?_
  simp -implicitDefEqProofs only [go_sem, ↓reduceIte, Nat.reduceAdd, Nat.reduceMul, Nat.reduceEqDiff, Nat.reduceLeDiff, reduceCtorEq, Int.reduceToNat, ha, hb]
  refine hK _ ?_; clear hK K
  refine AW.cond _ (by simp -implicitDefEqProofs only [go_sem, ↓reduceIte, Nat.reduceAdd, Nat.reduceMul, Nat.reduceEqDiff, Nat.reduceLeDiff, reduceCtorEq, Int.reduceToNat]; rfl) (fun hc => ?_) (fun hc => ?_)
  rotate_left
  ·simp at hc
  refine AW.rT (by rfl) fun K hK => ?_
  simp -implicitDefEqProofs only [go_sem, ↓reduceIte, Nat.reduceAdd, Nat.reduceMul, Nat.reduceEqDiff, Nat.reduceLeDiff, reduceCtorEq, Int.reduceToNat]
  refine hK _ ?_; clear hK K
  refine AW.ret ?_
  simp -implicitDefEqProofs only [go_sem, ↓reduceIte, Nat.reduceAdd, Nat.reduceMul, Nat.reduceEqDiff, Nat.reduceLeDiff, reduceCtorEq, Int.reduceToNat, e, List.map_nil]
 | true =>
 have e : makeR S U a b = (makeP S U 101 0 [⟨a, b⟩], 0) := by unfold makeR; rw [if_pos ⟨hS, hU⟩, if_pos ⟨ha, hb⟩]
 refine AW.rT (by rfl) fun K hK => ?_
 simp -implicitDefEqProofs only [go_sem, ↓reduceIte, Nat.reduceAdd, Nat.reduceMul, Nat.reduceEqDiff, Nat.reduceLeDiff, reduceCtorEq, Int.reduceToNat, ha, hb]
 refine hK _ ?_; clear hK K
 refine AW.cond _ (by simp -implicitDefEqProofs only [go_sem, ↓reduceIte, Nat.reduceAdd, Nat.reduceMul, Nat.reduceEqDiff, Nat.reduceLeDiff, reduceCtorEq, Int.reduceToNat]; rfl) (fun hc => ?_) (fun hc => ?_)
 ·simp at hc
 refine AW.skip ?_
 simp only [andThen, inBlk, reduceCtorEq, ↓reduceIte, if_t, if_f]
 refine AW.rT (by rfl) fun K hK => ?_
 simp -implicitDefEqProofs only [go_sem, ↓reduceIte, Nat.reduceAdd, Nat.reduceMul, Nat.reduceEqDiff, Nat.reduceLeDiff, reduceCtorEq, Int.reduceToNat]
 refine hK _ ?_; clear hK K
 have AP := adapt_part S U [] ⟨a, b⟩ (by simp)
 have eP : addP [] ⟨a, b⟩ = [⟨a, b⟩] := rfl
 rw [eP] at AP
 simp only [encPr] at AP
 refine AW.ghost (s' := mk0 S U [] [(2, .p (.str a)), (3, .p (.str b))]) (Ghost.trans (Ghost.nilH (l := 40) (i := 0) (j := 8) (sz' := 2) rfl rfl rfl) ?_) ?_
 ·simp only [mk0, memA, rowA, cellsSc, List.map_nil, liftE_nil]
  refine Ghost.ent (fun l => if l = 3 then 40 else if l = 4 then 42 else if l = 5 then 38 else l) ?_ ?_ ?_ <;> simp -implicitDefEqProofs only [go_sem, ↓reduceIte, Nat.reduceAdd, Nat.reduceMul, Nat.reduceEqDiff, Nat.reduceLeDiff, reduceCtorEq, Int.reduceToNat, mQ, List.zipIdx_nil, List.forall_mem_cons, List.not_mem_nil, false_implies, implies_true, and_self, map_renL_lift, labsIn_lift, List.all_append, List.all_cons, List.all_nil, List.map_append, Nat.reduceLT, labsInL, AV.labsIn]
  all_goals first | rfl | decide | skip
 simp only [mk0, memA, rowA, cellsSc]
 refine AW.rR (SeqR.ev 4 (by rfl) (by decide) ?_)
 simp -implicitDefEqProofs only [go_sem, ↓reduceIte, Nat.reduceAdd, Nat.reduceMul, Nat.reduceEqDiff, Nat.reduceLeDiff, reduceCtorEq, Int.reduceToNat]
 refine SeqR.call (fun k => k + 3) rfl rfl AP ⟨?_, rfl, ?_, rfl, rfl, rfl, rfl, rfl, memA_by (r := 0) rfl rfl⟩ ?_
 ·simp -implicitDefEqProofs only [go_sem, ↓reduceIte, Nat.reduceAdd, Nat.reduceMul, Nat.reduceEqDiff, Nat.reduceLeDiff, reduceCtorEq, Int.reduceToNat, argD]
 ·simp only [memA, rowA]
  simp -implicitDefEqProofs only [go_sem, ↓reduceIte, Nat.reduceAdd, Nat.reduceMul, Nat.reduceEqDiff, Nat.reduceLeDiff, reduceCtorEq, Int.reduceToNat, List.forall_mem_cons, List.not_mem_nil, false_implies, implies_true, and_self]
  first | done | decide
 refine SeqR.last rfl ?_
 refine AW.ghost (s' := mk0 S U [⟨a, b⟩] []) ?_ ?_
 ·simp only [mk0, memA, rowA, cellsSc]
  refine Ghost.ent (fun l => if l = 4 then 10 else if l = 5 then 11 else l) ?_ ?_ ?_ <;> simp -implicitDefEqProofs only [go_sem, ↓reduceIte, Nat.reduceAdd, Nat.reduceMul, Nat.reduceEqDiff, Nat.reduceLeDiff, reduceCtorEq, Int.reduceToNat, lift2, goneU, newU, Nat.reduceSub, List.forall_mem_cons, List.not_mem_nil, false_implies, implies_true, and_self, map_renL_lift, labsIn_lift, List.all_append, List.all_cons, List.all_nil, List.map_append, Nat.reduceLT, labsInL, AV.labsIn]
  all_goals first | rfl | decide | skip
 simp only [mk0, memA, rowA, cellsSc]
 refine AW.rT (by rfl) fun K hK => ?_
 simp -implicitDefEqProofs only [go_sem, ↓reduceIte, Nat.reduceAdd, Nat.reduceMul, Nat.reduceEqDiff, Nat.reduceLeDiff, reduceCtorEq, Int.reduceToNat]
 refine hK _ ?_; clear hK K
 refine AW.ghost (s' := mkS S U [⟨a, b⟩] [] []) (Ghost.trans (Ghost.nilH (l := 6) (i := 0) (j := 0) (sz' := 1) rfl rfl rfl) ?_) ?_
 ·simp only [mkS, mkT, mkM, memA, rowA, cellsSc, List.map_nil, liftE_nil, List.cons_append, List.nil_append]
  refine Ghost.sub ?_ ?_ <;> simp -implicitDefEqProofs only [go_sem, ↓reduceIte, Nat.reduceAdd, Nat.reduceMul, Nat.reduceEqDiff, Nat.reduceLeDiff, reduceCtorEq, Int.reduceToNat, mQ_labs, List.forall_mem_cons, List.not_mem_nil, false_implies, implies_true, and_self, labsIn_lift, List.all_append, List.all_cons, List.all_nil, Nat.reduceLT, labsInL, AV.labsIn]
  all_goals first | rfl | decide | skip
 have ok0 : PairsOK S U [⟨a, b⟩] := ⟨fun p hp => by simp at hp; subst hp; exact ⟨ha, hb⟩, by simp⟩
 refine AW.cut (fun x : List Pr × List (List Stp) => mkS S U x.1 x.2 []) (fun x => x.2 = makeP S U 101 0 [⟨a, b⟩]) ?_ fun x hx => ?_
 rotate_left
 ·obtain ⟨l, ps⟩ := x
  simp only at hx
  refine AW.ghost (s' := ⟨ofL [(8, .ptr 2 0 0), (15, .ptr 6 0 0)], ofH [(2, .row 1 [[.ex []]]), (6, .row 1 [[.p (.slice (ps.map encPt))]])], 8⟩) (Ghost.trans (Ghost.freeze (lb := 7) (sz := 1) (ps := ps.map encPt) rfl (unlift_liftE _)) (Ghost.sub ?_ ?_)) ?_
  ·simp only [mkS, mkT]
   simp -implicitDefEqProofs only [go_sem, ↓reduceIte, Nat.reduceAdd, Nat.reduceMul, Nat.reduceEqDiff, Nat.reduceLeDiff, reduceCtorEq, Int.reduceToNat, List.forall_mem_cons, List.not_mem_nil, false_implies, implies_true, and_self, thaw, Option.map_some]
   first | done | decide | exact ⟨⟨rfl, rfl⟩, rfl, rfl⟩
  ·simp only [mkS, mkM, memA, rowA, cellsSc, List.cons_append, List.nil_append]
   simp -implicitDefEqProofs only [go_sem, ↓reduceIte, Nat.reduceAdd, Nat.reduceMul, Nat.reduceEqDiff, Nat.reduceLeDiff, reduceCtorEq, Int.reduceToNat, List.forall_mem_cons, List.not_mem_nil, false_implies, implies_true, and_self, thaw1, Option.map_some, List.map_cons, List.map_nil]
   first | done | decide
  refine AW.rT (by rfl) fun K hK => ?_
  simp -implicitDefEqProofs only [go_sem, ↓reduceIte, Nat.reduceAdd, Nat.reduceMul, Nat.reduceEqDiff, Nat.reduceLeDiff, reduceCtorEq, Int.reduceToNat]
  refine hK _ ?_; clear hK K
  rw [hx]
  refine AW.ret ?_
  simp -implicitDefEqProofs only [go_sem, ↓reduceIte, Nat.reduceAdd, Nat.reduceMul, Nat.reduceEqDiff, Nat.reduceLeDiff, reduceCtorEq, Int.reduceToNat, e]
 simp only [mkS, mkT, mkM, memA, rowA, cellsSc, List.cons_append, List.nil_append]
 refine AW.rT (by rfl) fun K hK => ?_
 simp -implicitDefEqProofs only [go_sem, ↓reduceIte, Nat.reduceAdd, Nat.reduceMul, Nat.reduceEqDiff, Nat.reduceLeDiff, reduceCtorEq, Int.reduceToNat]
 refine hK _ ?_; clear hK K
 refine AW.block ?_
 have y1 : [] ++ makeP S U (101 - 0) 0 [⟨a, b⟩] = makeP S U 101 0 [⟨a, b⟩] := by rw [Nat.sub_zero, List.nil_append]
 refine AW.loop (fun x : List Pr × List (List Stp) × Nat => mkS S U x.1 x.2.1 [(16, .p (.int .i64 (x.2.2 : Int)))]) (fun x => x.2.2 ≤ x.1.length ∧ x.2.1.length = x.2.2 ∧ x.2.1 ++ makeP S U (101 - x.2.2) x.2.2 x.1 = makeP S U 101 0 [⟨a, b⟩] ∧ PairsOK S U x.1) (fun x => 101 - x.2.2) ([⟨a, b⟩], [], 0) ?_ ⟨Nat.zero_le _, rfl, y1, ok0⟩ fun x hx => ?_
 ·simp only [mkS, mkT, mkM, memA, rowA, cellsSc, List.cons_append, List.nil_append]
  refine Ghost.sub ?_ ?_ <;> simp -implicitDefEqProofs only [go_sem, ↓reduceIte, Nat.reduceAdd, Nat.reduceMul, Nat.reduceEqDiff, Nat.reduceLeDiff, reduceCtorEq, Int.reduceToNat,  List.forall_mem_cons, List.not_mem_nil, false_implies, implies_true, and_self, labsIn_lift, List.all_append, List.all_cons, List.all_nil, Nat.reduceLT, labsInL, AV.labsIn]
  all_goals first | rfl | decide | skip
 clear M1 M2 e1 e2 AP ok0
 obtain ⟨l, ps, i⟩ := x
 obtain ⟨i1, i2, eE, okl⟩ := hx
 simp only at i1 i2 eE okl
 have hl100 := pairs_len okl RS.len.2.1 RU.len.2.1
 simp only [mkS, mkT, mkM, memA, rowA, cellsSc, List.cons_append, List.nil_append]
 refine AW.seq ?_
 by_cases hil : i < l.length
 case neg =>
  have hc1 : ((i : Int) < (l.length : Int)) = False := eq_false (by omega)
  have eN : makeP S U (101 - i) i l = [] := by
   rw [show 101 - i = (100 - i) + 1 by omega, makeP, List.getElem?_eq_none (by omega)]
  rw [eN, List.append_nil] at eE
  refine AW.rT (by rfl) fun K hK => ?_
  simp -implicitDefEqProofs only [go_sem, ↓reduceIte, Nat.reduceAdd, Nat.reduceMul, Nat.reduceEqDiff, Nat.reduceLeDiff, reduceCtorEq, Int.reduceToNat, hc1, liftE_length, List.length_map]
  refine hK _ ?_; clear hK K
  refine AW.cond _ (by simp -implicitDefEqProofs only [go_sem, ↓reduceIte, Nat.reduceAdd, Nat.reduceMul, Nat.reduceEqDiff, Nat.reduceLeDiff, reduceCtorEq, Int.reduceToNat]; rfl) (fun hc => ?_) (fun hc => ?_)
  ·simp at hc
  refine AW.exit ?_
  simp only [andThen, inBlk, reduceCtorEq, ↓reduceIte, if_t, if_f]
  refine ⟨(l, ps), eE, ?_⟩
  show Ghost _ _ (mkS S U l ps [])
  simp only [mkS, mkT, mkM, memA, rowA, cellsSc, List.cons_append, List.nil_append]
  refine Ghost.sub ?_ ?_ <;> simp -implicitDefEqProofs only [go_sem, ↓reduceIte, Nat.reduceAdd, Nat.reduceMul, Nat.reduceEqDiff, Nat.reduceLeDiff, reduceCtorEq, Int.reduceToNat,  List.forall_mem_cons, List.not_mem_nil, false_implies, implies_true, and_self, labsIn_lift, List.all_append, List.all_cons, List.all_nil, Nat.reduceLT, labsInL, AV.labsIn]
  all_goals first | rfl | decide | skip
 obtain ⟨p, hp⟩ : ∃ p, l[i]? = some p := ⟨_, List.getElem?_eq_getElem hil⟩
 have g1 := at_lift encPr hp
 have b0 : 0 ≤ (i : Int) := by omega
 have b1 : (i : Int) < (l.length : Int) := by omega
 have hc1 : ((i : Int) < (l.length : Int)) = True := eq_true (by omega)
 have w1 : IntKind.wrap .i64 ((i : Int) + 1) = ((i + 1 : Nat) : Int) := by rw [w64] <;> omega
 have hh := okl.here p (List.mem_of_getElem? hp)
 have hmo := (msgOf_mem hh.1).1
 have hmn := (msgOf_mem hh.2).1
 have M1 := check_Message S p.o (by have := RS.len; omega)
 have M2 := check_Message U p.n (by have := RU.len; omega)
 have e1 : firstP (fun x => x.name == p.o) zMs S.msgs = (msgOf S p.o, true) := by rw [← hh.1]; rfl
 have e2 : firstP (fun x => x.name == p.n) zMs U.msgs = (msgOf U p.n, true) := by rw [← hh.2]; rfl
 rw [e1] at M1
 rw [e2] at M2
 simp only [encSc, encMs] at M1 M2
 simp only [encPr, List.map_cons, List.map_nil] at g1
 have eN : makeP S U (101 - i) i l = (stepsP (msgOf S p.o) (msgOf U p.n) 500 1 l).1 :: makeP S U (100 - i) (i + 1) (stepsP (msgOf S p.o) (msgOf U p.n) 500 1 l).2 := by
  rw [show 101 - i = (100 - i) + 1 by omega, makeP, hp]
 rw [eN] at eE
 generalize hmo' : msgOf S p.o = mo at *
 generalize hmn' : msgOf U p.n = mn at *
 refine AW.rT (by rfl) fun K hK => ?_
 simp -implicitDefEqProofs only [go_sem, ↓reduceIte, Nat.reduceAdd, Nat.reduceMul, Nat.reduceEqDiff, Nat.reduceLeDiff, reduceCtorEq, Int.reduceToNat, hc1, liftE_length, List.length_map]
 refine hK _ ?_; clear hK K
 refine AW.cond _ (by simp -implicitDefEqProofs only [go_sem, ↓reduceIte, Nat.reduceAdd, Nat.reduceMul, Nat.reduceEqDiff, Nat.reduceLeDiff, reduceCtorEq, Int.reduceToNat]; rfl) (fun hc => ?_) (fun hc => ?_)
 rotate_left
 ·simp at hc
 refine AW.skip ?_
 simp only [andThen, inBlk, reduceCtorEq, ↓reduceIte, if_t, if_f]
 refine AW.seq ?_
 refine AW.block ?_
 refine AW.dT mixed (by rfl) (by decide +kernel) fun K hK => ?_
 simp -implicitDefEqProofs only [go_sem, ↓reduceIte, Nat.reduceAdd, Nat.reduceMul, Nat.reduceEqDiff, Nat.reduceLeDiff, reduceCtorEq, Int.reduceToNat, g1, b0, b1, liftE_length, List.length_map]
 refine ⟨.pure _, M1, ?_⟩
 try simp -implicitDefEqProofs only [go_sem, ↓reduceIte, Nat.reduceAdd, Nat.reduceMul, Nat.reduceEqDiff, Nat.reduceLeDiff, reduceCtorEq, Int.reduceToNat]
 refine ⟨by decide +kernel, ?_⟩
 refine hK _ ?_; clear hK K
 refine AW.dT mixed (by rfl) (by decide +kernel) fun K hK => ?_
 simp -implicitDefEqProofs only [go_sem, ↓reduceIte, Nat.reduceAdd, Nat.reduceMul, Nat.reduceEqDiff, Nat.reduceLeDiff, reduceCtorEq, Int.reduceToNat, g1, b0, b1, liftE_length, List.length_map]
 refine ⟨.pure _, M2, ?_⟩
 try simp -implicitDefEqProofs only [go_sem, ↓reduceIte, Nat.reduceAdd, Nat.reduceMul, Nat.reduceEqDiff, Nat.reduceLeDiff, reduceCtorEq, Int.reduceToNat]
 refine ⟨by decide +kernel, ?_⟩
 refine hK _ ?_; clear hK K
 refine AW.rT (by rfl) fun K hK => ?_
 simp -implicitDefEqProofs only [go_sem, ↓reduceIte, Nat.reduceAdd, Nat.reduceMul, Nat.reduceEqDiff, Nat.reduceLeDiff, reduceCtorEq, Int.reduceToNat]
 refine hK _ ?_; clear hK K
 refine AW.ghost (s' := mkI S U mo mn l ps [] i []) (Ghost.trans (Ghost.nil (t := 21) (sz := 3) rfl) ?_) ?_
 ·simp only [mkI, mkT, mkM, memA, rowA, cellsSc, cellsMs, List.map_nil, liftE_nil, List.cons_append, List.nil_append]
  refine Ghost.ent (fun l => if l = 8 then 28 else if l = 9 then 44 else if l = 10 then 48 else l) ?_ ?_ ?_ <;> simp -implicitDefEqProofs only [go_sem, ↓reduceIte, Nat.reduceAdd, Nat.reduceMul, Nat.reduceEqDiff, Nat.reduceLeDiff, reduceCtorEq, Int.reduceToNat,  List.forall_mem_cons, List.not_mem_nil, false_implies, implies_true, and_self, map_renL_lift, labsIn_lift, List.all_append, List.all_cons, List.all_nil, List.map_append, Nat.reduceLT, labsInL, AV.labsIn]
  all_goals first | rfl | decide | skip
 have SP : ∃ sp, sp = stepsP mo mn 500 1 l := ⟨_, rfl⟩
 obtain ⟨sp, hsp⟩ := SP
 rw [← hsp] at eE
 have okm : mo ∈ S.msgs ∧ mn ∈ U.msgs := ⟨hmo, hmn⟩
 refine AW.cut (fun x : List Pr × List Stp => mkI S U mo mn x.1 ps x.2 i []) (fun x => x.1 = sp.2 ∧ x.2 = sp.1 ∧ PairsOK S U x.1 ∧ i < x.1.length ∧ x.2.length ≤ 500) ?_ fun x hx => ?_
 rotate_left
 ·obtain ⟨l', st⟩ := x
  obtain ⟨h1, h2, okl', hil', hst⟩ := hx
  simp only at h1 h2 okl' hil' hst
  refine AW.ghost (s' := ⟨ofL (mkT [(16, .p (.int .i64 (i : Int))), (21, .p (.slice (st.map encSt)))]), ofH (mkM S U l' ps), 8⟩) ?_ ?_
  ·refine Ghost.trans (Ghost.freeze (lb := 10) (sz := 3) (ps := st.map encSt) ?_ (unlift_liftE _)) ?_
   ·simp only [mkI, mkM, memA, rowA, cellsSc, List.cons_append, List.nil_append]
    simp -implicitDefEqProofs only [go_sem, ↓reduceIte, Nat.reduceAdd, Nat.reduceMul, Nat.reduceEqDiff, Nat.reduceLeDiff, reduceCtorEq, Int.reduceToNat]
   ·simp only [mkI, mkT, mkM, memA, rowA, cellsSc, cellsMs, List.cons_append, List.nil_append]
    refine Ghost.sub ?_ ?_ <;> simp -implicitDefEqProofs only [go_sem, ↓reduceIte, Nat.reduceAdd, Nat.reduceMul, Nat.reduceEqDiff, Nat.reduceLeDiff, reduceCtorEq, Int.reduceToNat, thaw, thaw1, Option.map_some, List.map_cons, List.map_nil, thaw_lift, mQ_labs, List.forall_mem_cons, List.not_mem_nil, false_implies, implies_true, and_self, labsIn_lift, List.all_append, List.all_cons, List.all_nil, Nat.reduceLT, labsInL, AV.labsIn]
    all_goals first | rfl | decide | skip
  simp only [mkT, mkM, memA, rowA, cellsSc, List.cons_append, List.nil_append]
  have hl1 := pairs_len okl' RS.len.2.1 RU.len.2.1
  have cn0 : 101 - (i + 1) = 100 - i := by omega
  have m1 : 101 - (i + 1) < 101 - i := by omega
  refine AW.rE (by rfl) fun K hK => ?_
  simp -implicitDefEqProofs only [go_sem, ↓reduceIte, Nat.reduceAdd, Nat.reduceMul, Nat.reduceEqDiff, Nat.reduceLeDiff, reduceCtorEq, Int.reduceToNat]
  refine ⟨⟨by simp, by simp [oneAll, AV.one, PV.one], by simp⟩, by rw [liftE_length, List.length_map]; omega, ?_⟩
  try simp -implicitDefEqProofs only [go_sem, ↓reduceIte, Nat.reduceAdd, Nat.reduceMul, Nat.reduceEqDiff, Nat.reduceLeDiff, reduceCtorEq, Int.reduceToNat]
  refine hK _ ?_; clear hK K
  simp only [andThen, inBlk, reduceCtorEq, ↓reduceIte, if_t, if_f]
  refine AW.rE (by rfl) fun K hK => ?_
  simp -implicitDefEqProofs only [go_sem, ↓reduceIte, Nat.reduceAdd, Nat.reduceMul, Nat.reduceEqDiff, Nat.reduceLeDiff, reduceCtorEq, Int.reduceToNat, w1]
  refine hK _ ?_; clear hK K
  refine ⟨(l', ps ++ [st], i + 1), ⟨hil', by simp only [List.length_append, List.length_cons, List.length_nil]; omega, ?_, okl'⟩, m1, ?_⟩
  ·simp only [List.append_assoc, List.cons_append, List.nil_append]
   rw [cn0, h1, h2]
   exact eE
  ·show Ghost _ _ (mkS S U l' (ps ++ [st]) [(16, .p (.int .i64 ((i + 1 : Nat) : Int)))])
   simp only [mkS, mkT, mkM, memA, rowA, cellsSc, List.cons_append, List.nil_append]
   refine Ghost.ent (fun l => if l = 7 then 12 else l) ?_ ?_ ?_ <;> simp -implicitDefEqProofs only [go_sem, ↓reduceIte, Nat.reduceAdd, Nat.reduceMul, Nat.reduceEqDiff, Nat.reduceLeDiff, reduceCtorEq, Int.reduceToNat, encPt, List.map_append, liftE_append, List.map_cons, List.map_nil, liftE_cons, liftE_nil, List.forall_mem_cons, List.not_mem_nil, false_implies, implies_true, and_self, map_renL_lift, labsIn_lift, List.all_append, List.all_cons, List.all_nil, List.map_append, Nat.reduceLT, labsInL, AV.labsIn]
   all_goals first | rfl | decide | skip
 simp only [mkI, mkT, mkM, memA, rowA, cellsSc, cellsMs, List.cons_append, List.nil_append]
 refine AW.rT (by rfl) fun K hK => ?_
 simp -implicitDefEqProofs only [go_sem, ↓reduceIte, Nat.reduceAdd, Nat.reduceMul, Nat.reduceEqDiff, Nat.reduceLeDiff, reduceCtorEq, Int.reduceToNat]
 refine hK _ ?_; clear hK K
 refine AW.block ?_
 have z0 : (501 - 1 : Nat) = 500 := rfl
 have z00 : ((1 : Nat) : Int) = 1 := rfl
 have z1 : [] ++ (stepsP mo mn (501 - 1) ((1 : Nat) : Int) l).1 = sp.1 := by rw [z0, z00, List.nil_append, hsp]
 have z2 : (stepsP mo mn (501 - 1) ((1 : Nat) : Int) l).2 = sp.2 := by rw [z0, z00, hsp]
 refine AW.loop (fun x : List Pr × List Stp × Nat => mkI S U mo mn x.1 ps x.2.1 i [(22, .p (.int .i64 (x.2.2 : Int)))]) (fun x => x.2.2 ≤ 501 ∧ 1 ≤ x.2.2 ∧ i < x.1.length ∧ x.2.1 ++ (stepsP mo mn (501 - x.2.2) (x.2.2 : Int) x.1).1 = sp.1 ∧ (stepsP mo mn (501 - x.2.2) (x.2.2 : Int) x.1).2 = sp.2 ∧ PairsOK S U x.1 ∧ x.2.1.length < x.2.2) (fun x => 501 - x.2.2) (l, [], 1) ?_ ⟨Nat.le_of_ble_eq_true rfl, Nat.le_refl _, hil, z1, z2, okl, Nat.lt_succ_self _⟩ fun x hx => ?_
 ·simp only [mkI, mkT, mkM, memA, rowA, cellsSc, cellsMs, List.cons_append, List.nil_append]
  refine Ghost.sub ?_ ?_ <;> simp -implicitDefEqProofs only [go_sem, ↓reduceIte, Nat.reduceAdd, Nat.reduceMul, Nat.reduceEqDiff, Nat.reduceLeDiff, reduceCtorEq, Int.reduceToNat, Int.natCast_one, Int.cast_ofNat_Int, List.map_nil, liftE_nil, List.forall_mem_cons, List.not_mem_nil, false_implies, implies_true, and_self, labsIn_lift, List.all_append, List.all_cons, List.all_nil, Nat.reduceLT, labsInL, AV.labsIn]
  all_goals first | rfl | decide | skip
 clear okl hl100 g1 hc1 hil hp i1 M1 M2 hsp b0 b1
 obtain ⟨l, st, n⟩ := x
 obtain ⟨n1, n2, hil, q1, q2, okl, q3⟩ := hx
 simp only at n1 n2 hil q1 q2 okl q3
 have hl100 := pairs_len okl RS.len.2.1 RU.len.2.1
 simp only [mkI, mkT, mkM, memA, rowA, cellsSc, cellsMs, List.cons_append, List.nil_append]
 refine AW.seq ?_
 by_cases hn : n ≤ 500
 case neg =>
  have hc1 : ((n : Int) ≤ 500) = False := eq_false (by omega)
  rw [show 501 - n = 0 by omega] at q1 q2
  refine AW.rT (by rfl) fun K hK => ?_
  simp -implicitDefEqProofs only [go_sem, ↓reduceIte, Nat.reduceAdd, Nat.reduceMul, Nat.reduceEqDiff, Nat.reduceLeDiff, reduceCtorEq, Int.reduceToNat, hc1]
  refine hK _ ?_; clear hK K
  refine AW.cond _ (by simp -implicitDefEqProofs only [go_sem, ↓reduceIte, Nat.reduceAdd, Nat.reduceMul, Nat.reduceEqDiff, Nat.reduceLeDiff, reduceCtorEq, Int.reduceToNat]; rfl) (fun hc => ?_) (fun hc => ?_)
  ·simp at hc
  refine AW.exit ?_
  simp only [andThen, inBlk, reduceCtorEq, ↓reduceIte, if_t, if_f]
  refine ⟨(l, st), ⟨q2, by rw [← q1]; exact (List.append_nil _).symm, okl, hil, by simp only; omega⟩, ?_⟩
  show Ghost _ _ (mkI S U mo mn l ps st i [])
  simp only [mkI, mkT, mkM, memA, rowA, cellsSc, cellsMs, List.cons_append, List.nil_append]
  refine Ghost.sub ?_ ?_ <;> simp -implicitDefEqProofs only [go_sem, ↓reduceIte, Nat.reduceAdd, Nat.reduceMul, Nat.reduceEqDiff, Nat.reduceLeDiff, reduceCtorEq, Int.reduceToNat,  List.forall_mem_cons, List.not_mem_nil, false_implies, implies_true, and_self, labsIn_lift, List.all_append, List.all_cons, List.all_nil, Nat.reduceLT, labsInL, AV.labsIn]
  all_goals first | rfl | decide | skip
 have hc1 : ((n : Int) ≤ 500) = True := eq_true (by omega)
 have w2 : IntKind.wrap .i64 ((n : Int) + 1) = ((n + 1 : Nat) : Int) := by rw [w64] <;> omega
 have no1 := (fit_msgs FS hmo).no
 have no2 := (fit_msgs FU hmn).no
 have ST := adapt_tag S U mo mn (n : Int) l (by omega) (by omega) (by omega)
 rw [show 501 - n = (500 - n) + 1 by omega, stepsP] at q1 q2
 simp only at q1 q2
 refine AW.rT (by rfl) fun K hK => ?_
 simp -implicitDefEqProofs only [go_sem, ↓reduceIte, Nat.reduceAdd, Nat.reduceMul, Nat.reduceEqDiff, Nat.reduceLeDiff, reduceCtorEq, Int.reduceToNat, hc1]
 refine hK _ ?_; clear hK K
 refine AW.cond _ (by simp -implicitDefEqProofs only [go_sem, ↓reduceIte, Nat.reduceAdd, Nat.reduceMul, Nat.reduceEqDiff, Nat.reduceLeDiff, reduceCtorEq, Int.reduceToNat]; rfl) (fun hc => ?_) (fun hc => ?_)
 rotate_left
 ·simp at hc
 refine AW.skip ?_
 simp only [andThen, inBlk, reduceCtorEq, ↓reduceIte, if_t, if_f]
 refine AW.seq ?_
 refine AW.block ?_
 refine AW.rR (SeqR.ev 4 (by rfl) (by decide) ?_)
 simp -implicitDefEqProofs only [go_sem, ↓reduceIte, Nat.reduceAdd, Nat.reduceMul, Nat.reduceEqDiff, Nat.reduceLeDiff, reduceCtorEq, Int.reduceToNat]
 refine SeqR.call (fun k => k + 3) rfl rfl ST ⟨?_, rfl, ?_, rfl, rfl, rfl, rfl, rfl, memA_by (r := 0) rfl rfl⟩ ?_
 ·simp -implicitDefEqProofs only [go_sem, ↓reduceIte, Nat.reduceAdd, Nat.reduceMul, Nat.reduceEqDiff, Nat.reduceLeDiff, reduceCtorEq, Int.reduceToNat, argD, encMs]
 ·simp only [memA, rowA]
  simp -implicitDefEqProofs only [go_sem, ↓reduceIte, Nat.reduceAdd, Nat.reduceMul, Nat.reduceEqDiff, Nat.reduceLeDiff, reduceCtorEq, Int.reduceToNat, List.forall_mem_cons, List.not_mem_nil, false_implies, implies_true, and_self]
  first | done | decide
 refine SeqR.ev 6 (by rfl) (by decide) ?_
 simp -implicitDefEqProofs only [go_sem, ↓reduceIte, Nat.reduceAdd, Nat.reduceMul, Nat.reduceEqDiff, Nat.reduceLeDiff, reduceCtorEq, Int.reduceToNat, encSt, List.map_cons, List.map_nil]
 refine SeqR.last rfl ?_
 refine AW.ghost (s' := mkJ S U mo mn (stepLs mo mn (n : Int) l) ps st i n (stepA mo mn (n : Int) l).1 (stepA mo mn (n : Int) l).2) ?_ ?_
 ·simp only [mkJ, mkT, mkM, memA, rowA, cellsSc, cellsMs, List.cons_append, List.nil_append]
  refine Ghost.ent (fun l => if l = 4 then 17 else if l = 5 then 18 else if l = 11 then 22 else l) ?_ ?_ ?_ <;> simp -implicitDefEqProofs only [go_sem, ↓reduceIte, Nat.reduceAdd, Nat.reduceMul, Nat.reduceEqDiff, Nat.reduceLeDiff, reduceCtorEq, Int.reduceToNat, lift2, goneU, newU, Nat.reduceSub, List.forall_mem_cons, List.not_mem_nil, false_implies, implies_true, and_self, map_renL_lift, labsIn_lift, List.all_append, List.all_cons, List.all_nil, List.map_append, Nat.reduceLT, labsInL, AV.labsIn]
  all_goals first | rfl | decide | skip

 have okl' := stepLs_ok RS RU hmo hmn (t := (n : Int)) okl
 have hil' : i < (stepLs mo mn (n : Int) l).length := by
  have := List.getElem?_eq_getElem hil
  exact (List.getElem?_eq_some_iff.1 (pref_stepLs mo mn (n : Int) l i _ this)).1
 obtain ⟨l', hl'⟩ : ∃ l', l' = stepLs mo mn (n : Int) l := ⟨_, rfl⟩
 rw [← hl'] at okl' hil' q1 q2 ⊢
 simp only [mkJ, mkT, mkM, memA, rowA, cellsSc, cellsMs, List.cons_append, List.nil_append]
 have cs : ((n + 1 : Nat) : Int) = (n : Int) + 1 := by omega
 have cn : 501 - (n + 1) = 500 - n := by omega
 have k1 : n + 1 ≤ 501 := by omega
 have k2 : 501 - (n + 1) < 501 - n := by omega
 obtain ⟨so, ho⟩ : ∃ so, so = stepO mo mn (n : Int) l := ⟨_, rfl⟩
 rw [← ho] at q1
 by_cases hso : so = none
 ·rw [hso] at q1 ho
  simp only [Option.toList_none, List.nil_append] at q1
  have eA : (stepA mo mn (n : Int) l).2 = false := by unfold stepA; rw [← ho]; rfl
  refine AW.rT (by rfl) fun K hK => ?_
  simp -implicitDefEqProofs only [go_sem, ↓reduceIte, Nat.reduceAdd, Nat.reduceMul, Nat.reduceEqDiff, Nat.reduceLeDiff, reduceCtorEq, Int.reduceToNat, eA]
  refine hK _ ?_; clear hK K
  refine AW.cond _ (by simp -implicitDefEqProofs only [go_sem, ↓reduceIte, Nat.reduceAdd, Nat.reduceMul, Nat.reduceEqDiff, Nat.reduceLeDiff, reduceCtorEq, Int.reduceToNat]; rfl) (fun hc => ?_) (fun hc => ?_)
  ·simp at hc
  refine AW.skip ?_
  simp only [andThen, inBlk, reduceCtorEq, ↓reduceIte, if_t, if_f]
  refine AW.rE (by rfl) fun K hK => ?_
  simp -implicitDefEqProofs only [go_sem, ↓reduceIte, Nat.reduceAdd, Nat.reduceMul, Nat.reduceEqDiff, Nat.reduceLeDiff, reduceCtorEq, Int.reduceToNat, w2]
  refine hK _ ?_; clear hK K
  refine ⟨(l', st, n + 1), ⟨k1, Nat.le_add_left 1 n, hil', ?_, ?_, okl', Nat.lt_succ_of_lt q3⟩, k2, ?_⟩
  ·simp only
   rw [cn, cs]
   exact q1
  ·simp only
   rw [cn, cs]
   exact q2
  ·show Ghost _ _ (mkI S U mo mn l' ps st i [(22, .p (.int .i64 ((n + 1 : Nat) : Int)))])
   simp only [mkI, mkT, mkM, memA, rowA, cellsSc, cellsMs, List.cons_append, List.nil_append]
   refine Ghost.sub ?_ ?_ <;> simp -implicitDefEqProofs only [go_sem, ↓reduceIte, Nat.reduceAdd, Nat.reduceMul, Nat.reduceEqDiff, Nat.reduceLeDiff, reduceCtorEq, Int.reduceToNat,  List.forall_mem_cons, List.not_mem_nil, false_implies, implies_true, and_self, labsIn_lift, List.all_append, List.all_cons, List.all_nil, Nat.reduceLT, labsInL, AV.labsIn]
   all_goals first | rfl | decide | skip
 ·obtain ⟨s, hs⟩ := Option.ne_none_iff_exists'.1 hso
  rw [hs] at q1 ho
  simp only [Option.toList_some, List.cons_append, List.nil_append] at q1
  have eA : stepA mo mn (n : Int) l = (s, true) := by unfold stepA; rw [← ho]; rfl
  rw [eA]
  refine AW.rT (by rfl) fun K hK => ?_
  simp -implicitDefEqProofs only [go_sem, ↓reduceIte, Nat.reduceAdd, Nat.reduceMul, Nat.reduceEqDiff, Nat.reduceLeDiff, reduceCtorEq, Int.reduceToNat]
  refine hK _ ?_; clear hK K
  refine AW.cond _ (by simp -implicitDefEqProofs only [go_sem, ↓reduceIte, Nat.reduceAdd, Nat.reduceMul, Nat.reduceEqDiff, Nat.reduceLeDiff, reduceCtorEq, Int.reduceToNat]; rfl) (fun hc => ?_) (fun hc => ?_)
  rotate_left
  ·simp at hc
  refine AW.rE (by rfl) fun K hK => ?_
  simp -implicitDefEqProofs only [go_sem, ↓reduceIte, Nat.reduceAdd, Nat.reduceMul, Nat.reduceEqDiff, Nat.reduceLeDiff, reduceCtorEq, Int.reduceToNat]
  refine ⟨⟨by simp, by simp [oneAll, AV.one, PV.one], by simp⟩, by rw [liftE_length, List.length_map]; omega, ?_⟩
  try simp -implicitDefEqProofs only [go_sem, ↓reduceIte, Nat.reduceAdd, Nat.reduceMul, Nat.reduceEqDiff, Nat.reduceLeDiff, reduceCtorEq, Int.reduceToNat]
  refine hK _ ?_; clear hK K
  simp only [andThen, inBlk, reduceCtorEq, ↓reduceIte, if_t, if_f]
  refine AW.rE (by rfl) fun K hK => ?_
  simp -implicitDefEqProofs only [go_sem, ↓reduceIte, Nat.reduceAdd, Nat.reduceMul, Nat.reduceEqDiff, Nat.reduceLeDiff, reduceCtorEq, Int.reduceToNat, w2]
  refine hK _ ?_; clear hK K
  refine ⟨(l', st ++ [s], n + 1), ⟨k1, Nat.le_add_left 1 n, hil', ?_, ?_, okl', by simp only [List.length_append, List.length_cons, List.length_nil]; omega⟩, k2, ?_⟩
  ·simp only [List.append_assoc, List.cons_append, List.nil_append]
   rw [cn, cs]
   exact q1
  ·simp only
   rw [cn, cs]
   exact q2
  ·show Ghost _ _ (mkI S U mo mn l' ps (st ++ [s]) i [(22, .p (.int .i64 ((n + 1 : Nat) : Int)))])
   simp only [mkI, mkT, mkM, memA, rowA, cellsSc, cellsMs, List.cons_append, List.nil_append]
   refine Ghost.ent (fun l => if l = 10 then 16 else l) ?_ ?_ ?_ <;> simp -implicitDefEqProofs only [go_sem, ↓reduceIte, Nat.reduceAdd, Nat.reduceMul, Nat.reduceEqDiff, Nat.reduceLeDiff, reduceCtorEq, Int.reduceToNat, encSt, List.map_append, liftE_append, List.map_cons, List.map_nil, liftE_cons, liftE_nil, List.forall_mem_cons, List.not_mem_nil, false_implies, implies_true, and_self, map_renL_lift, labsIn_lift, List.all_append, List.all_cons, List.all_nil, List.map_append, Nat.reduceLT, labsInL, AV.labsIn]
   all_goals first | rfl | decide | skip
end Go.Aw
namespace Go.Aw
open Go.RowKit
variable {P : Program}
end Go.Aw
namespace Go.Aw
open Go.RowKit
variable {P : Program}
end Go.Aw
