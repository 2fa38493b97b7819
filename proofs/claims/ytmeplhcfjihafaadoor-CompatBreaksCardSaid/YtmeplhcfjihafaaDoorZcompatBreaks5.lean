/- What the law LawCompatBreaks leans on, joined (part 5). -/
import Derived.Test.YtmeplhcfjihafaaDoorZcompatBreaks4
set_option linter.unusedSimpArgs false
set_option linter.unusedVariables false
namespace Go.Aw
open Go.Proofs Go.RowKit
set_option linter.unusedSimpArgs false
set_option linter.unusedVariables false
theorem lift_len {α : Type} {f : α → List PV} {n : Nat} (h : ∀ a, (f a).length = n) (l : List α) : ∀ y ∈ liftE (l.map f), y.length = n := by
 intro y hy
 unfold liftE at hy
 rw [List.map_map] at hy
 obtain ⟨a, _, rfl⟩ := List.mem_map.1 hy
 simp [h]
theorem one_lift {l : List PV} (h : ∀ p ∈ l, p.one = true) : oneAll (l.map AV.p) = true := by
 induction l with
 | nil => rfl
 | cons a l ih =>
  rw [List.map_cons, oneAll, ih fun p hp => h p (List.mem_cons_of_mem _ hp), Bool.and_true]
  exact h a List.mem_cons_self
theorem lift_one {α : Type} {f : α → List PV} (h : ∀ a, ∀ p ∈ f a, p.one = true) (l : List α) : ∀ y ∈ liftE (l.map f), oneAll y = true := by
 intro y hy
 unfold liftE at hy
 rw [List.map_map] at hy
 obtain ⟨a, _, rfl⟩ := List.mem_map.1 hy
 exact one_lift (h a)
theorem one_I (a : Int) : ∀ p ∈ encI a, p.one = true := by intro p hp; simp [encI] at hp; subst hp; rfl
theorem one_Fd (a : Fd) : ∀ p ∈ encFd a, p.one = true := by intro p hp; simp [encFd] at hp; rcases hp with rfl | rfl | rfl | rfl | rfl <;> rfl
theorem one_Nm (a : Nm) : ∀ p ∈ encNm a, p.one = true := by intro p hp; simp [encNm] at hp; rcases hp with rfl | rfl <;> rfl
theorem one_Mt (a : Mt) : ∀ p ∈ encMt a, p.one = true := by intro p hp; simp [encMt] at hp; rcases hp with rfl | rfl | rfl <;> rfl
set_option maxRecDepth 100000 in
theorem law00_Ints (l : List Int) (hl : l.length ≤ 1000000) : PFn Tryd.prog 62 [.slice (l.map encI)] (.slice (l.map encI)) := by
 refine PFn.of Tryd.func62 rfl (by decide) Tryd.ntmps62 Tryd.results62 (Nat.le_of_ble_eq_true rfl) ?_
 simp only [argsT]
 refine AW.rT (by rfl) fun K hK => ?_
 simp -implicitDefEqProofs only [go_sem]
 refine hK _ ?_; clear hK K
 refine AW.rT (by rfl) fun K hK => ?_
 simp -implicitDefEqProofs only [go_sem, ↓reduceIte, Nat.reduceAdd, Nat.reduceLeDiff, reduceCtorEq]
 refine ⟨⟨lift_len (f := encI) (fun _ => rfl) l, lift_one one_I l, by simp⟩, ⟨.inl trivial, by simp, by rw [liftE_length, List.length_map]; omega⟩, ?_⟩
 refine hK _ ?_; clear hK K
 refine AW.ret ?_
 simp -implicitDefEqProofs only [go_sem]
set_option maxRecDepth 100000 in
theorem law00_Place (p n : Int) (hn : 0 < n) (hb : n ≤ 9223372036854775807) (hp : -9223372036854775808 ≤ p) (hq : p ≤ 9223372036854775807) : PFn Tryd.prog 25 [.int .i64 p, .int .i64 n] (.int .i64 (p % n)) := by
 refine PFn.of Tryd.func25 rfl (by decide) Tryd.ntmps25 Tryd.results25 (Nat.le_of_ble_eq_true rfl) ?_
 simp only [argsT]
 have z : (n = 0) = False := eq_false (by omega)
 have hm := Int.emod_nonneg p (show n ≠ 0 by omega)
 have hm2 := Int.emod_lt_of_pos p hn
 refine AW.rT (by rfl) fun K hK => ?_
 simp -implicitDefEqProofs only [go_sem]
 refine hK _ ?_; clear hK K
 refine AW.rT (by rfl) fun K hK => ?_
 simp -implicitDefEqProofs only [go_sem, ↓reduceIte, Nat.reduceAdd, Nat.reduceEqDiff, reduceCtorEq, z]
 refine hK _ ?_; clear hK K
 refine AW.seq ?_
 have ht : p.tmod n = if 0 ≤ p ∨ p % n = 0 then p % n else p % n - n := by
  rw [Int.tmod_eq_emod]
  have hd : n ∣ p ↔ p % n = 0 := Int.dvd_iff_emod_eq_zero
  have hna : (n.natAbs : Int) = n := by omega
  by_cases h : 0 ≤ p ∨ n ∣ p
  ·rw [if_pos h, if_pos (by rcases h with h | h; exact .inl h; exact .inr (hd.1 h))]; simp
  ·rw [if_neg h, if_neg (by intro h'; apply h; rcases h' with h' | h'; exact .inl h'; exact .inr (hd.2 h')), hna]
 by_cases h : p.tmod n < 0
 ·have f1 : (p.tmod n < 0) = True := eq_true h
  have e : IntKind.wrap .i64 (p.tmod n + n) = p % n := by
   rw [w64]
   all_goals
    split at ht <;> omega
  refine AW.rT (by rfl) fun K hK => ?_
  simp -implicitDefEqProofs only [go_sem, ↓reduceIte, Nat.reduceAdd, f1]
  refine hK _ ?_; clear hK K
  refine AW.cond _ (by simp -implicitDefEqProofs only [go_sem]; rfl) (fun hc => ?_) (fun hc => ?_)
  rotate_left
  ·simp at hc
  refine AW.rE (by rfl) fun K hK => ?_
  simp -implicitDefEqProofs only [go_sem, ↓reduceIte, Nat.reduceAdd, Nat.reduceEqDiff, e]
  refine hK _ ?_; clear hK K
  simp only [andThen]
  refine AW.rT (by rfl) fun K hK => ?_
  simp -implicitDefEqProofs only [go_sem, Nat.reduceAdd]
  refine hK _ ?_; clear hK K
  refine AW.ret ?_
  simp -implicitDefEqProofs only [go_sem]
 ·have f1 : (p.tmod n < 0) = False := eq_false h
  have e : p.tmod n = p % n := by
   split at ht <;> omega
  refine AW.rT (by rfl) fun K hK => ?_
  simp -implicitDefEqProofs only [go_sem, ↓reduceIte, Nat.reduceAdd, f1]
  refine hK _ ?_; clear hK K
  refine AW.cond _ (by simp -implicitDefEqProofs only [go_sem]; rfl) (fun hc => ?_) (fun hc => ?_)
  ·simp at hc
  refine AW.skip ?_
  simp only [andThen]
  refine AW.rT (by rfl) fun K hK => ?_
  simp -implicitDefEqProofs only [go_sem, ↓reduceIte, Nat.reduceAdd, Nat.reduceEqDiff]
  refine hK _ ?_; clear hK K
  refine AW.ret ?_
  simp -implicitDefEqProofs only [go_sem, e]
def fdFew (f : Fd) : Bool := decide (f.name.length ≤ 200 ∧ f.ty.name.length ≤ 200)
def msFew (m : Ms) : Bool := decide (m.fields.length ≤ 20 ∧ m.res.length ≤ 40) && m.fields.all fdFew
def nmFew (v : Nm) : Bool := decide (v.name.length ≤ 200)
def enFew (e : En) : Bool := decide (e.name.length ≤ 200 ∧ e.vals.length ≤ 24) && e.vals.all nmFew
def mtFew (t : Mt) : Bool := decide (t.name.length ≤ 200 ∧ t.inn.length ≤ 200 ∧ t.out.length ≤ 200)
def totN (S : Sc) (k : Nat) : Nat := S.name.length + ((S.msgs.take k).map fun m => m.name.length).sum
def fewB (S : Sc) : Bool := (S.msgs.take 20).all msFew && ((S.enums.take 20).all enFew && ((S.meths.take 20).all mtFew && decide (totN S 20 < 3000 ∧ S.msgs.length ≤ 14 ∧ S.enums.length ≤ 10 ∧ S.meths.length ≤ 10)))
def bigS (S : Sc) : Prop := S.name.length ≤ reachBytes ∧ ∀ m ∈ S.msgs, m.name.length ≤ reachBytes
theorem tot_next {S : Sc} {i : Nat} {m : Ms} (h : S.msgs[i]? = some m) : totN S (i + 1) = totN S i + m.name.length := by
 unfold totN
 rw [List.take_add_one, h]
 simp; omega
theorem sum_le {l : List Ms} {n : Nat} (h : ∀ m ∈ l, m.name.length ≤ n) : (l.map fun m => m.name.length).sum ≤ l.length * n := by
 induction l with
 | nil => simp
 | cons a l ih =>
  rw [List.map_cons, List.sum_cons, List.length_cons, Nat.add_mul]
  have := h a List.mem_cons_self
  have := ih fun m hm => h m (List.mem_cons_of_mem _ hm)
  omega
theorem tot_le {S : Sc} (h : bigS S) {i : Nat} (hi : i ≤ 20) : totN S i ≤ 21 * 140737488351232 := by
 have h1 := h.1
 have h2 := sum_le (l := S.msgs.take i) (n := reachBytes) fun m hm => h.2 m (List.mem_of_mem_take hm)
 have hl : (S.msgs.take i).length ≤ 20 := by rw [List.length_take]; omega
 have : (S.msgs.take i).length * reachBytes ≤ 20 * reachBytes := Nat.mul_le_mul_right _ hl
 have e : reachBytes = 140737488351232 := by decide
 unfold totN
 omega
theorem take_end {α : Type} {l : List α} {i : Nat} (hi : i ≤ l.length) (h2 : i ≤ 20) (h : ¬ (i < l.length ∧ i < 20)) : l.take i = l.take 20 := by
 by_cases h3 : i = 20
 ·rw [h3]
 ·rw [List.take_of_length_le (by omega), List.take_of_length_le (by omega)]
theorem few_msg {S : Sc} {i : Nat} {m : Ms} (h : S.msgs[i]? = some m) (hi : i < 20) (hm : msFew m = false) : fewB S = false := by
 have : (S.msgs.take 20).all msFew = false := all_not (k := i) (r := m) (by rw [List.getElem?_take, if_pos hi]; exact h) hm
 unfold fewB; rw [this]; rfl
theorem few_enum {S : Sc} {i : Nat} {m : En} (h : S.enums[i]? = some m) (hi : i < 20) (hm : enFew m = false) : fewB S = false := by
 have : (S.enums.take 20).all enFew = false := all_not (k := i) (r := m) (by rw [List.getElem?_take, if_pos hi]; exact h) hm
 unfold fewB; rw [this]; simp
theorem few_meth {S : Sc} {i : Nat} {m : Mt} (h : S.meths[i]? = some m) (hi : i < 20) (hm : mtFew m = false) : fewB S = false := by
 have : (S.meths.take 20).all mtFew = false := all_not (k := i) (r := m) (by rw [List.getElem?_take, if_pos hi]; exact h) hm
 unfold fewB; rw [this]; simp
def fw (S : Sc) (l : List (Nat × AV)) : St := ⟨ofL ((1, .ptr 0 0 0) :: l), ofH [(0, .row 4 [cellsSc S])], 1⟩
set_option maxRecDepth 100000 in
set_option maxHeartbeats 8000000 in
theorem law00_Few (S : Sc) (B : bigS S) : PFn Tryd.prog 21 [.agg (encSc S)] (.bool (fewB S)) := by
 refine PFn.of Tryd.func21 rfl (by decide) Tryd.ntmps21 Tryd.results21 (Nat.le_of_ble_eq_true rfl) ?_
 simp only [argsT, encSc]
 refine AW.rT (by rfl) fun K hK => ?_
 simp -implicitDefEqProofs only [go_sem, Nat.reduceAdd]
 refine hK _ ?_; clear hK K
 refine AW.rT (by rfl) fun K hK => ?_
 simp -implicitDefEqProofs only [go_sem, ↓reduceIte, Nat.reduceAdd, Nat.reduceEqDiff]
 refine hK _ ?_; clear hK K
 refine AW.cut (fun _ : Unit => fw S [(3, .p (.int .i64 (totN S 20 : Int)))]) (fun _ => (S.msgs.take 20).all msFew = true) ?_ fun _ qA => ?_
 rotate_left
 ·skip
  try simp only [fw, cellsSc]
  refine AW.cut (fun _ : Unit => fw S [(3, .p (.int .i64 (totN S 20 : Int)))]) (fun _ => (S.enums.take 20).all enFew = true) ?_ fun _ qC => ?_
  ·refine AW.rT (by rfl) fun K hK => ?_
   simp -implicitDefEqProofs only [go_sem, Nat.reduceAdd]
   refine hK _ ?_; clear hK K
   refine AW.block ?_
   refine AW.loop (fun i : Nat => fw S [(3, .p (.int .i64 (totN S 20 : Int))), (7, .p (.int .i64 (i : Int)))]) (fun i => (i ≤ S.enums.length ∧ i ≤ 20) ∧ (S.enums.take i).all enFew = true) (fun i => 20 - i) 0 ?_ ⟨⟨by omega, by omega⟩, by simp⟩ fun i hi => ?_
   ·simp only [fw, cellsSc]
    refine Ghost.sub ?_ ?_ <;> simp -implicitDefEqProofs only [go_sem, ↓reduceIte, Nat.reduceEqDiff, List.forall_mem_cons, List.not_mem_nil, false_implies, implies_true, and_self, List.all_cons, List.all_nil, Nat.reduceLT, labsInL, AV.labsIn]
    all_goals first | rfl | decide | skip
   obtain ⟨⟨i1, i0⟩, i2⟩ := hi
   try simp only [fw, cellsSc]
   refine AW.seq ?_
   by_cases hil : i < S.enums.length ∧ i < 20
   ·have c1 : ((i : Int) < (S.enums.length : Int)) = True := eq_true (by omega)
    have c2 : ((i : Int) < 20) = True := eq_true (by omega)
    obtain ⟨m, hm⟩ : ∃ m, S.enums[i]? = some m := ⟨_, List.getElem?_eq_getElem hil.1⟩
    have ⟨hm1, hm2, hm3⟩ := at_map' encEn hm
    have hm2' : (i : Int) < (S.enums.length : Int) := by omega
    have w1 : IntKind.wrap .i64 ((i : Int) + 1) = ((i + 1 : Nat) : Int) := by rw [w64] <;> omega
    refine AW.rT (by rfl) fun K hK => ?_
    simp -implicitDefEqProofs only [go_sem, ↓reduceIte, Nat.reduceAdd, Nat.reduceEqDiff, c1, c2, List.length_map]
    refine hK _ ?_; clear hK K
    refine AW.cond _ (by simp -implicitDefEqProofs only [go_sem]; rfl) (fun hc => ?_) (fun hc => ?_)
    rotate_left
    ·simp at hc
    refine AW.skip ?_
    simp only [andThen]
    refine AW.seq ?_
    refine AW.block ?_
    refine AW.seq ?_
    by_cases a1 : m.name.length > 200
    ·have f1 : ((m.name.length : Int) > 200) = True := eq_true (by omega)
     have e := few_enum hm hil.2 (by unfold enFew; rw [decide_eq_false (by omega)]; rfl)
     refine AW.rT (by rfl) fun K hK => ?_
     simp -implicitDefEqProofs only [go_sem, ↓reduceIte, Nat.reduceAdd, Nat.reduceEqDiff, hm1, hm2', hm3, encEn, List.length_map, f1]
     refine hK _ ?_; clear hK K
     refine AW.cond _ (by simp -implicitDefEqProofs only [go_sem]; rfl) (fun hc => ?_) (fun hc => ?_)
     rotate_left
     ·simp at hc
     refine AW.rT (by rfl) fun K hK => ?_
     simp -implicitDefEqProofs only [go_sem, Nat.reduceAdd]
     refine hK _ ?_; clear hK K
     refine AW.ret ?_
     simp -implicitDefEqProofs only [go_sem, e]
    have f1 : ((m.name.length : Int) > 200) = False := eq_false (by omega)
    by_cases a2 : m.vals.length > 24
    ·have f2 : ((m.vals.length : Int) > 24) = True := eq_true (by omega)
     have e := few_enum hm hil.2 (by unfold enFew; rw [decide_eq_false (by omega)]; rfl)
     refine AW.rT (by rfl) fun K hK => ?_
     simp -implicitDefEqProofs only [go_sem, ↓reduceIte, Nat.reduceAdd, Nat.reduceEqDiff, hm1, hm2', hm3, encEn, List.length_map, f1, f2]
     refine hK _ ?_; clear hK K
     refine AW.cond _ (by simp -implicitDefEqProofs only [go_sem]; rfl) (fun hc => ?_) (fun hc => ?_)
     rotate_left
     ·simp at hc
     refine AW.rT (by rfl) fun K hK => ?_
     simp -implicitDefEqProofs only [go_sem, Nat.reduceAdd]
     refine hK _ ?_; clear hK K
     refine AW.ret ?_
     simp -implicitDefEqProofs only [go_sem, e]
    have f2 : ((m.vals.length : Int) > 24) = False := eq_false (by omega)
    refine AW.rT (by rfl) fun K hK => ?_
    simp -implicitDefEqProofs only [go_sem, ↓reduceIte, Nat.reduceAdd, Nat.reduceEqDiff, hm1, hm2', hm3, encEn, List.length_map, f1, f2]
    refine hK _ ?_; clear hK K
    refine AW.cond _ (by simp -implicitDefEqProofs only [go_sem]; rfl) (fun hc => ?_) (fun hc => ?_)
    ·simp at hc
    refine AW.skip ?_
    simp only [andThen]
    refine AW.rT (by rfl) fun K hK => ?_
    simp -implicitDefEqProofs only [go_sem, Nat.reduceAdd]
    refine hK _ ?_; clear hK K
    refine AW.block ?_
    refine AW.loop (fun j : Nat => fw S [(3, .p (.int .i64 (totN S 20 : Int))), (7, .p (.int .i64 (i : Int))), (8, .p (.int .i64 (j : Int)))]) (fun j => j ≤ m.vals.length ∧ (m.vals.take j).all nmFew = true) (fun j => m.vals.length - j) 0 ?_ ⟨by omega, by simp⟩ fun j hj => ?_
    ·simp only [fw, cellsSc]
     refine Ghost.sub ?_ ?_ <;> simp -implicitDefEqProofs only [go_sem, ↓reduceIte, Nat.reduceEqDiff, List.forall_mem_cons, List.not_mem_nil, false_implies, implies_true, and_self, List.all_cons, List.all_nil, Nat.reduceLT, labsInL, AV.labsIn]
     all_goals first | rfl | decide | skip
    obtain ⟨j1, j2⟩ := hj
    try simp only [fw, cellsSc]
    refine AW.seq ?_
    by_cases hjl : j < m.vals.length
    case neg =>
     have c3 : ((j : Int) < (m.vals.length : Int)) = False := eq_false (by omega)
     rw [List.take_of_length_le (by omega)] at j2
     have hmf : enFew m = true := by unfold enFew; rw [decide_eq_true (by omega), j2]; rfl
     refine AW.rT (by rfl) fun K hK => ?_
     simp -implicitDefEqProofs only [go_sem, ↓reduceIte, Nat.reduceAdd, Nat.reduceEqDiff, hm1, hm2', hm3, encEn, List.length_map, c3]
     refine hK _ ?_; clear hK K
     refine AW.cond _ (by simp -implicitDefEqProofs only [go_sem]; rfl) (fun hc => ?_) (fun hc => ?_)
     ·simp at hc
     refine AW.exit ?_
     simp only [andThen, inBlk, ↓reduceIte]
     refine AW.rE (by rfl) fun K hK => ?_
     simp -implicitDefEqProofs only [go_sem, ↓reduceIte, Nat.reduceAdd, Nat.reduceEqDiff, w1]
     refine hK _ ?_; clear hK K
     refine ⟨i + 1, ⟨⟨by omega, by omega⟩, all_next hm i2 hmf⟩, by omega, ?_⟩
     try simp only [fw, cellsSc]
     refine Ghost.sub ?_ ?_ <;> simp -implicitDefEqProofs only [go_sem, ↓reduceIte, Nat.reduceEqDiff, List.forall_mem_cons, List.not_mem_nil, false_implies, implies_true, and_self, List.all_cons, List.all_nil, Nat.reduceLT, labsInL, AV.labsIn]
    obtain ⟨f, hf⟩ : ∃ f, m.vals[j]? = some f := ⟨_, List.getElem?_eq_getElem hjl⟩
    have ⟨hf1, hf2, hf3⟩ := at_map' encNm hf
    have hf2' : (j : Int) < (m.vals.length : Int) := by omega
    have c3 : ((j : Int) < (m.vals.length : Int)) = True := eq_true (by omega)
    have w3 : IntKind.wrap .i64 ((j : Int) + 1) = ((j + 1 : Nat) : Int) := by rw [w64] <;> omega
    refine AW.rT (by rfl) fun K hK => ?_
    simp -implicitDefEqProofs only [go_sem, ↓reduceIte, Nat.reduceAdd, Nat.reduceEqDiff, hm1, hm2', hm3, encEn, List.length_map, c3]
    refine hK _ ?_; clear hK K
    refine AW.cond _ (by simp -implicitDefEqProofs only [go_sem]; rfl) (fun hc => ?_) (fun hc => ?_)
    rotate_left
    ·simp at hc
    refine AW.skip ?_
    simp only [andThen]
    refine AW.seq ?_
    refine AW.block ?_
    by_cases b1 : f.name.length > 200
    ·have f1 : ((f.name.length : Int) > 200) = True := eq_true (by omega)
     have e := few_enum hm hil.2 (by unfold enFew; rw [all_not hf (show nmFew f = false from decide_eq_false (by omega))]; simp)
     refine AW.rT (by rfl) fun K hK => ?_
     simp -implicitDefEqProofs only [go_sem, ↓reduceIte, Nat.reduceAdd, Nat.reduceEqDiff, hm1, hm2', hm3, encEn, List.length_map, hf1, hf2', hf3, encNm, f1]
     refine hK _ ?_; clear hK K
     refine AW.cond _ (by simp -implicitDefEqProofs only [go_sem]; rfl) (fun hc => ?_) (fun hc => ?_)
     rotate_left
     ·simp at hc
     refine AW.rT (by rfl) fun K hK => ?_
     simp -implicitDefEqProofs only [go_sem, Nat.reduceAdd]
     refine hK _ ?_; clear hK K
     refine AW.ret ?_
     simp -implicitDefEqProofs only [go_sem, e]
    have f1 : ((f.name.length : Int) > 200) = False := eq_false (by omega)
    refine AW.rT (by rfl) fun K hK => ?_
    simp -implicitDefEqProofs only [go_sem, ↓reduceIte, Nat.reduceAdd, Nat.reduceEqDiff, hm1, hm2', hm3, encEn, List.length_map, hf1, hf2', hf3, encNm, f1]
    refine hK _ ?_; clear hK K
    refine AW.cond _ (by simp -implicitDefEqProofs only [go_sem]; rfl) (fun hc => ?_) (fun hc => ?_)
    ·simp at hc
    refine AW.skip ?_
    simp only [andThen, inBlk]
    refine AW.rE (by rfl) fun K hK => ?_
    simp -implicitDefEqProofs only [go_sem, ↓reduceIte, Nat.reduceAdd, Nat.reduceEqDiff, w3]
    refine hK _ ?_; clear hK K
    refine ⟨j + 1, ⟨by omega, all_next hf j2 (decide_eq_true (by omega))⟩, by omega, ?_⟩
    refine Ghost.sub ?_ ?_ <;> simp -implicitDefEqProofs only [go_sem, ↓reduceIte, Nat.reduceEqDiff, List.forall_mem_cons, List.not_mem_nil, false_implies, implies_true, and_self, List.all_cons, List.all_nil, Nat.reduceLT, labsInL, AV.labsIn]
   have ea := take_end i1 i0 hil
   rw [ea] at i2
   by_cases hil' : i < S.enums.length
   ·have c1 : ((i : Int) < (S.enums.length : Int)) = True := eq_true (by omega)
    have c2 : ((i : Int) < 20) = False := eq_false (by omega)
    refine AW.rT (by rfl) fun K hK => ?_
    simp -implicitDefEqProofs only [go_sem, ↓reduceIte, Nat.reduceAdd, Nat.reduceEqDiff, c1, c2, List.length_map]
    refine hK _ ?_; clear hK K
    refine AW.cond _ (by simp -implicitDefEqProofs only [go_sem]; rfl) (fun hc => ?_) (fun hc => ?_)
    ·simp at hc
    refine AW.exit ?_
    simp only [andThen, inBlk, ↓reduceIte]
    refine ⟨(), i2, ?_⟩
    try simp only [fw, cellsSc]
    refine Ghost.sub ?_ ?_ <;> simp -implicitDefEqProofs only [go_sem, ↓reduceIte, Nat.reduceEqDiff, List.forall_mem_cons, List.not_mem_nil, false_implies, implies_true, and_self, List.all_cons, List.all_nil, Nat.reduceLT, labsInL, AV.labsIn]
   ·have c1 : ((i : Int) < (S.enums.length : Int)) = False := eq_false (by omega)
    refine AW.rT (by rfl) fun K hK => ?_
    simp -implicitDefEqProofs only [go_sem, ↓reduceIte, Nat.reduceAdd, Nat.reduceEqDiff, c1, List.length_map]
    refine hK _ ?_; clear hK K
    refine AW.cond _ (by simp -implicitDefEqProofs only [go_sem]; rfl) (fun hc => ?_) (fun hc => ?_)
    ·simp at hc
    refine AW.exit ?_
    simp only [andThen, inBlk, ↓reduceIte]
    refine ⟨(), i2, ?_⟩
    try simp only [fw, cellsSc]
    refine Ghost.sub ?_ ?_ <;> simp -implicitDefEqProofs only [go_sem, ↓reduceIte, Nat.reduceEqDiff, List.forall_mem_cons, List.not_mem_nil, false_implies, implies_true, and_self, List.all_cons, List.all_nil, Nat.reduceLT, labsInL, AV.labsIn]
  try simp only [fw, cellsSc]
  refine AW.cut (fun _ : Unit => fw S [(3, .p (.int .i64 (totN S 20 : Int)))]) (fun _ => (S.meths.take 20).all mtFew = true) ?_ fun _ qE => ?_
  ·refine AW.rT (by rfl) fun K hK => ?_
   simp -implicitDefEqProofs only [go_sem, Nat.reduceAdd]
   refine hK _ ?_; clear hK K
   refine AW.block ?_
   refine AW.loop (fun i : Nat => fw S [(3, .p (.int .i64 (totN S 20 : Int))), (9, .p (.int .i64 (i : Int)))]) (fun i => (i ≤ S.meths.length ∧ i ≤ 20) ∧ (S.meths.take i).all mtFew = true) (fun i => 20 - i) 0 ?_ ⟨⟨by omega, by omega⟩, by simp⟩ fun i hi => ?_
   ·simp only [fw, cellsSc]
    refine Ghost.sub ?_ ?_ <;> simp -implicitDefEqProofs only [go_sem, ↓reduceIte, Nat.reduceEqDiff, List.forall_mem_cons, List.not_mem_nil, false_implies, implies_true, and_self, List.all_cons, List.all_nil, Nat.reduceLT, labsInL, AV.labsIn]
    all_goals first | rfl | decide | skip
   obtain ⟨⟨i1, i0⟩, i2⟩ := hi
   try simp only [fw, cellsSc]
   refine AW.seq ?_
   by_cases hil : i < S.meths.length ∧ i < 20
   ·have c1 : ((i : Int) < (S.meths.length : Int)) = True := eq_true (by omega)
    have c2 : ((i : Int) < 20) = True := eq_true (by omega)
    obtain ⟨m, hm⟩ : ∃ m, S.meths[i]? = some m := ⟨_, List.getElem?_eq_getElem hil.1⟩
    have ⟨hm1, hm2, hm3⟩ := at_map' encMt hm
    have hm2' : (i : Int) < (S.meths.length : Int) := by omega
    have w1 : IntKind.wrap .i64 ((i : Int) + 1) = ((i + 1 : Nat) : Int) := by rw [w64] <;> omega
    refine AW.rT (by rfl) fun K hK => ?_
    simp -implicitDefEqProofs only [go_sem, ↓reduceIte, Nat.reduceAdd, Nat.reduceEqDiff, c1, c2, List.length_map]
    refine hK _ ?_; clear hK K
    refine AW.cond _ (by simp -implicitDefEqProofs only [go_sem]; rfl) (fun hc => ?_) (fun hc => ?_)
    rotate_left
    ·simp at hc
    refine AW.skip ?_
    simp only [andThen]
    refine AW.seq ?_
    refine AW.block ?_
    by_cases a1 : m.name.length > 200
    ·have f1 : ((m.name.length : Int) > 200) = True := eq_true (by omega)
     have e := few_meth hm hil.2 (decide_eq_false (by omega))
     refine AW.rT (by rfl) fun K hK => ?_
     simp -implicitDefEqProofs only [go_sem, ↓reduceIte, Nat.reduceAdd, Nat.reduceEqDiff, hm1, hm2', hm3, encMt, List.length_map, f1]
     refine hK _ ?_; clear hK K
     refine AW.cond _ (by simp -implicitDefEqProofs only [go_sem]; rfl) (fun hc => ?_) (fun hc => ?_)
     rotate_left
     ·simp at hc
     refine AW.rT (by rfl) fun K hK => ?_
     simp -implicitDefEqProofs only [go_sem, Nat.reduceAdd]
     refine hK _ ?_; clear hK K
     refine AW.ret ?_
     simp -implicitDefEqProofs only [go_sem, e]
    have f1 : ((m.name.length : Int) > 200) = False := eq_false (by omega)
    by_cases a2 : m.inn.length > 200
    ·have f2 : ((m.inn.length : Int) > 200) = True := eq_true (by omega)
     have e := few_meth hm hil.2 (decide_eq_false (by omega))
     refine AW.rT (by rfl) fun K hK => ?_
     simp -implicitDefEqProofs only [go_sem, ↓reduceIte, Nat.reduceAdd, Nat.reduceEqDiff, hm1, hm2', hm3, encMt, List.length_map, f1, f2]
     refine hK _ ?_; clear hK K
     refine AW.cond _ (by simp -implicitDefEqProofs only [go_sem]; rfl) (fun hc => ?_) (fun hc => ?_)
     rotate_left
     ·simp at hc
     refine AW.rT (by rfl) fun K hK => ?_
     simp -implicitDefEqProofs only [go_sem, Nat.reduceAdd]
     refine hK _ ?_; clear hK K
     refine AW.ret ?_
     simp -implicitDefEqProofs only [go_sem, e]
    have f2 : ((m.inn.length : Int) > 200) = False := eq_false (by omega)
    by_cases a3 : m.out.length > 200
    ·have f3 : ((m.out.length : Int) > 200) = True := eq_true (by omega)
     have e := few_meth hm hil.2 (decide_eq_false (by omega))
     refine AW.rT (by rfl) fun K hK => ?_
     simp -implicitDefEqProofs only [go_sem, ↓reduceIte, Nat.reduceAdd, Nat.reduceEqDiff, hm1, hm2', hm3, encMt, List.length_map, f1, f2, f3]
     refine hK _ ?_; clear hK K
     refine AW.cond _ (by simp -implicitDefEqProofs only [go_sem]; rfl) (fun hc => ?_) (fun hc => ?_)
     rotate_left
     ·simp at hc
     refine AW.rT (by rfl) fun K hK => ?_
     simp -implicitDefEqProofs only [go_sem, Nat.reduceAdd]
     refine hK _ ?_; clear hK K
     refine AW.ret ?_
     simp -implicitDefEqProofs only [go_sem, e]
    have f3 : ((m.out.length : Int) > 200) = False := eq_false (by omega)
    refine AW.rT (by rfl) fun K hK => ?_
    simp -implicitDefEqProofs only [go_sem, ↓reduceIte, Nat.reduceAdd, Nat.reduceEqDiff, hm1, hm2', hm3, encMt, List.length_map, f1, f2, f3]
    refine hK _ ?_; clear hK K
    refine AW.cond _ (by simp -implicitDefEqProofs only [go_sem]; rfl) (fun hc => ?_) (fun hc => ?_)
    ·simp at hc
    refine AW.skip ?_
    simp only [andThen, inBlk]
    refine AW.rE (by rfl) fun K hK => ?_
    simp -implicitDefEqProofs only [go_sem, ↓reduceIte, Nat.reduceAdd, Nat.reduceEqDiff, w1]
    refine hK _ ?_; clear hK K
    refine ⟨i + 1, ⟨⟨by omega, by omega⟩, all_next hm i2 (decide_eq_true (by omega))⟩, by omega, ?_⟩
    try simp only [fw, cellsSc]
    refine Ghost.sub ?_ ?_ <;> simp -implicitDefEqProofs only [go_sem, ↓reduceIte, Nat.reduceEqDiff, List.forall_mem_cons, List.not_mem_nil, false_implies, implies_true, and_self, List.all_cons, List.all_nil, Nat.reduceLT, labsInL, AV.labsIn]
   have ea := take_end i1 i0 hil
   rw [ea] at i2
   by_cases hil' : i < S.meths.length
   ·have c1 : ((i : Int) < (S.meths.length : Int)) = True := eq_true (by omega)
    have c2 : ((i : Int) < 20) = False := eq_false (by omega)
    refine AW.rT (by rfl) fun K hK => ?_
    simp -implicitDefEqProofs only [go_sem, ↓reduceIte, Nat.reduceAdd, Nat.reduceEqDiff, c1, c2, List.length_map]
    refine hK _ ?_; clear hK K
    refine AW.cond _ (by simp -implicitDefEqProofs only [go_sem]; rfl) (fun hc => ?_) (fun hc => ?_)
    ·simp at hc
    refine AW.exit ?_
    simp only [andThen, inBlk, ↓reduceIte]
    refine ⟨(), i2, ?_⟩
    try simp only [fw, cellsSc]
    refine Ghost.sub ?_ ?_ <;> simp -implicitDefEqProofs only [go_sem, ↓reduceIte, Nat.reduceEqDiff, List.forall_mem_cons, List.not_mem_nil, false_implies, implies_true, and_self, List.all_cons, List.all_nil, Nat.reduceLT, labsInL, AV.labsIn]
   ·have c1 : ((i : Int) < (S.meths.length : Int)) = False := eq_false (by omega)
    refine AW.rT (by rfl) fun K hK => ?_
    simp -implicitDefEqProofs only [go_sem, ↓reduceIte, Nat.reduceAdd, Nat.reduceEqDiff, c1, List.length_map]
    refine hK _ ?_; clear hK K
    refine AW.cond _ (by simp -implicitDefEqProofs only [go_sem]; rfl) (fun hc => ?_) (fun hc => ?_)
    ·simp at hc
    refine AW.exit ?_
    simp only [andThen, inBlk, ↓reduceIte]
    refine ⟨(), i2, ?_⟩
    try simp only [fw, cellsSc]
    refine Ghost.sub ?_ ?_ <;> simp -implicitDefEqProofs only [go_sem, ↓reduceIte, Nat.reduceEqDiff, List.forall_mem_cons, List.not_mem_nil, false_implies, implies_true, and_self, List.all_cons, List.all_nil, Nat.reduceLT, labsInL, AV.labsIn]
  try simp only [fw, cellsSc]
  have eF : fewB S = decide (totN S 20 < 3000 ∧ S.msgs.length ≤ 14 ∧ S.enums.length ≤ 10 ∧ S.meths.length ≤ 10) := by
   unfold fewB; rw [qA, qC, qE]; simp only [Bool.true_and]
  by_cases a0 : totN S 20 < 3000
  case neg =>
   have f0 : ((totN S 20 : Int) < 3000) = False := eq_false (by omega)
   rw [decide_eq_false (by omega)] at eF
   refine AW.rT (by rfl) fun K hK => ?_
   simp -implicitDefEqProofs only [go_sem, ↓reduceIte, Nat.reduceAdd, Nat.reduceEqDiff, f0]
   refine hK _ ?_; clear hK K
   refine AW.ret ?_
   simp -implicitDefEqProofs only [go_sem, eF]
  have f0 : ((totN S 20 : Int) < 3000) = True := eq_true (by omega)
  by_cases a1 : S.msgs.length ≤ 14
  case neg =>
   have f1 : ((S.msgs.length : Int) ≤ 14) = False := eq_false (by omega)
   rw [decide_eq_false (by omega)] at eF
   refine AW.rT (by rfl) fun K hK => ?_
   simp -implicitDefEqProofs only [go_sem, ↓reduceIte, Nat.reduceAdd, Nat.reduceEqDiff, f0, f1, List.length_map]
   refine hK _ ?_; clear hK K
   refine AW.ret ?_
   simp -implicitDefEqProofs only [go_sem, eF]
  have f1 : ((S.msgs.length : Int) ≤ 14) = True := eq_true (by omega)
  by_cases a2 : S.enums.length ≤ 10
  case neg =>
   have f2 : ((S.enums.length : Int) ≤ 10) = False := eq_false (by omega)
   rw [decide_eq_false (by omega)] at eF
   refine AW.rT (by rfl) fun K hK => ?_
   simp -implicitDefEqProofs only [go_sem, ↓reduceIte, Nat.reduceAdd, Nat.reduceEqDiff, f0, f1, f2, List.length_map]
   refine hK _ ?_; clear hK K
   refine AW.ret ?_
   simp -implicitDefEqProofs only [go_sem, eF]
  have f2 : ((S.enums.length : Int) ≤ 10) = True := eq_true (by omega)
  by_cases a3 : S.meths.length ≤ 10
  case neg =>
   have f3 : ((S.meths.length : Int) ≤ 10) = False := eq_false (by omega)
   rw [decide_eq_false (by omega)] at eF
   refine AW.rT (by rfl) fun K hK => ?_
   simp -implicitDefEqProofs only [go_sem, ↓reduceIte, Nat.reduceAdd, Nat.reduceEqDiff, f0, f1, f2, f3, List.length_map]
   refine hK _ ?_; clear hK K
   refine AW.ret ?_
   simp -implicitDefEqProofs only [go_sem, eF]
  have f3 : ((S.meths.length : Int) ≤ 10) = True := eq_true (by omega)
  rw [decide_eq_true (by omega)] at eF
  refine AW.rT (by rfl) fun K hK => ?_
  simp -implicitDefEqProofs only [go_sem, ↓reduceIte, Nat.reduceAdd, Nat.reduceEqDiff, f0, f1, f2, f3, List.length_map]
  refine hK _ ?_; clear hK K
  refine AW.ret ?_
  simp -implicitDefEqProofs only [go_sem, eF]
 refine AW.rT (by rfl) fun K hK => ?_
 simp -implicitDefEqProofs only [go_sem, Nat.reduceAdd]
 refine hK _ ?_; clear hK K
 refine AW.block ?_
 refine AW.loop (fun i : Nat => fw S [(3, .p (.int .i64 (totN S i : Int))), (4, .p (.int .i64 (i : Int)))]) (fun i => (i ≤ S.msgs.length ∧ i ≤ 20) ∧ (S.msgs.take i).all msFew = true) (fun i => 20 - i) 0 ?_ ⟨⟨by omega, by omega⟩, by simp⟩ fun i hi => ?_
 ·simp only [fw, cellsSc]
  refine Ghost.sub ?_ ?_ <;> simp -implicitDefEqProofs only [go_sem, ↓reduceIte, Nat.reduceEqDiff, totN, List.take_zero, List.map_nil, List.sum_nil, List.forall_mem_cons, List.not_mem_nil, false_implies, implies_true, and_self, List.all_cons, List.all_nil, Nat.reduceLT, labsInL, AV.labsIn]
  all_goals first | rfl | decide | skip
 obtain ⟨⟨i1, i0⟩, i2⟩ := hi
 have ht := tot_le B i0
 try simp only [fw, cellsSc]
 refine AW.seq ?_
 by_cases hil : i < S.msgs.length ∧ i < 20
 ·have c1 : ((i : Int) < (S.msgs.length : Int)) = True := eq_true (by omega)
  have c2 : ((i : Int) < 20) = True := eq_true (by omega)
  obtain ⟨m, hm⟩ : ∃ m, S.msgs[i]? = some m := ⟨_, List.getElem?_eq_getElem hil.1⟩
  have ⟨hm1, hm2, hm3⟩ := at_map' encMs hm
  have hm2' : (i : Int) < (S.msgs.length : Int) := by omega
  have w1 : IntKind.wrap .i64 ((i : Int) + 1) = ((i + 1 : Nat) : Int) := by rw [w64] <;> omega
  have hbm : m.name.length ≤ reachBytes := B.2 m (List.mem_of_getElem? hm)
  have eb : reachBytes = 140737488351232 := by decide
  have hnt := tot_next hm
  have w2 : IntKind.wrap .i64 ((totN S i : Int) + (m.name.length : Int)) = (totN S (i + 1) : Int) := by rw [w64] <;> omega
  refine AW.rT (by rfl) fun K hK => ?_
  simp -implicitDefEqProofs only [go_sem, ↓reduceIte, Nat.reduceAdd, Nat.reduceEqDiff, c1, c2, List.length_map]
  refine hK _ ?_; clear hK K
  refine AW.cond _ (by simp -implicitDefEqProofs only [go_sem]; rfl) (fun hc => ?_) (fun hc => ?_)
  rotate_left
  ·simp at hc
  refine AW.skip ?_
  simp only [andThen]
  refine AW.seq ?_
  refine AW.block ?_
  refine AW.rT (by rfl) fun K hK => ?_
  simp -implicitDefEqProofs only [go_sem, ↓reduceIte, Nat.reduceAdd, Nat.reduceEqDiff, c1, List.length_map, hm1, hm3, encMs, w2]
  refine hK _ ?_; clear hK K
  refine AW.seq ?_
  by_cases a1 : m.fields.length > 20
  ·have f1 : ((m.fields.length : Int) > 20) = True := eq_true (by omega)
   have e := few_msg hm hil.2 (by unfold msFew; rw [decide_eq_false (by omega)]; rfl)
   refine AW.rT (by rfl) fun K hK => ?_
   simp -implicitDefEqProofs only [go_sem, ↓reduceIte, Nat.reduceAdd, Nat.reduceEqDiff, hm1, hm2', hm3, encMs, List.length_map, f1]
   refine hK _ ?_; clear hK K
   refine AW.cond _ (by simp -implicitDefEqProofs only [go_sem]; rfl) (fun hc => ?_) (fun hc => ?_)
   rotate_left
   ·simp at hc
   refine AW.rT (by rfl) fun K hK => ?_
   simp -implicitDefEqProofs only [go_sem, Nat.reduceAdd]
   refine hK _ ?_; clear hK K
   refine AW.ret ?_
   simp -implicitDefEqProofs only [go_sem, e]
  have f1 : ((m.fields.length : Int) > 20) = False := eq_false (by omega)
  by_cases a2 : m.res.length > 40
  ·have f2 : ((m.res.length : Int) > 40) = True := eq_true (by omega)
   have e := few_msg hm hil.2 (by unfold msFew; rw [decide_eq_false (by omega)]; rfl)
   refine AW.rT (by rfl) fun K hK => ?_
   simp -implicitDefEqProofs only [go_sem, ↓reduceIte, Nat.reduceAdd, Nat.reduceEqDiff, hm1, hm2', hm3, encMs, List.length_map, f1, f2]
   refine hK _ ?_; clear hK K
   refine AW.cond _ (by simp -implicitDefEqProofs only [go_sem]; rfl) (fun hc => ?_) (fun hc => ?_)
   rotate_left
   ·simp at hc
   refine AW.rT (by rfl) fun K hK => ?_
   simp -implicitDefEqProofs only [go_sem, Nat.reduceAdd]
   refine hK _ ?_; clear hK K
   refine AW.ret ?_
   simp -implicitDefEqProofs only [go_sem, e]
  have f2 : ((m.res.length : Int) > 40) = False := eq_false (by omega)
  refine AW.rT (by rfl) fun K hK => ?_
  simp -implicitDefEqProofs only [go_sem, ↓reduceIte, Nat.reduceAdd, Nat.reduceEqDiff, hm1, hm2', hm3, encMs, List.length_map, f1, f2]
  refine hK _ ?_; clear hK K
  refine AW.cond _ (by simp -implicitDefEqProofs only [go_sem]; rfl) (fun hc => ?_) (fun hc => ?_)
  ·simp at hc
  refine AW.skip ?_
  simp only [andThen]
  refine AW.rT (by rfl) fun K hK => ?_
  simp -implicitDefEqProofs only [go_sem, Nat.reduceAdd]
  refine hK _ ?_; clear hK K
  refine AW.block ?_
  refine AW.loop (fun j : Nat => fw S [(3, .p (.int .i64 (totN S (i + 1) : Int))), (4, .p (.int .i64 (i : Int))), (5, .p (.int .i64 (j : Int)))]) (fun j => j ≤ m.fields.length ∧ (m.fields.take j).all fdFew = true) (fun j => m.fields.length - j) 0 ?_ ⟨by omega, by simp⟩ fun j hj => ?_
  ·simp only [fw, cellsSc]
   refine Ghost.sub ?_ ?_ <;> simp -implicitDefEqProofs only [go_sem, ↓reduceIte, Nat.reduceEqDiff, List.forall_mem_cons, List.not_mem_nil, false_implies, implies_true, and_self, List.all_cons, List.all_nil, Nat.reduceLT, labsInL, AV.labsIn]
   all_goals first | rfl | decide | skip
  obtain ⟨j1, j2⟩ := hj
  try simp only [fw, cellsSc]
  refine AW.seq ?_
  by_cases hjl : j < m.fields.length
  case neg =>
   have c3 : ((j : Int) < (m.fields.length : Int)) = False := eq_false (by omega)
   rw [List.take_of_length_le (by omega)] at j2
   have hmf : msFew m = true := by unfold msFew; rw [decide_eq_true (by omega), j2]; rfl
   refine AW.rT (by rfl) fun K hK => ?_
   simp -implicitDefEqProofs only [go_sem, ↓reduceIte, Nat.reduceAdd, Nat.reduceEqDiff, hm1, hm2', hm3, encMs, List.length_map, c3]
   refine hK _ ?_; clear hK K
   refine AW.cond _ (by simp -implicitDefEqProofs only [go_sem]; rfl) (fun hc => ?_) (fun hc => ?_)
   ·simp at hc
   refine AW.exit ?_
   simp only [andThen, inBlk, ↓reduceIte]
   refine AW.rE (by rfl) fun K hK => ?_
   simp -implicitDefEqProofs only [go_sem, ↓reduceIte, Nat.reduceAdd, Nat.reduceEqDiff, w1]
   refine hK _ ?_; clear hK K
   refine ⟨i + 1, ⟨⟨by omega, by omega⟩, all_next hm i2 hmf⟩, by omega, ?_⟩
   try simp only [fw, cellsSc]
   refine Ghost.sub ?_ ?_ <;> simp -implicitDefEqProofs only [go_sem, ↓reduceIte, Nat.reduceEqDiff, List.forall_mem_cons, List.not_mem_nil, false_implies, implies_true, and_self, List.all_cons, List.all_nil, Nat.reduceLT, labsInL, AV.labsIn]
  obtain ⟨f, hf⟩ : ∃ f, m.fields[j]? = some f := ⟨_, List.getElem?_eq_getElem hjl⟩
  have ⟨hf1, hf2, hf3⟩ := at_map' encFd hf
  have hf2' : (j : Int) < (m.fields.length : Int) := by omega
  have c3 : ((j : Int) < (m.fields.length : Int)) = True := eq_true (by omega)
  have w3 : IntKind.wrap .i64 ((j : Int) + 1) = ((j + 1 : Nat) : Int) := by rw [w64] <;> omega
  refine AW.rT (by rfl) fun K hK => ?_
  simp -implicitDefEqProofs only [go_sem, ↓reduceIte, Nat.reduceAdd, Nat.reduceEqDiff, hm1, hm2', hm3, encMs, List.length_map, c3]
  refine hK _ ?_; clear hK K
  refine AW.cond _ (by simp -implicitDefEqProofs only [go_sem]; rfl) (fun hc => ?_) (fun hc => ?_)
  rotate_left
  ·simp at hc
  refine AW.skip ?_
  simp only [andThen]
  refine AW.seq ?_
  refine AW.block ?_
  refine AW.rT (by rfl) fun K hK => ?_
  simp -implicitDefEqProofs only [go_sem, ↓reduceIte, Nat.reduceAdd, Nat.reduceEqDiff, Nat.reduceLeDiff, hm1, hm2', hm3, encMs, List.length_map, hf1, hf2', hf3, encFd]
  refine hK _ ?_; clear hK K
  have bad : fdFew f = false → fewB S = false := fun h => few_msg hm hil.2 (by unfold msFew; rw [all_not hf h]; simp)
  by_cases b1 : f.name.length > 200
  ·have f1 : ((f.name.length : Int) > 200) = True := eq_true (by omega)
   have e := bad (decide_eq_false (by omega))
   refine AW.rT (by rfl) fun K hK => ?_
   simp -implicitDefEqProofs only [go_sem, ↓reduceIte, Nat.reduceAdd, Nat.reduceEqDiff, f1]
   refine hK _ ?_; clear hK K
   refine AW.cond _ (by simp -implicitDefEqProofs only [go_sem]; rfl) (fun hc => ?_) (fun hc => ?_)
   rotate_left
   ·simp at hc
   refine AW.rT (by rfl) fun K hK => ?_
   simp -implicitDefEqProofs only [go_sem, Nat.reduceAdd]
   refine hK _ ?_; clear hK K
   refine AW.ret ?_
   simp -implicitDefEqProofs only [go_sem, e]
  have f1 : ((f.name.length : Int) > 200) = False := eq_false (by omega)
  by_cases b2 : f.ty.name.length > 200
  ·have f2 : ((f.ty.name.length : Int) > 200) = True := eq_true (by omega)
   have e := bad (decide_eq_false (by omega))
   refine AW.rT (by rfl) fun K hK => ?_
   simp -implicitDefEqProofs only [go_sem, ↓reduceIte, Nat.reduceAdd, Nat.reduceEqDiff, f1, f2]
   refine hK _ ?_; clear hK K
   refine AW.cond _ (by simp -implicitDefEqProofs only [go_sem]; rfl) (fun hc => ?_) (fun hc => ?_)
   rotate_left
   ·simp at hc
   refine AW.rT (by rfl) fun K hK => ?_
   simp -implicitDefEqProofs only [go_sem, Nat.reduceAdd]
   refine hK _ ?_; clear hK K
   refine AW.ret ?_
   simp -implicitDefEqProofs only [go_sem, e]
  have f2 : ((f.ty.name.length : Int) > 200) = False := eq_false (by omega)
  refine AW.rT (by rfl) fun K hK => ?_
  simp -implicitDefEqProofs only [go_sem, ↓reduceIte, Nat.reduceAdd, Nat.reduceEqDiff, f1, f2]
  refine hK _ ?_; clear hK K
  refine AW.cond _ (by simp -implicitDefEqProofs only [go_sem]; rfl) (fun hc => ?_) (fun hc => ?_)
  ·simp at hc
  refine AW.skip ?_
  simp only [andThen, inBlk]
  refine AW.rE (by rfl) fun K hK => ?_
  simp -implicitDefEqProofs only [go_sem, ↓reduceIte, Nat.reduceAdd, Nat.reduceEqDiff, w3]
  refine hK _ ?_; clear hK K
  refine ⟨j + 1, ⟨by omega, all_next hf j2 (decide_eq_true (by omega))⟩, by omega, ?_⟩
  refine Ghost.sub ?_ ?_ <;> simp -implicitDefEqProofs only [go_sem, ↓reduceIte, Nat.reduceEqDiff, reduceCtorEq, List.forall_mem_cons, List.not_mem_nil, false_implies, implies_true, and_self, List.all_cons, List.all_nil, Nat.reduceLT, labsInL, AV.labsIn]
 have ea := take_end i1 i0 hil
 have et : totN S i = totN S 20 := by unfold totN; rw [ea]
 rw [ea] at i2
 by_cases hil' : i < S.msgs.length
 ·have c1 : ((i : Int) < (S.msgs.length : Int)) = True := eq_true (by omega)
  have c2 : ((i : Int) < 20) = False := eq_false (by omega)
  refine AW.rT (by rfl) fun K hK => ?_
  simp -implicitDefEqProofs only [go_sem, ↓reduceIte, Nat.reduceAdd, Nat.reduceEqDiff, c1, c2, List.length_map]
  refine hK _ ?_; clear hK K
  refine AW.cond _ (by simp -implicitDefEqProofs only [go_sem]; rfl) (fun hc => ?_) (fun hc => ?_)
  ·simp at hc
  refine AW.exit ?_
  simp only [andThen, inBlk, ↓reduceIte]
  refine ⟨(), i2, ?_⟩
  try simp only [fw, cellsSc]
  refine Ghost.sub ?_ ?_ <;> simp -implicitDefEqProofs only [go_sem, ↓reduceIte, Nat.reduceEqDiff, et, List.forall_mem_cons, List.not_mem_nil, false_implies, implies_true, and_self, List.all_cons, List.all_nil, Nat.reduceLT, labsInL, AV.labsIn]
 ·have c1 : ((i : Int) < (S.msgs.length : Int)) = False := eq_false (by omega)
  refine AW.rT (by rfl) fun K hK => ?_
  simp -implicitDefEqProofs only [go_sem, ↓reduceIte, Nat.reduceAdd, Nat.reduceEqDiff, c1, List.length_map]
  refine hK _ ?_; clear hK K
  refine AW.cond _ (by simp -implicitDefEqProofs only [go_sem]; rfl) (fun hc => ?_) (fun hc => ?_)
  ·simp at hc
  refine AW.exit ?_
  simp only [andThen, inBlk, ↓reduceIte]
  refine ⟨(), i2, ?_⟩
  try simp only [fw, cellsSc]
  refine Ghost.sub ?_ ?_ <;> simp -implicitDefEqProofs only [go_sem, ↓reduceIte, Nat.reduceEqDiff, et, List.forall_mem_cons, List.not_mem_nil, false_implies, implies_true, and_self, List.all_cons, List.all_nil, Nat.reduceLT, labsInL, AV.labsIn]
end Go.Aw
namespace Go.Aw
set_option linter.unusedSimpArgs false
set_option linter.unusedVariables false
theorem Ghost.nilH {nt : Fm} {s : St} {l i j sz sz' : Nat} {es : List (List AV)} {e : List AV} (hl : s.H l = some (.row sz es)) (hi : es[i]? = some e) (hj : e[j]? = some (.ex [])) :
  Ghost nt s ⟨s.T, upd (upd s.H l (some (.row sz (es.set i (e.set j (.own s.nx)))))) s.nx (some (.row sz' [])), s.nx + 1⟩ := by
 rintro w0 X I0 a w ⟨σ, I, hσ, m⟩
 have hb := m.heap.rows l _ hl
 cases hb with
 | emp h => simp at hi
 | row h hg hcur hc hs ho hr =>
  rename_i g c cur et
  obtain ⟨u, hu, hru⟩ := hr i e j _ hi hj
  have hnx := hσ s.nx (Nat.le_refl _)
  have hln : l ≠ s.nx := by rintro rfl; rw [hnx] at h; cases h
  cases hru with
  | ex he hrep =>
   rename_i ad n
   subst he
   have ext : ∀ l' s', σ l' = some s' → upd σ s.nx (some (.emp ad)) l' = some s' := fun l' s' h' => by
    rw [upd_ne _ _ (by rintro rfl; rw [hnx] at h'; cases h')]
    exact h'
   have H2 := m.heap.empty hnx ad sz'
   refine ⟨upd σ s.nx (some (.emp ad)), I, fun l' h' => ?_, m.defers, m.size, m.pins, ⟨fun l' b' h' => ?_, fun l1 l2 g s1 s2 h1 h2 => ?_, fun l' g s' h1 => ?_, H2.imm, H2.sub, H2.fr⟩, fun i' x hx => ?_⟩
   ·simp only at h'
    rw [upd_ne _ _ (by omega)]
    exact hσ l' (by omega)
   ·simp only at h'
    by_cases e1 : l' = s.nx
    ·subst e1
     rw [upd_same] at h'
     exact H2.rows s.nx b' (by rw [upd_same]; exact h')
    ·rw [upd_ne _ _ e1] at h'
     by_cases e2 : l' = l
     ·subst e2
      rw [upd_same] at h'
      injection h' with h'
      subst h'
      refine .row (by rw [List.length_set]; exact ext _ _ h) hg hcur (by rw [List.length_set]; exact hc) (fun e' he' => ?_) (fun e' he' x hx => ?_) fun i' e' j' x q1 q2 => ?_
      ·rcases List.mem_or_eq_of_mem_set he' with he' | rfl
       ·exact hs e' he'
       ·rw [List.length_set]; exact hs e (List.mem_of_getElem? hi)
      ·rcases List.mem_or_eq_of_mem_set he' with he' | rfl
       ·exact ho e' he' x hx
       ·rcases List.mem_or_eq_of_mem_set hx with hx | rfl
        ·exact ho e (List.mem_of_getElem? hi) x hx
        ·rfl
      ·rw [List.getElem?_set] at q1
       split at q1
       ·rename_i e3
        subst e3
        split at q1
        ·injection q1 with q1
         subst q1
         rw [List.getElem?_set] at q2
         split at q2
         ·rename_i e4
          subst e4
          split at q2
          ·injection q2 with q2
           subst q2
           exact ⟨_, hu, .ownE (upd_same _ _ _)⟩
          ·cases q2
         ·obtain ⟨u', hu', hr'⟩ := hr i e j' x hi q2
          exact ⟨u', hu', hr'.mono ext (fun _ h => h) (fun _ _ => rfl)⟩
        ·cases q1
       ·obtain ⟨u', hu', hr'⟩ := hr i' e' j' x q1 q2
        exact ⟨u', hu', hr'.mono ext (fun _ h => h) (fun _ _ => rfl)⟩
     ·rw [upd_ne _ _ e2] at h'
      exact H2.rows l' b' (by rw [upd_ne _ _ e1]; exact h')
   ·refine H2.inj l1 l2 g s1 s2 ?_ ?_
    ·intro h0; apply h1
     show upd (upd s.H l _) s.nx _ l1 = none
     by_cases e1 : l1 = s.nx
     ·subst e1; rw [upd_same] at h0; cases h0
     ·rw [upd_ne _ _ e1] at h0 ⊢
      by_cases e2 : l1 = l
      ·subst e2; rw [hl] at h0; cases h0
      ·rw [upd_ne _ _ e2]; exact h0
    ·intro h0; apply h2
     show upd (upd s.H l _) s.nx _ l2 = none
     by_cases e1 : l2 = s.nx
     ·subst e1; rw [upd_same] at h0; cases h0
     ·rw [upd_ne _ _ e1] at h0 ⊢
      by_cases e2 : l2 = l
      ·subst e2; rw [hl] at h0; cases h0
      ·rw [upd_ne _ _ e2]; exact h0
   ·refine H2.mine l' g s' ?_
    intro h0; apply h1
    show upd (upd s.H l _) s.nx _ l' = none
    by_cases e1 : l' = s.nx
    ·subst e1; rw [upd_same] at h0; cases h0
    ·rw [upd_ne _ _ e1] at h0 ⊢
     by_cases e2 : l' = l
     ·subst e2; rw [hl] at h0; cases h0
     ·rw [upd_ne _ _ e2]; exact h0
   ·obtain ⟨v, hv, hrv⟩ := m.tmps i' x hx
    exact ⟨v, hv, hrv.mono ext (fun _ h => h) (fun _ _ => rfl)⟩
theorem thaw_lift (lb : Nat) (qs ps : List (List PV)) : (liftE ps).map (fun e => e.map (thaw1 lb qs)) = liftE ps := by
 simp [liftE, thaw1]
end Go.Aw
namespace Go.Aw
open Go.Proofs Go.RowKit
set_option linter.unusedSimpArgs false
set_option linter.unusedVariables false
structure FewM (m : Ms) : Prop where
 name : m.name.length < 3000
 fields : m.fields.length ≤ 20
 res : m.res.length ≤ 40
 fd : ∀ f ∈ m.fields, f.name.length ≤ 200 ∧ f.ty.name.length ≤ 200
structure FewE (e : En) : Prop where
 name : e.name.length ≤ 200
 vals : e.vals.length ≤ 24
 nm : ∀ v ∈ e.vals, v.name.length ≤ 200
structure FewS (S : Sc) : Prop where
 name : S.name.length < 3000
 msgs : S.msgs.length ≤ 14
 enums : S.enums.length ≤ 10
 meths : S.meths.length ≤ 10
 ms : ∀ m ∈ S.msgs, FewM m
 en : ∀ e ∈ S.enums, FewE e
 mt : ∀ t ∈ S.meths, t.name.length ≤ 200 ∧ t.inn.length ≤ 200 ∧ t.out.length ≤ 200
theorem le_sum {l : List Ms} {m : Ms} (h : m ∈ l) : m.name.length ≤ (l.map fun m => m.name.length).sum := by
 induction l with
 | nil => cases h
 | cons a l ih =>
  rw [List.map_cons, List.sum_cons]
  rcases List.mem_cons.1 h with rfl | h
  ·omega
  ·have := ih h; omega
theorem few_spec {S : Sc} (h : fewB S = true) : FewS S := by
 unfold fewB at h
 simp only [Bool.and_eq_true, decide_eq_true_eq] at h
 obtain ⟨h1, h2, h3, h4, h5, h6, h7⟩ := h
 rw [List.take_of_length_le (by omega)] at h1 h2 h3
 unfold totN at h4
 rw [List.take_of_length_le (by omega)] at h4
 refine ⟨by omega, h5, h6, h7, fun m hm => ?_, fun e he => ?_, fun t ht => ?_⟩
 ·have q := List.all_eq_true.1 h1 m hm
  unfold msFew at q
  simp only [Bool.and_eq_true, decide_eq_true_eq] at q
  have := le_sum hm
  exact ⟨by omega, q.1.1, q.1.2, fun f hf => by have := List.all_eq_true.1 q.2 f hf; simpa [fdFew] using this⟩
 ·have q := List.all_eq_true.1 h2 e he
  unfold enFew at q
  simp only [Bool.and_eq_true, decide_eq_true_eq] at q
  exact ⟨q.1.1, q.1.2, fun f hf => by have := List.all_eq_true.1 q.2 f hf; simpa [nmFew] using this⟩
 ·have q := List.all_eq_true.1 h3 t ht
  simpa [mtFew] using q
theorem FewS.lens {S : Sc} (h : FewS S) : LensS S := by
 refine ⟨by have := h.name; omega, fun m hm => ⟨by have := (h.ms m hm).name; omega, fun f hf => by have := ((h.ms m hm).fd f hf).1; omega⟩, fun e he => ⟨by have := (h.en e he).name; omega, fun v hv => by have := (h.en e he).nm v hv; omega⟩, fun t ht => by have := (h.mt t ht).1; omega, by have := h.msgs; omega, by have := h.enums; omega, by have := h.meths; omega⟩
def sc1 (S : Sc) (i : Nat) : St := ⟨ofL [(1, .ptr 0 0 0), (2, .ptr 1 0 0), (3, .ptr 2 0 0), (4, .p (.int .i64 (i : Int)))],
 ofH [(0, .row 4 [cellsSc S]), (1, .row 4 [[.p (.str []), .ex [], .ex [], .ex []]]), (2, .row 4 [[.p (.str S.name), .own 3, .ex [], .p (.slice (S.meths.map encMt))]]), (3, .row 3 (liftE ((S.msgs.take i).map encMs)))], 4⟩
def scA (S : Sc) : St := ⟨ofL [(1, .ptr 0 0 0), (2, .ptr 1 0 0), (3, .ptr 2 0 0), (4, .p (.int .i64 0))],
 ofH [(0, .row 4 [cellsSc S]), (1, .row 4 [[.p (.str []), .ex [], .ex [], .ex []]]), (2, .row 4 [[.p (.str S.name), .ex [], .ex [], .p (.slice (S.meths.map encMt))]])], 3⟩
def scB (S : Sc) (m : Ms) (i : Nat) : St := ⟨ofL [(1, .ptr 0 0 0), (2, .ptr 1 0 0), (3, .ptr 2 0 0), (4, .p (.int .i64 (i : Int)))],
 ofH [(0, .row 4 [cellsSc S]), (1, .row 4 [[.p (.str []), .ex [], .ex [], .ex []]]), (2, .row 4 [[.p (.str S.name), .own 3, .ex [], .p (.slice (S.meths.map encMt))]]), (3, .row 3 (liftE ((S.msgs.take i).map encMs) ++ [[.p (.str m.name), .own 4, .p (.slice (m.res.map encI))]])), (4, .row 5 (liftE (m.fields.map encFd)))], 5⟩
def scC (S : Sc) (m : Ms) (i : Nat) : St := ⟨ofL [(1, .ptr 0 0 0), (2, .ptr 1 0 0), (3, .ptr 2 0 0), (4, .p (.int .i64 (i : Int)))],
 ofH [(0, .row 4 [cellsSc S]), (1, .row 4 [[.p (.str []), .ex [], .ex [], .ex []]]), (2, .row 4 [[.p (.str S.name), .own 3, .ex [], .p (.slice (S.meths.map encMt))]]), (3, .row 3 (liftE ((S.msgs.take i).map encMs) ++ [[.p (.str m.name), .p (.slice (m.fields.map encFd)), .p (.slice (m.res.map encI))]]))], 5⟩
def scD (S : Sc) : St := ⟨ofL [(1, .ptr 0 0 0), (2, .ptr 1 0 0), (3, .ptr 2 0 0)],
 ofH [(0, .row 4 [cellsSc S]), (1, .row 4 [[.p (.str []), .ex [], .ex [], .ex []]]), (2, .row 4 [[.p (.str S.name), .p (.slice (S.msgs.map encMs)), .ex [], .p (.slice (S.meths.map encMt))]])], 3⟩
def scE (S : Sc) (i : Nat) : St := ⟨ofL [(1, .ptr 0 0 0), (2, .ptr 1 0 0), (3, .ptr 2 0 0), (6, .p (.int .i64 (i : Int)))],
 ofH [(0, .row 4 [cellsSc S]), (1, .row 4 [[.p (.str []), .ex [], .ex [], .ex []]]), (2, .row 4 [[.p (.str S.name), .p (.slice (S.msgs.map encMs)), .own 3, .p (.slice (S.meths.map encMt))]]), (3, .row 2 (liftE ((S.enums.take i).map encEn)))], 4⟩
def scF (S : Sc) (m : En) (i : Nat) : St := ⟨ofL [(1, .ptr 0 0 0), (2, .ptr 1 0 0), (3, .ptr 2 0 0), (6, .p (.int .i64 (i : Int)))],
 ofH [(0, .row 4 [cellsSc S]), (1, .row 4 [[.p (.str []), .ex [], .ex [], .ex []]]), (2, .row 4 [[.p (.str S.name), .p (.slice (S.msgs.map encMs)), .own 3, .p (.slice (S.meths.map encMt))]]), (3, .row 2 (liftE ((S.enums.take i).map encEn) ++ [[.p (.str m.name), .own 4]])), (4, .row 2 (liftE (m.vals.map encNm)))], 5⟩
def scG (S : Sc) (m : En) (i : Nat) : St := ⟨ofL [(1, .ptr 0 0 0), (2, .ptr 1 0 0), (3, .ptr 2 0 0), (6, .p (.int .i64 (i : Int)))],
 ofH [(0, .row 4 [cellsSc S]), (1, .row 4 [[.p (.str []), .ex [], .ex [], .ex []]]), (2, .row 4 [[.p (.str S.name), .p (.slice (S.msgs.map encMs)), .own 3, .p (.slice (S.meths.map encMt))]]), (3, .row 2 (liftE ((S.enums.take i).map encEn) ++ [[.p (.str m.name), .p (.slice (m.vals.map encNm))]]))], 5⟩
def scH (S : Sc) : St := ⟨ofL [(1, .ptr 0 0 0), (2, .ptr 1 0 0), (3, .ptr 2 0 0)],
 ofH [(0, .row 4 [cellsSc S]), (1, .row 4 [[.p (.str []), .ex [], .ex [], .ex []]]), (2, .row 4 [[.p (.str S.name), .p (.slice (S.msgs.map encMs)), .p (.slice (S.enums.map encEn)), .p (.slice (S.meths.map encMt))]])], 3⟩
def sc0 (S : Sc) : St := ⟨ofL [(1, .ptr 0 0 0), (2, .ptr 1 0 0), (3, .ptr 2 0 0), (4, .p (.int .i64 0))],
 ofH [(0, .row 4 [cellsSc S]), (1, .row 4 [[.p (.str []), .ex [], .ex [], .ex []]]), (2, .row 4 [[.p (.str S.name), .ex [], .ex [], .own 3]]), (3, .row 3 (liftE (S.meths.map encMt)))], 4⟩
set_option maxRecDepth 100000 in
set_option maxHeartbeats 8000000 in
theorem law00_Schema (S : Sc) (F : FewS S) : PFn Tryd.prog 23 [.agg (encSc S)] (.agg (encSc S)) := by
 refine PFn.of Tryd.func23 rfl (by decide) Tryd.ntmps23 Tryd.results23 (Nat.le_of_ble_eq_true rfl) ?_
 simp only [argsT, encSc]
 have Fm := F.msgs
 have Fe := F.enums
 have Ft := F.meths
 refine AW.rT (by rfl) fun K hK => ?_
 simp -implicitDefEqProofs only [go_sem, Nat.reduceAdd]
 refine hK _ ?_; clear hK K
 refine AW.dT mixed (by rfl) (by decide +kernel) fun K hK => ?_
 simp -implicitDefEqProofs only [go_sem, ↓reduceIte, Nat.reduceAdd, Nat.reduceEqDiff, Nat.reduceLeDiff, reduceCtorEq]
 refine ⟨⟨lift_len (f := encMt) (fun _ => rfl) _, lift_one one_Mt _, by simp⟩, ⟨.inl trivial, by simp, by rw [liftE_length, List.length_map]; omega⟩, ?_⟩
 try simp -implicitDefEqProofs only [go_sem, ↓reduceIte, Nat.reduceAdd, Nat.reduceMul, Nat.reduceEqDiff, Nat.reduceLeDiff, reduceCtorEq, Int.reduceToNat]
 refine ⟨by decide +kernel, ?_⟩
 refine hK _ ?_; clear hK K
 refine AW.seq ?_
 refine AW.rT (by rfl) fun K hK => ?_
 simp -implicitDefEqProofs only [go_sem, Nat.reduceAdd]
 refine hK _ ?_; clear hK K
 refine AW.block ?_
 refine AW.loop (sc1 S) (fun i => i ≤ S.msgs.length) (fun i => S.msgs.length - i) 0 ?_ (by omega) fun i i1 => ?_
 ·refine Ghost.trans (s' := sc0 S) ?_ ?_
  ·simp only [sc0, cellsSc]
   refine Ghost.ent (fun l => if l = 0 then 0 else if l = 1 then 1 else if l = 2 then 8 else 6) ?_ ?_ ?_ <;> simp -implicitDefEqProofs only [go_sem, ↓reduceIte, Nat.reduceEqDiff, reduceCtorEq, List.forall_mem_cons, List.not_mem_nil, false_implies, implies_true, and_self, map_renL_lift, labsIn_lift, List.all_cons, List.all_nil, Nat.reduceLT, labsInL, AV.labsIn]
   all_goals first | rfl | decide | skip
  refine Ghost.trans (s' := scA S) (Ghost.trans (Ghost.freeze (lb := 3) (ps := S.meths.map encMt) rfl (unlift_liftE _)) ?_) (Ghost.trans (Ghost.nilH (l := 2) (i := 0) (j := 1) (sz' := 3) rfl rfl rfl) ?_)
  ·simp only [sc0, scA, cellsSc]
   refine Ghost.sub ?_ ?_ <;> simp -implicitDefEqProofs only [go_sem, ↓reduceIte, Nat.reduceEqDiff, reduceCtorEq, thaw, thaw1, Option.map_some, List.map_cons, List.map_nil, List.forall_mem_cons, List.not_mem_nil, false_implies, implies_true, and_self, List.all_cons, List.all_nil, Nat.reduceLT, labsInL, AV.labsIn]
   all_goals first | rfl | decide | skip
  ·simp only [scA, sc1, cellsSc]
   refine Ghost.sub ?_ ?_ <;> simp -implicitDefEqProofs only [go_sem, ↓reduceIte, Nat.reduceEqDiff, reduceCtorEq, List.take_zero, List.map_nil, liftE_nil, List.forall_mem_cons, List.not_mem_nil, false_implies, implies_true, and_self, List.all_cons, List.all_nil, Nat.reduceLT, labsInL, AV.labsIn]
   all_goals first | rfl | decide | skip
 simp only [sc1, cellsSc]
 refine AW.seq ?_
 by_cases hil : i < S.msgs.length
 ·obtain ⟨m, hm⟩ : ∃ m, S.msgs[i]? = some m := ⟨_, List.getElem?_eq_getElem hil⟩
  have ⟨hm1, hm2, hm3⟩ := at_map' encMs hm
  have hm2' : (i : Int) < (S.msgs.length : Int) := by omega
  have hc1 : ((i : Int) < (S.msgs.length : Int)) = True := eq_true (by omega)
  have w1 : IntKind.wrap .i64 ((i : Int) + 1) = ((i + 1 : Nat) : Int) := by rw [w64] <;> omega
  have FM := F.ms m (List.mem_of_getElem? hm)
  have f1 := FM.fields
  have f2 := FM.res
  have CI := law00_Ints m.res (by omega)
  refine AW.rT (by rfl) fun K hK => ?_
  simp -implicitDefEqProofs only [go_sem, ↓reduceIte, Nat.reduceAdd, Nat.reduceEqDiff, hc1, List.length_map]
  refine hK _ ?_; clear hK K
  refine AW.cond _ (by simp -implicitDefEqProofs only [go_sem]; rfl) (fun hc => ?_) (fun hc => ?_)
  rotate_left
  ·simp at hc
  refine AW.skip ?_
  simp only [andThen]
  refine AW.seq ?_
  refine AW.block ?_
  refine AW.rT (by rfl) fun K hK => ?_
  simp -implicitDefEqProofs only [go_sem, ↓reduceIte, Nat.reduceAdd, Nat.reduceEqDiff, Nat.reduceLeDiff, hm1, hm2', hm3, encMs, List.length_map]
  refine hK _ ?_; clear hK K
  refine AW.dE mixed (by rfl) (by decide +kernel) fun K hK => ?_
  simp -implicitDefEqProofs only [go_sem, ↓reduceIte, Nat.reduceAdd, Nat.reduceEqDiff, Nat.reduceLeDiff, reduceCtorEq]
  refine ⟨⟨lift_len (f := encFd) (fun _ => rfl) _, lift_one one_Fd _, by simp⟩, ⟨.inl trivial, by simp, by rw [liftE_length, List.length_map]; omega⟩, ?_⟩
  try simp -implicitDefEqProofs only [go_sem, ↓reduceIte, Nat.reduceAdd, Nat.reduceMul, Nat.reduceEqDiff, Nat.reduceLeDiff, reduceCtorEq, Int.reduceToNat]
  refine ⟨.pure _, CI, ?_⟩
  try simp -implicitDefEqProofs only [go_sem, ↓reduceIte, Nat.reduceAdd, Nat.reduceMul, Nat.reduceEqDiff, Nat.reduceLeDiff, reduceCtorEq]
  refine ⟨⟨by simp, by simp [oneAll, AV.one, PV.one], by simp⟩, by simp [liftE_length]; omega, by decide +kernel, ?_⟩
  refine hK _ ?_; clear hK K
  simp only [andThen, inBlk]
  refine AW.ghost (s' := scB S m i) ?_ (AW.ghost (s' := scC S m i) (Ghost.trans (Ghost.freeze (lb := 4) (ps := m.fields.map encFd) rfl (unlift_liftE _)) ?_) ?_)
  ·simp only [scB, cellsSc]
   refine Ghost.ent (fun l => if l = 0 then 0 else if l = 1 then 1 else if l = 2 then 2 else if l = 3 then 28 else 22) ?_ ?_ ?_ <;> simp -implicitDefEqProofs only [go_sem, ↓reduceIte, Nat.reduceEqDiff, reduceCtorEq, List.forall_mem_cons, List.not_mem_nil, false_implies, implies_true, and_self, map_renL_lift, labsIn_lift, List.all_append, List.all_cons, List.all_nil, List.map_append, Nat.reduceLT, labsInL, AV.labsIn]
   all_goals first | rfl | decide | skip
  ·simp only [scB, scC, cellsSc]
   refine Ghost.sub ?_ ?_ <;> simp -implicitDefEqProofs only [go_sem, ↓reduceIte, Nat.reduceEqDiff, reduceCtorEq, thaw, thaw1, Option.map_some, List.map_cons, List.map_nil, List.map_append, thaw_lift, List.forall_mem_cons, List.not_mem_nil, false_implies, implies_true, and_self, labsIn_lift, List.all_append, List.all_cons, List.all_nil, Nat.reduceLT, labsInL, AV.labsIn]
   all_goals first | rfl | decide | skip
  simp only [scC, cellsSc]
  have e8 : liftE ((S.msgs.take i).map encMs) ++ [[AV.p (.str m.name), .p (.slice (m.fields.map encFd)), .p (.slice (m.res.map encI))]] = liftE ((S.msgs.take (i + 1)).map encMs) := by
   rw [List.take_add_one, hm]
   simp [liftE, encMs]
  rw [e8]
  refine AW.rE (by rfl) fun K hK => ?_
  simp -implicitDefEqProofs only [go_sem, ↓reduceIte, Nat.reduceAdd, Nat.reduceEqDiff, w1]
  refine hK _ ?_; clear hK K
  refine ⟨i + 1, by omega, by omega, ?_⟩
  refine Ghost.sub ?_ ?_ <;> simp -implicitDefEqProofs only [go_sem, ↓reduceIte, Nat.reduceEqDiff, reduceCtorEq, List.forall_mem_cons, List.not_mem_nil, false_implies, implies_true, and_self, labsIn_lift, List.all_cons, List.all_nil, Nat.reduceLT, labsInL, AV.labsIn]
 have hc1 : ((i : Int) < (S.msgs.length : Int)) = False := eq_false (by omega)
 have ea : S.msgs.take i = S.msgs := List.take_of_length_le (by omega)
 rw [ea]
 clear ea
 refine AW.rT (by rfl) fun K hK => ?_
 simp -implicitDefEqProofs only [go_sem, ↓reduceIte, Nat.reduceAdd, Nat.reduceEqDiff, hc1, List.length_map]
 refine hK _ ?_; clear hK K
 refine AW.cond _ (by simp -implicitDefEqProofs only [go_sem]; rfl) (fun hc => ?_) (fun hc => ?_)
 ·simp at hc
 refine AW.exit ?_
 simp only [andThen, inBlk, ↓reduceIte]
 refine AW.ghost (s' := scD S) (Ghost.trans (Ghost.freeze (lb := 3) (ps := S.msgs.map encMs) rfl (unlift_liftE _)) ?_) ?_
 ·simp only [scD, cellsSc]
  refine Ghost.sub ?_ ?_ <;> simp -implicitDefEqProofs only [go_sem, ↓reduceIte, Nat.reduceEqDiff, reduceCtorEq, thaw, thaw1, Option.map_some, List.map_cons, List.map_nil, List.forall_mem_cons, List.not_mem_nil, false_implies, implies_true, and_self, List.all_cons, List.all_nil, Nat.reduceLT, labsInL, AV.labsIn]
  all_goals first | rfl | decide | skip
 clear hc1 hil i1
 refine AW.seq ?_
 simp only [scD, cellsSc]
 refine AW.rT (by rfl) fun K hK => ?_
 simp -implicitDefEqProofs only [go_sem, Nat.reduceAdd]
 refine hK _ ?_; clear hK K
 refine AW.block ?_
 refine AW.loop (scE S) (fun i => i ≤ S.enums.length) (fun i => S.enums.length - i) 0 ?_ (by omega) fun j j1 => ?_
 ·refine Ghost.trans (Ghost.nilH (l := 2) (i := 0) (j := 2) (sz' := 2) rfl rfl rfl) ?_
  simp only [scE, cellsSc]
  refine Ghost.ent (fun l => if l = 3 then 4 else l) ?_ ?_ ?_ <;> simp -implicitDefEqProofs only [go_sem, ↓reduceIte, Nat.reduceEqDiff, reduceCtorEq, List.take_zero, List.map_nil, liftE_nil, List.forall_mem_cons, List.not_mem_nil, false_implies, implies_true, and_self, List.all_cons, List.all_nil, Nat.reduceLT, labsInL, AV.labsIn]
  all_goals first | rfl | decide | skip
 simp only [scE, cellsSc]
 refine AW.seq ?_
 by_cases hil : j < S.enums.length
 ·obtain ⟨m, hm⟩ : ∃ m, S.enums[j]? = some m := ⟨_, List.getElem?_eq_getElem hil⟩
  have ⟨hm1, hm2, hm3⟩ := at_map' encEn hm
  have hm2' : (j : Int) < (S.enums.length : Int) := by omega
  have hc1 : ((j : Int) < (S.enums.length : Int)) = True := eq_true (by omega)
  have w1 : IntKind.wrap .i64 ((j : Int) + 1) = ((j + 1 : Nat) : Int) := by rw [w64] <;> omega
  have FE := F.en m (List.mem_of_getElem? hm)
  have f1 := FE.vals
  refine AW.rT (by rfl) fun K hK => ?_
  simp -implicitDefEqProofs only [go_sem, ↓reduceIte, Nat.reduceAdd, Nat.reduceEqDiff, hc1, List.length_map]
  refine hK _ ?_; clear hK K
  refine AW.cond _ (by simp -implicitDefEqProofs only [go_sem]; rfl) (fun hc => ?_) (fun hc => ?_)
  rotate_left
  ·simp at hc
  refine AW.skip ?_
  simp only [andThen]
  refine AW.seq ?_
  refine AW.block ?_
  refine AW.dE mixed (by rfl) (by decide +kernel) fun K hK => ?_
  simp -implicitDefEqProofs only [go_sem, ↓reduceIte, Nat.reduceAdd, Nat.reduceMul, Nat.reduceEqDiff, Nat.reduceLeDiff, reduceCtorEq, hm1, hm2', hm3, encEn, List.length_map]
  refine ⟨⟨lift_len (f := encNm) (fun _ => rfl) _, lift_one one_Nm _, by simp⟩, ⟨.inl trivial, by simp, by rw [liftE_length, List.length_map]; omega⟩, ?_⟩
  try simp -implicitDefEqProofs only [go_sem, ↓reduceIte, Nat.reduceAdd, Nat.reduceMul, Nat.reduceEqDiff, Nat.reduceLeDiff, reduceCtorEq, Int.reduceToNat]
  refine ⟨⟨by simp, by simp [oneAll, AV.one, PV.one], by simp⟩, by simp [liftE_length]; omega, by decide +kernel, ?_⟩
  refine hK _ ?_; clear hK K
  simp only [andThen, inBlk]
  refine AW.ghost (s' := scF S m j) ?_ (AW.ghost (s' := scG S m j) (Ghost.trans (Ghost.freeze (lb := 4) (ps := m.vals.map encNm) rfl (unlift_liftE _)) ?_) ?_)
  ·simp only [scF, cellsSc]
   refine Ghost.ent (fun l => if l = 0 then 0 else if l = 1 then 1 else if l = 2 then 2 else if l = 3 then 26 else 23) ?_ ?_ ?_ <;> simp -implicitDefEqProofs only [go_sem, ↓reduceIte, Nat.reduceEqDiff, reduceCtorEq, List.forall_mem_cons, List.not_mem_nil, false_implies, implies_true, and_self, map_renL_lift, labsIn_lift, List.all_append, List.all_cons, List.all_nil, List.map_append, Nat.reduceLT, labsInL, AV.labsIn]
   all_goals first | rfl | decide | skip
  ·simp only [scF, scG, cellsSc]
   refine Ghost.sub ?_ ?_ <;> simp -implicitDefEqProofs only [go_sem, ↓reduceIte, Nat.reduceEqDiff, reduceCtorEq, thaw, thaw1, Option.map_some, List.map_cons, List.map_nil, List.map_append, thaw_lift, List.forall_mem_cons, List.not_mem_nil, false_implies, implies_true, and_self, labsIn_lift, List.all_append, List.all_cons, List.all_nil, Nat.reduceLT, labsInL, AV.labsIn]
   all_goals first | rfl | decide | skip
  simp only [scG, cellsSc]
  have e8 : liftE ((S.enums.take j).map encEn) ++ [[AV.p (.str m.name), .p (.slice (m.vals.map encNm))]] = liftE ((S.enums.take (j + 1)).map encEn) := by
   rw [List.take_add_one, hm]
   simp [liftE, encEn]
  rw [e8]
  refine AW.rE (by rfl) fun K hK => ?_
  simp -implicitDefEqProofs only [go_sem, ↓reduceIte, Nat.reduceAdd, Nat.reduceEqDiff, w1]
  refine hK _ ?_; clear hK K
  refine ⟨j + 1, by omega, by omega, ?_⟩
  refine Ghost.sub ?_ ?_ <;> simp -implicitDefEqProofs only [go_sem, ↓reduceIte, Nat.reduceEqDiff, reduceCtorEq, List.forall_mem_cons, List.not_mem_nil, false_implies, implies_true, and_self, labsIn_lift, List.all_cons, List.all_nil, Nat.reduceLT, labsInL, AV.labsIn]
 have hc1 : ((j : Int) < (S.enums.length : Int)) = False := eq_false (by omega)
 have ea : S.enums.take j = S.enums := List.take_of_length_le (by omega)
 rw [ea]
 clear ea
 refine AW.rT (by rfl) fun K hK => ?_
 simp -implicitDefEqProofs only [go_sem, ↓reduceIte, Nat.reduceAdd, Nat.reduceEqDiff, hc1, List.length_map]
 refine hK _ ?_; clear hK K
 refine AW.cond _ (by simp -implicitDefEqProofs only [go_sem]; rfl) (fun hc => ?_) (fun hc => ?_)
 ·simp at hc
 refine AW.exit ?_
 simp only [andThen, inBlk, ↓reduceIte]
 refine AW.ghost (s' := scH S) (Ghost.trans (Ghost.freeze (lb := 3) (ps := S.enums.map encEn) rfl (unlift_liftE _)) ?_) ?_
 ·simp only [scH, cellsSc]
  refine Ghost.sub ?_ ?_ <;> simp -implicitDefEqProofs only [go_sem, ↓reduceIte, Nat.reduceEqDiff, reduceCtorEq, thaw, thaw1, Option.map_some, List.map_cons, List.map_nil, List.forall_mem_cons, List.not_mem_nil, false_implies, implies_true, and_self, List.all_cons, List.all_nil, Nat.reduceLT, labsInL, AV.labsIn]
  all_goals first | rfl | decide | skip
 simp only [scH, cellsSc]
 refine AW.rT (by rfl) fun K hK => ?_
 simp -implicitDefEqProofs only [go_sem, ↓reduceIte, Nat.reduceAdd, Nat.reduceEqDiff, Nat.reduceLeDiff, reduceCtorEq]
 refine hK _ ?_; clear hK K
 refine AW.ret ?_
 simp -implicitDefEqProofs only [go_sem, ↓reduceIte, Nat.reduceAdd, Nat.reduceEqDiff, Nat.reduceLeDiff]
end Go.Aw
namespace Go.Aw
open Go.Proofs Go.RowKit
set_option linter.unusedSimpArgs false
set_option linter.unusedVariables false
theorem GSc.big {S : Sc} (G : GSc S) : bigS S := ⟨G.name, fun m hm => (G.msgs.2 m hm).name⟩
theorem lens_few {S : Sc} (h : fewB S = true) : LensS S := (few_spec h).lens
end Go.Aw
namespace Go.Aw
open Go.RowKit
variable {P : Program}
theorem seq_part {w0 : World} {X I0 : Nat → Prop} {nt : Fm} {ops : Array Oper} {Q : Exit → Act → World → Prop} {K : (Nat → Option AV) → (Nat → Option Blk) → Nat → Prop} (hd : ops.toList.all (dstOK nt) = true) (tx : TabX w0 X I0) {r' : List Oper} :
  ∀ (r : List Oper) (i nx : Nat) (T : Nat → Option AV) (H : Nat → Option Blk) (σ : Lab) (I : Nat → Prop) (a : Act) (w : World), ops.toList.drop i = r ++ r' → Match nt w0 X I0 σ I T H a w → (∀ l, nx ≤ l → σ l = none) → seqW P ops.toList nx r T H K →
   (∀ T H n σ I a w, Match nt w0 X I0 σ I T H a w → (∀ l, n ≤ l → σ l = none) → K T H n → wpOps P ops Q (List.range' (i + r.length) r'.length) a w) → wpOps P ops Q (List.range' i (r ++ r').length) a w := by
 intro r
 induction r with
 | nil => intro i nx T H σ I a w _ m hn hk hK; exact hK T H nx σ I a w m hn hk
 | cons o r ih =>
  intro i nx T H σ I a w hr m hn hk hK
  have hi : ops[i]? = some o := by
   rw [← Array.getElem?_toList, show i = i + 0 from rfl, ← List.getElem?_drop, hr]; rfl
  have hdr : ops.toList.drop (i + 1) = r ++ r' := by rw [← List.drop_drop, hr]; rfl
  have hdo : dstOK nt o = true := List.all_eq_true.1 hd o (List.mem_of_getElem? (by rw [Array.getElem?_toList]; exact hi))
  have hK' : ∀ T H n σ I a w, Match nt w0 X I0 σ I T H a w → (∀ l, n ≤ l → σ l = none) → K T H n → wpOps P ops Q (List.range' (i + 1 + r.length) r'.length) a w := by
   intro T H n σ I a w h1 h2 h3
   have := hK T H n σ I a w h1 h2 h3
   rwa [List.length_cons, show i + (r.length + 1) = i + 1 + r.length by omega] at this
  rw [List.cons_append, List.length_cons, List.range'_succ]
  simp only [wpOps, hi]
  simp only [seqW] at hk
  have run : (opW P nx o.op T H fun e => seqW P ops.toList (nx + 1) r (putT T o.dst e.val) (putH H e.upd) K) → o.wp P a w (wpOps P ops Q (List.range' (i + 1) (r ++ r').length)) Q := by
   intro hop
   refine snd_op (w0 := w0) (X := X) (I0 := I0) ⟨m.heap, m.tmps, hn nx (Nat.le_refl _), tx⟩ hop _ _ fun e v w' σ' I' hk' out => ?_
   refine ih (i + 1) (nx + 1) _ _ σ' I' _ w' hdr (m.put hdo out.heap out.ext out.imm out.same out.val) (fun l hl => ?_) hk' hK'
   rw [out.lab l (by omega)]
   exact hn l (by omega)
  have skip : seqW P ops.toList (nx + 1) r (putT T o.dst (some (.p (.cst undef)))) H K → wpOps P ops Q (List.range' (i + 1) (r ++ r').length) (a.put o.dst undef) w := by
   intro hk'
   exact ih (i + 1) (nx + 1) _ _ σ I _ w hdr (m.put hdo m.heap (fun _ _ h => h) (fun _ h => h) (fun _ _ => rfl) (fun y hy => by injection hy with hy; subst hy; exact .p (.cst undef))) (fun l hl => hn l (by omega)) hk' hK'
  unfold guardS at hk
  cases hg : o.guard with
  | none =>
   rw [hg] at hk
   have : Region.wanted o (yielded ops a.tmps) = true := by simp [Region.wanted, hg]
   rw [if_pos this]
   exact .inl (run hk)
  | some jw =>
   obtain ⟨j, want⟩ := jw
   rw [hg] at hk
   simp only at hk
   split at hk
   ·rename_i b hb
    obtain ⟨d, hd1, hd2⟩ := Option.bind_eq_some_iff.1 hb
    rw [Array.getElem?_toList] at hd1
    obtain ⟨u, hu, hru⟩ := m.tmps d _ hd2
    have hy : yielded ops a.tmps j = some b := by
     cases hru with
     | p h => cases h; simp [yielded, hd1, hu]
    have hw : Region.wanted o (yielded ops a.tmps) = (b == want) := by
     simp only [Region.wanted, hg, hy]
     cases b <;> cases want <;> rfl
    split at hk
    ·rename_i hbw
     rw [hw, if_pos (by simp [hbw])]
     exact .inl (run hk)
    ·rename_i hbw
     rw [hw, if_neg (by simp [hbw])]
     exact skip hk
   ·rename_i x hb
    obtain ⟨d, hd1, hd2⟩ := Option.bind_eq_some_iff.1 hb
    rw [Array.getElem?_toList] at hd1
    obtain ⟨u, hu, hru⟩ := m.tmps d _ hd2
    have hy : yielded ops a.tmps j = none := by
     cases hru with
     | p h =>
      cases h
      simp only [yielded, hd1, Option.bind_some, hu]
      have := hk.1
      cases x <;> first | rfl | exact this.elim
    have hw : Region.wanted o (yielded ops a.tmps) = false := by
     simp only [Region.wanted, hg, hy]
     cases want <;> rfl
    rw [hw, if_neg (by simp)]
    exact skip hk.2
   ·exact hk.elim
end Go.Aw
namespace Go.Aw
open Go.RowKit
variable {P : Program}
def SeqR (P : Program) (nt : Fm) (ops : Array Oper) (i : Nat) (s : St) (K : St → Prop) : Prop :=
 ∀ w0 X I0 a w (Q : Exit → Act → World → Prop), TabX w0 X I0 → Matches nt w0 X I0 s a w → (∀ s' a' w', Matches nt w0 X I0 s' a' w' → K s' → Q .normal a' w') → wpOps P ops Q (List.range' i (ops.size - i)) a w
theorem SeqR.ghost {nt : Fm} {ops : Array Oper} {i : Nat} {s s' : St} {K : St → Prop} (g : Ghost nt s s') (h : SeqR P nt ops i s' K) : SeqR P nt ops i s K :=
 fun w0 X I0 a w Q tx m hQ => h w0 X I0 a w Q tx (g w0 X I0 a w m) hQ
theorem SeqR.last {nt : Fm} {ops : Array Oper} {i : Nat} {s : St} {K : St → Prop} (hi : ops.size = i) (h : K s) : SeqR P nt ops i s K := by
 intro w0 X I0 a w Q tx m hQ
 subst hi
 rw [Nat.sub_self]
 exact hQ s a w m h
theorem SeqR.ev {nt : Fm} {ops : Array Oper} {i : Nat} {s : St} {K : St → Prop} (k : Nat) (hd : ops.toList.all (dstOK nt) = true) (hk : i + k ≤ ops.size) (h : seqO P ops.toList s.nx ((ops.toList.drop i).take k) s.T s.H fun T H n => SeqR P nt ops (i + k) ⟨T, H, n⟩ K) : SeqR P nt ops i s K := by
 intro w0 X I0 a w Q tx ⟨σ, I, hn, m⟩ hQ
 rw [seqO_eq] at h
 have hl : ops.toList.length = ops.size := Array.length_toList
 have main := seq_part (P := P) (w0 := w0) (X := X) (I0 := I0) (r' := ops.toList.drop (i + k)) (Q := Q) hd tx ((ops.toList.drop i).take k) i s.nx s.T s.H σ I a w (by rw [← List.drop_drop, List.take_append_drop]) m hn h
  (fun T H n σ I a w m hn hq => by
   have := hq w0 X I0 a w Q tx ⟨σ, I, hn, m⟩ hQ
   rw [List.length_take, List.length_drop, Nat.min_eq_left (by omega), List.length_drop, hl]
   exact this)
 rw [← List.drop_drop, List.take_append_drop, List.length_drop, hl] at main
 exact main
def CallD (P : Program) (nt : Fm) (o : Oper) (s : St) (K : St → Prop) : Prop :=
 ∀ w0 X I0 a w (next : Act → World → Prop) (Q : Exit → Act → World → Prop), TabX w0 X I0 → Matches nt w0 X I0 s a w → (∀ s' a' w', Matches nt w0 X I0 s' a' w' → K s' → next a' w') → o.wp P a w next Q
theorem SeqR.op {nt : Fm} {ops : Array Oper} {i : Nat} {s : St} {K : St → Prop} {o : Oper} (ho : ops[i]? = some o) (hg : o.guard = none) (h : CallD P nt o s fun s' => SeqR P nt ops (i + 1) s' K) : SeqR P nt ops i s K := by
 intro w0 X I0 a w Q tx m hQ
 have hi : i < ops.size := (Array.getElem?_eq_some_iff.1 ho).1
 rw [show ops.size - i = (ops.size - (i + 1)) + 1 by omega, List.range'_succ]
 simp only [wpOps, ho]
 have : Region.wanted o (yielded ops a.tmps) = true := by simp [Region.wanted, hg]
 rw [if_pos this]
 exact .inl (h w0 X I0 a w _ Q tx m fun s' a' w' m' k => k w0 X I0 a' w' Q tx m' hQ)
theorem AW.rR {nt : Fm} {id : Nat} {ops : Array Oper} {y : Code} {s : St} {Q : Exit → St → Prop} (h : SeqR P nt ops 0 s fun s' => AW P nt y s' Q) : AW P nt (.seq (.region id ops false) y) s Q := by
 refine AW.seq ?_
 intro w0 X I0 a w tx m
 refine wp_region ?_
 have := h w0 X I0 a w (fun e a' w' => ∃ s', Matches nt w0 X I0 s' a' w' ∧ andThen (fun s' => AW P nt y s' Q) Q e s') tx m fun s' a' w' m' k => ⟨s', m', k⟩
 rw [List.range_eq_range']
 simpa using this
theorem AW.rRE {nt : Fm} {id : Nat} {ops : Array Oper} {s : St} {Q : Exit → St → Prop} (h : SeqR P nt ops 0 s fun s' => Q .normal s') : AW P nt (.region id ops false) s Q := by
 intro w0 X I0 a w tx m
 refine wp_region ?_
 have := h w0 X I0 a w (fun e a' w' => ∃ s', Matches nt w0 X I0 s' a' w' ∧ Q e s') tx m fun s' a' w' m' k => ⟨s', m', k⟩
 rw [List.range_eq_range']
 simpa using this
mutual
def AV.labsBy (p : Nat → Bool) : AV → Bool
 | .p _ | .ex _ | .vw _ _ => true
 | .own l | .cut l _ _ | .ptr l _ _ | .map l | .it l => p l
 | .agg cs | .tuple cs | .fn _ cs => labsByL p cs
 | .iface _ x => x.labsBy p
def labsByL (p : Nat → Bool) : List AV → Bool
 | [] => true
 | x :: l => x.labsBy p && labsByL p l
end
theorem labsByL_mem {p : Nat → Bool} {l : List AV} (h : labsByL p l = true) {x : AV} (hx : x ∈ l) : x.labsBy p = true := by
 induction l with
 | nil => cases hx
 | cons y l ih =>
  rw [labsByL, Bool.and_eq_true] at h
  rcases List.mem_cons.1 hx with rfl | hx
  ·exact h.1
  ·exact ih h.2 hx
def Blk.labsBy (p : Nat → Bool) : Blk → Bool
 | .row _ es => es.all (labsByL p)
 | .map es => es.all fun e => e.2.labsBy p
 | .iter _ _ => true
theorem repA_by {σ σ' : Lab} {w : World} {I : Nat → Prop} {ρ : Nat → Nat} {p : Nat → Bool} (hp : ∀ l, p l = true → ∀ s, σ l = some s → σ' (ρ l) = some s) {u : Value} {x : AV} (h : repA σ w I u x) : x.labsBy p = true → repA σ' w I u (x.ren ρ) := by
 induction h with
 | p h => intro _; exact .p h
 | ex hn h => intro _; exact .ex hn h
 | vw hn hm hc h => intro _; exact .vw hn hm hc h
 | ownE h => intro q; exact .ownE (hp _ q _ h)
 | own h => intro q; exact .own (hp _ q _ h)
 | cut h hm hc => intro q; exact .cut (hp _ q _ h) hm hc
 | ptr h => intro q; exact .ptr (hp _ q _ h)
 | map h => intro q; exact .map (hp _ q _ h)
 | it h => intro q; exact .it (hp _ q _ h)
 | agg hs hr ih =>
  intro q
  refine .agg (by rw [renL_length]; exact hs) fun j u y h1 h2 => ?_
  rw [renL_get, Option.map_eq_some_iff] at h2
  obtain ⟨z, hz, rfl⟩ := h2
  exact ih j u z h1 hz (labsByL_mem q (List.mem_of_getElem? hz))
 | tuple hs hr ih =>
  intro q
  refine .tuple (by rw [renL_length]; exact hs) fun j u y h1 h2 => ?_
  rw [renL_get, Option.map_eq_some_iff] at h2
  obtain ⟨z, hz, rfl⟩ := h2
  exact ih j u z h1 hz (labsByL_mem q (List.mem_of_getElem? hz))
 | iface t h ih => intro q; exact .iface t (ih q)
 | fn f hs hr ih =>
  intro q
  refine .fn f (by rw [renL_length]; exact hs) fun j u y h1 h2 => ?_
  rw [renL_get, Option.map_eq_some_iff] at h2
  obtain ⟨z, hz, rfl⟩ := h2
  exact ih j u z h1 hz (labsByL_mem q (List.mem_of_getElem? hz))
theorem repB_by {σ σ' : Lab} {w : World} {I : Nat → Prop} {ρ : Nat → Nat} {p : Nat → Bool} (hp : ∀ l, p l = true → ∀ s, σ l = some s → σ' (ρ l) = some s) {l : Nat} {b : Blk} (hl : p l = true) (h : repB σ w I l b) (hb : b.labsBy p = true) : repB σ' w I (ρ l) (b.ren ρ) := by
 cases h with
 | emp h => exact .emp (hp _ hl _ h)
 | row h hg hcur hc hs ho hr =>
  rename_i g c sz cur et es
  refine .row (by rw [List.length_map]; exact hp _ hl _ h) hg hcur (by rw [List.length_map]; exact hc) (fun e he => ?_) (fun e he x hx => ?_) fun i e j x q1 q2 => ?_
  ·obtain ⟨e', he', rfl⟩ := List.mem_map.1 he
   rw [renL_length]
   exact hs e' he'
  ·obtain ⟨e', he', rfl⟩ := List.mem_map.1 he
   obtain ⟨j, hj⟩ := List.getElem?_of_mem hx
   rw [renL_get, Option.map_eq_some_iff] at hj
   obtain ⟨x', hx', rfl⟩ := hj
   rw [AV.one_ren]
   exact ho e' he' x' (List.mem_of_getElem? hx')
  ·rw [List.getElem?_map, Option.map_eq_some_iff] at q1
   obtain ⟨e', he', rfl⟩ := q1
   rw [renL_get, Option.map_eq_some_iff] at q2
   obtain ⟨x', hx', rfl⟩ := q2
   obtain ⟨u, hu, hru⟩ := hr i e' j x' he' hx'
   exact ⟨u, hu, repA_by hp hru (labsByL_mem (List.all_eq_true.1 hb e' (List.mem_of_getElem? he')) (List.mem_of_getElem? hx'))⟩
 | map h hg hn hr =>
  rename_i g k ms es
  refine .map (hp _ hl _ h) hg (by rw [List.length_map]; exact hn) fun i m e q1 q2 => ?_
  rw [List.getElem?_map, Option.map_eq_some_iff] at q2
  obtain ⟨e', he', rfl⟩ := q2
  obtain ⟨r1, r2⟩ := hr i m e' q1 he'
  exact ⟨r1, repA_by hp r2 (List.all_eq_true.1 hb e' (List.mem_of_getElem? he'))⟩
 | iter h hg => exact .iter (hp _ hl _ h) hg
def DFn (P : Program) (f : FuncId) (args : List AV) (h : List (Nat × Blk)) (n : Nat) (rt : List Nat) (r : AV) (h' : List (Nat × Blk)) (m : Nat) : Prop :=
 enters P f = true ∧ ∀ (w : World) (I : Nat → Prop) (σ : Lab) (vals : Array Value), vals.size = args.length → (∀ l, n ≤ l → σ l = none) → (∀ (j : Nat) u x, vals[j]? = some u → args[j]? = some x → repA σ w I u x) →
  HOK σ w I (ofH h) w (lentX σ (ofH h)) I → tabOK w I →
  Calls P f vals w fun e w' => ∃ v σ' I', e = .returned v ∧ HOK σ' w' I' (ofH h') w (lentX σ (ofH h)) I ∧ repA σ' w' I' v r ∧ (∀ l ∈ rt, σ' l = σ l) ∧ (∀ l, n + m ≤ l → σ' l = none)
def avT : List AV → Nat → Nat → Option AV
 | [], _ => fun _ => none
 | x :: l, i => upd (avT l (i + 1)) i (some x)
theorem avT_at : ∀ (l : List AV) (i j : Nat), avT l i j = if j < i then none else l[j - i]? := by
 intro l
 induction l with
 | nil => intro i j; simp [avT]
 | cons a l ih =>
  intro i j
  rw [avT]
  by_cases h : j = i
  ·subst h; rw [upd_same, if_neg (by omega), Nat.sub_self]; rfl
  ·rw [upd_ne _ _ h, ih]
   by_cases h2 : j < i
   ·rw [if_pos (by omega), if_pos h2]
   ·rw [if_neg (by omega), if_neg h2, show j - i = (j - (i + 1)) + 1 by omega, List.getElem?_cons_succ]
def resD (P : Program) (s : St) : List ResultVar → List AV → Prop
 | [], [] => True
 | .tmp t :: r, x :: l => s.T t = some x ∧ resD P s r l
 | .cell t ty :: r, x :: l => loadW P ty (s.T t) s.H (fun e => e = ⟨some x, []⟩) ∧ resD P s r l
 | _, _ => False
def oneOrA : List AV → AV
 | [x] => x
 | l => .tuple l
def rootOK (s : St) (args : List AV) (h h' : List (Nat × Blk)) (pins : List Nat) (ρ : Nat → Nat) (l : Nat) : Prop :=
 (∃ j i off sz es es', j ∈ pins ∧ args[j]? = some (.ptr l i off) ∧ s.T j = some (.ptr (ρ l) i off) ∧ ofH h l = some (.row sz es) ∧ ofH h' l = some (.row sz es') ∧ es'.length = es.length ∧ 0 < sz) ∨
 (∃ j es, j ∈ pins ∧ args[j]? = some (.map l) ∧ s.T j = some (.map (ρ l)) ∧ ofH h l = some (.map es))
def EndD (P : Program) (rs : Array ResultVar) (args : List AV) (h : List (Nat × Blk)) (n : Nat) (rt : List Nat) (r : AV) (h' : List (Nat × Blk)) (m : Nat) (pins : List Nat) : Exit → St → Prop
 | .normal, s | .ret, s => ∃ (ρ : Nat → Nat) (l : List AV), resD P s rs.toList l ∧ oneOrA l = r.ren ρ ∧ r.labsIn (n + m) = true ∧ (∀ x ∈ h', s.H (ρ x.1) = some (x.2.ren ρ) ∧ x.1 < n + m ∧ x.2.labsIn (n + m) = true) ∧
   (∀ x ∈ h', ∀ y ∈ h', ρ x.1 = ρ y.1 → x.1 = y.1) ∧ ∀ l ∈ rt, l < n ∧ rootOK s args h h' pins ρ l
 | _, _ => False
theorem slot_kept {σ0 σ1 : Lab} {w0 w1 : World} {I0 I1 : Nat → Prop} {v : Value} {l l1 i off sz : Nat} {es es1 : List (List AV)} (h0 : repA σ0 w0 I0 v (.ptr l i off)) (h1 : repA σ1 w1 I1 v (.ptr l1 i off)) (b0 : repB σ0 w0 I0 l (.row sz es)) (b1 : repB σ1 w1 I1 l1 (.row sz es1))
  (hl : es1.length = es.length) (hz : 0 < sz) (hfr : ∀ (b : Nat) (cur : Array Value) (et : TypeId) (p : Nat × Nat), w0.heap[b]? = some (Obj.cells cur et p) → ∃ (cur' : Array Value) (et' : TypeId) (p' : Nat × Nat), w1.heap[b]? = some (Obj.cells cur' et' p') ∧ cur'.size = cur.size) : σ1 l1 = σ0 l := by
 cases h0 with
 | ptr s0 =>
  rename_i g n c sz0
  generalize hxe : Value.pointer (some ⟨g, i * sz0 + off, none⟩) = xv at h1
  cases h1 with
  | ptr s1 =>
   rename_i g1 n1 c1 sz1
   injection hxe with hxe
   injection hxe with hxe
   injection hxe with hg _ _
   subst hg
   obtain ⟨cur0, et0, p0, e0, f0⟩ := cells_slot b0 s0
   obtain ⟨cur1, et1, p1, e1, f1⟩ := cells_slot b1 s1
   obtain ⟨cur2, et2, p2, e2, f2⟩ := hfr g cur0 et0 p0 e0
   rw [e1] at e2
   injection e2 with e2
   injection e2 with e2
   subst e2
   have n0 : n = es.length ∧ sz0 = sz := by
    cases b0 with
    | emp h => rw [s0] at h; cases h
    | row h => rw [s0] at h; injection h with h; injection h with _ h2 _ h4; exact ⟨h2, h4⟩
   have n1' : n1 = es1.length ∧ sz1 = sz := by
    cases b1 with
    | emp h => rw [s1] at h; cases h
    | row h => rw [s1] at h; injection h with h; injection h with _ h2 _ h4; exact ⟨h2, h4⟩
   obtain ⟨rfl, rfl⟩ := n0
   obtain ⟨rfl, rfl⟩ := n1'
   have hc : c1 = c := Nat.eq_of_mul_eq_mul_right hz (by rw [← f1, f2, f0])
   rw [s0, s1, hc, hl]
theorem resD_run {nt : Fm} {w0 : World} {X I0 : Nat → Prop} {σ : Lab} {I : Nat → Prop} {s : St} {a : Act} {w : World} (tx : TabX w0 X I0) (m : Match nt w0 X I0 σ I s.T s.H a w) (hlab : σ s.nx = none) (f : ResultVar → Sem Value) (hf : ∀ t, f (.tmp t) = pure (a.tmps.getD t undef)) (hf' : ∀ t ty, f (.cell t ty) = (do loadVar ty (← asAddr (a.tmps.getD t undef)))) : ∀ (rs : List ResultVar) (l : List AV), resD P s rs l →
  ∃ vs : List Value, (rs.mapM f).run P w = .ok vs w ∧ vs.length = l.length ∧ ∀ (j : Nat) u x, vs[j]? = some u → l[j]? = some x → repA σ w I u x := by
 intro rs
 induction rs with
 | nil =>
  intro l h
  cases l with
  | nil => exact ⟨[], rfl, rfl, fun j u p h _ => by simp at h⟩
  | cons x l => simp [resD] at h
 | cons r rs ih =>
  intro l h
  cases l with
  | nil => cases r <;> simp [resD] at h
  | cons x l =>
   cases r with
   | cell t ty =>
    obtain ⟨hx, hl⟩ := h
    obtain ⟨ad, v, y, q1, q2, q3, q4⟩ := load_run (P := P) (lab := s.nx) (t := ty) (x := .tmp t) (k := fun e => e = ⟨some x, []⟩) ⟨m.heap, m.tmps, hlab, tx⟩ hx
    simp only [Eff.mk.injEq, Option.some.injEq, and_true] at q4
    subst q4
    obtain ⟨vs, h1, h2, h3⟩ := ih l hl
    refine ⟨v :: vs, ?_, by simp [h2], fun j u p r1 r2 => ?_⟩
    ·have q1' : a.tmps.getD t undef = .pointer (some ad) := q1
     rw [List.mapM_cons, hf', q1']
     simp [asAddr, q2, h1]
    ·rcases j with _ | j
     ·simp at r1 r2; subst r1 r2; exact q3
     ·exact h3 j u p (by simpa using r1) (by simpa using r2)
   | tmp t =>
    obtain ⟨hx, hl⟩ := h
    obtain ⟨u, hu, hru⟩ := m.tmps t x hx
    obtain ⟨vs, h1, h2, h3⟩ := ih l hl
    refine ⟨u :: vs, ?_, by simp [h2], fun j u' p r1 r2 => ?_⟩
    ·rw [List.mapM_cons, hf]
     have : a.tmps.getD t undef = u := by simp [Array.getD_eq_getD_getElem?, hu]
     rw [this]
     simp [h1]
    ·rcases j with _ | j
     ·simp at r1 r2; subst r1 r2; exact hru
     ·exact h3 j u' p (by simpa using r1) (by simpa using r2)
end Go.Aw
namespace Go.Aw
open Go.RowKit
variable {P : Program}
theorem DFn.of {f : FuncId} {fn : Func} {c : Code} {args : List AV} {h : List (Nat × Blk)} {n : Nat} {rt : List Nat} {r : AV} {h' : List (Nat × Blk)} {m : Nat} (pins : List Nat) (hf : P.funcs[f]? = some fn) (hb : fn.body = some c) (hn : fn.name ≠ "runtime.NumGoroutine") {nt : Nat} (hnt : fn.ntmps = nt) {rs : Array ResultVar} (hrs : fn.results = rs) (hnt' : args.length ≤ nt)
  (hpins : ∀ i ∈ pins, i < args.length) (hw : ∀ val : Nat → Value, AW P ⟨nt, pins, val⟩ c ⟨avT args 0, ofH h, n⟩ (EndD P rs args h n rt r h' m pins)) : DFn P f args h n rt r h' m := by
 subst hnt hrs
 refine ⟨by simp [enters, hf, hb, hn], fun w I σ vals hs hσ hr hH ht => ?_⟩
 have tx : TabX w (lentX σ (ofH h)) I := ⟨ht, fun g hg => (hH.imm g hg).1, fun g ⟨l, s, q1, q2, q3⟩ => (hH.mine l g s q1 q2 q3).1⟩
 refine calls_of_wp hf hb ?_
 have at_ : ∀ i, i < vals.size → (vals ++ Array.replicate (fn.ntmps - vals.size) undef)[i]? = vals[i]? := fun i hi => by rw [Array.getElem?_append_left hi]
 have mt : Matches ⟨fn.ntmps, pins, fun i => vals.getD i undef⟩ w (lentX σ (ofH h)) I ⟨avT args 0, ofH h, n⟩ { tmps := vals ++ Array.replicate (fn.ntmps - vals.size) undef, defers := [] } w := by
  refine ⟨σ, I, hσ, rfl, (by simp; omega), fun i hi => ?_, hH, fun i x hx => ?_⟩
  ·have hlt := hpins i hi
   rw [← hs] at hlt
   simp only
   rw [at_ i hlt, Array.getD_eq_getD_getElem?, Array.getElem?_eq_getElem hlt]
   rfl
  ·simp only at hx
   rw [avT_at, if_neg (by omega), Nat.sub_zero] at hx
   have hi : i < vals.size := by rw [hs]; exact (List.getElem?_eq_some_iff.1 hx).1
   exact ⟨vals[i], by rw [at_ i hi, Array.getElem?_eq_getElem hi], hr i _ x (Array.getElem?_eq_getElem hi) hx⟩
 refine wp_mono (hw _ w _ I _ w tx mt) ?_
 rintro e a' w' ⟨s', ⟨σ', I', hn', m'⟩, q⟩
 have fin : EndD P fn.results args h n rt r h' m pins .ret s' → a'.defers = [] ∧ ∃ v, (results fn a'.tmps).run P w' = .ok v w' ∧
   ∃ v' σ'' I'', Ending.returned v = .returned v' ∧ HOK σ'' w' I'' (ofH h') w (lentX σ (ofH h)) I ∧ repA σ'' w' I'' v' r ∧ (∀ l ∈ rt, σ'' l = σ l) ∧ (∀ l, n + m ≤ l → σ'' l = none) := by
  rintro ⟨ρ, l, q1, q2, q3, q4, q5, q6⟩
  obtain ⟨vs, h1, h2, h3⟩ := resD_run (P := P) tx m' (hn' _ (Nat.le_refl _)) (resF a'.tmps) (fun t => rfl) (fun t ty => rfl) fn.results.toList l q1
  have hrun : (results fn a'.tmps).run P w' = .ok (if h : vs.length = 1 then vs[0] else .tuple vs.toArray) w' := by
   rw [results_eq, show fn.results = fn.results.toList.toArray by simp, List.mapM_toArray]
   simp only [Sem.run_bind, Sem.run_map, h1, Result.andThen_ok, Sem.run_pure, List.size_toArray, List.getElem_toArray]
  have hat : ∀ l b, ofH h' l = some b → s'.H (ρ l) = some (b.ren ρ) ∧ l < n + m ∧ b.labsIn (n + m) = true := fun l b hl => q4 (l, b) (ofH_mem hl)
  have hv : repA σ' w' I' (if h : vs.length = 1 then vs[0] else .tuple vs.toArray) (oneOrA l) := by
   by_cases h4 : vs.length = 1
   ·rw [dif_pos h4]
    obtain ⟨p, rfl⟩ : ∃ p, l = [p] := List.length_eq_one_iff.1 (by omega)
    exact h3 0 _ p (List.getElem?_eq_getElem (by omega)) rfl
   ·rw [dif_neg h4]
    have : oneOrA l = .tuple l := by
     unfold oneOrA
     split
     ·exact absurd h2 h4
     ·rfl
    rw [this]
    exact .tuple (by simpa using h2) (fun j u p q1 q2 => h3 j u p (by simpa using q1) q2)
  refine ⟨m'.defers, _, hrun, _, relab ρ (n + m) σ', I', rfl, ⟨fun l b hl => ?_, fun l l' g s1 s2 n1 n2 e1 e2 g1 g2 => ?_, fun l g s1 n1 e1 g1 => ?_, m'.heap.imm, m'.heap.sub, m'.heap.fr⟩, repA_ren hv r q2 q3, fun l hl => ?_, fun l hl => ?_⟩
  ·obtain ⟨p1, p2, p3⟩ := hat l b hl
   exact repB_ren p2 (m'.heap.rows _ _ p1) p3
  ·obtain ⟨b1, hb1⟩ := Option.ne_none_iff_exists'.1 n1
   obtain ⟨b2, hb2⟩ := Option.ne_none_iff_exists'.1 n2
   obtain ⟨p1, p2, p3⟩ := hat l b1 hb1
   obtain ⟨p1', p2', p3'⟩ := hat l' b2 hb2
   unfold relab at e1 e2
   rw [if_pos p2] at e1
   rw [if_pos p2'] at e2
   have := m'.heap.inj (ρ l) (ρ l') g s1 s2 (by rw [p1]; simp) (by rw [p1']; simp) e1 e2 g1 g2
   exact q5 (l, b1) (ofH_mem hb1) (l', b2) (ofH_mem hb2) this
  ·obtain ⟨b1, hb1⟩ := Option.ne_none_iff_exists'.1 n1
   obtain ⟨p1, p2, p3⟩ := hat l b1 hb1
   unfold relab at e1
   rw [if_pos p2] at e1
   exact m'.heap.mine (ρ l) g s1 (by rw [p1]; simp) e1 g1
  ·obtain ⟨hln, hroot⟩ := q6 l hl
   unfold relab
   rw [if_pos (by omega)]
   have pin : ∀ j, j ∈ pins → ∀ x, s'.T j = some x → ∃ u, vals[j]? = some u ∧ repA σ' w' I' u x := fun j hj x hx => by
    have hp := m'.pins j hj
    obtain ⟨u, hu, hru⟩ := m'.tmps j x hx
    rw [hp] at hu
    have hlt : j < vals.size := by rw [hs]; exact hpins j hj
    simp only [Option.some.injEq] at hu
    rw [Array.getD_eq_getD_getElem?, Array.getElem?_eq_getElem hlt] at hu
    simp only [Option.getD_some] at hu
    subst hu
    exact ⟨_, Array.getElem?_eq_getElem hlt, hru⟩
   rcases hroot with ⟨j, i, off, sz, es, es', r1, r2, r3, r4, r5, r6, r7⟩ | ⟨j, es, r1, r2, r3, r4⟩
   ·obtain ⟨u, hu, hru⟩ := pin j r1 _ r3
    obtain ⟨p1, p2, p3⟩ := hat l _ r5
    have hu0 := hr j u _ hu r2
    have b0 := hH.rows l _ r4
    have b1 := m'.heap.rows _ _ p1
    exact slot_kept hu0 hru b0 b1 (by rw [List.length_map]; exact r6) r7 m'.heap.fr.shape
   ·obtain ⟨u, hu, hru⟩ := pin j r1 _ r3
    have hu0 := hr j u _ hu r2
    cases hu0 with
    | map s0 =>
     cases hru with
     | map s1 => rw [s0, s1]
  ·unfold relab
   rw [if_neg (by omega)]
 cases e with
 | normal => exact fin q
 | ret => exact fin q
 | exit _ => exact q.elim
 | goto _ => exact q.elim
 | panic _ => exact q.elim
 | outgrown => exact q.elim
def argD (T : Nat → Option AV) (ρ : Nat → Nat) : List Operand → List AV → Prop
 | [], [] => True
 | x :: xs, .p p :: ys => (match ev T x with | some v => pureA v = some p | none => False) ∧ argD T ρ xs ys
 | x :: xs, y :: ys => ev T x = some (y.ren ρ) ∧ argD T ρ xs ys
 | _, _ => False
theorem argD_spec {T : Nat → Option AV} {ρ : Nat → Nat} : ∀ {xs : List Operand} {ys : List AV}, argD T ρ xs ys → xs.length = ys.length ∧ ∀ (j : Nat) x y, xs[j]? = some x → ys[j]? = some y → (∃ p v, y = .p p ∧ ev T x = some v ∧ pureA v = some p) ∨ ev T x = some (y.ren ρ) := by
 intro xs
 induction xs with
 | nil =>
  intro ys h
  cases ys with
  | nil => exact ⟨rfl, fun j x y h => by simp at h⟩
  | cons y ys => simp [argD] at h
 | cons x xs ih =>
  intro ys h
  cases ys with
  | nil => simp [argD] at h
  | cons y ys =>
   have main : argD T ρ xs ys → ((∃ p v, y = .p p ∧ ev T x = some v ∧ pureA v = some p) ∨ ev T x = some (y.ren ρ)) → (x :: xs).length = (y :: ys).length ∧ ∀ (j : Nat) x' y', (x :: xs)[j]? = some x' → (y :: ys)[j]? = some y' → (∃ p v, y' = .p p ∧ ev T x' = some v ∧ pureA v = some p) ∨ ev T x' = some (y'.ren ρ) := by
    intro h1 h2
    obtain ⟨q1, q2⟩ := ih h1
    refine ⟨by simp [q1], fun j x' y' e1 e2 => ?_⟩
    cases j with
    | zero => simp at e1 e2; subst e1 e2; exact h2
    | succ j => exact q2 j x' y' (by simpa using e1) (by simpa using e2)
   cases y with
   | p p =>
    simp only [argD] at h
    obtain ⟨h1, h2⟩ := h
    split at h1
    ·rename_i v hv
     exact main h2 (.inl ⟨p, v, rfl, hv, h1⟩)
    ·exact h1.elim
   | _ => exact main h.2 (.inr h.1)
def lift2 (ρ : Nat → Nat) (n nx : Nat) (l : Nat) : Nat := if l < n then ρ l else nx + (l - n)
def goneU (ρ : Nat → Nat) (h : List (Nat × Blk)) : List (Nat × Option Blk) := h.map fun x => (ρ x.1, none)
def newU (ρ : Nat → Nat) (h : List (Nat × Blk)) : List (Nat × Option Blk) := h.map fun x => (ρ x.1, some (x.2.ren ρ))
theorem putH_gone (ρ : Nat → Nat) (l : Nat) : ∀ (h : List (Nat × Blk)) (H : Nat → Option Blk), (putH H (goneU ρ h) l = H l ∧ ∀ x ∈ h, ρ x.1 ≠ l) ∨ (putH H (goneU ρ h) l = none ∧ ∃ x ∈ h, ρ x.1 = l)
 | [], H => .inl ⟨rfl, fun x hx => by cases hx⟩
 | x :: h, H => by
  have e : putH H (goneU ρ (x :: h)) = putH (upd H (ρ x.1) none) (goneU ρ h) := rfl
  rw [e]
  rcases putH_gone ρ l h (upd H (ρ x.1) none) with ⟨h1, h2⟩ | ⟨h1, y, hy, h2⟩
  ·by_cases hl : ρ x.1 = l
   ·right
    refine ⟨?_, x, List.mem_cons_self, hl⟩
    rw [h1, hl, upd_same]
   ·left
    refine ⟨by rw [h1, upd_ne _ _ (fun h => hl h.symm)], fun y hy => ?_⟩
    rcases List.mem_cons.1 hy with rfl | hy
    ·exact hl
    ·exact h2 y hy
  ·exact .inr ⟨h1, y, List.mem_cons_of_mem _ hy, h2⟩
theorem putH_new (ρ : Nat → Nat) (l : Nat) : ∀ (h : List (Nat × Blk)) (H : Nat → Option Blk), (putH H (newU ρ h) l = H l ∧ ∀ x ∈ h, ρ x.1 ≠ l) ∨ (∃ x ∈ h, ρ x.1 = l ∧ putH H (newU ρ h) l = some (x.2.ren ρ))
 | [], H => .inl ⟨rfl, fun x hx => by cases hx⟩
 | x :: h, H => by
  have e : putH H (newU ρ (x :: h)) = putH (upd H (ρ x.1) (some (x.2.ren ρ))) (newU ρ h) := rfl
  rw [e]
  rcases putH_new ρ l h (upd H (ρ x.1) (some (x.2.ren ρ))) with ⟨h1, h2⟩ | ⟨y, hy, h1, h2⟩
  ·by_cases hl : ρ x.1 = l
   ·right
    refine ⟨x, List.mem_cons_self, hl, ?_⟩
    rw [h1, ← hl, upd_same]
   ·left
    refine ⟨by rw [h1, upd_ne _ _ (fun h => hl h.symm)], fun y hy => ?_⟩
    rcases List.mem_cons.1 hy with rfl | hy
    ·exact hl
    ·exact h2 y hy
  ·exact .inr ⟨y, List.mem_cons_of_mem _ hy, h1, h2⟩
def distinct : List Nat → Bool
 | [] => true
 | x :: l => !l.contains x && distinct l
theorem ofH_of_mem : ∀ {h : List (Nat × Blk)} {x : Nat × Blk}, distinct (h.map (·.1)) = true → x ∈ h → ofH h x.1 = some x.2
 | [], _, _, h => by cases h
 | y :: h, x, hd, hx => by
  simp only [List.map_cons, distinct, Bool.and_eq_true, Bool.not_eq_true'] at hd
  obtain ⟨a, b⟩ := y
  rcases List.mem_cons.1 hx with rfl | hx'
  ·simp [ofH]
  ·have : x.1 ≠ a := by
    intro e
    have : (h.map (·.1)).contains a = true := by
     rw [List.contains_iff_mem]
     exact List.mem_map.2 ⟨x, hx', e⟩
    rw [this] at hd
    cases hd.1
   simp only [ofH, if_neg this]
   exact ofH_of_mem hd.2 hx'
structure FitD (s : St) (xs : List Operand) (args : List AV) (h : List (Nat × Blk)) (n : Nat) (rt : List Nat) (r : AV) (h' : List (Nat × Blk)) (ρ : Nat → Nat) : Prop where
 opd : argD s.T ρ xs args
 labs : args.all (fun y => y.labsIn n) = true
 here : ∀ x ∈ h, s.H (ρ x.1) = some (x.2.ren ρ) ∧ x.1 < n ∧ x.2.labsIn n = true
 inj : distinct (h.map fun x => ρ x.1) = true
 dist : distinct (h.map (·.1)) = true
 dist' : distinct (h'.map (·.1)) = true
 roots : rt.all (fun l => (h.map (·.1)).contains l) = true
 res : r.labsBy (fun l => rt.contains l || decide (n ≤ l)) = true
 mem : h'.all (fun x => (rt.contains x.1 || decide (n ≤ x.1)) && x.2.labsBy (fun l => rt.contains l || decide (n ≤ l))) = true
theorem distinct_inj {ρ : Nat → Nat} : ∀ {h : List (Nat × Blk)}, distinct (h.map fun x => ρ x.1) = true → ∀ x ∈ h, ∀ y ∈ h, ρ x.1 = ρ y.1 → x = y
 | [], _, x, hx, _, _, _ => by cases hx
 | z :: h, hd, x, hx, y, hy, e => by
  simp only [List.map_cons, distinct, Bool.and_eq_true, Bool.not_eq_true'] at hd
  have no : ∀ v ∈ h, ρ v.1 ≠ ρ z.1 := fun v hv e => by
   have : (h.map fun x => ρ x.1).contains (ρ z.1) = true := by
    rw [List.contains_iff_mem]
    exact List.mem_map.2 ⟨v, hv, e⟩
   rw [this] at hd
   cases hd.1
  rcases List.mem_cons.1 hx with hx' | hx'
  ·rcases List.mem_cons.1 hy with hy' | hy'
   ·rw [hx', hy']
   ·rw [hx'] at e
    exact absurd e.symm (no y hy')
  ·rcases List.mem_cons.1 hy with hy' | hy'
   ·rw [hy'] at e
    exact absurd e (no x hx')
   ·exact distinct_inj hd.2 x hx' y hy' e
theorem callD_fn {nt : Fm} {s : St} {K : St → Prop} {o : Oper} {f : FuncId} {xs : Array Operand} {ts : Array TypeId} {args : List AV} {h : List (Nat × Blk)} {n : Nat} {rt : List Nat} {r : AV} {h' : List (Nat × Blk)} {m : Nat} (ρ : Nat → Nat)
  (ho : o.op = .call { callee := .value (.func f), args := xs, argTypes := ts }) (hd : dstOK nt o = true) (D : DFn P f args h n rt r h' m) (F : FitD s xs.toList args h n rt r h' ρ)
  (hk : K ⟨putT s.T o.dst (some (r.ren (lift2 ρ n s.nx))), putH (putH s.H (goneU ρ h)) (newU (lift2 ρ n s.nx) h'), s.nx + m⟩) : CallD P nt o s K := by
 obtain ⟨hen, hp⟩ := D
 intro w0 X I0 a w next Q tx ⟨σ, I, hn, mm⟩ hnext
 have IN : In σ w I s.T s.H w0 X I0 a s.nx := ⟨mm.heap, mm.tmps, hn _ (Nat.le_refl _), tx⟩
 have hrun : (execOp a.eval o).run P w = .ok (.enter f (xs.map a.eval)) w := by
  have he : a.eval (.func f) = .func (.func f) #[] #[] := rfl
  simp only [execOp, ho, resolve, he, Deferred.ofValue, Sem.run_bind, Sem.run_pure, Result.andThen_ok, invoke, Array.append_empty, Array.empty_append, run_enter hen]
 obtain ⟨p1, p2⟩ := argD_spec F.opd
 have here : ∀ l b, ofH h l = some b → s.H (ρ l) = some (b.ren ρ) ∧ l < n ∧ b.labsIn n = true := fun l b hl => F.here (l, b) (ofH_mem hl)
 have inj : ∀ l l' b b', ofH h l = some b → ofH h l' = some b' → ρ l = ρ l' → l = l' := fun l l' b b' h1 h2 e => by
  have := distinct_inj F.inj (l, b) (ofH_mem h1) (l', b') (ofH_mem h2) e
  injection this
 generalize hσc : relab ρ n σ = σc
 have σat : ∀ l, l < n → σc l = σ (ρ l) := fun l hl => by rw [← hσc]; unfold relab; rw [if_pos hl]
 have σno : ∀ l, n ≤ l → σc l = none := fun l hl => by rw [← hσc]; unfold relab; rw [if_neg (by omega)]
 have Xof : ∀ g, lentX σc (ofH h) g → ∃ l b sl, ofH h l = some b ∧ s.H (ρ l) = some (b.ren ρ) ∧ σ (ρ l) = some sl ∧ sl.block = some g := fun g ⟨l, sl, q1, q2, q3⟩ => by
  obtain ⟨b, hb⟩ := Option.ne_none_iff_exists'.1 q1
  obtain ⟨r1, r2, _⟩ := here l b hb
  exact ⟨l, b, sl, hb, r1, by rw [← σat l r2]; exact q2, q3⟩
 have hH : HOK σc w I (ofH h) w (lentX σc (ofH h)) I := by
  refine ⟨fun l b hl => ?_, fun l l' g s1 s2 n1 n2 e1 e2 g1 g2 => ?_, fun l g s1 n1 e1 g1 => ?_, fun g hg => ⟨(mm.heap.imm g hg).1, .inl hg⟩, fun _ h => h, Fr.refl _ _⟩
  ·obtain ⟨r1, r2, r3⟩ := here l b hl
   rw [← hσc]
   exact repB_ren r2 (mm.heap.rows _ _ r1) r3
  ·obtain ⟨b1, hb1⟩ := Option.ne_none_iff_exists'.1 n1
   obtain ⟨b2, hb2⟩ := Option.ne_none_iff_exists'.1 n2
   obtain ⟨r1, r2, _⟩ := here l b1 hb1
   obtain ⟨r1', r2', _⟩ := here l' b2 hb2
   rw [σat l r2] at e1
   rw [σat l' r2'] at e2
   exact inj l l' b1 b2 hb1 hb2 (mm.heap.inj _ _ g s1 s2 (by rw [r1]; simp) (by rw [r1']; simp) e1 e2 g1 g2)
  ·obtain ⟨b1, hb1⟩ := Option.ne_none_iff_exists'.1 n1
   obtain ⟨r1, r2, _⟩ := here l b1 hb1
   refine ⟨?_, .inl ⟨l, s1, n1, e1, g1⟩⟩
   rw [σat l r2] at e1
   exact (mm.heap.mine _ g s1 (by rw [r1]; simp) e1 g1).1
 have hargs := hp w I σc (xs.map a.eval) (by simpa using p1) σno (fun j u y q1 q2 => by
  rw [Array.getElem?_map, Option.map_eq_some_iff] at q1
  obtain ⟨x, hx, rfl⟩ := q1
  have hlab : y.labsIn n = true := List.all_eq_true.1 F.labs y (List.mem_of_getElem? q2)
  rcases p2 j x y (by simpa using hx) q2 with ⟨p, v, rfl, hv, hpv⟩ | hv
  ·exact .p (rep_pureA (IN.ev hv) hpv)
  ·rw [← hσc]
   exact repA_ren (IN.ev hv) y rfl hlab) hH IN.tabs
 unfold Oper.wp
 rw [hrun, Oper.upon_enter]
 refine hargs.mono fun e w' he => ?_
 obtain ⟨v, σ', I', rfl, hh, hrv, hroot, hnew⟩ := he
 -- the caller's labels behind the call
 obtain ⟨σ2, hσ2⟩ : ∃ σ2 : Lab, ∀ l, σ2 l = if l < s.nx then σ l else σ' (n + (l - s.nx)) := ⟨fun l => if l < s.nx then σ l else σ' (n + (l - s.nx)), fun _ => rfl⟩
 have old : ∀ l sl, σ l = some sl → σ2 l = some sl := fun l sl hl => by
  rw [hσ2]
  rcases Nat.lt_or_ge l s.nx with q | q
  ·rw [if_pos q]; exact hl
  ·rw [hn l q] at hl; cases hl
 have new : ∀ l, (rt.contains l || decide (n ≤ l)) = true → ∀ sl, σ' l = some sl → σ2 (lift2 ρ n s.nx l) = some sl := fun l hl sl hs => by
  unfold lift2
  rcases Nat.lt_or_ge l n with q | q
  ·rw [if_pos q]
   have hm : l ∈ rt := by
    rcases Bool.or_eq_true_iff.1 hl with hl | hl
    ·exact List.contains_iff_mem.1 hl
    ·simp at hl; omega
   rw [hroot l hm, σat l q] at hs
   exact old _ _ hs
  ·rw [if_neg (by omega), hσ2, if_neg (by omega), show n + (s.nx + (l - n) - s.nx) = l by omega]
   exact hs
 have blk : ∀ l g sl, s.H l ≠ none → σ l = some sl → sl.block = some g → g < w.heap.size := fun l g sl hn hs hg => by
  obtain ⟨b, hb⟩ := Option.ne_none_iff_exists'.1 hn
  obtain ⟨s', hs', hlt⟩ := (mm.heap.rows l b hb).block
  rw [hs] at hs'; injection hs' with hs'; subst hs'
  exact hlt g hg
 have Xmine : ∀ g, lentX σc (ofH h) g → ¬ I g ∧ (X g ∨ w0.heap.size ≤ g) ∧ g < w.heap.size := fun g hg => by
  obtain ⟨l, b, sl, q1, q2, q3, q4⟩ := Xof g hg
  obtain ⟨m1, m2⟩ := mm.heap.mine _ g sl (by rw [q2]; simp) q3 q4
  exact ⟨m1, m2, blk _ g sl (by rw [q2]; simp) q3 q4⟩
 have same : ∀ b, I b → w'.heap[b]? = w.heap[b]? := fun b hb => hh.fr.block b (mm.heap.imm b hb).1 fun hx => (Xmine b hx).1 hb
 have hI : ∀ g, I g → I' g := hh.sub
 have fresh : ∀ g, I' g → I g ∨ lentX σc (ofH h) g ∨ w.heap.size ≤ g := fun g hg => (hh.imm g hg).2
 have frame : ∀ l b, s.H l = some b → (∀ x ∈ h, ρ x.1 ≠ l) → ∀ g sl, σ l = some sl → sl.block = some g → ¬ lentX σc (ofH h) g := fun l b hl hno g sl hs hg hx => by
  obtain ⟨l2, b2, sl2, q1, q2, q3, q4⟩ := Xof g hx
  exact hno (l2, b2) (ofH_mem q1) (mm.heap.inj _ _ g sl2 sl (by rw [q2]; simp) (by rw [hl]; simp) q3 hs q4 hg)
 -- what stands where
 have cls : ∀ l b, putH (putH s.H (goneU ρ h)) (newU (lift2 ρ n s.nx) h') l = some b → (∃ x ∈ h', lift2 ρ n s.nx x.1 = l ∧ b = x.2.ren (lift2 ρ n s.nx)) ∨ (s.H l = some b ∧ (∀ x ∈ h, ρ x.1 ≠ l)) := fun l b hl => by
  rcases putH_new (lift2 ρ n s.nx) l h' (putH s.H (goneU ρ h)) with ⟨e1, e2⟩ | ⟨x, hx, e1, e2⟩
  ·rw [e1] at hl
   rcases putH_gone ρ l h s.H with ⟨e3, e4⟩ | ⟨e3, _⟩
   ·rw [e3] at hl; exact .inr ⟨hl, e4⟩
   ·rw [e3] at hl; cases hl
  ·rw [e2] at hl
   injection hl with hl
   exact .inl ⟨x, hx, e1, hl.symm⟩
 have mem' : ∀ x ∈ h', (rt.contains x.1 || decide (n ≤ x.1)) = true ∧ x.2.labsBy (fun l => rt.contains l || decide (n ≤ l)) = true := fun x hx => by
  have := List.all_eq_true.1 F.mem x hx
  rwa [Bool.and_eq_true] at this
 have inv : ∀ l, (rt.contains l || decide (n ≤ l)) = true → ∀ sl, σ2 (lift2 ρ n s.nx l) = some sl → σ' l = some sl := fun l hl sl hs => by
  unfold lift2 at hs
  rcases Nat.lt_or_ge l n with q | q
  ·rw [if_pos q] at hs
   have hm : l ∈ rt := by
    rcases Bool.or_eq_true_iff.1 hl with hl | hl
    ·exact List.contains_iff_mem.1 hl
    ·simp at hl; omega
   rw [hroot l hm, σat l q]
   have hc := List.contains_iff_mem.1 (List.all_eq_true.1 F.roots l hm)
   obtain ⟨x, hx, hxl⟩ := List.mem_map.1 hc
   obtain ⟨r1, r2, _⟩ := F.here x hx
   have hlt : ρ l < s.nx := by
    rcases Nat.lt_or_ge (ρ l) s.nx with z | z
    ·exact z
    ·obtain ⟨sl', hsl', _⟩ := (mm.heap.rows _ _ r1).block
     rw [hxl, hn _ z] at hsl'; cases hsl'
   rw [hσ2, if_pos hlt] at hs
   exact hs
  ·rw [if_neg (by omega), hσ2, if_neg (by omega), show n + (s.nx + (l - n) - s.nx) = l by omega] at hs
   exact hs
 have OK : HOK σ2 w' I' (putH (putH s.H (goneU ρ h)) (newU (lift2 ρ n s.nx) h')) w0 X I0 := by
  have rowN : ∀ x ∈ h', repB σ' w' I' x.1 x.2 := fun x hx => hh.rows x.1 x.2 (ofH_of_mem F.dist' hx)
  have neN : ∀ x ∈ h', ofH h' x.1 ≠ none := fun x hx => by rw [ofH_of_mem F.dist' hx]; simp
  have slotF : ∀ l b sl, s.H l = some b → σ2 l = some sl → σ l = some sl := fun l b sl hl hs => by
   obtain ⟨sl', hsl', _⟩ := (mm.heap.rows l b hl).block
   rw [old l sl' hsl'] at hs
   rw [hsl']; exact hs
  refine ⟨fun l b hl => ?_, fun l1 l2 g s1 s2 n1 n2 e1 e2 g1 g2 => ?_, fun l g sl n1 e1 g1 => ?_, fun g hg => ?_, fun g hg => hh.sub g (mm.heap.sub g hg), ⟨hh.fr.os.trans mm.heap.fr.os, hh.fr.tape.trans mm.heap.fr.tape, hh.fr.output.trans mm.heap.fr.output, Nat.le_trans mm.heap.fr.size hh.fr.size, fun b hb hx => ?_, mm.heap.fr.step fun b cur et p hb hc => hh.fr.shape b cur et p hc⟩⟩
  ·rcases cls l b hl with ⟨x, hx, rfl, rfl⟩ | ⟨hl', hno⟩
   ·exact repB_by new (mem' x hx).1 (rowN x hx) (mem' x hx).2
   ·obtain ⟨sl, hsl, hlt⟩ := (mm.heap.rows l b hl').block
    refine (mm.heap.rows l b hl').mono old hI same fun g s' q1 q2 => ?_
    rw [hsl] at q1; injection q1 with q1; subst q1
    exact hh.fr.block g (hlt g q2) (frame l b hl' hno g _ hsl q2)
  ·obtain ⟨b1, hb1⟩ := Option.ne_none_iff_exists'.1 n1
   obtain ⟨b2, hb2⟩ := Option.ne_none_iff_exists'.1 n2
   rcases cls l1 b1 hb1 with ⟨x, hx, rfl, rfl⟩ | ⟨h1, no1⟩
   ·have f1 := inv x.1 (mem' x hx).1 s1 e1
    rcases cls l2 b2 hb2 with ⟨y, hy, rfl, rfl⟩ | ⟨h2, no2⟩
    ·have f2 := inv y.1 (mem' y hy).1 s2 e2
     rw [hh.inj x.1 y.1 g s1 s2 (neN x hx) (neN y hy) f1 f2 g1 g2]
    ·exfalso
     have f2 := slotF l2 b2 s2 h2 e2
     rcases (hh.mine x.1 g s1 (neN x hx) f1 g1).2 with q | q
     ·exact frame l2 b2 h2 no2 g s2 f2 g2 q
     ·have := blk l2 g s2 (by rw [h2]; simp) f2 g2; omega
   ·have f1 := slotF l1 b1 s1 h1 e1
    rcases cls l2 b2 hb2 with ⟨y, hy, rfl, rfl⟩ | ⟨h2, no2⟩
    ·exfalso
     have f2 := inv y.1 (mem' y hy).1 s2 e2
     rcases (hh.mine y.1 g s2 (neN y hy) f2 g2).2 with q | q
     ·exact frame l1 b1 h1 no1 g s1 f1 g1 q
     ·have := blk l1 g s1 (by rw [h1]; simp) f1 g1; omega
    ·exact mm.heap.inj l1 l2 g s1 s2 (by rw [h1]; simp) (by rw [h2]; simp) f1 (slotF l2 b2 s2 h2 e2) g1 g2
  ·obtain ⟨b1, hb1⟩ := Option.ne_none_iff_exists'.1 n1
   rcases cls l b1 hb1 with ⟨x, hx, rfl, rfl⟩ | ⟨h1, no1⟩
   ·have f1 := inv x.1 (mem' x hx).1 sl e1
    obtain ⟨m1, m2⟩ := hh.mine x.1 g sl (neN x hx) f1 g1
    refine ⟨m1, ?_⟩
    rcases m2 with q | q
    ·exact (Xmine g q).2.1
    ·exact .inr (Nat.le_trans mm.heap.fr.size q)
   ·have f1 := slotF l b1 sl h1 e1
    obtain ⟨m1, m2⟩ := mm.heap.mine l g sl (by rw [h1]; simp) f1 g1
    refine ⟨fun hg => ?_, m2⟩
    rcases fresh g hg with q | q | q
    ·exact m1 q
    ·exact frame l b1 h1 no1 g sl f1 g1 q
    ·have := blk l g sl (by rw [h1]; simp) f1 g1; omega
  ·refine ⟨(hh.imm g hg).1, ?_⟩
   rcases fresh g hg with q | q | q
   ·exact (mm.heap.imm g q).2
   ·exact .inr (Xmine g q).2.1
   ·exact .inr (.inr (Nat.le_trans mm.heap.fr.size q))
  ·rw [hh.fr.block b (by have := mm.heap.fr.size; omega) fun hx' => ?_]
   ·exact mm.heap.fr.block b hb hx
   ·rcases (Xmine b hx').2.1 with q | q
    ·exact hx q
    ·omega
 refine hnext ⟨putT s.T o.dst (some (r.ren (lift2 ρ n s.nx))), _, s.nx + m⟩ _ w' ⟨σ2, I', fun l hl => ?_, mm.put hd OK old hI same fun y hy => by injection hy with hy; subst hy; exact repA_by new hrv F.res⟩ hk
 simp only at hl
 rw [hσ2, if_neg (by omega)]
 exact hnew _ (by omega)
end Go.Aw
namespace Go.Aw
open Go.Proofs Go.RowKit
set_option linter.unusedSimpArgs false
set_option linter.unusedVariables false
end Go.Aw
namespace Go.Aw
open Go.Proofs Go.RowKit
set_option linter.unusedSimpArgs false
set_option linter.unusedVariables false
theorem msgsC_zero {S : Sc} {K : List (List UInt8) → Int} : ∀ {l : List Ms} {ns : List (List UInt8)}, msgsC S K ns l = 0 → (∀ (i : Nat) m, l[i]? = some m → msgC S (ns ++ (l.take i).map Ms.name) m = 0) ∧ K (ns ++ l.map Ms.name) = 0
 | [], ns, h => ⟨fun i m hm => by simp at hm, by simpa [msgsC] using h⟩
 | a :: l, ns, h => by
  rw [msgsC] at h
  split at h
  ·rename_i h0
   obtain ⟨h1, h2⟩ := msgsC_zero h
   refine ⟨fun i m hm => ?_, by simpa [List.append_assoc] using h2⟩
   cases i with
   | zero => simp at hm; subst hm; simpa using h0
   | succ i => have := h1 i m (by simpa using hm); simpa [List.append_assoc] using this
  ·rename_i h0; exact absurd h h0
theorem enumsC_zero : ∀ {l : List En} {ns : List (List UInt8)}, enumsC ns l = 0 → ∀ (i : Nat) m, l[i]? = some m → enumC (ns ++ (l.take i).map En.name) m = 0
 | [], ns, h, i, m, hm => by simp at hm
 | a :: l, ns, h, i, m, hm => by
  rw [enumsC] at h
  split at h
  ·rename_i h0
   have h1 := enumsC_zero h
   cases i with
   | zero => simp at hm; subst hm; simpa using h0
   | succ i => have := h1 i m (by simpa using hm); simpa [List.append_assoc] using this
  ·rename_i h0; exact absurd h h0
theorem methsC_zero {S : Sc} : ∀ {l : List Mt} {ns : List (List UInt8)}, methsC S ns l = 0 → ∀ (i : Nat) m, l[i]? = some m → takesB (ns ++ (l.take i).map Mt.name) m.name = true ∧ hasM S m.inn = true ∧ hasM S m.out = true
 | [], ns, h, i, m, hm => by simp at hm
 | a :: l, ns, h, i, m, hm => by
  rw [methsC] at h
  split at h
  ·rename_i h0
   split at h
   ·rename_i h2
    have h1 := methsC_zero h
    cases i with
    | zero =>
     simp at hm; subst hm
     simp only [Bool.and_eq_true] at h2
     exact ⟨by simpa using h0, h2⟩
    | succ i => have := h1 i m (by simpa using hm); simpa [List.append_assoc] using this
   ·cases h
  ·cases h
theorem fldsC_zero {S : Sc} : ∀ {l : List Fd} {ns : List (List UInt8)} {us : List Int}, fldsC S ns us l = 0 → ∀ (i : Nat) f, l[i]? = some f → takesB (ns ++ (l.take i).map Fd.name) f.name = true ∧ tagB f.tag = true ∧ (us ++ (l.take i).map Fd.tag).contains f.tag = false ∧ fieldB S f = true
 | [], ns, us, h, i, f, hf => by simp at hf
 | a :: l, ns, us, h, i, f, hf => by
  rw [fldsC] at h
  split at h
  ·rename_i h0
   split at h
   ·rename_i h2
    split at h
    ·rename_i h3
     have h1 := fldsC_zero h
     cases i with
     | zero =>
      simp at hf; subst hf
      simp only [Bool.and_eq_true, Bool.not_eq_true'] at h2
      exact ⟨by simpa using h0, h2.1, by simpa using h2.2, h3⟩
     | succ i => have := h1 i f (by simpa using hf); simpa [List.append_assoc] using this
    ·cases h
   ·cases h
  ·cases h
theorem contains_apart {α : Type} {f : α → List UInt8} {l : List α} {k : List UInt8} (h : (l.map f).contains k = false) : l.all (fun x => !(f x == k)) = true := by
 rw [List.all_eq_true]
 intro x hx
 rw [contains_any, List.any_map] at h
 have := List.any_eq_false.1 h x hx
 simp at this ⊢
 intro e
 exact this e.symm
theorem contains_apartI {α : Type} {f : α → Int} {l : List α} {k : Int} (h : (l.map f).contains k = false) : l.all (fun x => !(f x == k)) = true := by
 rw [List.all_eq_true]
 intro x hx
 rw [contains_any, List.any_map] at h
 have := List.any_eq_false.1 h x hx
 simp at this ⊢
 intro e
 exact this e.symm
theorem contains_app {α : Type} [BEq α] {a b : List α} {k : α} (h : (a ++ b).contains k = false) : a.contains k = false ∧ b.contains k = false := by
 rw [contains_any, List.any_append, Bool.or_eq_false_iff] at h
 exact ⟨by rw [contains_any]; exact h.1, by rw [contains_any]; exact h.2⟩
structure RightS (S : Sc) : Prop where
 msg : ∀ (i : Nat) m, S.msgs[i]? = some m → firstP (fun x => x.name == m.name) zMs S.msgs = (m, true) ∧ firstP (fun x => x.name == m.name) zEn S.enums = (zEn, false) ∧ nameB m.name = true
 enum : ∀ (i : Nat) m, S.enums[i]? = some m → firstP (fun x => x.name == m.name) zEn S.enums = (m, true)
 meth : ∀ (i : Nat) m, S.meths[i]? = some m → firstP (fun x => x.name == m.name) zMt S.meths = (m, true) ∧ hasM S m.inn = true ∧ hasM S m.out = true
 fld : ∀ m ∈ S.msgs, ∀ (i : Nat) f, m.fields[i]? = some f → firstP (fun x => x.tag == f.tag) zFd m.fields = (f, true) ∧ m.res.contains f.tag = false ∧ fieldB S f = true ∧ tagB f.tag = true ∧ nameB f.name = true
 res : ∀ m ∈ S.msgs, ∀ t ∈ m.res, firstP (fun x => x.tag == t) zFd m.fields = (zFd, false)
 no : ∀ m ∈ S.msgs, m.fields.length ≤ 16 ∧ m.res.length ≤ 32
 len : S.msgs.length ≠ 0 ∧ S.msgs.length ≤ 10 ∧ S.enums.length ≤ 6 ∧ S.meths.length ≤ 6
theorem right_of {S : Sc} (h : checkC S = 0) : RightS S := by
 unfold checkC at h
 split at h
 case isFalse => cases h
 split at h
 ·cases h
 rename_i hl0
 split at h
 ·cases h
 rename_i hl1
 split at h
 case isFalse h0 => exact absurd h h0
 rename_i h0
 obtain ⟨h1, h2⟩ := msgsC_zero h0
 have h3 := enumsC_zero h2
 have h4 := methsC_zero h
 have mz : ∀ (i : Nat) m, S.msgs[i]? = some m → takesB ((S.msgs.take i).map Ms.name) m.name = true ∧ bodyC S m = 0 := fun i m hm => by
  have := h1 i m hm
  unfold msgC at this
  rw [List.nil_append] at this
  split at this
  ·rename_i q; exact ⟨q, this⟩
  ·cases this
 have ez : ∀ (i : Nat) m, S.enums[i]? = some m → takesB (S.msgs.map Ms.name ++ (S.enums.take i).map En.name) m.name = true := fun i m hm => by
  have := h3 i m hm
  unfold enumC at this
  rw [List.nil_append] at this
  split at this
  ·rename_i q; exact q
  ·cases this
 have tk : ∀ {ns : List (List UInt8)} {k : List UInt8}, takesB ns k = true → ns.contains k = false ∧ nameB k = true := fun q => by
  unfold takesB at q
  simp only [Bool.and_eq_true, Bool.not_eq_true'] at q
  exact ⟨q.2, q.1⟩
 have bz : ∀ m ∈ S.msgs, (m.fields.length ≤ 16 ∧ m.res.length ≤ 32) ∧ fldsC S [] m.res m.fields = 0 := fun m hm => by
  obtain ⟨i, hi⟩ := List.getElem?_of_mem hm
  have q := (mz i m hi).2
  unfold bodyC at q
  split at q
  ·cases q
  rename_i q1
  split at q
  ·cases q
  ·exact ⟨by omega, q⟩
 have fz : ∀ m ∈ S.msgs, ∀ (i : Nat) f, m.fields[i]? = some f → takesB ((m.fields.take i).map Fd.name) f.name = true ∧ tagB f.tag = true ∧ (m.res ++ (m.fields.take i).map Fd.tag).contains f.tag = false ∧ fieldB S f = true := fun m hm i f hf => by
  have := fldsC_zero (bz m hm).2 i f hf
  rwa [List.nil_append] at this
 refine ⟨fun i m hm => ?_, fun i m hm => ?_, fun i m hm => ?_, fun m hm i f hf => ?_, fun m hm t ht => ?_, fun m hm => (bz m hm).1, ⟨hl0, by omega⟩⟩
 ·refine ⟨first_at hm (contains_apart (tk (mz i m hm).1).1) (by simp), first_not ?_, (tk (mz i m hm).1).2⟩
  rw [List.all_eq_true]
  intro e he
  obtain ⟨j, hj⟩ := List.getElem?_of_mem he
  have q := (contains_app (tk (ez j e hj)).1).1
  have q' := List.all_eq_true.1 (contains_apart q) m (List.mem_of_getElem? hm)
  simp at q' ⊢
  intro e'
  exact q' e'.symm
 ·exact first_at hm (contains_apart (contains_app (tk (ez i m hm)).1).2) (by simp)
 ·have q := h4 i m hm
  rw [List.nil_append] at q
  exact ⟨first_at hm (contains_apart (tk q.1).1) (by simp), q.2⟩
 ·obtain ⟨q1, q2, q3, q4⟩ := fz m hm i f hf
  exact ⟨first_at hf (contains_apartI (contains_app q3).2) (by simp), (contains_app q3).1, q4, q2, (tk q1).2⟩
 ·refine first_not ?_
  rw [List.all_eq_true]
  intro f hf
  obtain ⟨j, hj⟩ := List.getElem?_of_mem hf
  have q := (contains_app (fz m hm j f hj).2.2.1).1
  have : f.tag ≠ t := by
   intro e
   rw [e] at q
   have : m.res.contains t = true := by rw [List.contains_iff_mem]; exact ht
   rw [this] at q
   cases q
  simpa using this
end Go.Aw
namespace Go.Aw
open Go.Proofs Go.RowKit
set_option linter.unusedSimpArgs false
set_option linter.unusedVariables false
theorem msgsC_back {S : Sc} {K : List (List UInt8) → Int} : ∀ {l : List Ms} {ns : List (List UInt8)}, (∀ (i : Nat) m, l[i]? = some m → msgC S (ns ++ (l.take i).map Ms.name) m = 0) → K (ns ++ l.map Ms.name) = 0 → msgsC S K ns l = 0
 | [], ns, _, h => by simpa [msgsC] using h
 | a :: l, ns, h1, h2 => by
  have h0 := h1 0 a rfl
  rw [msgsC, if_pos (by simpa using h0)]
  exact msgsC_back (fun i m hm => by have := h1 (i + 1) m (by simpa using hm); simpa [List.append_assoc] using this) (by simpa [List.append_assoc] using h2)
theorem enumsC_back : ∀ {l : List En} {ns : List (List UInt8)}, (∀ (i : Nat) m, l[i]? = some m → enumC (ns ++ (l.take i).map En.name) m = 0) → enumsC ns l = 0
 | [], ns, _ => rfl
 | a :: l, ns, h1 => by
  have h0 := h1 0 a rfl
  rw [enumsC, if_pos (by simpa using h0)]
  exact enumsC_back (fun i m hm => by have := h1 (i + 1) m (by simpa using hm); simpa [List.append_assoc] using this)
theorem methsC_back {S : Sc} : ∀ {l : List Mt} {ns : List (List UInt8)}, (∀ (i : Nat) m, l[i]? = some m → takesB (ns ++ (l.take i).map Mt.name) m.name = true ∧ hasM S m.inn = true ∧ hasM S m.out = true) → methsC S ns l = 0
 | [], ns, _ => rfl
 | a :: l, ns, h1 => by
  obtain ⟨q1, q2, q3⟩ := h1 0 a rfl
  rw [methsC, if_pos (by simpa using q1), if_pos (by rw [q2, q3]; rfl)]
  exact methsC_back (fun i m hm => by have := h1 (i + 1) m (by simpa using hm); simpa [List.append_assoc] using this)
theorem takes_iff {ns : List (List UInt8)} {k : List UInt8} : takesB ns k = true ↔ nameB k = true ∧ k ∉ ns := by
 unfold takesB
 rw [Bool.and_eq_true, Bool.not_eq_true', ← Bool.not_eq_true, List.contains_iff_mem]
theorem takes_all {α : Type} {f : α → List UInt8} : ∀ {l : List α} {ns : List (List UInt8)}, ns.Nodup → ((∀ (i : Nat) a, l[i]? = some a → takesB (ns ++ (l.take i).map f) (f a) = true) ↔ (∀ a ∈ l, nameB (f a) = true) ∧ (ns ++ l.map f).Nodup)
 | [], ns, hn => by simp [hn]
 | a :: l, ns, hn => by
  constructor
  ·intro h
   have h0 := takes_iff.1 (h 0 a rfl)
   have hn' : (ns ++ [f a]).Nodup := by
    rw [List.nodup_append]
    refine ⟨hn, by simp, fun x hx y hy => ?_⟩
    simp at hy
    subst hy
    rintro rfl
    exact h0.2 (by simpa using hx)
   have := (takes_all (f := f) (l := l) hn').1 fun i b hb => by
    have := h (i + 1) b (by simpa using hb)
    simpa [List.append_assoc] using this
   refine ⟨fun b hb => ?_, by simpa [List.append_assoc] using this.2⟩
   rcases List.mem_cons.1 hb with rfl | hb
   ·exact h0.1
   ·exact this.1 b hb
  ·rintro ⟨h1, h2⟩ i b hb
   have h2' : ((ns ++ [f a]) ++ l.map f).Nodup := by simpa [List.append_assoc] using h2
   cases i with
   | zero =>
    simp at hb
    subst hb
    refine takes_iff.2 ⟨h1 _ List.mem_cons_self, fun hm => ?_⟩
    have q := (List.nodup_append.1 h2').1
    rw [List.nodup_append] at q
    exact q.2.2 (f a) (by simpa using hm) (f a) (by simp) rfl
   | succ i =>
    have hn' := (List.nodup_append.1 h2').1
    have := (takes_all (f := f) (l := l) hn').2 ⟨fun c hc => h1 c (List.mem_cons_of_mem _ hc), h2'⟩ i b (by simpa using hb)
    simpa [List.append_assoc] using this
def namesS (S : Sc) : List (List UInt8) := S.msgs.map Ms.name ++ S.enums.map En.name
structure FitS (S : Sc) : Prop where
 name : nameB S.name = true
 lens : S.msgs.length ≠ 0 ∧ S.msgs.length ≤ 10 ∧ S.enums.length ≤ 6 ∧ S.meths.length ≤ 6
 mn : ∀ m ∈ S.msgs, nameB m.name = true
 en : ∀ m ∈ S.enums, nameB m.name = true
 nd : (namesS S).Nodup
 body : ∀ m ∈ S.msgs, bodyC S m = 0
 ebody : ∀ m ∈ S.enums, enumBody m = 0
 tn : ∀ t ∈ S.meths, nameB t.name = true
 tnd : (S.meths.map Mt.name).Nodup
 tio : ∀ t ∈ S.meths, hasM S t.inn = true ∧ hasM S t.out = true
theorem msgC_zero {S : Sc} {ns : List (List UInt8)} {m : Ms} : msgC S ns m = 0 ↔ takesB ns m.name = true ∧ bodyC S m = 0 := by
 unfold msgC
 split
 ·rename_i h; simp [h]
 ·rename_i h; simp [h]
theorem enumC_zero {ns : List (List UInt8)} {m : En} : enumC ns m = 0 ↔ takesB ns m.name = true ∧ enumBody m = 0 := by
 unfold enumC
 split
 ·rename_i h; simp [h]
 ·rename_i h; simp [h]
theorem check_fit {S : Sc} : checkC S = 0 ↔ FitS S := by
 constructor
 ·intro h
  have R := right_of h
  unfold checkC at h
  split at h
  case isFalse => cases h
  rename_i hn
  split at h
  ·cases h
  split at h
  ·cases h
  split at h
  case isFalse h0 => exact absurd h h0
  rename_i h0
  obtain ⟨h1, h2⟩ := msgsC_zero h0
  have h3 := enumsC_zero h2
  have h4 := methsC_zero h
  rw [List.nil_append] at h3
  have a1 := (takes_all (f := Ms.name) (l := S.msgs) (ns := []) List.nodup_nil).1 fun i m hm => (msgC_zero.1 (h1 i m hm)).1
  rw [List.nil_append] at a1
  have a2 := (takes_all (f := En.name) (l := S.enums) a1.2).1 fun i m hm => (enumC_zero.1 (h3 i m hm)).1
  have a3 := (takes_all (f := Mt.name) (l := S.meths) (ns := []) List.nodup_nil).1 fun i m hm => (h4 i m hm).1
  refine ⟨hn, R.len, a1.1, a2.1, a2.2, fun m hm => ?_, fun m hm => ?_, a3.1, by simpa using a3.2, fun t ht => ?_⟩
  ·obtain ⟨i, hi⟩ := List.getElem?_of_mem hm
   exact (msgC_zero.1 (h1 i m hi)).2
  ·obtain ⟨i, hi⟩ := List.getElem?_of_mem hm
   exact (enumC_zero.1 (h3 i m hi)).2
  ·obtain ⟨i, hi⟩ := List.getElem?_of_mem ht
   exact (h4 i t hi).2
 ·intro F
  have nd := F.nd
  unfold namesS at nd
  have nd1 := (List.nodup_append.1 nd).1
  have a1 := (takes_all (f := Ms.name) (l := S.msgs) (ns := []) List.nodup_nil).2 ⟨F.mn, by simpa using nd1⟩
  have a2 := (takes_all (f := En.name) (l := S.enums) nd1).2 ⟨F.en, nd⟩
  have a3 := (takes_all (f := Mt.name) (l := S.meths) (ns := []) List.nodup_nil).2 ⟨F.tn, by simpa using F.tnd⟩
  have hp : partsC S = 0 := by
   refine msgsC_back (fun i m hm => msgC_zero.2 ⟨a1 i m hm, F.body m (List.mem_of_getElem? hm)⟩) ?_
   rw [List.nil_append]
   exact enumsC_back fun i m hm => enumC_zero.2 ⟨a2 i m hm, F.ebody m (List.mem_of_getElem? hm)⟩
  have hm : methsC S [] S.meths = 0 := methsC_back fun i m hm => ⟨a3 i m hm, F.tio m (List.mem_of_getElem? hm)⟩
  have l := F.lens
  unfold checkC
  rw [if_pos F.name, if_neg l.1, if_neg (by omega), if_pos hp, hm]
theorem found_any {α : Type} {p : α → Bool} {z : α} {l : List α} : (firstP p z l).2 = l.any p := by
 unfold firstP
 cases h : l.find? p with
 | none =>
  symm
  rw [List.find?_eq_none] at h
  rw [List.any_eq_false]
  exact h
 | some a =>
  symm
  rw [List.any_eq_true]
  exact ⟨a, List.mem_of_find?_eq_some h, List.find?_some h⟩
end Go.Aw
namespace Go.Aw
open Go.Proofs Go.RowKit
set_option linter.unusedSimpArgs false
set_option linter.unusedVariables false
end Go.Aw
namespace Go.Aw
open Go.Proofs Go.RowKit
set_option linter.unusedSimpArgs false
set_option linter.unusedVariables false
end Go.Aw
namespace Go.Aw
open Go.Proofs Go.RowKit
set_option linter.unusedSimpArgs false
set_option linter.unusedVariables false
def mG (f r : Nat → Bool) (i : Nat) (m : Ms) : List AV := [.p (.str m.name), (if f i = true then .own (i + 10) else .p (.slice (m.fields.map encFd))), (if r i = true then .own (i + 30) else .p (.slice (m.res.map encI)))]
def eG (g : Nat → Bool) (i : Nat) (e : En) : List AV := [.p (.str e.name), (if g i = true then .own (i + 50) else .p (.slice (e.vals.map encNm)))]
def rowG (f r : Nat → Bool) (l : List Ms) : List (List AV) := l.mapIdx (mG f r)
def rowX (g : Nat → Bool) (l : List En) : List (List AV) := l.mapIdx (eG g)
def bank {α : Type} (b : Nat) (f : Nat → Bool) (c : α → Blk) (l : List α) : List (Nat × Blk) := (l.mapIdx fun i m => (i, m)).filterMap fun x => if f x.1 = true then some (x.1 + b, c x.2) else none
def bF (m : Ms) : Blk := .row 5 (liftE (m.fields.map encFd))
def bR (m : Ms) : Blk := .row 1 (liftE (m.res.map encI))
def bE (e : En) : Blk := .row 2 (liftE (e.vals.map encNm))
theorem mem_bank {α : Type} {b : Nat} {f : Nat → Bool} {c : α → Blk} {l : List α} {x : Nat × Blk} : x ∈ bank b f c l ↔ ∃ i m, l[i]? = some m ∧ f i = true ∧ x = (i + b, c m) := by
 unfold bank
 rw [List.mem_filterMap]
 constructor
 ·rintro ⟨y, hy, h⟩
  obtain ⟨i, hi⟩ := List.getElem?_of_mem hy
  rw [List.getElem?_mapIdx, Option.map_eq_some_iff] at hi
  obtain ⟨m, hm, rfl⟩ := hi
  simp only at h
  split at h
  ·rename_i hf
   injection h with h
   exact ⟨i, m, hm, hf, h.symm⟩
  ·cases h
 ·rintro ⟨i, m, hm, hf, rfl⟩
  refine ⟨(i, m), List.mem_of_getElem? (i := i) (by rw [List.getElem?_mapIdx, hm]; rfl), ?_⟩
  simp only
  rw [if_pos hf]
theorem ofH_fun : ∀ {h : List (Nat × Blk)} {k : Nat} {v : Blk}, (k, v) ∈ h → (∀ v', (k, v') ∈ h → v' = v) → ofH h k = some v
 | [], _, _, h, _ => by cases h
 | (j, u) :: h, k, v, hm, hu => by
  simp only [ofH]
  by_cases e : k = j
  ·subst e
   rw [if_pos rfl, hu u List.mem_cons_self]
  ·rw [if_neg e]
   refine ofH_fun ?_ fun v' hv => hu v' (List.mem_cons_of_mem _ hv)
   rcases List.mem_cons.1 hm with h' | h'
   ·injection h' with h1 h2; exact absurd h1 e
   ·exact h'
def memG (F : List (Nat × Blk)) (l : List Ms) (f r : Nat → Bool) (es : List En) (g : Nat → Bool) : List (Nat × Blk) :=
 F ++ ((1, .row 3 (rowG f r l)) :: (2, .row 2 (rowX g es)) :: (bank 10 f bF l ++ bank 30 r bR l ++ bank 50 g bE es))
theorem mem_memG {F : List (Nat × Blk)} {l : List Ms} {f r : Nat → Bool} {es : List En} {g : Nat → Bool} {x : Nat × Blk} : x ∈ memG F l f r es g ↔ x ∈ F ∨ x = (1, .row 3 (rowG f r l)) ∨ x = (2, .row 2 (rowX g es)) ∨
  (∃ i m, l[i]? = some m ∧ f i = true ∧ x = (i + 10, bF m)) ∨ (∃ i m, l[i]? = some m ∧ r i = true ∧ x = (i + 30, bR m)) ∨ ∃ i e, es[i]? = some e ∧ g i = true ∧ x = (i + 50, bE e) := by
 unfold memG
 simp only [List.mem_append, List.mem_cons, mem_bank, or_assoc]
theorem same_bank {α : Type} {l : List α} {c : α → Blk} {b i j : Nat} {m n : α} (hi : l[i]? = some m) (hj : l[j]? = some n) (e : ((i + b, c m) : Nat × Blk).1 = ((j + b, c n) : Nat × Blk).1) : ((i + b, c m) : Nat × Blk) = (j + b, c n) := by
 have q : i = j := by simp only at e; omega
 subst q
 rw [hi] at hj
 injection hj with hj
 rw [hj]
structure FOK (F : List (Nat × Blk)) : Prop where
 key : ∀ x ∈ F, x.1 < 10 ∧ x.1 ≠ 1 ∧ x.1 ≠ 2
 fn : ∀ x ∈ F, ∀ y ∈ F, x.1 = y.1 → x = y
 labs : ∀ x ∈ F, x.2.labsIn 10 = true ∧ x.2.labsIn 100 = true
structure NoG (l : List Ms) (es : List En) : Prop where
 m : l.length ≤ 20
 e : es.length ≤ 20
theorem at_lt {α : Type} {l : List α} {i : Nat} {a : α} (h : l[i]? = some a) : i < l.length := (List.getElem?_eq_some_iff.1 h).1
theorem memG_fn {F : List (Nat × Blk)} {l : List Ms} {f r : Nat → Bool} {es : List En} {g : Nat → Bool} (hF : FOK F) (hN : NoG l es) : ∀ x ∈ memG F l f r es g, ∀ y ∈ memG F l f r es g, x.1 = y.1 → x = y := by
 have lm := hN.m
 have le := hN.e
 intro x hx y hy e
 rw [mem_memG] at hx hy
 rcases hx with hx | rfl | rfl | ⟨i, m, hi, hf, rfl⟩ | ⟨i, m, hi, hf, rfl⟩ | ⟨i, m, hi, hf, rfl⟩ <;> rcases hy with hy | rfl | rfl | ⟨j, n, hj, hg, rfl⟩ | ⟨j, n, hj, hg, rfl⟩ | ⟨j, n, hj, hg, rfl⟩
 all_goals try rfl
 all_goals first
  | exact hF.fn _ hx _ hy e
  | (exfalso; have := hF.key _ hx; have := at_lt hj; simp only at e; omega)
  | (exfalso; have := hF.key _ hy; have := at_lt hi; simp only at e; omega)
  | (exfalso; have := hF.key _ hx; simp only at e; omega)
  | (exfalso; have := hF.key _ hy; simp only at e; omega)
  | (exfalso; have := at_lt hi; have := at_lt hj; simp only at e; omega)
  | (exfalso; have := at_lt hi; simp only at e; omega)
  | (exfalso; have := at_lt hj; simp only at e; omega)
  | (exfalso; simp only at e; omega)
  | exact same_bank hi hj e
theorem memG_at {F : List (Nat × Blk)} {l : List Ms} {f r : Nat → Bool} {es : List En} {g : Nat → Bool} (hF : FOK F) (hN : NoG l es) {x : Nat × Blk} (hx : x ∈ memG F l f r es g) : ofH (memG F l f r es g) x.1 = some x.2 :=
 ofH_fun hx fun v' hv => by
  have := memG_fn hF hN _ hx _ hv rfl
  rw [this]
theorem labs_thaw1 {lb : Nat} {ps : List (List PV)} {x : AV} (h : x.labsIn 10 = true) (hl : 10 ≤ lb) : thaw1 lb ps x = x := by
 cases x with
 | own l =>
  simp [AV.labsIn] at h
  show (if l = lb then _ else _) = _
  rw [if_neg (by omega)]
 | cut l lo n =>
  simp [AV.labsIn] at h
  cases lo with
  | zero =>
   show (if l = lb then _ else _) = _
   rw [if_neg (by omega)]
  | succ k => rfl
 | _ => rfl
theorem labsL_all {n : Nat} : ∀ {l : List AV}, labsInL n l = true ↔ ∀ x ∈ l, x.labsIn n = true
 | [] => by simp [labsInL]
 | y :: l => by simp [labsInL, labsL_all (l := l)]
def thawB (lb : Nat) (ps : List (List PV)) : Blk → Blk
 | .row sz es => .row sz (es.map fun e => e.map (thaw1 lb ps))
 | b => b
theorem thawB_row {lb sz : Nat} {ps : List (List PV)} {es : List (List AV)} : thawB lb ps (.row sz es) = .row sz (es.map fun e => e.map (thaw1 lb ps)) := rfl
theorem thawB_labs {lb : Nat} {ps : List (List PV)} {x : Blk} (h : x.labsIn 10 = true) (hl : 10 ≤ lb) : thawB lb ps x = x := by
 cases x with
 | row sz es =>
  simp only [Blk.labsIn, List.all_eq_true] at h
  rw [thawB_row]
  congr 1
  have : ∀ e ∈ es, e.map (thaw1 lb ps) = e := fun e he => by
   have q := labsL_all.1 (h e he)
   rw [List.map_congr_left (f := thaw1 lb ps) (g := id) (fun y hy => labs_thaw1 (q y hy) hl), List.map_id]
  rw [List.map_congr_left (g := id) this, List.map_id]
 | _ => rfl
theorem thawB_bank {lb : Nat} {ps : List (List PV)} : (∀ m, thawB lb ps (bF m) = bF m) ∧ (∀ m, thawB lb ps (bR m) = bR m) ∧ ∀ m, thawB lb ps (bE m) = bE m := by
 refine ⟨fun m => ?_, fun m => ?_, fun m => ?_⟩ <;> (unfold thawB; simp only [bF, bR, bE]; rw [thaw_lift])
theorem bank_labs {n : Nat} : (∀ m, (bF m).labsIn n = true) ∧ (∀ m, (bR m).labsIn n = true) ∧ ∀ m, (bE m).labsIn n = true :=
 ⟨fun m => labsIn_lift _ _, fun m => labsIn_lift _ _, fun m => labsIn_lift _ _⟩
theorem rowG_labs {f r : Nat → Bool} {l : List Ms} (h : l.length ≤ 20) : (Blk.row 3 (rowG f r l)).labsIn 100 = true := by
 simp only [Blk.labsIn, List.all_eq_true]
 intro e he
 obtain ⟨i, hi⟩ := List.getElem?_of_mem he
 unfold rowG at hi
 rw [List.getElem?_mapIdx, Option.map_eq_some_iff] at hi
 obtain ⟨m, hm, rfl⟩ := hi
 have := at_lt hm
 unfold mG
 simp only [labsInL, AV.labsIn, Bool.true_and, Bool.and_true, Bool.and_eq_true]
 constructor <;> split <;> simp [AV.labsIn] <;> omega
theorem rowX_labs {g : Nat → Bool} {l : List En} (h : l.length ≤ 20) : (Blk.row 2 (rowX g l)).labsIn 100 = true := by
 simp only [Blk.labsIn, List.all_eq_true]
 intro e he
 obtain ⟨i, hi⟩ := List.getElem?_of_mem he
 unfold rowX at hi
 rw [List.getElem?_mapIdx, Option.map_eq_some_iff] at hi
 obtain ⟨m, hm, rfl⟩ := hi
 have := at_lt hm
 unfold eG
 simp only [labsInL, AV.labsIn, Bool.true_and, Bool.and_true]
 split <;> simp [AV.labsIn] <;> omega
theorem memG_labs {F : List (Nat × Blk)} {l : List Ms} {f r : Nat → Bool} {es : List En} {g : Nat → Bool} (hF : FOK F) (hN : NoG l es) : ∀ x ∈ memG F l f r es g, x.1 < 100 ∧ x.2.labsIn 100 = true := by
 have lm := hN.m
 have le := hN.e
 intro x hx
 rw [mem_memG] at hx
 rcases hx with hx | rfl | rfl | ⟨i, m, hi, hf, rfl⟩ | ⟨i, m, hi, hf, rfl⟩ | ⟨i, m, hi, hf, rfl⟩
 ·exact ⟨by have := hF.key _ hx; omega, (hF.labs _ hx).2⟩
 ·exact ⟨by simp, rowG_labs lm⟩
 ·exact ⟨by simp, rowX_labs le⟩
 ·have := at_lt hi; exact ⟨by simp only; omega, bank_labs.1 m⟩
 ·have := at_lt hi; exact ⟨by simp only; omega, bank_labs.2.1 m⟩
 ·have := at_lt hi; exact ⟨by simp only; omega, bank_labs.2.2 m⟩
def TOK (T : List (Nat × AV)) : Prop := ∀ x ∈ T, ofL T x.1 = some x.2 ∧ (x.2.labsIn 10 = true ∧ x.2.labsIn 100 = true) ∧ ∀ cs, x.2 ≠ .agg cs
theorem TOK.thaw {T : List (Nat × AV)} (h : TOK T) {x : Nat × AV} (hx : x ∈ T) {lb : Nat} {ps : List (List PV)} (hl : 10 ≤ lb) : thaw lb ps x.2 = x.2 := by
 obtain ⟨_, h2, h3⟩ := h x hx
 have := labs_thaw1 (ps := ps) h2.1 hl
 generalize x.2 = v at *
 cases v with
 | agg cs => exact absurd rfl (h3 cs)
 | _ => exact this
def stG (T : List (Nat × AV)) (F : List (Nat × Blk)) (l : List Ms) (f r : Nat → Bool) (es : List En) (g : Nat → Bool) : St := ⟨ofL T, ofH (memG F l f r es g), 100⟩
theorem thawGF {f r : Nat → Bool} {l : List Ms} {k : Nat} {m : Ms} (hl : l.length ≤ 20) (hm : l[k]? = some m) (hk : f k = true) : thawB (k + 10) (m.fields.map encFd) (.row 3 (rowG f r l)) = .row 3 (rowG (fun j => f j && !(j == k)) r l) := by
 rw [thawB_row]
 congr 1
 have kl := at_lt hm
 apply List.ext_getElem?
 intro i
 unfold rowG
 rw [List.getElem?_map, List.getElem?_mapIdx, List.getElem?_mapIdx]
 cases hi : l[i]? with
 | none => rfl
 | some n =>
  have il := at_lt hi
  simp only [Option.map_some, mG, List.map_cons, List.map_nil, thaw1]
  by_cases e : i = k
  ·subst e
   rw [hm] at hi
   injection hi with hi
   subst hi
   simp only [hk, beq_self_eq_true, Bool.not_true, Bool.and_false, if_true, if_false, Bool.false_eq_true]
   by_cases q : r i = true
   ·simp only [q, if_true]; rw [if_neg (by omega)]
   ·simp only [q, if_false, Bool.false_eq_true]
  ·have e2 : (i == k) = false := by simpa using e
   simp only [e2, Bool.not_false, Bool.and_true]
   by_cases q1 : f i = true <;> by_cases q2 : r i = true <;> simp only [q1, q2, if_true, if_false, Bool.false_eq_true]
   all_goals first | rfl | (rw [if_neg (by omega), if_neg (by omega)]) | (rw [if_neg (by omega)])
theorem thawXF {g : Nat → Bool} {l : List En} {k : Nat} {ps : List (List PV)} (hl : l.length ≤ 20) (kl : k < 20) : thawB (k + 10) ps (.row 2 (rowX g l)) = .row 2 (rowX g l) := by
 rw [thawB_row]
 congr 1
 apply List.ext_getElem?
 intro i
 unfold rowX
 rw [List.getElem?_map, List.getElem?_mapIdx]
 cases hi : l[i]? with
 | none => rfl
 | some n =>
  have il := at_lt hi
  simp only [Option.map_some, eG, List.map_cons, List.map_nil, thaw1]
  by_cases q1 : g i = true <;> simp only [q1, if_true, if_false, Bool.false_eq_true]
  all_goals first | rfl | (rw [if_neg (by omega)])
theorem shutF {nt : Fm} {T : List (Nat × AV)} {F : List (Nat × Blk)} {l : List Ms} {f r : Nat → Bool} {es : List En} {g : Nat → Bool} (hT : TOK T) (hF : FOK F) (hN : NoG l es) {k : Nat} {m : Ms} (hm : l[k]? = some m) (hk : f k = true) :
  Ghost nt (stG T F l f r es g) (stG T F l (fun j => f j && !(j == k)) r es g) := by
 have lm := hN.m
 have le := hN.e
 have kl := at_lt hm
 have at1 := memG_at hF hN (f := f) (r := r) (g := g) (x := (k + 10, bF m)) (mem_memG.2 (.inr (.inr (.inr (.inl ⟨k, m, hm, hk, rfl⟩)))))
 refine Ghost.trans (Ghost.freeze (lb := k + 10) at1 (unlift_liftE _)) ?_
 refine Ghost.sub (fun x hx => ?_) fun x hx => ?_
 ·have h0 := hT x hx
  refine ⟨?_, h0.2.1.2⟩
  show (ofL T x.1).map _ = _
  rw [h0.1, Option.map_some, hT.thaw hx (by omega)]
 ·obtain ⟨q1, q2⟩ := memG_labs hF hN x hx
  refine ⟨?_, q1, q2⟩
  show (if x.1 = k + 10 then none else (ofH (memG F l f r es g) x.1).map (thawB (k + 10) (m.fields.map encFd))) = some x.2
  rw [mem_memG] at hx
  have old : ∀ v, (x.1, v) ∈ memG F l f r es g → thawB (k + 10) (m.fields.map encFd) v = x.2 → x.1 ≠ k + 10 → (if x.1 = k + 10 then none else (ofH (memG F l f r es g) x.1).map (thawB (k + 10) (m.fields.map encFd))) = some x.2 := fun v hv ht hn => by
   rw [if_neg hn, memG_at hF hN hv, Option.map_some]
   simp only
   rw [ht]
  have sp : ∀ (p : Nat → Bool) (i : Nat), (p i && !(i == k)) = true → p i = true ∧ i ≠ k := fun p i h => by
   rw [Bool.and_eq_true, Bool.not_eq_true', beq_eq_false_iff_ne] at h
   exact h
  rcases hx with hx | rfl | rfl | ⟨i, n, hi, hf, rfl⟩ | ⟨i, n, hi, hf, rfl⟩ | ⟨i, n, hi, hf, rfl⟩
  ·refine old x.2 (mem_memG.2 (.inl hx)) (thawB_labs (hF.labs _ hx).1 (by omega)) ?_
   have := hF.key _ hx
   omega
  ·exact old _ (mem_memG.2 (.inr (.inl rfl))) (thawGF lm hm hk) (by simp only; omega)
  ·exact old _ (mem_memG.2 (.inr (.inr (.inl rfl)))) (thawXF le (by omega)) (by simp only; omega)
  ·have := at_lt hi
   have := (sp f i hf).2
   exact old _ (mem_memG.2 (.inr (.inr (.inr (.inl ⟨i, n, hi, (sp f i hf).1, rfl⟩))))) (thawB_bank.1 n) (by simp only; omega)
  ·have := at_lt hi
   exact old _ (mem_memG.2 (.inr (.inr (.inr (.inr (.inl ⟨i, n, hi, hf, rfl⟩)))))) (thawB_bank.2.1 n) (by simp only; omega)
  ·have := at_lt hi
   exact old _ (mem_memG.2 (.inr (.inr (.inr (.inr (.inr ⟨i, n, hi, hf, rfl⟩)))))) (thawB_bank.2.2 n) (by simp only; omega)
theorem thawGR {f r : Nat → Bool} {l : List Ms} {k : Nat} {m : Ms} (hl : l.length ≤ 20) (hm : l[k]? = some m) (hk : r k = true) : thawB (k + 30) (m.res.map encI) (.row 3 (rowG f r l)) = .row 3 (rowG f (fun j => r j && !(j == k)) l) := by
 rw [thawB_row]
 congr 1
 have kl := at_lt hm
 apply List.ext_getElem?
 intro i
 unfold rowG
 rw [List.getElem?_map, List.getElem?_mapIdx, List.getElem?_mapIdx]
 cases hi : l[i]? with
 | none => rfl
 | some n =>
  have il := at_lt hi
  simp only [Option.map_some, mG, List.map_cons, List.map_nil, thaw1]
  by_cases e : i = k
  ·subst e
   rw [hm] at hi
   injection hi with hi
   subst hi
   simp only [hk, beq_self_eq_true, Bool.not_true, Bool.and_false, if_true, if_false, Bool.false_eq_true]
   by_cases q : f i = true
   ·simp only [q, if_true]; rw [if_neg (by omega)]
   ·simp only [q, if_false, Bool.false_eq_true]
  ·have e2 : (i == k) = false := by simpa using e
   simp only [e2, Bool.not_false, Bool.and_true]
   by_cases q1 : f i = true <;> by_cases q2 : r i = true <;> simp only [q1, q2, if_true, if_false, Bool.false_eq_true]
   all_goals first | rfl | (rw [if_neg (by omega), if_neg (by omega)]) | (rw [if_neg (by omega)])
theorem thawXR {g : Nat → Bool} {l : List En} {k : Nat} {ps : List (List PV)} (hl : l.length ≤ 20) (kl : k < 20) : thawB (k + 30) ps (.row 2 (rowX g l)) = .row 2 (rowX g l) := by
 rw [thawB_row]
 congr 1
 apply List.ext_getElem?
 intro i
 unfold rowX
 rw [List.getElem?_map, List.getElem?_mapIdx]
 cases hi : l[i]? with
 | none => rfl
 | some n =>
  have il := at_lt hi
  simp only [Option.map_some, eG, List.map_cons, List.map_nil, thaw1]
  by_cases q1 : g i = true <;> simp only [q1, if_true, if_false, Bool.false_eq_true]
  all_goals first | rfl | (rw [if_neg (by omega)])
theorem shutR {nt : Fm} {T : List (Nat × AV)} {F : List (Nat × Blk)} {l : List Ms} {f r : Nat → Bool} {es : List En} {g : Nat → Bool} (hT : TOK T) (hF : FOK F) (hN : NoG l es) {k : Nat} {m : Ms} (hm : l[k]? = some m) (hk : r k = true) :
  Ghost nt (stG T F l f r es g) (stG T F l f (fun j => r j && !(j == k)) es g) := by
 have lm := hN.m
 have le := hN.e
 have kl := at_lt hm
 have at1 := memG_at hF hN (f := f) (r := r) (g := g) (x := (k + 30, bR m)) (mem_memG.2 (.inr (.inr (.inr (.inr (.inl ⟨k, m, hm, hk, rfl⟩))))))
 refine Ghost.trans (Ghost.freeze (lb := k + 30) at1 (unlift_liftE _)) ?_
 refine Ghost.sub (fun x hx => ?_) fun x hx => ?_
 ·have h0 := hT x hx
  refine ⟨?_, h0.2.1.2⟩
  show (ofL T x.1).map _ = _
  rw [h0.1, Option.map_some, hT.thaw hx (by omega)]
 ·obtain ⟨q1, q2⟩ := memG_labs hF hN x hx
  refine ⟨?_, q1, q2⟩
  show (if x.1 = k + 30 then none else (ofH (memG F l f r es g) x.1).map (thawB (k + 30) (m.res.map encI))) = some x.2
  rw [mem_memG] at hx
  have old : ∀ v, (x.1, v) ∈ memG F l f r es g → thawB (k + 30) (m.res.map encI) v = x.2 → x.1 ≠ k + 30 → (if x.1 = k + 30 then none else (ofH (memG F l f r es g) x.1).map (thawB (k + 30) (m.res.map encI))) = some x.2 := fun v hv ht hn => by
   rw [if_neg hn, memG_at hF hN hv, Option.map_some]
   simp only
   rw [ht]
  have sp : ∀ (p : Nat → Bool) (i : Nat), (p i && !(i == k)) = true → p i = true ∧ i ≠ k := fun p i h => by
   rw [Bool.and_eq_true, Bool.not_eq_true', beq_eq_false_iff_ne] at h
   exact h
  rcases hx with hx | rfl | rfl | ⟨i, n, hi, hf, rfl⟩ | ⟨i, n, hi, hf, rfl⟩ | ⟨i, n, hi, hf, rfl⟩
  ·refine old x.2 (mem_memG.2 (.inl hx)) (thawB_labs (hF.labs _ hx).1 (by omega)) ?_
   have := hF.key _ hx
   omega
  ·exact old _ (mem_memG.2 (.inr (.inl rfl))) (thawGR lm hm hk) (by simp only; omega)
  ·exact old _ (mem_memG.2 (.inr (.inr (.inl rfl)))) (thawXR le (by omega)) (by simp only; omega)
  ·have := at_lt hi
   exact old _ (mem_memG.2 (.inr (.inr (.inr (.inl ⟨i, n, hi, hf, rfl⟩))))) (thawB_bank.1 n) (by simp only; omega)
  ·have := at_lt hi
   have := (sp r i hf).2
   exact old _ (mem_memG.2 (.inr (.inr (.inr (.inr (.inl ⟨i, n, hi, (sp r i hf).1, rfl⟩)))))) (thawB_bank.2.1 n) (by simp only; omega)
  ·have := at_lt hi
   exact old _ (mem_memG.2 (.inr (.inr (.inr (.inr (.inr ⟨i, n, hi, hf, rfl⟩)))))) (thawB_bank.2.2 n) (by simp only; omega)
theorem thawGE {f r : Nat → Bool} {l : List Ms} {k : Nat} {ps : List (List PV)} (hl : l.length ≤ 20) (kl : k < 20) : thawB (k + 50) ps (.row 3 (rowG f r l)) = .row 3 (rowG f r l) := by
 rw [thawB_row]
 congr 1
 apply List.ext_getElem?
 intro i
 unfold rowG
 rw [List.getElem?_map, List.getElem?_mapIdx]
 cases hi : l[i]? with
 | none => rfl
 | some n =>
  have il := at_lt hi
  simp only [Option.map_some, mG, List.map_cons, List.map_nil, thaw1]
  by_cases q1 : f i = true <;> by_cases q2 : r i = true <;> simp only [q1, q2, if_true, if_false, Bool.false_eq_true]
  all_goals first | rfl | (rw [if_neg (by omega), if_neg (by omega)]) | (rw [if_neg (by omega)])
theorem thawXE {g : Nat → Bool} {l : List En} {k : Nat} {m : En} (hl : l.length ≤ 20) (hm : l[k]? = some m) (hk : g k = true) : thawB (k + 50) (m.vals.map encNm) (.row 2 (rowX g l)) = .row 2 (rowX (fun j => g j && !(j == k)) l) := by
 rw [thawB_row]
 congr 1
 have kl := at_lt hm
 apply List.ext_getElem?
 intro i
 unfold rowX
 rw [List.getElem?_map, List.getElem?_mapIdx, List.getElem?_mapIdx]
 cases hi : l[i]? with
 | none => rfl
 | some n =>
  have il := at_lt hi
  simp only [Option.map_some, eG, List.map_cons, List.map_nil, thaw1]
  by_cases e : i = k
  ·subst e
   rw [hm] at hi
   injection hi with hi
   subst hi
   simp only [hk, beq_self_eq_true, Bool.not_true, Bool.and_false, if_true, if_false, Bool.false_eq_true]
  ·have e2 : (i == k) = false := by simpa using e
   simp only [e2, Bool.not_false, Bool.and_true]
   by_cases q1 : g i = true <;> simp only [q1, if_true, if_false, Bool.false_eq_true]
   all_goals first | rfl | (rw [if_neg (by omega)])
theorem shutE {nt : Fm} {T : List (Nat × AV)} {F : List (Nat × Blk)} {l : List Ms} {f r : Nat → Bool} {es : List En} {g : Nat → Bool} (hT : TOK T) (hF : FOK F) (hN : NoG l es) {k : Nat} {m : En} (hm : es[k]? = some m) (hk : g k = true) :
  Ghost nt (stG T F l f r es g) (stG T F l f r es (fun j => g j && !(j == k))) := by
 have lm := hN.m
 have le := hN.e
 have kl := at_lt hm
 have at1 := memG_at hF hN (f := f) (r := r) (g := g) (x := (k + 50, bE m)) (mem_memG.2 (.inr (.inr (.inr (.inr (.inr ⟨k, m, hm, hk, rfl⟩))))))
 refine Ghost.trans (Ghost.freeze (lb := k + 50) at1 (unlift_liftE _)) ?_
 refine Ghost.sub (fun x hx => ?_) fun x hx => ?_
 ·have h0 := hT x hx
  refine ⟨?_, h0.2.1.2⟩
  show (ofL T x.1).map _ = _
  rw [h0.1, Option.map_some, hT.thaw hx (by omega)]
 ·obtain ⟨q1, q2⟩ := memG_labs hF hN x hx
  refine ⟨?_, q1, q2⟩
  show (if x.1 = k + 50 then none else (ofH (memG F l f r es g) x.1).map (thawB (k + 50) (m.vals.map encNm))) = some x.2
  rw [mem_memG] at hx
  have old : ∀ v, (x.1, v) ∈ memG F l f r es g → thawB (k + 50) (m.vals.map encNm) v = x.2 → x.1 ≠ k + 50 → (if x.1 = k + 50 then none else (ofH (memG F l f r es g) x.1).map (thawB (k + 50) (m.vals.map encNm))) = some x.2 := fun v hv ht hn => by
   rw [if_neg hn, memG_at hF hN hv, Option.map_some]
   simp only
   rw [ht]
  have sp : ∀ (p : Nat → Bool) (i : Nat), (p i && !(i == k)) = true → p i = true ∧ i ≠ k := fun p i h => by
   rw [Bool.and_eq_true, Bool.not_eq_true', beq_eq_false_iff_ne] at h
   exact h
  rcases hx with hx | rfl | rfl | ⟨i, n, hi, hf, rfl⟩ | ⟨i, n, hi, hf, rfl⟩ | ⟨i, n, hi, hf, rfl⟩
  ·refine old x.2 (mem_memG.2 (.inl hx)) (thawB_labs (hF.labs _ hx).1 (by omega)) ?_
   have := hF.key _ hx
   omega
  ·exact old _ (mem_memG.2 (.inr (.inl rfl))) (thawGE lm (by omega)) (by simp only; omega)
  ·exact old _ (mem_memG.2 (.inr (.inr (.inl rfl)))) (thawXE le hm hk) (by simp only; omega)
  ·have := at_lt hi
   exact old _ (mem_memG.2 (.inr (.inr (.inr (.inl ⟨i, n, hi, hf, rfl⟩))))) (thawB_bank.1 n) (by simp only; omega)
  ·have := at_lt hi
   exact old _ (mem_memG.2 (.inr (.inr (.inr (.inr (.inl ⟨i, n, hi, hf, rfl⟩)))))) (thawB_bank.2.1 n) (by simp only; omega)
  ·have := at_lt hi
   have := (sp g i hf).2
   exact old _ (mem_memG.2 (.inr (.inr (.inr (.inr (.inr ⟨i, n, hi, (sp g i hf).1, rfl⟩)))))) (thawB_bank.2.2 n) (by simp only; omega)
theorem Ghost.iter {nt : Fm} {s : Nat → St} : ∀ (n : Nat), (∀ i, i < n → Ghost nt (s i) (s (i + 1))) → Ghost nt (s 0) (s n)
 | 0, _ => Ghost.refl
 | n + 1, h => Ghost.trans (Ghost.iter n fun i hi => h i (by omega)) (h n (by omega))
theorem rowG_congr {f f' r r' : Nat → Bool} {l : List Ms} (h : ∀ i, i < l.length → f i = f' i ∧ r i = r' i) : rowG f r l = rowG f' r' l := by
 unfold rowG
 apply List.ext_getElem?
 intro i
 rw [List.getElem?_mapIdx, List.getElem?_mapIdx]
 cases hi : l[i]? with
 | none => rfl
 | some m =>
  obtain ⟨a, b⟩ := h i (at_lt hi)
  simp only [Option.map_some, mG, a, b]
theorem rowX_congr {g g' : Nat → Bool} {l : List En} (h : ∀ i, i < l.length → g i = g' i) : rowX g l = rowX g' l := by
 unfold rowX
 apply List.ext_getElem?
 intro i
 rw [List.getElem?_mapIdx, List.getElem?_mapIdx]
 cases hi : l[i]? with
 | none => rfl
 | some m => simp only [Option.map_some, eG, h i (at_lt hi)]
theorem bank_congr {α : Type} {b : Nat} {f f' : Nat → Bool} {c : α → Blk} {l : List α} (h : ∀ i, i < l.length → f i = f' i) : bank b f c l = bank b f' c l := by
 unfold bank
 have main : ∀ (l' : List (Nat × α)), (∀ x ∈ l', f x.1 = f' x.1) → l'.filterMap (fun x => if f x.1 = true then some (x.1 + b, c x.2) else none) = l'.filterMap (fun x => if f' x.1 = true then some (x.1 + b, c x.2) else none) := by
  intro l'
  induction l' with
  | nil => intro _; rfl
  | cons y l' ih =>
   intro hh
   rw [List.filterMap_cons, List.filterMap_cons, hh y List.mem_cons_self, ih fun x hx => hh x (List.mem_cons_of_mem _ hx)]
 refine main _ fun x hx => ?_
 obtain ⟨i, hi⟩ := List.getElem?_of_mem hx
 rw [List.getElem?_mapIdx, Option.map_eq_some_iff] at hi
 obtain ⟨m, hm, rfl⟩ := hi
 exact h i (at_lt hm)
theorem memG_congr {F : List (Nat × Blk)} {l : List Ms} {f f' r r' : Nat → Bool} {es : List En} {g g' : Nat → Bool} (h : ∀ i, i < l.length → f i = f' i ∧ r i = r' i) (h' : ∀ i, i < es.length → g i = g' i) : memG F l f r es g = memG F l f' r' es g' := by
 unfold memG
 rw [rowG_congr h, rowX_congr h', bank_congr (f := f) (f' := f') fun i hi => (h i hi).1, bank_congr (f := r) (f' := r') fun i hi => (h i hi).2, bank_congr (f := g) (f' := g') h']
theorem keepF {nt : Fm} {T : List (Nat × AV)} {F : List (Nat × Blk)} {l : List Ms} {f r : Nat → Bool} {es : List En} {g : Nat → Bool} (k : Nat → Bool) (hT : TOK T) (hF : FOK F) (hN : NoG l es) : Ghost nt (stG T F l f r es g) (stG T F l (fun i => f i && k i) r es g) := by
 have main := Ghost.iter (nt := nt) (s := fun n => stG T F l (fun i => f i && (decide (n ≤ i) || k i)) r es g) l.length fun n hn => ?_
 ·have e0 : memG F l (fun i => f i && (decide (0 ≤ i) || k i)) r es g = memG F l f r es g := memG_congr (fun i _ => ⟨by simp, rfl⟩) fun _ _ => rfl
  have e1 : memG F l (fun i => f i && (decide (l.length ≤ i) || k i)) r es g = memG F l (fun i => f i && k i) r es g := memG_congr (fun i hi => ⟨by simp [show ¬ l.length ≤ i by omega], rfl⟩) fun _ _ => rfl
  simp only [stG] at main ⊢
  rw [e0, e1] at main
  exact main
 ·by_cases hk : (f n && !k n) = true
  ·obtain ⟨m, hm⟩ : ∃ m, l[n]? = some m := ⟨_, List.getElem?_eq_getElem hn⟩
   rw [Bool.and_eq_true, Bool.not_eq_true'] at hk
   have := shutF (nt := nt) (f := fun i => f i && (decide (n ≤ i) || k i)) (r := r) (g := g) hT hF hN hm (by simp [hk.1])
   have e : memG F l (fun j => (f j && (decide (n ≤ j) || k j)) && !(j == n)) r es g = memG F l (fun i => f i && (decide (n + 1 ≤ i) || k i)) r es g := memG_congr (fun i _ => by
    refine ⟨?_, rfl⟩
    by_cases q : i = n
    ·subst q; simp [hk.2, show ¬ i + 1 ≤ i by omega]
    ·have e2 : (i == n) = false := by simpa using q
     have e3 : decide (n ≤ i) = decide (n + 1 ≤ i) := by simp; omega
     rw [e2, e3]; simp) fun _ _ => rfl
   simp only [stG] at this ⊢
   rw [e] at this
   exact this
  ·have e : memG F l (fun i => f i && (decide (n ≤ i) || k i)) r es g = memG F l (fun i => f i && (decide (n + 1 ≤ i) || k i)) r es g := memG_congr (fun i _ => by
    refine ⟨?_, rfl⟩
    by_cases q : i = n
    ·subst q
     simp at hk
     cases hf : f i with
     | false => rfl
     | true => simp [hk hf]
    ·have e3 : decide (n ≤ i) = decide (n + 1 ≤ i) := by simp; omega
     rw [e3]) fun _ _ => rfl
   simp only [stG]
   rw [e]
   exact Ghost.refl
theorem keepR {nt : Fm} {T : List (Nat × AV)} {F : List (Nat × Blk)} {l : List Ms} {f r : Nat → Bool} {es : List En} {g : Nat → Bool} (k : Nat → Bool) (hT : TOK T) (hF : FOK F) (hN : NoG l es) : Ghost nt (stG T F l f r es g) (stG T F l f (fun i => r i && k i) es g) := by
 have main := Ghost.iter (nt := nt) (s := fun n => stG T F l f (fun i => r i && (decide (n ≤ i) || k i)) es g) l.length fun n hn => ?_
 ·have e0 : memG F l f (fun i => r i && (decide (0 ≤ i) || k i)) es g = memG F l f r es g := memG_congr (fun i _ => ⟨rfl, by simp⟩) fun _ _ => rfl
  have e1 : memG F l f (fun i => r i && (decide (l.length ≤ i) || k i)) es g = memG F l f (fun i => r i && k i) es g := memG_congr (fun i hi => ⟨rfl, by simp [show ¬ l.length ≤ i by omega]⟩) fun _ _ => rfl
  simp only [stG] at main ⊢
  rw [e0, e1] at main
  exact main
 ·by_cases hk : (r n && !k n) = true
  ·obtain ⟨m, hm⟩ : ∃ m, l[n]? = some m := ⟨_, List.getElem?_eq_getElem hn⟩
   rw [Bool.and_eq_true, Bool.not_eq_true'] at hk
   have := shutR (nt := nt) (r := fun i => r i && (decide (n ≤ i) || k i)) (f := f) (g := g) hT hF hN hm (by simp [hk.1])
   have e : memG F l f (fun j => (r j && (decide (n ≤ j) || k j)) && !(j == n)) es g = memG F l f (fun i => r i && (decide (n + 1 ≤ i) || k i)) es g := memG_congr (fun i _ => by
    refine ⟨rfl, ?_⟩
    by_cases q : i = n
    ·subst q; simp [hk.2, show ¬ i + 1 ≤ i by omega]
    ·have e2 : (i == n) = false := by simpa using q
     have e3 : decide (n ≤ i) = decide (n + 1 ≤ i) := by simp; omega
     rw [e2, e3]; simp) fun _ _ => rfl
   simp only [stG] at this ⊢
   rw [e] at this
   exact this
  ·have e : memG F l f (fun i => r i && (decide (n ≤ i) || k i)) es g = memG F l f (fun i => r i && (decide (n + 1 ≤ i) || k i)) es g := memG_congr (fun i _ => by
    refine ⟨rfl, ?_⟩
    by_cases q : i = n
    ·subst q
     simp at hk
     cases hf : r i with
     | false => rfl
     | true => simp [hk hf]
    ·have e3 : decide (n ≤ i) = decide (n + 1 ≤ i) := by simp; omega
     rw [e3]) fun _ _ => rfl
   simp only [stG]
   rw [e]
   exact Ghost.refl
theorem keepE {nt : Fm} {T : List (Nat × AV)} {F : List (Nat × Blk)} {l : List Ms} {f r : Nat → Bool} {es : List En} {g : Nat → Bool} (k : Nat → Bool) (hT : TOK T) (hF : FOK F) (hN : NoG l es) : Ghost nt (stG T F l f r es g) (stG T F l f r es (fun i => g i && k i)) := by
 have main := Ghost.iter (nt := nt) (s := fun n => stG T F l f r es (fun i => g i && (decide (n ≤ i) || k i))) es.length fun n hn => ?_
 ·have e0 : memG F l f r es (fun i => g i && (decide (0 ≤ i) || k i)) = memG F l f r es g := memG_congr (fun _ _ => ⟨rfl, rfl⟩) fun i _ => by simp
  have e1 : memG F l f r es (fun i => g i && (decide (es.length ≤ i) || k i)) = memG F l f r es (fun i => g i && k i) := memG_congr (fun _ _ => ⟨rfl, rfl⟩) fun i hi => by simp [show ¬ es.length ≤ i by omega]
  simp only [stG] at main ⊢
  rw [e0, e1] at main
  exact main
 ·by_cases hk : (g n && !k n) = true
  ·obtain ⟨m, hm⟩ : ∃ m, es[n]? = some m := ⟨_, List.getElem?_eq_getElem hn⟩
   rw [Bool.and_eq_true, Bool.not_eq_true'] at hk
   have := shutE (nt := nt) (g := fun i => g i && (decide (n ≤ i) || k i)) (f := f) (r := r) hT hF hN hm (by simp [hk.1])
   have e : memG F l f r es (fun j => (g j && (decide (n ≤ j) || k j)) && !(j == n)) = memG F l f r es (fun i => g i && (decide (n + 1 ≤ i) || k i)) := memG_congr (fun _ _ => ⟨rfl, rfl⟩) (fun i _ => by
    skip
    by_cases q : i = n
    ·subst q; simp [hk.2, show ¬ i + 1 ≤ i by omega]
    ·have e2 : (i == n) = false := by simpa using q
     have e3 : decide (n ≤ i) = decide (n + 1 ≤ i) := by simp; omega
     rw [e2, e3]; simp)
   simp only [stG] at this ⊢
   rw [e] at this
   exact this
  ·have e : memG F l f r es (fun i => g i && (decide (n ≤ i) || k i)) = memG F l f r es (fun i => g i && (decide (n + 1 ≤ i) || k i)) := memG_congr (fun _ _ => ⟨rfl, rfl⟩) (fun i _ => by
    skip
    by_cases q : i = n
    ·subst q
     simp at hk
     cases hf : g i with
     | false => rfl
     | true => simp [hk hf]
    ·have e3 : decide (n ≤ i) = decide (n + 1 ≤ i) := by simp; omega
     rw [e3])
   simp only [stG]
   rw [e]
   exact Ghost.refl
theorem rowG_shut (l : List Ms) : rowG (fun _ => false) (fun _ => false) l = liftE (l.map encMs) := by
 apply List.ext_getElem?
 intro i
 unfold rowG liftE
 rw [List.getElem?_mapIdx, List.getElem?_map, List.getElem?_map]
 cases l[i]? <;> rfl
theorem rowX_shut (l : List En) : rowX (fun _ => false) l = liftE (l.map encEn) := by
 apply List.ext_getElem?
 intro i
 unfold rowX liftE
 rw [List.getElem?_mapIdx, List.getElem?_map, List.getElem?_map]
 cases l[i]? <;> rfl
end Go.Aw
namespace Go.Aw
open Go.Proofs Go.RowKit
set_option linter.unusedSimpArgs false
set_option linter.unusedVariables false
theorem SeqR.call {P : Program} {nt : Fm} {s : St} {ops : Array Oper} {i : Nat} {K : St → Prop} {d : Tmp} {f : FuncId} {xs : Array Operand} {ts : Array TypeId} {ty : TypeId} {ps : String} {af : Array Edge} {args : List AV} {h : List (Nat × Blk)} {n : Nat} {rt : List Nat} {r : AV} {h' : List (Nat × Blk)} {m : Nat} (ρ : Nat → Nat)
  (ho : ops[i]? = some ⟨some d, .call { callee := .value (.func f), args := xs, argTypes := ts }, ty, ps, af, none⟩) (hd : dstOK nt ⟨some d, .call { callee := .value (.func f), args := xs, argTypes := ts }, ty, ps, af, none⟩ = true) (D : DFn P f args h n rt r h' m) (F : FitD s xs.toList args h n rt r h' ρ)
  (hk : SeqR P nt ops (i + 1) ⟨upd s.T d (some (r.ren (lift2 ρ n s.nx))), putH (putH s.H (goneU ρ h)) (newU (lift2 ρ n s.nx) h'), s.nx + m⟩ K) : SeqR P nt ops i s K :=
 SeqR.op ho rfl (callD_fn ρ rfl hd D F hk)
theorem labsBy_lift {p : Nat → Bool} {sz : Nat} {es : List (List PV)} : (Blk.row sz (liftE es)).labsBy p = true := by
 have : ∀ l : List PV, labsByL p (l.map AV.p) = true := fun l => by
  induction l with
  | nil => rfl
  | cons a l ih => rw [List.map_cons, labsByL, ih]; rfl
 simp only [Blk.labsBy, liftE, List.all_map, List.all_eq_true]
 intro e _
 exact this e
theorem setL {α : Type} (f : α → List PV) (l : List α) (n : Nat) (a : α) : (liftE (l.map f)).set n ((f a).map AV.p) = liftE ((l.set n a).map f) := by
 unfold liftE
 rw [List.map_set, List.map_set]
end Go.Aw
namespace Go.Aw
open Go.Proofs Go.RowKit
set_option linter.unusedSimpArgs false
set_option linter.unusedVariables false
set_option maxRecDepth 100000 in
theorem law00_IntsO (l : List Int) (hl : l.length ≤ 1000000) : OFn Tryd.prog 62 [.slice (l.map encI)] 1 (l.map encI) := by
 refine OFn.of Tryd.func62 rfl (by decide) Tryd.ntmps62 Tryd.results62 (Nat.le_of_ble_eq_true rfl) ?_
 simp only [argsT]
 refine AW.rT (by rfl) fun K hK => ?_
 simp -implicitDefEqProofs only [go_sem]
 refine hK _ ?_; clear hK K
 refine AW.rT (by rfl) fun K hK => ?_
 simp -implicitDefEqProofs only [go_sem, ↓reduceIte, Nat.reduceAdd, Nat.reduceLeDiff, reduceCtorEq]
 refine ⟨⟨lift_len (f := encI) (fun _ => rfl) l, lift_one one_I l, by simp⟩, ⟨.inl trivial, by simp, by rw [liftE_length, List.length_map]; omega⟩, ?_⟩
 refine hK _ ?_; clear hK K
 refine AW.ret ⟨_, _, rfl, rfl, ?_⟩
 simp -implicitDefEqProofs only [go_sem]
def tt (_ : Nat) : Bool := true
def F0 (S : Sc) : List (Nat × Blk) := [(3, .row 3 (liftE (S.meths.map encMt))), (5, .row 4 [cellsSc S]), (6, .row 4 [[.p (.str []), .ex [], .ex [], .ex []]]), (7, .row 4 [[.p (.str S.name), .own 1, .own 2, .own 3]])]
theorem F0_ok (S : Sc) : FOK (F0 S) := by
 refine ⟨fun x hx => ?_, fun x hx y hy e => ?_, fun x hx => ?_⟩
 ·simp only [F0, List.mem_cons, List.not_mem_nil, or_false] at hx
  rcases hx with rfl | rfl | rfl | rfl <;> simp
 ·simp only [F0, List.mem_cons, List.not_mem_nil, or_false] at hx hy
  rcases hx with rfl | rfl | rfl | rfl <;> rcases hy with rfl | rfl | rfl | rfl <;> first | rfl | (simp at e)
 ·simp only [F0, List.mem_cons, List.not_mem_nil, or_false] at hx
  rcases hx with rfl | rfl | rfl | rfl
  ·exact ⟨labsIn_lift _ _, labsIn_lift _ _⟩
  ·exact ⟨rfl, rfl⟩
  ·exact ⟨rfl, rfl⟩
  ·exact ⟨rfl, rfl⟩
def sgT (m : List (Nat × AV)) : List (Nat × AV) := (1, .ptr 5 0 0) :: (2, .ptr 6 0 0) :: (3, .ptr 7 0 0) :: m
def sg1 (S : Sc) (i : Nat) : St := stG (sgT [(4, .p (.int .i64 (i : Int)))]) (F0 S) (S.msgs.take i) tt tt [] tt
def sg2 (S : Sc) (i : Nat) : St := stG (sgT [(6, .p (.int .i64 (i : Int)))]) (F0 S) S.msgs tt tt (S.enums.take i) tt
theorem rowG_len {f r : Nat → Bool} {l : List Ms} : (rowG f r l).length = l.length := by unfold rowG; rw [List.length_mapIdx]
theorem rowX_len {g : Nat → Bool} {l : List En} : (rowX g l).length = l.length := by unfold rowX; rw [List.length_mapIdx]
theorem rowG_next {f r : Nat → Bool} {l : List Ms} {i : Nat} {m : Ms} (h : l[i]? = some m) : rowG f r (l.take (i + 1)) = rowG f r (l.take i) ++ [mG f r i m] := by
 unfold rowG
 rw [List.take_add_one, h, Option.toList_some, List.mapIdx_append, List.length_take, Nat.min_eq_left (by have := at_lt h; omega)]
 simp
theorem rowX_next {g : Nat → Bool} {l : List En} {i : Nat} {m : En} (h : l[i]? = some m) : rowX g (l.take (i + 1)) = rowX g (l.take i) ++ [eG g i m] := by
 unfold rowX
 rw [List.take_add_one, h, Option.toList_some, List.mapIdx_append, List.length_take, Nat.min_eq_left (by have := at_lt h; omega)]
 simp
theorem rowG_ren {f r : Nat → Bool} {l : List Ms} {ρ : Nat → Nat} (h : ∀ i, i < l.length → ρ (i + 10) = i + 10 ∧ ρ (i + 30) = i + 30) : (rowG f r l).map (renL ρ) = rowG f r l := by
 apply List.ext_getElem?
 intro i
 unfold rowG
 rw [List.getElem?_map, List.getElem?_mapIdx]
 cases hi : l[i]? with
 | none => rfl
 | some m =>
  obtain ⟨a, b⟩ := h i (at_lt hi)
  simp only [Option.map_some, mG, renL]
  by_cases q1 : f i = true <;> by_cases q2 : r i = true <;> simp only [q1, q2, if_true, if_false, Bool.false_eq_true, AV.ren, a, b]
theorem rowX_ren {g : Nat → Bool} {l : List En} {ρ : Nat → Nat} (h : ∀ i, i < l.length → ρ (i + 50) = i + 50) : (rowX g l).map (renL ρ) = rowX g l := by
 apply List.ext_getElem?
 intro i
 unfold rowX
 rw [List.getElem?_map, List.getElem?_mapIdx]
 cases hi : l[i]? with
 | none => rfl
 | some m =>
  simp only [Option.map_some, eG, renL]
  by_cases q1 : g i = true <;> simp only [q1, if_true, if_false, Bool.false_eq_true, AV.ren, h i (at_lt hi)]
theorem bF_ren (m : Ms) (ρ : Nat → Nat) : (bF m).ren ρ = bF m := by simp only [bF, Blk.ren, map_renL_lift]
theorem bR_ren (m : Ms) (ρ : Nat → Nat) : (bR m).ren ρ = bR m := by simp only [bR, Blk.ren, map_renL_lift]
theorem bE_ren (m : En) (ρ : Nat → Nat) : (bE m).ren ρ = bE m := by simp only [bE, Blk.ren, map_renL_lift]
theorem nil_ok : FOK [] := ⟨fun x hx => (by cases hx), fun x hx => (by cases hx), fun x hx => (by cases hx)⟩
def bks (l : List Ms) (f r : Nat → Bool) (es : List En) (g : Nat → Bool) : List (Nat × Blk) := bank 10 f bF l ++ bank 30 r bR l ++ bank 50 g bE es
theorem mem_bks {l : List Ms} {f r : Nat → Bool} {es : List En} {g : Nat → Bool} {x : Nat × Blk} : x ∈ bks l f r es g ↔ (∃ i m, l[i]? = some m ∧ f i = true ∧ x = (i + 10, bF m)) ∨ (∃ i m, l[i]? = some m ∧ r i = true ∧ x = (i + 30, bR m)) ∨ ∃ i e, es[i]? = some e ∧ g i = true ∧ x = (i + 50, bE e) := by
 unfold bks
 simp only [List.mem_append, mem_bank, or_assoc]
theorem bks_at {l : List Ms} {f r : Nat → Bool} {es : List En} {g : Nat → Bool} (hN : NoG l es) {k : Nat} {v : Blk} (h : (k, v) ∈ bks l f r es g) : ofH (bks l f r es g) k = some v := by
 have sub : ∀ x ∈ bks l f r es g, x ∈ memG [] l f r es g := fun x hx => by
  rw [mem_bks] at hx
  rw [mem_memG]
  exact .inr (.inr (.inr hx))
 refine ofH_fun h fun v' hv => ?_
 have := memG_fn nil_ok hN _ (sub _ h) _ (sub _ hv) rfl
 injection this with _ h2
 exact h2.symm
mutual
theorem av_ren_congr {ρ σ : Nat → Nat} {p : Nat → Bool} : ∀ {x : AV}, x.labsIn 10 = true → x.labsBy p = true → (∀ k, k < 10 → p k = true → ρ k = σ k) → x.ren ρ = x.ren σ
 | .p _, _, _, _ => rfl
 | .ex _, _, _, _ => rfl
 | .vw _ _, _, _, _ => rfl
 | .own l, h, q, e => by simp only [AV.labsIn, AV.labsBy, decide_eq_true_eq] at h q; simp only [AV.ren, e l h q]
 | .cut l _ _, h, q, e => by simp only [AV.labsIn, AV.labsBy, decide_eq_true_eq] at h q; simp only [AV.ren, e l h q]
 | .ptr l _ _, h, q, e => by simp only [AV.labsIn, AV.labsBy, decide_eq_true_eq] at h q; simp only [AV.ren, e l h q]
 | .map l, h, q, e => by simp only [AV.labsIn, AV.labsBy, decide_eq_true_eq] at h q; simp only [AV.ren, e l h q]
 | .it l, h, q, e => by simp only [AV.labsIn, AV.labsBy, decide_eq_true_eq] at h q; simp only [AV.ren, e l h q]
 | .agg cs, h, q, e => by simp only [AV.labsIn, AV.labsBy] at h q; simp only [AV.ren, avL_ren_congr h q e]
 | .tuple cs, h, q, e => by simp only [AV.labsIn, AV.labsBy] at h q; simp only [AV.ren, avL_ren_congr h q e]
 | .fn _ cs, h, q, e => by simp only [AV.labsIn, AV.labsBy] at h q; simp only [AV.ren, avL_ren_congr h q e]
 | .iface _ y, h, q, e => by simp only [AV.labsIn, AV.labsBy] at h q; simp only [AV.ren, av_ren_congr h q e]
theorem avL_ren_congr {ρ σ : Nat → Nat} {p : Nat → Bool} : ∀ {l : List AV}, labsInL 10 l = true → labsByL p l = true → (∀ k, k < 10 → p k = true → ρ k = σ k) → renL ρ l = renL σ l
 | [], _, _, _ => rfl
 | x :: l, h, q, e => by
  simp only [labsInL, labsByL, Bool.and_eq_true] at h q
  rw [renL, renL, av_ren_congr h.1 q.1 e, avL_ren_congr h.2 q.2 e]
end
mutual
theorem av_by_true {p : Nat → Bool} (hp : ∀ k, p k = true) : ∀ x : AV, x.labsBy p = true
 | .p _ => rfl
 | .ex _ => rfl
 | .vw _ _ => rfl
 | .own l => hp l
 | .cut l _ _ => hp l
 | .ptr l _ _ => hp l
 | .map l => hp l
 | .it l => hp l
 | .agg cs => by rw [AV.labsBy]; exact avL_by_true hp cs
 | .tuple cs => by rw [AV.labsBy]; exact avL_by_true hp cs
 | .fn _ cs => by rw [AV.labsBy]; exact avL_by_true hp cs
 | .iface _ y => by rw [AV.labsBy]; exact av_by_true hp y
theorem avL_by_true {p : Nat → Bool} (hp : ∀ k, p k = true) : ∀ l : List AV, labsByL p l = true
 | [] => rfl
 | x :: l => by rw [labsByL, av_by_true hp x, avL_by_true hp l]; rfl
end
theorem blk_ren_congr {ρ σ : Nat → Nat} {x : Blk} (h : x.labsIn 10 = true) (e : ∀ k, k < 10 → ρ k = σ k) : x.ren ρ = x.ren σ := by
 cases x with
 | row sz es =>
  simp only [Blk.labsIn, List.all_eq_true] at h
  simp only [Blk.ren]
  congr 1
  exact List.map_congr_left fun l hl => avL_ren_congr (p := fun _ => true) (h l hl) (avL_by_true (fun _ => rfl) _) fun k hk _ => e k hk
 | map es =>
  simp only [Blk.labsIn, List.all_eq_true] at h
  simp only [Blk.ren]
  congr 1
  refine List.map_congr_left fun l hl => ?_
  have := avL_ren_congr (ρ := ρ) (σ := σ) (p := fun _ => true) (l := [l.2]) (by simp only [labsInL, Bool.and_true]; exact h l hl) (avL_by_true (fun _ => rfl) _) fun k hk _ => e k hk
  simp only [renL, List.cons.injEq, and_true] at this
  rw [this]
 | iter _ _ => rfl
theorem bks_key {l : List Ms} {f r : Nat → Bool} {es : List En} {g : Nat → Bool} (hN : NoG l es) {k : Nat} {v : Blk} (h : (k, v) ∈ bks l f r es g) : 10 ≤ k ∧ k < 100 := by
 have lm := hN.m
 have le := hN.e
 rw [mem_bks] at h
 rcases h with ⟨j, n, hj, _, e⟩ | ⟨j, n, hj, _, e⟩ | ⟨j, n, hj, _, e⟩ <;> (have := at_lt hj; injection e with e1 _; omega)
theorem take_at {α : Type} {l : List α} {i j : Nat} {m n : α} (hm : l[i]? = some m) (h : (l.take (i + 1))[j]? = some n) : (j = i ∧ n = m) ∨ (j < i ∧ (l.take i)[j]? = some n) := by
 have hj := at_lt h
 rw [List.length_take] at hj
 rw [List.getElem?_take, if_pos (by omega)] at h
 by_cases e : j = i
 ·subst e
  rw [hm] at h
  injection h with h
  exact .inl ⟨rfl, h.symm⟩
 ·exact .inr ⟨by omega, by rw [List.getElem?_take, if_pos (by omega)]; exact h⟩
theorem growG {nt : Fm} {T : Nat → Option AV} {H : Nat → Option Blk} {nx : Nat} {T' : List (Nat × AV)} {F : List (Nat × Blk)} {l : List Ms} {es : List En} {i : Nat} {m : Ms} (lr lf lx : Nat)
  (hm : l[i]? = some m) (hN : NoG (l.take (i + 1)) es) (hF : FOK F) (hlr : 100 ≤ lr) (hlf : 100 ≤ lf) (hlx : 100 ≤ lx) (d1 : lr ≠ lf) (d2 : lr ≠ lx) (d3 : lf ≠ lx)
  (hT : ∀ x ∈ T', T x.1 = some x.2 ∧ x.2.labsIn 10 = true ∧ x.2.labsIn 100 = true ∧ x.2.labsBy (fun k => k != 1) = true)
  (hFm : ∀ x ∈ F, H x.1 = some (x.2.ren fun k => if k = 1 then lr else k))
  (h1 : H lr = some (.row 3 (rowG tt tt (l.take i) ++ [[.p (.str m.name), .own lf, .own lx]]))) (h2 : H 2 = some (.row 2 (rowX tt es))) (hf : H lf = some (bF m)) (hx : H lx = some (bR m))
  (hB : ∀ k v, (k, v) ∈ bks (l.take i) tt tt es tt → H k = some v) : Ghost nt ⟨T, H, nx⟩ (stG T' F (l.take (i + 1)) tt tt es tt) := by
 have lm := hN.m
 have le := hN.e
 rw [List.length_take] at lm
 have il := at_lt hm
 have i20 : i < 20 := by omega
 have hl := memG_labs hF hN (f := tt) (r := tt) (g := tt)
 obtain ⟨ρ, hρ⟩ : ∃ ρ : Nat → Nat, ∀ k, ρ k = if k = 1 then lr else if k = i + 10 then lf else if k = i + 30 then lx else k := ⟨_, fun k => rfl⟩
 have low : ∀ k, k < 10 → ρ k = if k = 1 then lr else k := fun k hk => by
  rw [hρ]
  by_cases q : k = 1
  ·rw [if_pos q, if_pos q]
  ·rw [if_neg q, if_neg q, if_neg (by omega), if_neg (by omega)]
 have renL : ∀ (x : Blk), x.labsIn 10 = true → x.ren ρ = x.ren fun k => if k = 1 then lr else k := fun x hx => blk_ren_congr hx fun k hk => low k hk
 refine Ghost.ent ρ (fun x hx => ?_) (fun x hx => ⟨?_, hl x hx⟩) fun x hx y hy e => ?_
 ·obtain ⟨q1, q2, q3, q4⟩ := hT x hx
  refine ⟨?_, q3⟩
  have : x.2.ren ρ = x.2 := by
   rw [av_ren_congr (σ := fun k => k) q2 q4 fun k hk h1 => by
    rw [low k hk, if_neg (by simpa using h1)]]
   exact AV.ren_id _
  rw [this]; exact q1
 ·rw [mem_memG] at hx
  rcases hx with hx | rfl | rfl | ⟨j, n, hj, _, rfl⟩ | ⟨j, n, hj, _, rfl⟩ | ⟨j, n, hj, _, rfl⟩
  ·have k1 := hF.key _ hx
   show H (ρ x.1) = _
   rw [low _ k1.1, if_neg k1.2.1, renL _ (hF.labs _ hx).1]
   exact hFm x hx
  ·show H (ρ 1) = _
   rw [low 1 (by omega), if_pos rfl, h1, rowG_next hm, Blk.ren, List.map_append, rowG_ren fun j hj => ?_]
   ·have e1 : ρ (i + 10) = lf := by rw [hρ, if_neg (by omega), if_pos rfl]
    have e2 : ρ (i + 30) = lx := by rw [hρ, if_neg (by omega), if_neg (by omega), if_pos rfl]
    simp only [List.map_cons, List.map_nil, mG, tt, if_true, Go.Aw.renL, AV.ren, e1, e2]
   ·rw [List.length_take] at hj
    rw [hρ, hρ]
    exact ⟨by rw [if_neg (by omega), if_neg (by omega), if_neg (by omega)], by rw [if_neg (by omega), if_neg (by omega), if_neg (by omega)]⟩
  ·show H (ρ 2) = _
   rw [low 2 (by omega), if_neg (by omega), h2, Blk.ren, rowX_ren fun j hj => ?_]
   rw [hρ, if_neg (by omega), if_neg (by omega), if_neg (by omega)]
  ·show H (ρ (j + 10)) = _
   rw [bF_ren]
   rcases take_at hm hj with ⟨rfl, rfl⟩ | ⟨q1, q2⟩
   ·rw [hρ, if_neg (by omega), if_pos rfl]; exact hf
   ·rw [hρ, if_neg (by omega), if_neg (by omega), if_neg (by omega)]
    exact hB _ _ (mem_bks.2 (.inl ⟨j, n, q2, rfl, rfl⟩))
  ·show H (ρ (j + 30)) = _
   rw [bR_ren]
   rcases take_at hm hj with ⟨rfl, rfl⟩ | ⟨q1, q2⟩
   ·rw [hρ, if_neg (by omega), if_neg (by omega), if_pos rfl]; exact hx
   ·rw [hρ, if_neg (by omega), if_neg (by omega), if_neg (by omega)]
    exact hB _ _ (mem_bks.2 (.inr (.inl ⟨j, n, q2, rfl, rfl⟩)))
  ·show H (ρ (j + 50)) = _
   have := at_lt hj
   rw [bE_ren, hρ, if_neg (by omega), if_neg (by omega), if_neg (by omega)]
   exact hB _ _ (mem_bks.2 (.inr (.inr ⟨j, n, hj, rfl, rfl⟩)))
 ·have a1 := (hl x hx).1
  have a2 := (hl y hy).1
  rw [hρ, hρ] at e
  split at e <;> split at e <;> (try split at e) <;> (try split at e) <;> (try split at e) <;> (try split at e) <;> omega
theorem growX {nt : Fm} {T : Nat → Option AV} {H : Nat → Option Blk} {nx : Nat} {T' : List (Nat × AV)} {F : List (Nat × Blk)} {l : List Ms} {es : List En} {i : Nat} {m : En} (lr lf : Nat)
  (hm : es[i]? = some m) (hN : NoG l (es.take (i + 1))) (hF : FOK F) (hlr : 100 ≤ lr) (hlf : 100 ≤ lf) (d1 : lr ≠ lf)
  (hT : ∀ x ∈ T', T x.1 = some x.2 ∧ x.2.labsIn 10 = true ∧ x.2.labsIn 100 = true ∧ x.2.labsBy (fun k => k != 2) = true)
  (hFm : ∀ x ∈ F, H x.1 = some (x.2.ren fun k => if k = 2 then lr else k))
  (h1 : H 1 = some (.row 3 (rowG tt tt l))) (h2 : H lr = some (.row 2 (rowX tt (es.take i) ++ [[.p (.str m.name), .own lf]]))) (hf : H lf = some (bE m))
  (hB : ∀ k v, (k, v) ∈ bks l tt tt (es.take i) tt → H k = some v) : Ghost nt ⟨T, H, nx⟩ (stG T' F l tt tt (es.take (i + 1)) tt) := by
 have lm := hN.m
 have le := hN.e
 rw [List.length_take] at le
 have il := at_lt hm
 have i20 : i < 20 := by omega
 have hl := memG_labs hF hN (f := tt) (r := tt) (g := tt)
 obtain ⟨ρ, hρ⟩ : ∃ ρ : Nat → Nat, ∀ k, ρ k = if k = 2 then lr else if k = i + 50 then lf else k := ⟨_, fun k => rfl⟩
 have low : ∀ k, k < 10 → ρ k = if k = 2 then lr else k := fun k hk => by
  rw [hρ]
  by_cases q : k = 2
  ·rw [if_pos q, if_pos q]
  ·rw [if_neg q, if_neg q, if_neg (by omega)]
 have renL : ∀ (x : Blk), x.labsIn 10 = true → x.ren ρ = x.ren fun k => if k = 2 then lr else k := fun x hx => blk_ren_congr hx fun k hk => low k hk
 refine Ghost.ent ρ (fun x hx => ?_) (fun x hx => ⟨?_, hl x hx⟩) fun x hx y hy e => ?_
 ·obtain ⟨q1, q2, q3, q4⟩ := hT x hx
  refine ⟨?_, q3⟩
  have : x.2.ren ρ = x.2 := by
   rw [av_ren_congr (σ := fun k => k) q2 q4 fun k hk h1 => by
    rw [low k hk, if_neg (by simpa using h1)]]
   exact AV.ren_id _
  rw [this]; exact q1
 ·rw [mem_memG] at hx
  rcases hx with hx | rfl | rfl | ⟨j, n, hj, _, rfl⟩ | ⟨j, n, hj, _, rfl⟩ | ⟨j, n, hj, _, rfl⟩
  ·have k1 := hF.key _ hx
   show H (ρ x.1) = _
   rw [low _ k1.1, if_neg k1.2.2, renL _ (hF.labs _ hx).1]
   exact hFm x hx
  ·show H (ρ 1) = _
   rw [low 1 (by omega), if_neg (by omega), h1, Blk.ren, rowG_ren fun j hj => ?_]
   rw [hρ, hρ]
   exact ⟨by rw [if_neg (by omega), if_neg (by omega)], by rw [if_neg (by omega), if_neg (by omega)]⟩
  ·show H (ρ 2) = _
   rw [low 2 (by omega), if_pos rfl, h2, rowX_next hm, Blk.ren, List.map_append, rowX_ren fun j hj => ?_]
   ·have e1 : ρ (i + 50) = lf := by rw [hρ, if_neg (by omega), if_pos rfl]
    simp only [List.map_cons, List.map_nil, eG, tt, if_true, Go.Aw.renL, AV.ren, e1]
   ·rw [List.length_take] at hj
    rw [hρ, if_neg (by omega), if_neg (by omega)]
  ·show H (ρ (j + 10)) = _
   have := at_lt hj
   rw [bF_ren, hρ, if_neg (by omega), if_neg (by omega)]
   exact hB _ _ (mem_bks.2 (.inl ⟨j, n, hj, rfl, rfl⟩))
  ·show H (ρ (j + 30)) = _
   have := at_lt hj
   rw [bR_ren, hρ, if_neg (by omega), if_neg (by omega)]
   exact hB _ _ (mem_bks.2 (.inr (.inl ⟨j, n, hj, rfl, rfl⟩)))
  ·show H (ρ (j + 50)) = _
   rw [bE_ren]
   rcases take_at hm hj with ⟨rfl, rfl⟩ | ⟨q1, q2⟩
   ·rw [hρ, if_neg (by omega), if_pos rfl]; exact hf
   ·rw [hρ, if_neg (by omega), if_neg (by omega)]
    exact hB _ _ (mem_bks.2 (.inr (.inr ⟨j, n, q2, rfl, rfl⟩)))
 ·have a1 := (hl x hx).1
  have a2 := (hl y hy).1
  rw [hρ, hρ] at e
  split at e <;> split at e <;> (try split at e) <;> (try split at e) <;> omega
set_option maxRecDepth 100000 in
set_option maxHeartbeats 8000000 in
theorem law00_SchemaG (S : Sc) (F : FewS S) : DFn Tryd.prog 23 [.p (.agg (encSc S))] [] 0 [] (.agg [.p (.str S.name), .own 1, .own 2, .own 3]) (memG [(3, .row 3 (liftE (S.meths.map encMt)))] S.msgs tt tt S.enums tt) 100 := by
 refine DFn.of [] Tryd.func23 rfl (by decide) Tryd.ntmps23 Tryd.results23 (Nat.le_of_ble_eq_true rfl) (by simp) fun val => ?_
 simp only [avT, encSc]
 have Fm := F.msgs
 have Fe := F.enums
 have Ft := F.meths
 refine AW.rT (by rfl) fun K hK => ?_
 simp -implicitDefEqProofs only [go_sem, Nat.reduceAdd]
 refine hK _ ?_; clear hK K
 refine AW.dT mixed (by rfl) (by decide +kernel) fun K hK => ?_
 simp -implicitDefEqProofs only [go_sem, ↓reduceIte, Nat.reduceAdd, Nat.reduceEqDiff, Nat.reduceLeDiff, reduceCtorEq]
 refine ⟨⟨lift_len (f := encMt) (fun _ => rfl) _, lift_one one_Mt _, by simp⟩, ⟨.inl trivial, by simp, by rw [liftE_length, List.length_map]; omega⟩, ?_⟩
 try simp -implicitDefEqProofs only [go_sem, ↓reduceIte, Nat.reduceAdd, Nat.reduceMul, Nat.reduceEqDiff, Nat.reduceLeDiff, reduceCtorEq, Int.reduceToNat]
 refine ⟨by decide +kernel, ?_⟩
 refine hK _ ?_; clear hK K
 refine AW.cut (fun _ : Unit => sg1 S S.msgs.length) (fun _ => True) ?_ fun _ _ => ?_
 ·refine AW.rT (by rfl) fun K hK => ?_
  simp -implicitDefEqProofs only [go_sem, Nat.reduceAdd]
  refine hK _ ?_; clear hK K
  refine AW.block ?_
  refine AW.loop (sg1 S) (fun i => i ≤ S.msgs.length) (fun i => S.msgs.length - i) 0 ?_ (by omega) fun i i1 => ?_
  ·refine Ghost.trans (s' := ⟨ofL [(1, .ptr 5 0 0), (2, .ptr 6 0 0), (3, .ptr 7 0 0), (4, .p (.int .i64 0))], ofH [(3, .row 3 (liftE (S.meths.map encMt))), (5, .row 4 [cellsSc S]), (6, .row 4 [[.p (.str []), .ex [], .ex [], .ex []]]), (7, .row 4 [[.p (.str S.name), .ex [], .ex [], .own 3]])], 8⟩) ?_ (Ghost.trans (Ghost.nilH (l := 7) (i := 0) (j := 1) (sz' := 3) rfl rfl rfl) (Ghost.trans (Ghost.nilH (l := 7) (i := 0) (j := 2) (sz' := 2) rfl rfl rfl) ?_))
   ·simp only [cellsSc]
    refine Ghost.ent (fun l => if l = 3 then 6 else if l = 5 then 0 else if l = 6 then 1 else 8) ?_ ?_ ?_ <;> simp -implicitDefEqProofs only [go_sem, ↓reduceIte, Nat.reduceEqDiff, reduceCtorEq, List.forall_mem_cons, List.not_mem_nil, false_implies, implies_true, and_self, map_renL_lift, labsIn_lift, List.all_cons, List.all_nil, Nat.reduceLT, labsInL, AV.labsIn]
    all_goals first | rfl | decide | skip
   ·simp only [sg1, stG, sgT, memG, F0, rowG, rowX, bank, List.take_zero, List.mapIdx_nil, List.filterMap_nil, List.append_nil, List.cons_append, List.nil_append, cellsSc]
    refine Ghost.ent (fun l => if l = 1 then 8 else if l = 2 then 9 else l) ?_ ?_ ?_ <;> simp -implicitDefEqProofs only [go_sem, ↓reduceIte, Nat.reduceAdd, Nat.reduceEqDiff, List.forall_mem_cons, List.not_mem_nil, false_implies, implies_true, and_self, map_renL_lift, labsIn_lift, List.all_cons, List.all_nil, Nat.reduceLT, labsInL, AV.labsIn]
    all_goals first | rfl | decide | skip
  have hN : NoG (S.msgs.take i) [] := ⟨by rw [List.length_take]; omega, by simp⟩
  simp only [sg1, stG, sgT, memG, F0, List.cons_append, List.nil_append, cellsSc]
  have rl : (rowG tt tt (S.msgs.take i)).length = i := by rw [rowG_len, List.length_take]; omega
  generalize hR : rowG tt tt (S.msgs.take i) = R at *
  obtain ⟨B, hB⟩ : ∃ B, bank 10 tt bF (S.msgs.take i) ++ bank 30 tt bR (S.msgs.take i) ++ bank 50 tt bE ([] : List En) = B := ⟨_, rfl⟩
  rw [hB]
  have hBk : ∀ k v, (k, v) ∈ bks (S.msgs.take i) tt tt [] tt → ofH B k = some v := fun k v h => by rw [← hB]; exact bks_at hN h
  refine AW.seq ?_
  by_cases hil : i < S.msgs.length
  case neg =>
   have hc1 : ((i : Int) < (S.msgs.length : Int)) = False := eq_false (by omega)
   refine AW.rT (by rfl) fun K hK => ?_
   simp -implicitDefEqProofs only [go_sem, ↓reduceIte, Nat.reduceAdd, Nat.reduceEqDiff, hc1, List.length_map]
   refine hK _ ?_; clear hK K
   refine AW.cond _ (by simp -implicitDefEqProofs only [go_sem]; rfl) (fun hc => ?_) (fun hc => ?_)
   ·simp at hc
   refine AW.exit ?_
   simp only [andThen, inBlk, ↓reduceIte]
   refine ⟨(), trivial, ?_⟩
   have e : i = S.msgs.length := by omega
   subst e
   show Ghost _ _ ⟨ofL (sgT [(4, .p (.int .i64 (S.msgs.length : Int)))]), ofH (memG (F0 S) (S.msgs.take S.msgs.length) tt tt [] tt), 100⟩
   have eM : memG (F0 S) (S.msgs.take S.msgs.length) tt tt [] tt = (3, .row 3 (liftE (S.meths.map encMt))) :: (5, .row 4 [cellsSc S]) :: (6, .row 4 [[.p (.str []), .ex [], .ex [], .ex []]]) :: (7, .row 4 [[.p (.str S.name), .own 1, .own 2, .own 3]]) :: (1, .row 3 R) :: (2, .row 2 (rowX tt [])) :: B := by rw [← hB, ← hR]; rfl
   have hl := memG_labs (F0_ok S) hN (f := tt) (r := tt) (g := tt)
   have ha := fun x hx => memG_at (F0_ok S) hN (f := tt) (r := tt) (g := tt) (x := x) hx
   refine Ghost.sub (fun x hx => ?_) fun x hx => ⟨?_, hl x hx⟩
   ·revert x
    simp only [sgT]
    simp -implicitDefEqProofs only [go_sem, ↓reduceIte, Nat.reduceEqDiff, List.forall_mem_cons, List.not_mem_nil, false_implies, implies_true, and_self]
    first | done | decide
   ·have := ha x hx
    rw [eM] at this
    exact this
  obtain ⟨m, hm⟩ : ∃ m, S.msgs[i]? = some m := ⟨_, List.getElem?_eq_getElem hil⟩
  have ⟨hm1, hm2, hm3⟩ := at_map' encMs hm
  have hm2' : (i : Int) < (S.msgs.length : Int) := by omega
  have hc1 : ((i : Int) < (S.msgs.length : Int)) = True := eq_true (by omega)
  have w1 : IntKind.wrap .i64 ((i : Int) + 1) = ((i + 1 : Nat) : Int) := by rw [w64] <;> omega
  have FM := F.ms m (List.mem_of_getElem? hm)
  have f1 := FM.fields
  have f2 := FM.res
  have CI := law00_IntsO m.res (by omega)
  refine AW.rT (by rfl) fun K hK => ?_
  simp -implicitDefEqProofs only [go_sem, ↓reduceIte, Nat.reduceAdd, Nat.reduceEqDiff, hc1, List.length_map]
  refine hK _ ?_; clear hK K
  refine AW.cond _ (by simp -implicitDefEqProofs only [go_sem]; rfl) (fun hc => ?_) (fun hc => ?_)
  rotate_left
  ·simp at hc
  refine AW.skip ?_
  simp only [andThen]
  refine AW.seq ?_
  refine AW.block ?_
  refine AW.rT (by rfl) fun K hK => ?_
  simp -implicitDefEqProofs only [go_sem, ↓reduceIte, Nat.reduceAdd, Nat.reduceEqDiff, Nat.reduceLeDiff, hm1, hm2', hm3, encMs, List.length_map]
  refine hK _ ?_; clear hK K
  refine AW.dE mixed (by rfl) (by decide +kernel) fun K hK => ?_
  simp -implicitDefEqProofs only [go_sem, ↓reduceIte, Nat.reduceAdd, Nat.reduceEqDiff, Nat.reduceLeDiff, reduceCtorEq]
  refine ⟨⟨lift_len (f := encFd) (fun _ => rfl) _, lift_one one_Fd _, by simp⟩, ⟨.inl trivial, by simp, by rw [liftE_length, List.length_map]; omega⟩, ?_⟩
  try simp -implicitDefEqProofs only [go_sem, ↓reduceIte, Nat.reduceAdd, Nat.reduceMul, Nat.reduceEqDiff, Nat.reduceLeDiff, reduceCtorEq, Int.reduceToNat]
  refine ⟨.own _ _, CI, ?_⟩
  try simp -implicitDefEqProofs only [go_sem, ↓reduceIte, Nat.reduceAdd, Nat.reduceMul, Nat.reduceEqDiff, Nat.reduceLeDiff, reduceCtorEq]
  refine ⟨⟨by simp, by simp [oneAll, AV.one, PV.one], by simp⟩, by omega, by decide +kernel, ?_⟩
  refine hK _ ?_; clear hK K
  simp only [andThen, inBlk]
  refine AW.rE (by rfl) fun K hK => ?_
  simp -implicitDefEqProofs only [go_sem, ↓reduceIte, Nat.reduceAdd, Nat.reduceEqDiff, w1]
  refine hK _ ?_; clear hK K
  refine ⟨i + 1, by omega, by omega, ?_⟩
  have hN' : NoG (S.msgs.take (i + 1)) [] := ⟨by rw [List.length_take]; omega, by simp⟩
  refine growG (T' := sgT [(4, .p (.int .i64 ((i + 1 : Nat) : Int)))]) (F := F0 S) (es := []) 124 118 121 hm hN' (F0_ok S) (by omega) (by omega) (by omega) (by omega) (by omega) (by omega) ?_ ?_ ?_ ?_ ?_ ?_ ?_
  ·simp only [sgT]
   simp -implicitDefEqProofs only [go_sem, ↓reduceIte, Nat.reduceEqDiff, List.forall_mem_cons, List.not_mem_nil, false_implies, implies_true, and_self, AV.labsBy, AV.labsIn, decide_eq_true_eq]
   first | done | decide
  ·simp only [F0]
   simp -implicitDefEqProofs only [go_sem, ↓reduceIte, Nat.reduceEqDiff, List.forall_mem_cons, List.not_mem_nil, false_implies, implies_true, and_self, map_renL_lift, cellsSc]
   first | done | decide
  ·rw [hR]
   simp -implicitDefEqProofs only [go_sem, ↓reduceIte, Nat.reduceEqDiff]
  ·simp -implicitDefEqProofs only [go_sem, ↓reduceIte, Nat.reduceEqDiff, rowX, List.mapIdx_nil]
  ·simp -implicitDefEqProofs only [go_sem, ↓reduceIte, Nat.reduceEqDiff, bF]
  ·simp -implicitDefEqProofs only [go_sem, ↓reduceIte, Nat.reduceEqDiff, bR]
  ·intro k v h
   obtain ⟨k1, k2⟩ := bks_key hN h
   have := hBk k v h
   have n1 : (k = 1) = False := eq_false (by omega)
   have n2 : (k = 2) = False := eq_false (by omega)
   have n3 : (k = 3) = False := eq_false (by omega)
   have n5 : (k = 5) = False := eq_false (by omega)
   have n6 : (k = 6) = False := eq_false (by omega)
   have n7 : (k = 7) = False := eq_false (by omega)
   have n110 : (k = 110) = False := eq_false (by omega)
   have n118 : (k = 118) = False := eq_false (by omega)
   have n121 : (k = 121) = False := eq_false (by omega)
   have n123 : (k = 123) = False := eq_false (by omega)
   have n124 : (k = 124) = False := eq_false (by omega)
   simp only [upd, n1, n2, n3, n5, n6, n7, n110, n118, n121, n123, n124, ↓reduceIte]
   exact this
 refine AW.cut (fun _ : Unit => sg2 S S.enums.length) (fun _ => True) ?_ fun _ _ => ?_
 ·rw [show sg1 S S.msgs.length = stG (sgT [(4, .p (.int .i64 (S.msgs.length : Int)))]) (F0 S) S.msgs tt tt [] tt by unfold sg1; rw [List.take_length]]
  simp only [stG, sgT]
  refine AW.rT (by rfl) fun K hK => ?_
  simp -implicitDefEqProofs only [go_sem, Nat.reduceAdd]
  refine hK _ ?_; clear hK K
  refine AW.block ?_
  refine AW.loop (sg2 S) (fun i => i ≤ S.enums.length) (fun i => S.enums.length - i) 0 ?_ (by omega) fun i i1 => ?_
  ·simp only [sg2, stG, sgT, List.take_zero]
   have hN : NoG S.msgs [] := ⟨by omega, by simp⟩
   have hl := memG_labs (F0_ok S) hN (f := tt) (r := tt) (g := tt)
   have ha := fun x hx => memG_at (F0_ok S) hN (f := tt) (r := tt) (g := tt) (x := x) hx
   refine Ghost.sub (fun x hx => ?_) fun x hx => ⟨ha x hx, hl x hx⟩
   revert x
   simp -implicitDefEqProofs only [go_sem, ↓reduceIte, Nat.reduceEqDiff, List.forall_mem_cons, List.not_mem_nil, false_implies, implies_true]
   exact ⟨by decide, by decide, by decide, rfl⟩
  have hN : NoG S.msgs (S.enums.take i) := ⟨by omega, by rw [List.length_take]; omega⟩
  simp only [sg2, stG, sgT, memG, F0, List.cons_append, List.nil_append, cellsSc]
  have rl : (rowX tt (S.enums.take i)).length = i := by rw [rowX_len, List.length_take]; omega
  generalize hR : rowX tt (S.enums.take i) = R at *
  obtain ⟨B, hB⟩ : ∃ B, bank 10 tt bF S.msgs ++ bank 30 tt bR S.msgs ++ bank 50 tt bE (S.enums.take i) = B := ⟨_, rfl⟩
  rw [hB]
  have hBk : ∀ k v, (k, v) ∈ bks S.msgs tt tt (S.enums.take i) tt → ofH B k = some v := fun k v h => by rw [← hB]; exact bks_at hN h
  refine AW.seq ?_
  by_cases hil : i < S.enums.length
  case neg =>
   have hc1 : ((i : Int) < (S.enums.length : Int)) = False := eq_false (by omega)
   refine AW.rT (by rfl) fun K hK => ?_
   simp -implicitDefEqProofs only [go_sem, ↓reduceIte, Nat.reduceAdd, Nat.reduceEqDiff, hc1, List.length_map]
   refine hK _ ?_; clear hK K
   refine AW.cond _ (by simp -implicitDefEqProofs only [go_sem]; rfl) (fun hc => ?_) (fun hc => ?_)
   ·simp at hc
   refine AW.exit ?_
   simp only [andThen, inBlk, ↓reduceIte]
   refine ⟨(), trivial, ?_⟩
   have e : i = S.enums.length := by omega
   subst e
   show Ghost _ _ ⟨ofL (sgT [(6, .p (.int .i64 (S.enums.length : Int)))]), ofH (memG (F0 S) S.msgs tt tt (S.enums.take S.enums.length) tt), 100⟩
   have eM : memG (F0 S) S.msgs tt tt (S.enums.take S.enums.length) tt = (3, .row 3 (liftE (S.meths.map encMt))) :: (5, .row 4 [cellsSc S]) :: (6, .row 4 [[.p (.str []), .ex [], .ex [], .ex []]]) :: (7, .row 4 [[.p (.str S.name), .own 1, .own 2, .own 3]]) :: (1, .row 3 (rowG tt tt S.msgs)) :: (2, .row 2 R) :: B := by rw [← hB, ← hR]; rfl
   have hl := memG_labs (F0_ok S) hN (f := tt) (r := tt) (g := tt)
   have ha := fun x hx => memG_at (F0_ok S) hN (f := tt) (r := tt) (g := tt) (x := x) hx
   refine Ghost.sub (fun x hx => ?_) fun x hx => ⟨?_, hl x hx⟩
   ·revert x
    simp only [sgT]
    simp -implicitDefEqProofs only [go_sem, ↓reduceIte, Nat.reduceEqDiff, List.forall_mem_cons, List.not_mem_nil, false_implies, implies_true, and_self]
    first | done | decide
   ·have := ha x hx
    rw [eM] at this
    exact this
  obtain ⟨m, hm⟩ : ∃ m, S.enums[i]? = some m := ⟨_, List.getElem?_eq_getElem hil⟩
  have ⟨hm1, hm2, hm3⟩ := at_map' encEn hm
  have hm2' : (i : Int) < (S.enums.length : Int) := by omega
  have hc1 : ((i : Int) < (S.enums.length : Int)) = True := eq_true (by omega)
  have w1 : IntKind.wrap .i64 ((i : Int) + 1) = ((i + 1 : Nat) : Int) := by rw [w64] <;> omega
  have FE := F.en m (List.mem_of_getElem? hm)
  have f1 := FE.vals
  refine AW.rT (by rfl) fun K hK => ?_
  simp -implicitDefEqProofs only [go_sem, ↓reduceIte, Nat.reduceAdd, Nat.reduceEqDiff, hc1, List.length_map]
  refine hK _ ?_; clear hK K
  refine AW.cond _ (by simp -implicitDefEqProofs only [go_sem]; rfl) (fun hc => ?_) (fun hc => ?_)
  rotate_left
  ·simp at hc
  refine AW.skip ?_
  simp only [andThen]
  refine AW.seq ?_
  refine AW.block ?_
  refine AW.dE mixed (by rfl) (by decide +kernel) fun K hK => ?_
  simp -implicitDefEqProofs only [go_sem, ↓reduceIte, Nat.reduceAdd, Nat.reduceMul, Nat.reduceEqDiff, Nat.reduceLeDiff, reduceCtorEq, hm1, hm2', hm3, encEn, List.length_map]
  refine ⟨⟨lift_len (f := encNm) (fun _ => rfl) _, lift_one one_Nm _, by simp⟩, ⟨.inl trivial, by simp, by rw [liftE_length, List.length_map]; omega⟩, ?_⟩
  try simp -implicitDefEqProofs only [go_sem, ↓reduceIte, Nat.reduceAdd, Nat.reduceMul, Nat.reduceEqDiff, Nat.reduceLeDiff, reduceCtorEq, Int.reduceToNat]
  refine ⟨⟨by simp, by simp [oneAll, AV.one, PV.one], by simp⟩, by omega, by decide +kernel, ?_⟩
  refine hK _ ?_; clear hK K
  simp only [andThen, inBlk]
  refine AW.rE (by rfl) fun K hK => ?_
  simp -implicitDefEqProofs only [go_sem, ↓reduceIte, Nat.reduceAdd, Nat.reduceEqDiff, w1]
  refine hK _ ?_; clear hK K
  refine ⟨i + 1, by omega, by omega, ?_⟩
  have hN' : NoG S.msgs (S.enums.take (i + 1)) := ⟨by omega, by rw [List.length_take]; omega⟩
  refine growX (T' := sgT [(6, .p (.int .i64 ((i + 1 : Nat) : Int)))]) (F := F0 S) (l := S.msgs) 122 119 hm hN' (F0_ok S) (by omega) (by omega) (by omega) ?_ ?_ ?_ ?_ ?_ ?_
  ·simp only [sgT]
   simp -implicitDefEqProofs only [go_sem, ↓reduceIte, Nat.reduceEqDiff, List.forall_mem_cons, List.not_mem_nil, false_implies, implies_true, and_self, AV.labsBy, AV.labsIn, decide_eq_true_eq]
   first | done | decide
  ·simp only [F0]
   simp -implicitDefEqProofs only [go_sem, ↓reduceIte, Nat.reduceEqDiff, List.forall_mem_cons, List.not_mem_nil, false_implies, implies_true, and_self, map_renL_lift, cellsSc]
   first | done | decide
  ·simp -implicitDefEqProofs only [go_sem, ↓reduceIte, Nat.reduceEqDiff]
  ·rw [hR]
   simp -implicitDefEqProofs only [go_sem, ↓reduceIte, Nat.reduceEqDiff]
  ·simp -implicitDefEqProofs only [go_sem, ↓reduceIte, Nat.reduceEqDiff, bE]
  ·intro k v h
   obtain ⟨k1, k2⟩ := bks_key hN h
   have := hBk k v h
   have n1 : (k = 1) = False := eq_false (by omega)
   have n2 : (k = 2) = False := eq_false (by omega)
   have n3 : (k = 3) = False := eq_false (by omega)
   have n5 : (k = 5) = False := eq_false (by omega)
   have n6 : (k = 6) = False := eq_false (by omega)
   have n7 : (k = 7) = False := eq_false (by omega)
   have n119 : (k = 119) = False := eq_false (by omega)
   have n121 : (k = 121) = False := eq_false (by omega)
   have n122 : (k = 122) = False := eq_false (by omega)
   simp only [upd, n1, n2, n3, n5, n6, n7, n119, n121, n122, ↓reduceIte]
   exact this
 rw [show sg2 S S.enums.length = stG (sgT [(6, .p (.int .i64 (S.enums.length : Int)))]) (F0 S) S.msgs tt tt S.enums tt by unfold sg2; rw [List.take_length]]
 have hN : NoG S.msgs S.enums := ⟨by omega, by omega⟩
 have hl := memG_labs (F0_ok S) hN (f := tt) (r := tt) (g := tt)
 have ha := fun x hx => memG_at (F0_ok S) hN (f := tt) (r := tt) (g := tt) (x := x) hx
 have sub : ∀ x ∈ memG [(3, .row 3 (liftE (S.meths.map encMt)))] S.msgs tt tt S.enums tt, x ∈ memG (F0 S) S.msgs tt tt S.enums tt ∧ x.1 ≠ 6 := fun x hx => by
  rw [mem_memG] at hx ⊢
  rcases hx with hx | rfl | rfl | ⟨j, n, hj, _, rfl⟩ | ⟨j, n, hj, _, rfl⟩ | ⟨j, n, hj, _, rfl⟩
  ·simp at hx
   subst hx
   exact ⟨.inl (by simp [F0]), by simp⟩
  ·exact ⟨.inr (.inl rfl), by simp⟩
  ·exact ⟨.inr (.inr (.inl rfl)), by simp⟩
  ·exact ⟨.inr (.inr (.inr (.inl ⟨j, n, hj, rfl, rfl⟩))), by simp only; omega⟩
  ·exact ⟨.inr (.inr (.inr (.inr (.inl ⟨j, n, hj, rfl, rfl⟩)))), by simp only; omega⟩
  ·exact ⟨.inr (.inr (.inr (.inr (.inr ⟨j, n, hj, rfl, rfl⟩)))), by simp only; omega⟩
 have eM : memG (F0 S) S.msgs tt tt S.enums tt = (3, .row 3 (liftE (S.meths.map encMt))) :: (5, .row 4 [cellsSc S]) :: (6, .row 4 [[.p (.str []), .ex [], .ex [], .ex []]]) :: (7, .row 4 [[.p (.str S.name), .own 1, .own 2, .own 3]]) :: (1, .row 3 (rowG tt tt S.msgs)) :: (2, .row 2 (rowX tt S.enums)) :: bks S.msgs tt tt S.enums tt := rfl
 simp only [stG, sgT]
 rw [eM] at ha ⊢
 simp only [cellsSc] at ha ⊢
 refine AW.rT (by rfl) fun K hK => ?_
 simp -implicitDefEqProofs only [go_sem, ↓reduceIte, Nat.reduceAdd, Nat.reduceEqDiff, Nat.reduceLeDiff]
 refine hK _ ?_; clear hK K
 refine AW.ret ⟨fun k => k, [.agg [.p (.str S.name), .own 1, .own 2, .own 3]], ⟨?_, trivial⟩, rfl, rfl, fun x hx => ?_, fun x hx y hy e => e, ?_⟩
 ·simp -implicitDefEqProofs only [go_sem, ↓reduceIte, Nat.reduceAdd, Nat.reduceEqDiff, Nat.reduceLeDiff]
 ·obtain ⟨q1, q2⟩ := sub x hx
  rw [Blk.ren_id]
  refine ⟨?_, hl x q1⟩
  dsimp only
  rw [upd_ne _ _ q2]
  rw [eM] at q1
  simp only [cellsSc] at q1
  exact ha x q1
 ·simp
end Go.Aw
namespace Go.Aw
open Go.Proofs Go.RowKit
set_option linter.unusedSimpArgs false
set_option linter.unusedVariables false
theorem distinct_of : ∀ {l : List Nat}, l.Pairwise (· ≠ ·) → distinct l = true
 | [], _ => rfl
 | x :: l, h => by
  rw [List.pairwise_cons] at h
  rw [distinct, distinct_of h.2, Bool.and_true, Bool.not_eq_true', ← Bool.not_eq_true, List.contains_iff_mem]
  exact fun hm => h.1 x hm rfl
theorem bank_pw {α : Type} {b : Nat} {f : Nat → Bool} {c : α → Blk} {l : List α} : (bank b f c l).Pairwise fun x y => x.1 ≠ y.1 := by
 unfold bank
 rw [List.pairwise_filterMap, List.pairwise_iff_getElem]
 intro i j hi hj hij x hx y hy
 simp only [List.getElem_mapIdx] at hx hy
 split at hx
 ·injection hx with hx
  split at hy
  ·injection hy with hy
   subst hx hy
   simp only
   omega
  ·cases hy
 ·cases hx
theorem bks_pw {l : List Ms} {f r : Nat → Bool} {es : List En} {g : Nat → Bool} (hN : NoG l es) : (bks l f r es g).Pairwise fun x y => x.1 ≠ y.1 := by
 have lm := hN.m
 have le := hN.e
 unfold bks
 rw [List.pairwise_append, List.pairwise_append]
 refine ⟨⟨bank_pw, bank_pw, fun x hx y hy => ?_⟩, bank_pw, fun x hx y hy => ?_⟩
 ·obtain ⟨i, m, hi, _, rfl⟩ := mem_bank.1 hx
  obtain ⟨j, n, hj, _, rfl⟩ := mem_bank.1 hy
  have := at_lt hi
  simp only; omega
 ·obtain ⟨j, n, hj, _, rfl⟩ := mem_bank.1 hy
  rcases List.mem_append.1 hx with hx | hx
  ·obtain ⟨i, m, hi, _, rfl⟩ := mem_bank.1 hx
   have := at_lt hi
   simp only; omega
  ·obtain ⟨i, m, hi, _, rfl⟩ := mem_bank.1 hx
   have := at_lt hi
   simp only; omega
def mem3 (S : Sc) : List (Nat × Blk) := memG [(3, .row 3 (liftE (S.meths.map encMt)))] S.msgs tt tt S.enums tt
theorem mem3_dist {S : Sc} (F : FewS S) : distinct ((mem3 S).map (·.1)) = true := by
 have hN : NoG S.msgs S.enums := ⟨by have := F.msgs; omega, by have := F.enums; omega⟩
 refine distinct_of ?_
 rw [List.pairwise_map]
 have e : mem3 S = (3, .row 3 (liftE (S.meths.map encMt))) :: (1, .row 3 (rowG tt tt S.msgs)) :: (2, .row 2 (rowX tt S.enums)) :: bks S.msgs tt tt S.enums tt := rfl
 rw [e]
 have hk : ∀ x ∈ bks S.msgs tt tt S.enums tt, 10 ≤ x.1 := fun x hx => (bks_key hN hx).1
 simp only [List.pairwise_cons]
 refine ⟨fun y hy => ?_, fun y hy => ?_, fun y hy => ?_, bks_pw hN⟩
 ·rcases List.mem_cons.1 hy with rfl | hy
  ·simp
  ·rcases List.mem_cons.1 hy with rfl | hy
   ·simp
   ·have := hk y hy; omega
 ·rcases List.mem_cons.1 hy with rfl | hy
  ·simp
  ·have := hk y hy; omega
 ·have := hk y hy; omega
theorem mem3_all {S : Sc} : (mem3 S).all (fun x => (([] : List Nat).contains x.1 || decide (0 ≤ x.1)) && x.2.labsBy (fun l => ([] : List Nat).contains l || decide (0 ≤ l))) = true := by
 rw [List.all_eq_true]
 intro x hx
 rw [Bool.and_eq_true]
 refine ⟨by simp, ?_⟩
 cases hxx : x.2 with
 | row sz es =>
  simp only [Blk.labsBy, List.all_eq_true]
  intro e _
  exact avL_by_true (fun k => by simp) e
 | map es =>
  simp only [Blk.labsBy, List.all_eq_true]
  intro e _
  exact av_by_true (fun k => by simp) e.2
 | iter _ _ => rfl
theorem putH_at {ρ : Nat → Nat} (hρ : ∀ a b, ρ a = ρ b → a = b) {H : Nat → Option Blk} {h : List (Nat × Blk)} (hd : distinct (h.map (·.1)) = true) {x : Nat × Blk} (hx : x ∈ h) : putH H (newU ρ h) (ρ x.1) = some (x.2.ren ρ) := by
 rcases putH_new ρ (ρ x.1) h H with ⟨_, h2⟩ | ⟨y, hy, h1, h2⟩
 ·exact absurd rfl (h2 x hx)
 ·have e := hρ _ _ h1
  have q1 := ofH_of_mem hd hx
  have q2 := ofH_of_mem hd hy
  rw [e, q1] at q2
  injection q2 with q2
  rw [h2, q2]
theorem rowG_ren_congr {f r : Nat → Bool} {l : List Ms} {ρ σ : Nat → Nat} (h : ∀ k, 10 ≤ k → ρ k = σ k) : (rowG f r l).map (renL ρ) = (rowG f r l).map (renL σ) := by
 refine List.map_congr_left fun e he => ?_
 obtain ⟨i, hi⟩ := List.getElem?_of_mem he
 unfold rowG at hi
 rw [List.getElem?_mapIdx, Option.map_eq_some_iff] at hi
 obtain ⟨m, hm, rfl⟩ := hi
 simp only [mG, renL]
 by_cases q1 : f i = true <;> by_cases q2 : r i = true <;> simp only [q1, q2, if_true, if_false, Bool.false_eq_true, AV.ren, h (i + 10) (by omega), h (i + 30) (by omega)]
theorem rowX_ren_congr {g : Nat → Bool} {l : List En} {ρ σ : Nat → Nat} (h : ∀ k, 10 ≤ k → ρ k = σ k) : (rowX g l).map (renL ρ) = (rowX g l).map (renL σ) := by
 refine List.map_congr_left fun e he => ?_
 obtain ⟨i, hi⟩ := List.getElem?_of_mem he
 unfold rowX at hi
 rw [List.getElem?_mapIdx, Option.map_eq_some_iff] at hi
 obtain ⟨m, hm, rfl⟩ := hi
 simp only [eG, renL]
 by_cases q1 : g i = true <;> simp only [q1, if_true, if_false, Bool.false_eq_true, AV.ren, h (i + 50) (by omega)]
def F5 (S : Sc) : List (Nat × Blk) := [(3, .row 3 (liftE (S.meths.map encMt))), (5, .row 4 [cellsSc S])]
theorem callG {nt : Fm} {T : Nat → Option AV} {H : Nat → Option Blk} {nx c : Nat} {S : Sc} (F : FewS S) {T' : List (Nat × AV)} (hc : c < nx)
  (hT : ∀ x ∈ T', T x.1 = some (x.2.ren fun l => if l = 5 then c else nx + l) ∧ x.2.labsIn 100 = true) (h5 : H c = some (.row 4 [cellsSc S])) :
  Ghost nt ⟨T, putH H (newU (lift2 (fun l => l) 0 nx) (mem3 S)), nx + 100⟩ ⟨ofL T', ofH (memG (F5 S) S.msgs tt tt S.enums tt), 100⟩ := by
 have hN : NoG S.msgs S.enums := ⟨by have := F.msgs; omega, by have := F.enums; omega⟩
 have hF : FOK (F5 S) := by
  refine ⟨fun x hx => ?_, fun x hx y hy e => ?_, fun x hx => ?_⟩
  ·simp only [F5, List.mem_cons, List.not_mem_nil, or_false] at hx
   rcases hx with rfl | rfl <;> simp
  ·simp only [F5, List.mem_cons, List.not_mem_nil, or_false] at hx hy
   rcases hx with rfl | rfl <;> rcases hy with rfl | rfl <;> first | rfl | (simp at e)
  ·simp only [F5, List.mem_cons, List.not_mem_nil, or_false] at hx
   rcases hx with rfl | rfl
   ·exact ⟨labsIn_lift _ _, labsIn_lift _ _⟩
   ·exact ⟨rfl, rfl⟩
 have hl := memG_labs hF hN (f := tt) (r := tt) (g := tt)
 have le : ∀ k, lift2 (fun l => l) 0 nx k = nx + k := fun k => by unfold lift2; rw [if_neg (by omega), Nat.sub_zero]
 have inj : ∀ a b, lift2 (fun l => l) 0 nx a = lift2 (fun l => l) 0 nx b → a = b := fun a b e => by rw [le, le] at e; omega
 obtain ⟨ρ, hρ⟩ : ∃ ρ : Nat → Nat, ρ = fun l => if l = 5 then c else nx + l := ⟨_, rfl⟩
 have hρ5 : ρ 5 = c := by rw [hρ]; rfl
 have hρn : ∀ k, k ≠ 5 → ρ k = nx + k := fun k hk => by rw [hρ]; simp only; rw [if_neg hk]
 rw [← hρ] at hT
 have at_ : ∀ x ∈ mem3 S, x.1 ≠ 5 → putH H (newU (lift2 (fun l => l) 0 nx) (mem3 S)) (ρ x.1) = some (x.2.ren (lift2 (fun l => l) 0 nx)) := fun x hx h => by
  have := putH_at inj (H := H) (mem3_dist F) hx
  rw [le] at this
  rw [hρn _ h]; exact this
 have agree : ∀ k, 10 ≤ k → lift2 (fun l => l) 0 nx k = ρ k := fun k hk => by rw [le, hρn k (by omega)]
 refine Ghost.ent ρ hT (fun x hx => ⟨?_, hl x hx⟩) fun x hx y hy e => ?_
 ·show putH H (newU (lift2 (fun l => l) 0 nx) (mem3 S)) (ρ x.1) = some (x.2.ren ρ)
  rw [mem_memG] at hx
  rcases hx with hx | rfl | rfl | ⟨j, n, hj, _, rfl⟩ | ⟨j, n, hj, _, rfl⟩ | ⟨j, n, hj, _, rfl⟩
  ·simp only [F5, List.mem_cons, List.not_mem_nil, or_false] at hx
   rcases hx with rfl | rfl
   ·rw [at_ (3, .row 3 (liftE (S.meths.map encMt))) (mem_memG.2 (.inl (by simp))) (by simp)]
    simp only [Blk.ren, map_renL_lift]
   ·show putH _ _ (ρ 5) = _
    rw [hρ5]
    rcases putH_new (lift2 (fun l => l) 0 nx) c (mem3 S) H with ⟨h1, _⟩ | ⟨y, hy, h1, _⟩
    ·rw [h1, h5]; rfl
    ·rw [le] at h1; omega
  ·rw [at_ (1, .row 3 (rowG tt tt S.msgs)) (mem_memG.2 (.inr (.inl rfl))) (by simp)]
   simp only [Blk.ren]
   rw [rowG_ren_congr agree]
  ·rw [at_ (2, .row 2 (rowX tt S.enums)) (mem_memG.2 (.inr (.inr (.inl rfl)))) (by simp)]
   simp only [Blk.ren]
   rw [rowX_ren_congr agree]
  ·rw [at_ (j + 10, bF n) (mem_memG.2 (.inr (.inr (.inr (.inl ⟨j, n, hj, rfl, rfl⟩))))) (by simp only; omega), bF_ren, bF_ren]
  ·rw [at_ (j + 30, bR n) (mem_memG.2 (.inr (.inr (.inr (.inr (.inl ⟨j, n, hj, rfl, rfl⟩)))))) (by simp only; omega), bR_ren, bR_ren]
  ·rw [at_ (j + 50, bE n) (mem_memG.2 (.inr (.inr (.inr (.inr (.inr ⟨j, n, hj, rfl, rfl⟩)))))) (by simp only; omega), bE_ren, bE_ren]
 ·by_cases q1 : x.1 = 5 <;> by_cases q2 : y.1 = 5
  ·rw [q1, q2]
  ·rw [q1, hρ5, hρn _ q2] at e; omega
  ·rw [q2, hρ5, hρn _ q1] at e; omega
  ·rw [hρn _ q1, hρn _ q2] at e; omega
end Go.Aw
namespace Go.Aw
open Go.Proofs Go.RowKit
set_option linter.unusedSimpArgs false
set_option linter.unusedVariables false
theorem blk_ren_by {ρ : Nat → Nat} {p : Nat → Bool} {x : Blk} (h : x.labsIn 10 = true) (hp : x.labsBy p = true) (e : ∀ k, k < 10 → p k = true → ρ k = k) : x.ren ρ = x := by
 have main : x.ren ρ = x.ren fun k => k := by
  cases x with
  | row sz es =>
   simp only [Blk.labsIn, Blk.labsBy, List.all_eq_true] at h hp
   simp only [Blk.ren]
   congr 1
   exact List.map_congr_left fun l hl => avL_ren_congr (h l hl) (hp l hl) e
  | map es =>
   simp only [Blk.labsIn, Blk.labsBy, List.all_eq_true] at h hp
   simp only [Blk.ren]
   congr 1
   refine List.map_congr_left fun l hl => ?_
   rw [av_ren_congr (h l hl) (hp l hl) e]
  | iter _ _ => rfl
 rw [main, Blk.ren_id]
theorem memG_cons {b : Nat × Blk} {F : List (Nat × Blk)} {l : List Ms} {f r : Nat → Bool} {es : List En} {g : Nat → Bool} {x : Nat × Blk} : x ∈ memG (b :: F) l f r es g ↔ x = b ∨ x ∈ memG F l f r es g := by
 unfold memG
 simp only [List.cons_append, List.mem_cons]
theorem memG_ren {F : List (Nat × Blk)} {l : List Ms} {f r : Nat → Bool} {es : List En} {g : Nat → Bool} {ρ : Nat → Nat} (hF : FOK F) (hFb : ∀ x ∈ F, x.2.labsBy (fun k => k != 4) = true) (hρ : ∀ k, k ≠ 4 → k < 100 → ρ k = k) (hN : NoG l es) : ∀ x ∈ memG F l f r es g, x.2.ren ρ = x.2 := by
 have lm := hN.m
 have le := hN.e
 intro x hx
 rw [mem_memG] at hx
 rcases hx with hx | rfl | rfl | ⟨j, n, hj, _, rfl⟩ | ⟨j, n, hj, _, rfl⟩ | ⟨j, n, hj, _, rfl⟩
 ·exact blk_ren_by (hF.labs _ hx).1 (hFb _ hx) fun k hk h4 => hρ k (by simpa using h4) (by omega)
 ·simp only [Blk.ren]
  rw [rowG_ren fun i hi => ⟨hρ _ (by omega) (by omega), hρ _ (by omega) (by omega)⟩]
 ·simp only [Blk.ren]
  rw [rowX_ren fun i hi => hρ _ (by omega) (by omega)]
 ·exact bF_ren _ _
 ·exact bR_ren _ _
 ·exact bE_ren _ _
theorem boxG {nt : Fm} {T : Nat → Option AV} {nx : Nat} {T' : List (Nat × AV)} {F : List (Nat × Blk)} {l : List Ms} {f r : Nat → Bool} {es : List En} {g : Nat → Bool} {b : Blk} (hF0 : FOK F) (hb1 : b.labsIn 10 = true) (hb2 : b.labsIn 100 = true) (hN : NoG l es) (hk : ∀ x ∈ F, x.1 ≠ 4)
  (hT : ∀ x ∈ T', T x.1 = some (x.2.ren fun k => if k = 4 then 100 else k) ∧ x.2.labsIn 100 = true) (hb : b.labsBy (fun k => k != 4) = true) (hFb : ∀ x ∈ F, x.2.labsBy (fun k => k != 4) = true) {H : Nat → Option Blk} (hH : H = upd (ofH (memG F l f r es g)) 100 (some b)) :
  Ghost nt ⟨T, H, nx⟩ ⟨ofL T', ofH (memG ((4, b) :: F) l f r es g), 100⟩ := by
 subst hH
 have hl := memG_labs hF0 hN (f := f) (r := r) (g := g)
 have at_ := fun x hx => memG_at hF0 hN (f := f) (r := r) (g := g) (x := x) hx
 obtain ⟨ρ, hρ⟩ : ∃ ρ : Nat → Nat, ρ = fun k => if k = 4 then 100 else k := ⟨_, rfl⟩
 have hρ4 : ρ 4 = 100 := by rw [hρ]; rfl
 have hρn : ∀ k, k ≠ 4 → ρ k = k := fun k hk => by rw [hρ]; simp only; rw [if_neg hk]
 rw [← hρ] at hT
 have k4 : ∀ x ∈ memG F l f r es g, x.1 ≠ 4 := fun x hx => by
  rw [mem_memG] at hx
  rcases hx with hx | rfl | rfl | ⟨j, n, hj, _, rfl⟩ | ⟨j, n, hj, _, rfl⟩ | ⟨j, n, hj, _, rfl⟩
  ·exact hk x hx
  ·simp
  ·simp
  ·simp only; omega
  ·simp only; omega
  ·simp only; omega
 have rn := memG_ren (f := f) (r := r) (g := g) hF0 hFb (fun k h4 _ => hρn k h4) hN
 refine Ghost.ent ρ hT (fun x hx => ?_) fun x hx y hy e => ?_
 ·show upd (ofH (memG F l f r es g)) 100 (some b) (ρ x.1) = some (x.2.ren ρ) ∧ _
  rw [memG_cons] at hx
  rcases hx with rfl | hx
  ·rw [hρ4, upd_same, blk_ren_by hb1 hb fun k _ h4 => hρn k (by simpa using h4)]
   exact ⟨rfl, by simp, hb2⟩
  ·obtain ⟨l1, l2⟩ := hl x hx
   rw [hρn _ (k4 x hx), upd_ne _ _ (by omega), at_ x hx, rn x hx]
   exact ⟨rfl, l1, l2⟩
 ·rw [memG_cons] at hx hy
  rcases hx with rfl | hx <;> rcases hy with rfl | hy
  ·rfl
  ·rw [hρ4, hρn _ (k4 y hy)] at e
   have := (hl y hy).1
   omega
  ·rw [hρ4, hρn _ (k4 x hx)] at e
   have := (hl x hx).1
   omega
  ·rw [hρn _ (k4 x hx), hρn _ (k4 y hy)] at e
   exact e
theorem setF {nt : Fm} {T : Nat → Option AV} {nx : Nat} {T' : List (Nat × AV)} {F : List (Nat × Blk)} {l : List Ms} {r : Nat → Bool} {es : List En} {g : Nat → Bool} {i : Nat} {m m' : Ms} (hF : FOK F) (hN : NoG l es) (hm : l[i]? = some m) (hn : m'.name = m.name) (hr : m'.res = m.res)
  (hT : ∀ x ∈ T', T x.1 = some x.2 ∧ x.2.labsIn 100 = true) {H : Nat → Option Blk} (hH : H = upd (ofH (memG F l tt r es g)) (i + 10) (some (bF m'))) :
  Ghost nt ⟨T, H, nx⟩ ⟨ofL T', ofH (memG F (l.set i m') tt r es g), 100⟩ := by
 subst hH
 have lm := hN.m
 have hN' : NoG (l.set i m') es := ⟨by rw [List.length_set]; exact lm, hN.e⟩
 have hl := memG_labs hF hN' (f := tt) (r := r) (g := g)
 have at_ := fun x hx => memG_at hF hN (f := tt) (r := r) (g := g) (x := x) hx
 have er : rowG tt r (l.set i m') = rowG tt r l := by
  unfold rowG
  apply List.ext_getElem?
  intro j
  rw [List.getElem?_mapIdx, List.getElem?_mapIdx, List.getElem?_set]
  by_cases e : i = j
  ·subst e
   rw [if_pos rfl, if_pos (at_lt hm), hm]
   simp only [Option.map_some, mG, tt, if_true, hn, hr]
  ·rw [if_neg e]
 have il := at_lt hm
 refine Ghost.sub hT fun x hx => ⟨?_, hl x hx⟩
 show upd (ofH (memG F l tt r es g)) (i + 10) (some (bF m')) x.1 = some x.2
 rw [mem_memG] at hx
 rcases hx with hx | rfl | rfl | ⟨j, n, hj, hf, rfl⟩ | ⟨j, n, hj, hf, rfl⟩ | ⟨j, n, hj, hf, rfl⟩
 ·have := hF.key x hx
  rw [upd_ne _ _ (by omega)]
  exact at_ x (mem_memG.2 (.inl hx))
 ·rw [upd_ne _ _ (by simp only; omega), er]
  exact at_ _ (mem_memG.2 (.inr (.inl rfl)))
 ·rw [upd_ne _ _ (by simp only; omega)]
  exact at_ _ (mem_memG.2 (.inr (.inr (.inl rfl))))
 ·rw [List.getElem?_set] at hj
  by_cases e : i = j
  ·subst e
   rw [if_pos rfl, if_pos il] at hj
   injection hj with hj
   subst hj
   exact upd_same _ _ _
  ·rw [if_neg e] at hj
   rw [upd_ne _ _ (by simp only; omega)]
   exact at_ _ (mem_memG.2 (.inr (.inr (.inr (.inl ⟨j, n, hj, hf, rfl⟩)))))
 ·have jl := at_lt hj
  rw [List.length_set] at jl
  rw [upd_ne _ _ (by simp only; omega)]
  rw [List.getElem?_set] at hj
  by_cases e : i = j
  ·subst e
   rw [if_pos rfl, if_pos il] at hj
   injection hj with hj
   subst hj
   have := at_ _ (mem_memG.2 (.inr (.inr (.inr (.inr (.inl ⟨i, m, hm, hf, rfl⟩))))))
   simp only at this ⊢
   rw [this]
   unfold bR
   rw [hr]
  ·rw [if_neg e] at hj
   exact at_ _ (mem_memG.2 (.inr (.inr (.inr (.inr (.inl ⟨j, n, hj, hf, rfl⟩))))))
 ·have jl := at_lt hj
  have le := hN.e
  rw [upd_ne _ _ (by simp only; omega)]
  exact at_ _ (mem_memG.2 (.inr (.inr (.inr (.inr (.inr ⟨j, n, hj, hf, rfl⟩))))))
theorem memF_at {F : List (Nat × Blk)} {l : List Ms} {f r : Nat → Bool} {es : List En} {g : Nat → Bool} (hN : NoG l es) {i : Nat} {m : Ms} (hm : l[i]? = some m) (hf : f i = true) : ofH (bks l f r es g) (i + 10) = some (bF m) := bks_at hN (mem_bks.2 (.inl ⟨i, m, hm, hf, rfl⟩))
theorem memR_at {F : List (Nat × Blk)} {l : List Ms} {f r : Nat → Bool} {es : List En} {g : Nat → Bool} (hN : NoG l es) {i : Nat} {m : Ms} (hm : l[i]? = some m) (hf : r i = true) : ofH (bks l f r es g) (i + 30) = some (bR m) := bks_at hN (mem_bks.2 (.inr (.inl ⟨i, m, hm, hf, rfl⟩)))
theorem rowG_get {l : List Ms} {i : Nat} {m : Ms} {f r : Nat → Bool} (hm : l[i]? = some m) : (rowG f r l)[i]? = some (mG f r i m) := by
 unfold rowG
 rw [List.getElem?_mapIdx, hm]; rfl
def ff (_ : Nat) : Bool := false
theorem shutG {nt : Fm} {T : List (Nat × AV)} {F : List (Nat × Blk)} {l : List Ms} {es : List En} {f r g : Nat → Bool} (hT : TOK T) (hF : FOK F) (hN : NoG l es) : Ghost nt ⟨ofL T, ofH (memG F l f r es g), 100⟩ ⟨ofL T, ofH (F ++ [(1, .row 3 (liftE (l.map encMs))), (2, .row 2 (liftE (es.map encEn)))]), 100⟩ := by
 refine Ghost.trans (keepF (nt := nt) (T := T) (F := F) (l := l) (es := es) (f := f) (r := r) (g := g) ff hT hF hN) ?_
 refine Ghost.trans (keepR (nt := nt) (T := T) (F := F) (l := l) (es := es) (f := fun i => f i && ff i) (r := r) (g := g) ff hT hF hN) ?_
 refine Ghost.trans (keepE (nt := nt) (T := T) (F := F) (l := l) (es := es) (f := fun i => f i && ff i) (r := fun i => r i && ff i) (g := g) ff hT hF hN) ?_
 have e : memG F l (fun i => f i && ff i) (fun i => r i && ff i) es (fun i => g i && ff i) = F ++ [(1, .row 3 (liftE (l.map encMs))), (2, .row 2 (liftE (es.map encEn)))] := by
  rw [memG_congr (f' := fun _ => false) (r' := fun _ => false) (g' := fun _ => false) (fun i _ => ⟨by simp [ff], by simp [ff]⟩) fun i _ => by simp [ff]]
  unfold memG
  rw [rowG_shut, rowX_shut]
  have bn : ∀ {α : Type} (b : Nat) (c : α → Blk) (l : List α), bank b (fun _ => false) c l = [] := fun b c l => by
   unfold bank
   simp
  rw [bn, bn, bn]
  rfl
 unfold stG
 rw [e]
 exact Ghost.refl
theorem sameG {nt : Fm} {T : Nat → Option AV} {nx : Nat} {T' : List (Nat × AV)} {F : List (Nat × Blk)} {l : List Ms} {f r : Nat → Bool} {es : List En} {g : Nat → Bool} (hF : FOK F) (hN : NoG l es) (hT : ∀ x ∈ T', T x.1 = some x.2 ∧ x.2.labsIn 100 = true) {H : Nat → Option Blk} (hH : H = ofH (memG F l f r es g)) :
  Ghost nt ⟨T, H, nx⟩ ⟨ofL T', ofH (memG F l f r es g), 100⟩ := by
 subst hH
 exact Ghost.sub hT fun x hx => ⟨memG_at hF hN hx, memG_labs hF hN x hx⟩
end Go.Aw
namespace Go.Aw
open Go.Proofs Go.RowKit
set_option linter.unusedSimpArgs false
set_option linter.unusedVariables false
theorem blk_by_true (x : Blk) : x.labsBy (fun _ => true) = true := by
 cases x with
 | row sz es =>
  simp only [Blk.labsBy, List.all_eq_true]
  intro e _
  exact avL_by_true (fun _ => rfl) e
 | map es =>
  simp only [Blk.labsBy, List.all_eq_true]
  intro e _
  exact av_by_true (fun _ => rfl) e.2
 | iter _ _ => rfl
theorem moveR {nt : Fm} {T : Nat → Option AV} {H : Nat → Option Blk} {nx : Nat} {T' : List (Nat × AV)} {F : List (Nat × Blk)} {l : List Ms} {f r : Nat → Bool} {es : List En} {g : Nat → Bool} {a N : Nat} {m m' : Ms} (hF : FOK F) (hN : NoG l es) (hNN : 100 ≤ N) (hm : l[a]? = some m) (hn : m'.name = m.name) (hs : m'.fields = m.fields) (ho : r a = true)
  (hT : ∀ x ∈ T', T x.1 = some x.2 ∧ x.2.labsIn 10 = true ∧ x.2.labsIn 100 = true)
  (h1 : H 1 = some (.row 3 ((rowG f r l).set a [.p (.str m.name), (if f a = true then .own (a + 10) else .p (.slice (m.fields.map encFd))), .own N]))) (h2 : H N = some (bR m'))
  (hr : ∀ x ∈ memG F l f r es g, x.1 ≠ 1 → x.1 ≠ a + 30 → H x.1 = some x.2) :
  Ghost nt ⟨T, H, nx⟩ ⟨ofL T', ofH (memG F (l.set a m') f r es g), 100⟩ := by
 have lm := hN.m
 have le := hN.e
 have al := at_lt hm
 have hN' : NoG (l.set a m') es := ⟨by rw [List.length_set]; exact lm, le⟩
 have hl := memG_labs hF hN' (f := f) (r := r) (g := g)
 obtain ⟨ρ, hρ⟩ : ∃ ρ : Nat → Nat, ∀ k, ρ k = if k = a + 30 then N else k := ⟨_, fun k => rfl⟩
 have low : ∀ k, k < 10 → ρ k = k := fun k hk => by rw [hρ, if_neg (by omega)]
 have getl : ∀ j n, (l.set a m')[j]? = some n → (j = a ∧ n = m') ∨ (j ≠ a ∧ l[j]? = some n) := fun j n h => by
  rw [List.getElem?_set] at h
  by_cases e : a = j
  ·subst e
   rw [if_pos rfl, if_pos al] at h
   injection h with h
   exact .inl ⟨rfl, h.symm⟩
  ·rw [if_neg e] at h
   exact .inr ⟨fun q => e q.symm, h⟩
 refine Ghost.ent ρ (fun x hx => ?_) (fun x hx => ⟨?_, hl x hx⟩) fun x hx y hy e => ?_
 ·obtain ⟨q1, q2, q3⟩ := hT x hx
  refine ⟨?_, q3⟩
  have : x.2.ren ρ = x.2 := by
   rw [av_ren_congr (σ := fun k => k) (p := fun _ => true) q2 (av_by_true (fun _ => rfl) _) fun k hk _ => low k hk]
   exact AV.ren_id _
  rw [this]; exact q1
 ·rw [mem_memG] at hx
  rcases hx with hx | rfl | rfl | ⟨j, n, hj, hf, rfl⟩ | ⟨j, n, hj, hf, rfl⟩ | ⟨j, n, hj, hf, rfl⟩
  ·have k1 := hF.key _ hx
   show H (ρ x.1) = _
   rw [low _ k1.1, blk_ren_by (p := fun _ => true) (hF.labs _ hx).1 (blk_by_true _) fun k hk _ => low k hk]
   exact hr x (mem_memG.2 (.inl hx)) k1.2.1 (by omega)
  ·show H (ρ 1) = _
   rw [low _ (by omega), h1]
   simp only [Blk.ren]
   congr 2
   apply List.ext_getElem?
   intro j
   unfold rowG
   rw [List.getElem?_set, List.length_mapIdx, List.getElem?_map, List.getElem?_mapIdx, List.getElem?_mapIdx]
   by_cases e : a = j
   ·subst e
    rw [if_pos rfl, if_pos al, List.getElem?_set, if_pos rfl, if_pos al]
    have e1 : ρ (a + 30) = N := by rw [hρ, if_pos rfl]
    have e2 : ρ (a + 10) = a + 10 := by rw [hρ, if_neg (by omega)]
    simp only [Option.map_some, mG, ho, if_true, Go.Aw.renL, AV.ren, e1, hn, hs]
    by_cases q : f a = true <;> simp only [q, if_true, if_false, Bool.false_eq_true, AV.ren, e2]
   ·rw [if_neg e, List.getElem?_set, if_neg e]
    cases hj : l[j]? with
    | none => rfl
    | some n =>
     have jl := at_lt hj
     have e1 : ρ (j + 10) = j + 10 := by rw [hρ, if_neg (by omega)]
     have e2 : ρ (j + 30) = j + 30 := by rw [hρ, if_neg (by omega)]
     simp only [Option.map_some, mG, Go.Aw.renL]
     by_cases q1 : f j = true <;> by_cases q2 : r j = true <;> simp only [q1, q2, if_true, if_false, Bool.false_eq_true, AV.ren, e1, e2]
  ·show H (ρ 2) = _
   rw [low _ (by omega)]
   simp only [Blk.ren]
   rw [rowX_ren fun j hj => by rw [hρ, if_neg (by omega)]]
   exact hr _ (mem_memG.2 (.inr (.inr (.inl rfl)))) (by simp) (by simp only; omega)
  ·show H (ρ (j + 10)) = _
   rw [bF_ren]
   rcases getl j n hj with ⟨rfl, rfl⟩ | ⟨q1, q2⟩
   ·rw [hρ, if_neg (by omega)]
    have := hr _ (mem_memG.2 (.inr (.inr (.inr (.inl ⟨j, m, hm, hf, rfl⟩))))) (by simp only; omega) (by simp only; omega)
    simp only at this
    rw [this]
    unfold bF
    rw [hs]
   ·have jl := at_lt q2
    rw [hρ, if_neg (by omega)]
    exact hr _ (mem_memG.2 (.inr (.inr (.inr (.inl ⟨j, n, q2, hf, rfl⟩))))) (by simp only; omega) (by simp only; omega)
  ·show H (ρ (j + 30)) = _
   rw [bR_ren]
   rcases getl j n hj with ⟨rfl, rfl⟩ | ⟨q1, q2⟩
   ·rw [hρ, if_pos rfl]; exact h2
   ·rw [hρ, if_neg (by omega)]
    exact hr _ (mem_memG.2 (.inr (.inr (.inr (.inr (.inl ⟨j, n, q2, hf, rfl⟩)))))) (by simp only; omega) (by simp only; omega)
  ·show H (ρ (j + 50)) = _
   have jl := at_lt hj
   rw [bE_ren, hρ, if_neg (by omega)]
   exact hr _ (mem_memG.2 (.inr (.inr (.inr (.inr (.inr ⟨j, n, hj, hf, rfl⟩)))))) (by simp only; omega) (by simp only; omega)
 ·have a1 := (hl x hx).1
  have a2 := (hl y hy).1
  rw [hρ, hρ] at e
  split at e <;> split at e <;> omega
end Go.Aw
namespace Go.Aw
open Go.Proofs Go.RowKit
set_option linter.unusedSimpArgs false
set_option linter.unusedVariables false
theorem putF {nt : Fm} {T : Nat → Option AV} {H : Nat → Option Blk} {nx : Nat} {T' : List (Nat × AV)} {F : List (Nat × Blk)} {l : List Ms} {r : Nat → Bool} {es : List En} {g : Nat → Bool} {i : Nat} {m m' : Ms} (hF : FOK F) (hN : NoG l es) (hm : l[i]? = some m) (hn : m'.name = m.name) (hs : m'.res = m.res)
  (hT : ∀ x ∈ T', T x.1 = some x.2 ∧ x.2.labsIn 100 = true)
  (h1 : H 1 = some (.row 3 ((rowG ff r l).set i [.p (.str m.name), .p (.slice (m'.fields.map encFd)), (if r i = true then .own (i + 30) else .p (.slice (m.res.map encI)))])))
  (hr : ∀ x ∈ memG F l ff r es g, x.1 ≠ 1 → H x.1 = some x.2) : Ghost nt ⟨T, H, nx⟩ ⟨ofL T', ofH (memG F (l.set i m') ff r es g), 100⟩ := by
 have lm := hN.m
 have il := at_lt hm
 have hN' : NoG (l.set i m') es := ⟨by rw [List.length_set]; exact lm, hN.e⟩
 have hl := memG_labs hF hN' (f := ff) (r := r) (g := g)
 refine Ghost.sub hT fun x hx => ⟨?_, hl x hx⟩
 show H x.1 = some x.2
 rw [mem_memG] at hx
 rcases hx with hx | rfl | rfl | ⟨j, n, hj, hf, rfl⟩ | ⟨j, n, hj, hf, rfl⟩ | ⟨j, n, hj, hf, rfl⟩
 ·exact hr x (mem_memG.2 (.inl hx)) (hF.key x hx).2.1
 ·show H 1 = _
  rw [h1]
  congr 2
  apply List.ext_getElem?
  intro j
  unfold rowG
  rw [List.getElem?_set, List.length_mapIdx, List.getElem?_mapIdx, List.getElem?_mapIdx, List.getElem?_set]
  by_cases e : i = j
  ·subst e
   rw [if_pos rfl, if_pos il, if_pos rfl, if_pos il]
   simp only [Option.map_some, mG, ff, hn, hs, if_false, Bool.false_eq_true]
  ·rw [if_neg e, if_neg e]
 ·exact hr (2, .row 2 (rowX g es)) (mem_memG.2 (.inr (.inr (.inl rfl)))) (by simp)
 ·cases hf
 ·rw [List.getElem?_set] at hj
  by_cases e : i = j
  ·subst e
   rw [if_pos rfl, if_pos il] at hj
   injection hj with hj
   subst hj
   have := hr (i + 30, bR m) (mem_memG.2 (.inr (.inr (.inr (.inr (.inl ⟨i, m, hm, hf, rfl⟩)))))) (by simp only; omega)
   simp only at this ⊢
   rw [this]
   unfold bR
   rw [hs]
  ·rw [if_neg e] at hj
   exact hr (j + 30, bR n) (mem_memG.2 (.inr (.inr (.inr (.inr (.inl ⟨j, n, hj, hf, rfl⟩)))))) (by simp only; omega)
 ·exact hr (j + 50, bE n) (mem_memG.2 (.inr (.inr (.inr (.inr (.inr ⟨j, n, hj, hf, rfl⟩)))))) (by simp only; omega)
theorem labs_thawn {n lb : Nat} {ps : List (List PV)} {x : AV} (h : x.labsIn n = true) (hl : n ≤ lb) : thaw1 lb ps x = x := by
 cases x with
 | own l =>
  simp [AV.labsIn] at h
  show (if l = lb then _ else _) = _
  rw [if_neg (by omega)]
 | cut l lo m =>
  simp [AV.labsIn] at h
  cases lo with
  | zero =>
   show (if l = lb then _ else _) = _
   rw [if_neg (by omega)]
  | succ k => rfl
 | _ => rfl
theorem thawB_n {n lb : Nat} {ps : List (List PV)} {x : Blk} (h : x.labsIn n = true) (hl : n ≤ lb) : thawB lb ps x = x := by
 cases x with
 | row sz es =>
  simp only [Blk.labsIn, List.all_eq_true] at h
  rw [thawB_row]
  congr 1
  have : ∀ e ∈ es, e.map (thaw1 lb ps) = e := fun e he => by
   have q := labsL_all.1 (h e he)
   rw [List.map_congr_left (f := thaw1 lb ps) (g := id) (fun y hy => labs_thawn (q y hy) hl), List.map_id]
  rw [List.map_congr_left (g := id) this, List.map_id]
 | _ => rfl
theorem putN {nt : Fm} {T : Nat → Option AV} {H : Nat → Option Blk} {nx : Nat} {T' : List (Nat × AV)} {F : List (Nat × Blk)} {l : List Ms} {r : Nat → Bool} {es : List En} {g : Nat → Bool} {i N : Nat} {m m' : Ms} (hF : FOK F) (hN : NoG l es) (hNN : 100 ≤ N) (hm : l[i]? = some m) (hn : m'.name = m.name) (hs : m'.res = m.res)
  (hT : ∀ x ∈ T', T x.1 = some x.2 ∧ x.2.labsIn 100 = true ∧ ∀ cs, x.2 ≠ .agg cs)
  (h1 : H 1 = some (.row 3 ((rowG ff r l).set i [.p (.str m.name), .own N, (if r i = true then .own (i + 30) else .p (.slice (m.res.map encI)))]))) (h2 : H N = some (.row 5 (liftE (m'.fields.map encFd))))
  (hr : ∀ x ∈ memG F l ff r es g, x.1 ≠ 1 → H x.1 = some x.2) : Ghost nt ⟨T, H, nx⟩ ⟨ofL T', ofH (memG F (l.set i m') ff r es g), 100⟩ := by
 have lm := hN.m
 have il := at_lt hm
 have hl := memG_labs hF hN (f := ff) (r := r) (g := g)
 refine Ghost.trans (Ghost.freeze (lb := N) (ps := m'.fields.map encFd) h2 (unlift_liftE _)) (putF hF hN hm hn hs (fun x hx => ?_) ?_ fun x hx h => ?_)
 ·obtain ⟨q1, q2, q3⟩ := hT x hx
  refine ⟨?_, q2⟩
  show (T x.1).map _ = _
  rw [q1, Option.map_some]
  have := labs_thawn (ps := m'.fields.map encFd) q2 (show 100 ≤ N from hNN)
  generalize x.2 = v at *
  cases v with
  | agg cs => exact absurd rfl (q3 cs)
  | _ => exact congrArg some this
 ·show (if 1 = N then none else (H 1).map (thawB N _)) = _
  rw [if_neg (by omega), h1, Option.map_some, thawB_row]
  congr 2
  apply List.ext_getElem?
  intro j
  rw [List.getElem?_map, List.getElem?_set, List.getElem?_set, rowG_len]
  by_cases e : i = j
  ·subst e
   rw [if_pos rfl, if_pos il, if_pos rfl, if_pos il, Option.map_some]
   simp only [List.map_cons, List.map_nil]
   have e1 : thaw1 N (m'.fields.map encFd) (.own N) = .p (.slice (m'.fields.map encFd)) := if_pos rfl
   have e2 : thaw1 N (m'.fields.map encFd) (.own (i + 30)) = .own (i + 30) := if_neg (by omega)
   rw [e1]
   by_cases q : r i = true
   ·simp only [q, if_true, e2]
    rfl
   ·simp only [q, if_false, Bool.false_eq_true]
    rfl
  ·rw [if_neg e, if_neg e]
   cases hj : (rowG ff r l)[j]? with
   | none => rfl
   | some c =>
    have hc : c ∈ rowG ff r l := List.mem_of_getElem? hj
    have lab := rowG_labs (f := ff) (r := r) lm
    simp only [Blk.labsIn, List.all_eq_true] at lab
    have q := labsL_all.1 (lab c hc)
    rw [Option.map_some, List.map_congr_left (f := thaw1 N (m'.fields.map encFd)) (g := id) (fun y hy => labs_thawn (q y hy) hNN), List.map_id]
 ·obtain ⟨l1, l2⟩ := hl x hx
  show (if x.1 = N then none else (H x.1).map (thawB N _)) = _
  rw [if_neg (by omega), hr x hx h, Option.map_some, thawB_n l2 hNN]
theorem putEx {nt : Fm} {T : Nat → Option AV} {H : Nat → Option Blk} {nx : Nat} {T' : List (Nat × AV)} {F : List (Nat × Blk)} {l : List Ms} {r : Nat → Bool} {es : List En} {g : Nat → Bool} {i : Nat} {m m' : Ms} (hF : FOK F) (hN : NoG l es) (hm : l[i]? = some m) (hn : m'.name = m.name) (hs : m'.res = m.res)
  (hT : ∀ x ∈ T', T x.1 = some x.2 ∧ x.2.labsIn 100 = true)
  (h1 : H 1 = some (.row 3 ((rowG ff r l).set i [.p (.str m.name), .ex (m'.fields.map encFd), (if r i = true then .own (i + 30) else .p (.slice (m.res.map encI)))])))
  (hr : ∀ x ∈ memG F l ff r es g, x.1 ≠ 1 → H x.1 = some x.2) : Ghost nt ⟨T, H, nx⟩ ⟨ofL T', ofH (memG F (l.set i m') ff r es g), 100⟩ := by
 have il := at_lt hm
 refine Ghost.trans (Ghost.weakH (l := 1) (i := i) (j := 1) (e := [.p (.str m.name), .ex (m'.fields.map encFd), (if r i = true then .own (i + 30) else .p (.slice (m.res.map encI)))]) (x := .ex (m'.fields.map encFd)) (y := .p (.slice (m'.fields.map encFd))) h1 ?_ rfl rfl fun σ w I v h => ?_) (putF hF hN hm hn hs hT ?_ fun x hx h => ?_)
 ·rw [List.getElem?_set, if_pos rfl, if_pos (by rw [rowG_len]; exact il)]
 ·cases h with
  | ex _ h => exact .p h
 ·show upd H 1 _ 1 = _
  rw [upd_same, List.set_set]
  rfl
 ·show upd H 1 _ x.1 = _
  rw [upd_ne _ _ h]
  exact hr x hx h
end Go.Aw
namespace Go.Aw
open Go.Proofs Go.RowKit
set_option linter.unusedSimpArgs false
set_option linter.unusedVariables false
def rp1 (S : Sc) (i : Nat) : St := ⟨ofL [(1, .ptr 0 0 0), (3, .own 1), (4, .p (.int .i64 (i : Int)))], ofH [(0, .row 4 [cellsSc S]), (1, .row 1 (liftE (((S.msgs.take i).map Ms.name).map encS)))], 2⟩
def rp2 (S : Sc) (i : Nat) : St := ⟨ofL [(1, .ptr 0 0 0), (3, .own 1), (6, .p (.int .i64 (i : Int)))], ofH [(0, .row 4 [cellsSc S]), (1, .row 1 (liftE ((S.msgs.map Ms.name ++ (S.enums.take i).map En.name).map encS)))], 2⟩
def rp3 (S : Sc) (i : Nat) : St := ⟨ofL [(1, .ptr 0 0 0), (4, .own 1), (5, .p (.int .i64 (i : Int)))], ofH [(0, .row 4 [cellsSc S]), (1, .row 1 (liftE (((S.meths.take i).map Mt.name).map encS)))], 2⟩
set_option maxRecDepth 100000 in
set_option maxHeartbeats 8000000 in
theorem ref07_parts (S : Sc) (L : LensS S) : PFn Tryd.prog 64 [.agg (encSc S)] (.int .i64 (partsC S)) := by
 refine PFn.of Tryd.func64 rfl (by decide) Tryd.ntmps64 Tryd.results64 (Nat.le_of_ble_eq_true rfl) ?_
 simp only [argsT, encSc]
 have Lm := L.m
 have Le := L.e
 refine AW.rT (by rfl) fun K hK => ?_
 simp -implicitDefEqProofs only [go_sem, Nat.reduceAdd]
 refine hK _ ?_; clear hK K
 refine AW.rT (by rfl) fun K hK => ?_
 simp -implicitDefEqProofs only [go_sem, Nat.reduceAdd]
 refine hK _ ?_; clear hK K
 refine AW.seq ?_
 refine AW.rT (by rfl) fun K hK => ?_
 simp -implicitDefEqProofs only [go_sem, Nat.reduceAdd]
 refine hK _ ?_; clear hK K
 refine AW.block ?_
 refine AW.loop (rp1 S) (fun i => i ≤ S.msgs.length ∧ partsC S = msgsC S (fun ns => enumsC ns S.enums) ((S.msgs.take i).map Ms.name) (S.msgs.drop i)) (fun i => S.msgs.length - i) 0 ?_ ⟨by omega, by simp [partsC]⟩ fun i hi => ?_
 ·refine Ghost.trans (Ghost.nil (t := 3) (sz := 1) rfl) ?_
  simp only [rp1, cellsSc]
  refine Ghost.ent (fun l => if l = 0 then 0 else 4) ?_ ?_ ?_ <;> simp -implicitDefEqProofs only [go_sem, ↓reduceIte, Nat.reduceEqDiff, reduceCtorEq, List.take_zero, List.map_nil, liftE_nil, List.forall_mem_cons, List.not_mem_nil, false_implies, implies_true, and_self, List.all_cons, List.all_nil, Nat.reduceLT, labsInL, AV.labsIn]
  all_goals first | rfl | decide | skip
 obtain ⟨i1, i2⟩ := hi
 simp only [rp1, cellsSc]
 refine AW.seq ?_
 by_cases hil : i < S.msgs.length
 ·obtain ⟨m, hm⟩ : ∃ m, S.msgs[i]? = some m := ⟨_, List.getElem?_eq_getElem hil⟩
  have ⟨hm1, hm2, hm3⟩ := at_map' encMs hm
  have hm2' : (i : Int) < (S.msgs.length : Int) := by omega
  have hc1 : ((i : Int) < (S.msgs.length : Int)) = True := eq_true (by omega)
  have w1 : IntKind.wrap .i64 ((i : Int) + 1) = ((i + 1 : Nat) : Int) := by rw [w64] <;> omega
  rw [msgsC_at hm] at i2
  have hnx := take_map_next Ms.name hm
  have hNl : ((S.msgs.take i).map Ms.name).length ≤ 1000000 := by rw [List.length_map, List.length_take]; omega
  generalize hN : (S.msgs.take i).map Ms.name = N at *
  have FR := ref07_fresh N m.name (by omega) (L.msgs m (List.mem_of_getElem? hm)).1
  have CM := ref07_message S m L.m L.e (L.msgs m (List.mem_of_getElem? hm))
  simp only [encSc, encMs] at CM
  refine AW.rT (by rfl) fun K hK => ?_
  simp -implicitDefEqProofs only [go_sem, ↓reduceIte, Nat.reduceAdd, Nat.reduceEqDiff, hc1, List.length_map]
  refine hK _ ?_; clear hK K
  refine AW.cond _ (by simp -implicitDefEqProofs only [go_sem]; rfl) (fun hc => ?_) (fun hc => ?_)
  rotate_left
  ·simp at hc
  refine AW.skip ?_
  simp only [andThen]
  refine AW.seq ?_
  refine AW.block ?_
  refine AW.seq ?_
  cases ht : takesB N m.name with
  | false =>
   have hv : msgC S N m = 6 := by unfold msgC; rw [ht]; rfl
   rw [hv, if_neg (by decide)] at i2
   rw [ht] at FR
   refine AW.rT (by rfl) fun K hK => ?_
   simp -implicitDefEqProofs only [go_sem, ↓reduceIte, Nat.reduceAdd, Nat.reduceEqDiff, hm1, hm2', hm3, encMs, List.length_map]
   refine ⟨.peek _, ⟨FR, rfl⟩, ?_⟩
   try simp -implicitDefEqProofs only [go_sem, Nat.reduceAdd]
   refine hK _ ?_; clear hK K
   refine AW.cond _ (by simp -implicitDefEqProofs only [go_sem]; rfl) (fun hc => ?_) (fun hc => ?_)
   rotate_left
   ·simp at hc
   refine AW.rT (by rfl) fun K hK => ?_
   simp -implicitDefEqProofs only [go_sem, Nat.reduceAdd]
   refine hK _ ?_; clear hK K
   refine AW.ret ?_
   simp -implicitDefEqProofs only [go_sem, i2]
  | true =>
  have hv : msgC S N m = bodyC S m := by unfold msgC; rw [ht]; rfl
  rw [hv] at i2
  rw [ht] at FR
  refine AW.rT (by rfl) fun K hK => ?_
  simp -implicitDefEqProofs only [go_sem, ↓reduceIte, Nat.reduceAdd, Nat.reduceEqDiff, hm1, hm2', hm3, encMs, List.length_map]
  refine ⟨.peek _, ⟨FR, rfl⟩, ?_⟩
  try simp -implicitDefEqProofs only [go_sem, Nat.reduceAdd]
  refine hK _ ?_; clear hK K
  refine AW.cond _ (by simp -implicitDefEqProofs only [go_sem]; rfl) (fun hc => ?_) (fun hc => ?_)
  ·simp at hc
  refine AW.skip ?_
  simp only [andThen]
  refine AW.rT (by rfl) fun K hK => ?_
  simp -implicitDefEqProofs only [go_sem, ↓reduceIte, Nat.reduceAdd, Nat.reduceMul, Nat.reduceEqDiff, Nat.reduceLeDiff, reduceCtorEq, hm1, hm2', hm3, encMs, List.length_map]
  refine ⟨⟨by simp, by simp [oneAll, AV.one, PV.one], by simp⟩, by simp [liftE_length]; omega, ?_⟩
  refine hK _ ?_; clear hK K
  refine AW.dT mixed (by rfl) (by decide +kernel) fun K hK => ?_
  simp -implicitDefEqProofs only [go_sem, ↓reduceIte, Nat.reduceAdd, Nat.reduceEqDiff, Nat.reduceLeDiff, reduceCtorEq, hm1, hm2', hm3, encMs, List.length_map]
  refine ⟨.pure _, CM, ?_⟩
  try simp -implicitDefEqProofs only [go_sem, ↓reduceIte, Nat.reduceAdd]
  refine ⟨heapOK_nil rfl, ?_⟩
  refine hK _ ?_; clear hK K
  by_cases hz : bodyC S m = 0
  ·have bz : (bodyC S m != 0) = false := by simp [hz]
   rw [if_pos hz] at i2
   refine AW.rT (by rfl) fun K hK => ?_
   simp -implicitDefEqProofs only [go_sem, ↓reduceIte, Nat.reduceAdd, bz]
   refine hK _ ?_; clear hK K
   refine AW.cond _ (by simp -implicitDefEqProofs only [go_sem]; rfl) (fun hc => ?_) (fun hc => ?_)
   ·simp at hc
   refine AW.skip ?_
   simp only [andThen, inBlk]
   refine AW.rE (by rfl) fun K hK => ?_
   simp -implicitDefEqProofs only [go_sem, ↓reduceIte, Nat.reduceAdd, Nat.reduceEqDiff, w1]
   refine hK _ ?_; clear hK K
   refine ⟨i + 1, ⟨by omega, by rw [hnx]; exact i2⟩, by omega, ?_⟩
   rw [hnx]
   refine Ghost.ent (fun l => if l = 0 then 0 else 24) ?_ ?_ ?_ <;> simp -implicitDefEqProofs only [go_sem, ↓reduceIte, Nat.reduceEqDiff, reduceCtorEq, encS, List.map_append, liftE_append, liftE_cons, liftE_nil, List.forall_mem_cons, List.not_mem_nil, false_implies, implies_true, and_self, map_renL_lift, labsIn_lift, List.all_append, List.all_cons, List.all_nil, List.map_append, Nat.reduceLT, labsInL, AV.labsIn]
  ·have bz : (bodyC S m != 0) = true := by simp [hz]
   rw [if_neg hz] at i2
   refine AW.rT (by rfl) fun K hK => ?_
   simp -implicitDefEqProofs only [go_sem, ↓reduceIte, Nat.reduceAdd, bz]
   refine hK _ ?_; clear hK K
   refine AW.cond _ (by simp -implicitDefEqProofs only [go_sem]; rfl) (fun hc => ?_) (fun hc => ?_)
   rotate_left
   ·simp at hc
   refine AW.rT (by rfl) fun K hK => ?_
   simp -implicitDefEqProofs only [go_sem, ↓reduceIte, Nat.reduceAdd, Nat.reduceEqDiff]
   refine hK _ ?_; clear hK K
   refine AW.ret ?_
   simp -implicitDefEqProofs only [go_sem, i2]
 have hc1 : ((i : Int) < (S.msgs.length : Int)) = False := eq_false (by omega)
 have ea : S.msgs.take i = S.msgs := List.take_of_length_le (by omega)
 rw [List.drop_of_length_le (by omega), msgsC, ea] at i2
 rw [ea]
 clear ea hil
 refine AW.rT (by rfl) fun K hK => ?_
 simp -implicitDefEqProofs only [go_sem, ↓reduceIte, Nat.reduceAdd, Nat.reduceEqDiff, hc1, List.length_map]
 refine hK _ ?_; clear hK K
 refine AW.cond _ (by simp -implicitDefEqProofs only [go_sem]; rfl) (fun hc => ?_) (fun hc => ?_)
 ·simp at hc
 refine AW.exit ?_
 simp only [andThen, inBlk, ↓reduceIte]
 refine AW.seq ?_
 refine AW.rT (by rfl) fun K hK => ?_
 simp -implicitDefEqProofs only [go_sem, Nat.reduceAdd]
 refine hK _ ?_; clear hK K
 refine AW.block ?_
 refine AW.loop (rp2 S) (fun i => i ≤ S.enums.length ∧ partsC S = enumsC (S.msgs.map Ms.name ++ (S.enums.take i).map En.name) (S.enums.drop i)) (fun i => S.enums.length - i) 0 ?_ ⟨by omega, by simpa using i2⟩ fun j hj => ?_
 ·simp only [rp2, cellsSc]
  refine Ghost.sub ?_ ?_ <;> simp -implicitDefEqProofs only [go_sem, ↓reduceIte, Nat.reduceEqDiff, List.take_zero, List.map_nil, List.append_nil, List.forall_mem_cons, List.not_mem_nil, false_implies, implies_true, and_self, labsIn_lift, List.all_cons, List.all_nil, Nat.reduceLT, labsInL, AV.labsIn]
  all_goals first | rfl | decide | skip
 clear i2 i1 hc1
 obtain ⟨j1, j2⟩ := hj
 simp only [rp2, cellsSc]
 refine AW.seq ?_
 by_cases hjl : j < S.enums.length
 case neg =>
  have hc1 : ((j : Int) < (S.enums.length : Int)) = False := eq_false (by omega)
  rw [List.drop_of_length_le (by omega), enumsC] at j2
  refine AW.rT (by rfl) fun K hK => ?_
  simp -implicitDefEqProofs only [go_sem, ↓reduceIte, Nat.reduceAdd, Nat.reduceEqDiff, hc1, List.length_map]
  refine hK _ ?_; clear hK K
  refine AW.cond _ (by simp -implicitDefEqProofs only [go_sem]; rfl) (fun hc => ?_) (fun hc => ?_)
  ·simp at hc
  refine AW.exit ?_
  simp only [andThen, inBlk, ↓reduceIte]
  refine AW.rT (by rfl) fun K hK => ?_
  simp -implicitDefEqProofs only [go_sem, Nat.reduceAdd]
  refine hK _ ?_; clear hK K
  refine AW.ret ?_
  simp -implicitDefEqProofs only [go_sem, j2]
 obtain ⟨m, hm⟩ : ∃ m, S.enums[j]? = some m := ⟨_, List.getElem?_eq_getElem hjl⟩
 have ⟨hm1, hm2, hm3⟩ := at_map' encEn hm
 have hm2' : (j : Int) < (S.enums.length : Int) := by omega
 have hc1 : ((j : Int) < (S.enums.length : Int)) = True := eq_true (by omega)
 have w1 : IntKind.wrap .i64 ((j : Int) + 1) = ((j + 1 : Nat) : Int) := by rw [w64] <;> omega
 rw [enumsC_at hm] at j2
 have hnx : S.msgs.map Ms.name ++ (S.enums.take (j + 1)).map En.name = (S.msgs.map Ms.name ++ (S.enums.take j).map En.name) ++ [m.name] := by rw [take_map_next En.name hm, List.append_assoc]
 have hNl : (S.msgs.map Ms.name ++ (S.enums.take j).map En.name).length ≤ 2000000 := by simp; omega
 generalize hN : S.msgs.map Ms.name ++ (S.enums.take j).map En.name = N at *
 have FR := ref07_fresh N m.name (by omega) (L.enums m (List.mem_of_getElem? hm)).1
 have CM := ref07_enum m (L.enums m (List.mem_of_getElem? hm))
 simp only [encEn] at CM
 refine AW.rT (by rfl) fun K hK => ?_
 simp -implicitDefEqProofs only [go_sem, ↓reduceIte, Nat.reduceAdd, Nat.reduceEqDiff, hc1, List.length_map]
 refine hK _ ?_; clear hK K
 refine AW.cond _ (by simp -implicitDefEqProofs only [go_sem]; rfl) (fun hc => ?_) (fun hc => ?_)
 rotate_left
 ·simp at hc
 refine AW.skip ?_
 simp only [andThen]
 refine AW.seq ?_
 refine AW.block ?_
 refine AW.seq ?_
 cases ht : takesB N m.name with
 | false =>
  have hv : enumC N m = 6 := by unfold enumC; rw [ht]; rfl
  rw [hv, if_neg (by decide)] at j2
  rw [ht] at FR
  refine AW.rT (by rfl) fun K hK => ?_
  simp -implicitDefEqProofs only [go_sem, ↓reduceIte, Nat.reduceAdd, Nat.reduceEqDiff, hm1, hm2', hm3, encEn, List.length_map]
  refine ⟨.peek _, ⟨FR, rfl⟩, ?_⟩
  try simp -implicitDefEqProofs only [go_sem, Nat.reduceAdd]
  refine hK _ ?_; clear hK K
  refine AW.cond _ (by simp -implicitDefEqProofs only [go_sem]; rfl) (fun hc => ?_) (fun hc => ?_)
  rotate_left
  ·simp at hc
  refine AW.rT (by rfl) fun K hK => ?_
  simp -implicitDefEqProofs only [go_sem, Nat.reduceAdd]
  refine hK _ ?_; clear hK K
  refine AW.ret ?_
  simp -implicitDefEqProofs only [go_sem, j2]
 | true =>
 have hv : enumC N m = enumBody m := by unfold enumC; rw [ht]; rfl
 rw [hv] at j2
 rw [ht] at FR
 refine AW.rT (by rfl) fun K hK => ?_
 simp -implicitDefEqProofs only [go_sem, ↓reduceIte, Nat.reduceAdd, Nat.reduceEqDiff, hm1, hm2', hm3, encEn, List.length_map]
 refine ⟨.peek _, ⟨FR, rfl⟩, ?_⟩
 try simp -implicitDefEqProofs only [go_sem, Nat.reduceAdd]
 refine hK _ ?_; clear hK K
 refine AW.cond _ (by simp -implicitDefEqProofs only [go_sem]; rfl) (fun hc => ?_) (fun hc => ?_)
 ·simp at hc
 refine AW.skip ?_
 simp only [andThen]
 refine AW.rT (by rfl) fun K hK => ?_
 simp -implicitDefEqProofs only [go_sem, ↓reduceIte, Nat.reduceAdd, Nat.reduceMul, Nat.reduceEqDiff, Nat.reduceLeDiff, reduceCtorEq, hm1, hm2', hm3, encEn, List.length_map]
 refine ⟨⟨by simp, by simp [oneAll, AV.one, PV.one], by simp⟩, by simp [liftE_length]; omega, ?_⟩
 refine hK _ ?_; clear hK K
 refine AW.rT (by rfl) fun K hK => ?_
 simp -implicitDefEqProofs only [go_sem, ↓reduceIte, Nat.reduceAdd, Nat.reduceEqDiff, Nat.reduceLeDiff, reduceCtorEq, hm1, hm2', hm3, encEn, List.length_map]
 refine ⟨.pure _, CM, ?_⟩
 try simp -implicitDefEqProofs only [go_sem, Nat.reduceAdd]
 refine hK _ ?_; clear hK K
 by_cases hz : enumBody m = 0
 ·have bz : (enumBody m != 0) = false := by simp [hz]
  rw [if_pos hz] at j2
  refine AW.rT (by rfl) fun K hK => ?_
  simp -implicitDefEqProofs only [go_sem, ↓reduceIte, Nat.reduceAdd, bz]
  refine hK _ ?_; clear hK K
  refine AW.cond _ (by simp -implicitDefEqProofs only [go_sem]; rfl) (fun hc => ?_) (fun hc => ?_)
  ·simp at hc
  refine AW.skip ?_
  simp only [andThen, inBlk]
  refine AW.rE (by rfl) fun K hK => ?_
  simp -implicitDefEqProofs only [go_sem, ↓reduceIte, Nat.reduceAdd, Nat.reduceEqDiff, w1]
  refine hK _ ?_; clear hK K
  refine ⟨j + 1, ⟨by omega, by rw [hnx]; exact j2⟩, by omega, ?_⟩
  rw [hnx]
  refine Ghost.ent (fun l => if l = 0 then 0 else 24) ?_ ?_ ?_ <;> simp -implicitDefEqProofs only [go_sem, ↓reduceIte, Nat.reduceEqDiff, reduceCtorEq, encS, List.map_append, liftE_append, liftE_cons, liftE_nil, List.forall_mem_cons, List.not_mem_nil, false_implies, implies_true, and_self, map_renL_lift, labsIn_lift, List.all_append, List.all_cons, List.all_nil, List.map_append, Nat.reduceLT, labsInL, AV.labsIn]
 ·have bz : (enumBody m != 0) = true := by simp [hz]
  rw [if_neg hz] at j2
  refine AW.rT (by rfl) fun K hK => ?_
  simp -implicitDefEqProofs only [go_sem, ↓reduceIte, Nat.reduceAdd, bz]
  refine hK _ ?_; clear hK K
  refine AW.cond _ (by simp -implicitDefEqProofs only [go_sem]; rfl) (fun hc => ?_) (fun hc => ?_)
  rotate_left
  ·simp at hc
  refine AW.rT (by rfl) fun K hK => ?_
  simp -implicitDefEqProofs only [go_sem, ↓reduceIte, Nat.reduceAdd, Nat.reduceEqDiff]
  refine hK _ ?_; clear hK K
  refine AW.ret ?_
  simp -implicitDefEqProofs only [go_sem, j2]
set_option maxRecDepth 100000 in
set_option maxHeartbeats 8000000 in
theorem ref07_Check (S : Sc) (L : LensS S) : PFn Tryd.prog 29 [.agg (encSc S)] (.int .i64 (checkC S)) := by
 refine PFn.of Tryd.func29 rfl (by decide) Tryd.ntmps29 Tryd.results29 (Nat.le_of_ble_eq_true rfl) ?_
 simp only [argsT, encSc]
 have Lt := L.t
 refine AW.rT (by rfl) fun K hK => ?_
 simp -implicitDefEqProofs only [go_sem, Nat.reduceAdd]
 refine hK _ ?_; clear hK K
 refine AW.seq ?_
 refine AW.block ?_
 cases hn : nameB S.name with
 | false =>
  have e : checkC S = 6 := by unfold checkC; rw [hn]; rfl
  refine AW.rT (by rfl) fun K hK => ?_
  simp -implicitDefEqProofs only [go_sem, ↓reduceIte, Nat.reduceAdd, Nat.reduceEqDiff]
  refine ⟨.pure _, ref01_Name S.name L.name, ?_⟩
  try simp -implicitDefEqProofs only [go_sem, Nat.reduceAdd, hn]
  refine hK _ ?_; clear hK K
  refine AW.cond _ (by simp -implicitDefEqProofs only [go_sem]; rfl) (fun hc => ?_) (fun hc => ?_)
  rotate_left
  ·simp at hc
  refine AW.rT (by rfl) fun K hK => ?_
  simp -implicitDefEqProofs only [go_sem, Nat.reduceAdd]
  refine hK _ ?_; clear hK K
  refine AW.ret ?_
  simp -implicitDefEqProofs only [go_sem, e]
 | true =>
 have e0 : checkC S = if S.msgs.length = 0 then 12 else if S.msgs.length > 10 ∨ S.enums.length > 6 ∨ S.meths.length > 6 then 4 else if partsC S = 0 then methsC S [] S.meths else partsC S := by unfold checkC; rw [hn, if_pos rfl]
 refine AW.rT (by rfl) fun K hK => ?_
 simp -implicitDefEqProofs only [go_sem, ↓reduceIte, Nat.reduceAdd, Nat.reduceEqDiff]
 refine ⟨.pure _, ref01_Name S.name L.name, ?_⟩
 try simp -implicitDefEqProofs only [go_sem, Nat.reduceAdd, hn]
 refine hK _ ?_; clear hK K
 refine AW.cond _ (by simp -implicitDefEqProofs only [go_sem]; rfl) (fun hc => ?_) (fun hc => ?_)
 ·simp at hc
 by_cases c0 : S.msgs.length = 0
 ·have b0 : ((S.msgs.length : Int) == 0) = true := by rw [beq_iff_eq]; omega
  rw [if_pos c0] at e0
  refine AW.rT (by rfl) fun K hK => ?_
  simp -implicitDefEqProofs only [go_sem, ↓reduceIte, Nat.reduceAdd, Nat.reduceEqDiff, b0, List.length_map]
  refine hK _ ?_; clear hK K
  refine AW.cond _ (by simp -implicitDefEqProofs only [go_sem]; rfl) (fun hc => ?_) (fun hc => ?_)
  rotate_left
  ·simp at hc
  refine AW.rT (by rfl) fun K hK => ?_
  simp -implicitDefEqProofs only [go_sem, Nat.reduceAdd]
  refine hK _ ?_; clear hK K
  refine AW.ret ?_
  simp -implicitDefEqProofs only [go_sem, e0]
 rw [if_neg c0] at e0
 have b0 : ((S.msgs.length : Int) == 0) = false := beq_eq_false_iff_ne.2 (by omega)
 refine AW.rT (by rfl) fun K hK => ?_
 simp -implicitDefEqProofs only [go_sem, ↓reduceIte, Nat.reduceAdd, Nat.reduceEqDiff, b0, List.length_map]
 refine hK _ ?_; clear hK K
 refine AW.cond _ (by simp -implicitDefEqProofs only [go_sem]; rfl) (fun hc => ?_) (fun hc => ?_)
 ·simp at hc
 by_cases c1 : S.msgs.length > 10
 ·have b1 : ((S.msgs.length : Int) > 10) = True := eq_true (by omega)
  rw [if_pos (.inl c1)] at e0
  refine AW.rT (by rfl) fun K hK => ?_
  simp -implicitDefEqProofs only [go_sem, ↓reduceIte, Nat.reduceAdd, Nat.reduceEqDiff, b1, List.length_map]
  refine hK _ ?_; clear hK K
  refine AW.cond _ (by simp -implicitDefEqProofs only [go_sem]; rfl) (fun hc => ?_) (fun hc => ?_)
  rotate_left
  ·simp at hc
  refine AW.rT (by rfl) fun K hK => ?_
  simp -implicitDefEqProofs only [go_sem, Nat.reduceAdd]
  refine hK _ ?_; clear hK K
  refine AW.ret ?_
  simp -implicitDefEqProofs only [go_sem, e0]
 have b1 : ((S.msgs.length : Int) > 10) = False := eq_false (by omega)
 by_cases c2 : S.enums.length > 6
 ·have b2 : ((S.enums.length : Int) > 6) = True := eq_true (by omega)
  rw [if_pos (.inr (.inl c2))] at e0
  refine AW.rT (by rfl) fun K hK => ?_
  simp -implicitDefEqProofs only [go_sem, ↓reduceIte, Nat.reduceAdd, Nat.reduceEqDiff, b1, b2, List.length_map]
  refine hK _ ?_; clear hK K
  refine AW.cond _ (by simp -implicitDefEqProofs only [go_sem]; rfl) (fun hc => ?_) (fun hc => ?_)
  rotate_left
  ·simp at hc
  refine AW.rT (by rfl) fun K hK => ?_
  simp -implicitDefEqProofs only [go_sem, Nat.reduceAdd]
  refine hK _ ?_; clear hK K
  refine AW.ret ?_
  simp -implicitDefEqProofs only [go_sem, e0]
 have b2 : ((S.enums.length : Int) > 6) = False := eq_false (by omega)
 by_cases c3 : S.meths.length > 6
 ·have b3 : ((S.meths.length : Int) > 6) = True := eq_true (by omega)
  rw [if_pos (.inr (.inr c3))] at e0
  refine AW.rT (by rfl) fun K hK => ?_
  simp -implicitDefEqProofs only [go_sem, ↓reduceIte, Nat.reduceAdd, Nat.reduceEqDiff, b1, b2, b3, List.length_map]
  refine hK _ ?_; clear hK K
  refine AW.cond _ (by simp -implicitDefEqProofs only [go_sem]; rfl) (fun hc => ?_) (fun hc => ?_)
  rotate_left
  ·simp at hc
  refine AW.rT (by rfl) fun K hK => ?_
  simp -implicitDefEqProofs only [go_sem, Nat.reduceAdd]
  refine hK _ ?_; clear hK K
  refine AW.ret ?_
  simp -implicitDefEqProofs only [go_sem, e0]
 have b3 : ((S.meths.length : Int) > 6) = False := eq_false (by omega)
 rw [if_neg (by omega)] at e0
 refine AW.rT (by rfl) fun K hK => ?_
 simp -implicitDefEqProofs only [go_sem, ↓reduceIte, Nat.reduceAdd, Nat.reduceEqDiff, b1, b2, b3, List.length_map]
 refine hK _ ?_; clear hK K
 refine AW.cond _ (by simp -implicitDefEqProofs only [go_sem]; rfl) (fun hc => ?_) (fun hc => ?_)
 ·simp at hc
 refine AW.skip ?_
 simp only [andThen, inBlk]
 clear b1 b2 b3
 have PP := ref07_parts S L
 simp only [encSc] at PP
 refine AW.seq ?_
 refine AW.rT (by rfl) fun K hK => ?_
 simp -implicitDefEqProofs only [go_sem, ↓reduceIte, Nat.reduceAdd, Nat.reduceEqDiff, Nat.reduceLeDiff]
 refine ⟨.pure _, PP, ?_⟩
 try simp -implicitDefEqProofs only [go_sem, Nat.reduceAdd]
 refine hK _ ?_; clear hK K
 by_cases hz : partsC S = 0
 case neg =>
  have bz : (partsC S != 0) = true := by simp [hz]
  rw [if_neg hz] at e0
  refine AW.rT (by rfl) fun K hK => ?_
  simp -implicitDefEqProofs only [go_sem, ↓reduceIte, Nat.reduceAdd, bz]
  refine hK _ ?_; clear hK K
  refine AW.cond _ (by simp -implicitDefEqProofs only [go_sem]; rfl) (fun hc => ?_) (fun hc => ?_)
  rotate_left
  ·simp at hc
  refine AW.rT (by rfl) fun K hK => ?_
  simp -implicitDefEqProofs only [go_sem, ↓reduceIte, Nat.reduceAdd, Nat.reduceEqDiff]
  refine hK _ ?_; clear hK K
  refine AW.ret ?_
  simp -implicitDefEqProofs only [go_sem, e0]
 have bz : (partsC S != 0) = false := by simp [hz]
 rw [if_pos hz] at e0
 refine AW.rT (by rfl) fun K hK => ?_
 simp -implicitDefEqProofs only [go_sem, ↓reduceIte, Nat.reduceAdd, bz]
 refine hK _ ?_; clear hK K
 refine AW.cond _ (by simp -implicitDefEqProofs only [go_sem]; rfl) (fun hc => ?_) (fun hc => ?_)
 ·simp at hc
 refine AW.skip ?_
 simp only [andThen]
 refine AW.rT (by rfl) fun K hK => ?_
 simp -implicitDefEqProofs only [go_sem, Nat.reduceAdd]
 refine hK _ ?_; clear hK K
 refine AW.seq ?_
 refine AW.rT (by rfl) fun K hK => ?_
 simp -implicitDefEqProofs only [go_sem, Nat.reduceAdd]
 refine hK _ ?_; clear hK K
 refine AW.block ?_
 refine AW.loop (rp3 S) (fun i => i ≤ S.meths.length ∧ methsC S [] S.meths = methsC S ((S.meths.take i).map Mt.name) (S.meths.drop i)) (fun i => S.meths.length - i) 0 ?_ ⟨by omega, by simp⟩ fun k hk => ?_
 ·refine Ghost.trans (Ghost.nil (t := 4) (sz := 1) rfl) ?_
  simp only [rp3, cellsSc]
  refine Ghost.ent (fun l => if l = 0 then 0 else 36) ?_ ?_ ?_ <;> simp -implicitDefEqProofs only [go_sem, ↓reduceIte, Nat.reduceEqDiff, reduceCtorEq, List.take_zero, List.map_nil, liftE_nil, List.forall_mem_cons, List.not_mem_nil, false_implies, implies_true, and_self, List.all_cons, List.all_nil, Nat.reduceLT, labsInL, AV.labsIn]
  all_goals first | rfl | decide | skip
 obtain ⟨k1, k2⟩ := hk
 simp only [rp3, cellsSc]
 refine AW.seq ?_
 by_cases hkl : k < S.meths.length
 case neg =>
  have hc1 : ((k : Int) < (S.meths.length : Int)) = False := eq_false (by omega)
  rw [List.drop_of_length_le (by omega), methsC] at k2
  rw [k2] at e0
  refine AW.rT (by rfl) fun K hK => ?_
  simp -implicitDefEqProofs only [go_sem, ↓reduceIte, Nat.reduceAdd, Nat.reduceEqDiff, hc1, List.length_map]
  refine hK _ ?_; clear hK K
  refine AW.cond _ (by simp -implicitDefEqProofs only [go_sem]; rfl) (fun hc => ?_) (fun hc => ?_)
  ·simp at hc
  refine AW.exit ?_
  simp only [andThen, inBlk, ↓reduceIte]
  refine AW.rT (by rfl) fun K hK => ?_
  simp -implicitDefEqProofs only [go_sem, Nat.reduceAdd]
  refine hK _ ?_; clear hK K
  refine AW.ret ?_
  simp -implicitDefEqProofs only [go_sem, e0]
 obtain ⟨m, hm⟩ : ∃ m, S.meths[k]? = some m := ⟨_, List.getElem?_eq_getElem hkl⟩
 have ⟨hm1, hm2, hm3⟩ := at_map' encMt hm
 have hm2' : (k : Int) < (S.meths.length : Int) := by omega
 have hc1 : ((k : Int) < (S.meths.length : Int)) = True := eq_true (by omega)
 have w1 : IntKind.wrap .i64 ((k : Int) + 1) = ((k + 1 : Nat) : Int) := by rw [w64] <;> omega
 rw [methsC_at hm] at k2
 have hnx := take_map_next Mt.name hm
 have hNl : ((S.meths.take k).map Mt.name).length ≤ 1000000 := by rw [List.length_map, List.length_take]; omega
 generalize hN : (S.meths.take k).map Mt.name = N at *
 have FR := ref07_fresh N m.name (by omega) (L.meths m (List.mem_of_getElem? hm))
 have M1 := ref07_Message S m.inn L.m
 have M2 := ref07_Message S m.out L.m
 simp only [encSc, encMs] at M1 M2
 have h1 : hasM S m.inn = (firstP (fun x => x.name == m.inn) zMs S.msgs).2 := rfl
 have h2 : hasM S m.out = (firstP (fun x => x.name == m.out) zMs S.msgs).2 := rfl
 rw [← h1] at M1
 rw [← h2] at M2
 refine AW.rT (by rfl) fun K hK => ?_
 simp -implicitDefEqProofs only [go_sem, ↓reduceIte, Nat.reduceAdd, Nat.reduceEqDiff, hc1, List.length_map]
 refine hK _ ?_; clear hK K
 refine AW.cond _ (by simp -implicitDefEqProofs only [go_sem]; rfl) (fun hc => ?_) (fun hc => ?_)
 rotate_left
 ·simp at hc
 refine AW.skip ?_
 simp only [andThen]
 refine AW.seq ?_
 refine AW.block ?_
 refine AW.rT (by rfl) fun K hK => ?_
 simp -implicitDefEqProofs only [go_sem, ↓reduceIte, Nat.reduceAdd, Nat.reduceEqDiff, Nat.reduceLeDiff, hm1, hm2', hm3, encMt, List.length_map]
 refine hK _ ?_; clear hK K
 refine AW.seq ?_
 cases ht : takesB N m.name with
 | false =>
  rw [ht, if_neg (by simp)] at k2
  rw [k2] at e0
  rw [ht] at FR
  refine AW.rT (by rfl) fun K hK => ?_
  simp -implicitDefEqProofs only [go_sem, ↓reduceIte, Nat.reduceAdd, Nat.reduceEqDiff]
  refine ⟨.peek _, ⟨FR, rfl⟩, ?_⟩
  try simp -implicitDefEqProofs only [go_sem, Nat.reduceAdd]
  refine hK _ ?_; clear hK K
  refine AW.cond _ (by simp -implicitDefEqProofs only [go_sem]; rfl) (fun hc => ?_) (fun hc => ?_)
  rotate_left
  ·simp at hc
  refine AW.rT (by rfl) fun K hK => ?_
  simp -implicitDefEqProofs only [go_sem, Nat.reduceAdd]
  refine hK _ ?_; clear hK K
  refine AW.ret ?_
  simp -implicitDefEqProofs only [go_sem, e0]
 | true =>
 rw [ht, if_pos rfl] at k2
 rw [ht] at FR
 refine AW.rT (by rfl) fun K hK => ?_
 simp -implicitDefEqProofs only [go_sem, ↓reduceIte, Nat.reduceAdd, Nat.reduceEqDiff]
 refine ⟨.peek _, ⟨FR, rfl⟩, ?_⟩
 try simp -implicitDefEqProofs only [go_sem, Nat.reduceAdd]
 refine hK _ ?_; clear hK K
 refine AW.cond _ (by simp -implicitDefEqProofs only [go_sem]; rfl) (fun hc => ?_) (fun hc => ?_)
 ·simp at hc
 refine AW.skip ?_
 simp only [andThen]
 refine AW.rT (by rfl) fun K hK => ?_
 simp -implicitDefEqProofs only [go_sem, ↓reduceIte, Nat.reduceAdd, Nat.reduceMul, Nat.reduceEqDiff, Nat.reduceLeDiff, reduceCtorEq]
 refine ⟨⟨by simp, by simp [oneAll, AV.one, PV.one], by simp⟩, by simp [liftE_length]; omega, ?_⟩
 refine hK _ ?_; clear hK K
 refine AW.rT (by rfl) fun K hK => ?_
 simp -implicitDefEqProofs only [go_sem, ↓reduceIte, Nat.reduceAdd, Nat.reduceEqDiff, Nat.reduceLeDiff, reduceCtorEq]
 refine ⟨.pure _, M1, ?_⟩
 try simp -implicitDefEqProofs only [go_sem, ↓reduceIte, Nat.reduceAdd, Nat.reduceEqDiff, Nat.reduceLeDiff]
 refine hK _ ?_; clear hK K
 refine AW.rT (by rfl) fun K hK => ?_
 simp -implicitDefEqProofs only [go_sem, ↓reduceIte, Nat.reduceAdd, Nat.reduceEqDiff, Nat.reduceLeDiff, reduceCtorEq]
 refine ⟨.pure _, M2, ?_⟩
 try simp -implicitDefEqProofs only [go_sem, ↓reduceIte, Nat.reduceAdd, Nat.reduceEqDiff, Nat.reduceLeDiff]
 refine hK _ ?_; clear hK K
 cases hi : hasM S m.inn with
 | false =>
  rw [hi, Bool.false_and, if_neg (by simp)] at k2
  rw [k2] at e0
  refine AW.rT (by rfl) fun K hK => ?_
  simp -implicitDefEqProofs only [go_sem, ↓reduceIte, Nat.reduceAdd, Nat.reduceEqDiff]
  refine hK _ ?_; clear hK K
  refine AW.cond _ (by simp -implicitDefEqProofs only [go_sem]; rfl) (fun hc => ?_) (fun hc => ?_)
  rotate_left
  ·simp at hc
  refine AW.rT (by rfl) fun K hK => ?_
  simp -implicitDefEqProofs only [go_sem, Nat.reduceAdd]
  refine hK _ ?_; clear hK K
  refine AW.ret ?_
  simp -implicitDefEqProofs only [go_sem, e0]
 | true =>
 cases ho : hasM S m.out with
 | false =>
  rw [hi, ho, if_neg (by simp)] at k2
  rw [k2] at e0
  refine AW.rT (by rfl) fun K hK => ?_
  simp -implicitDefEqProofs only [go_sem, ↓reduceIte, Nat.reduceAdd, Nat.reduceEqDiff]
  refine hK _ ?_; clear hK K
  refine AW.cond _ (by simp -implicitDefEqProofs only [go_sem]; rfl) (fun hc => ?_) (fun hc => ?_)
  rotate_left
  ·simp at hc
  refine AW.rT (by rfl) fun K hK => ?_
  simp -implicitDefEqProofs only [go_sem, Nat.reduceAdd]
  refine hK _ ?_; clear hK K
  refine AW.ret ?_
  simp -implicitDefEqProofs only [go_sem, e0]
 | true =>
  rw [hi, ho, if_pos (by rfl)] at k2
  refine AW.rT (by rfl) fun K hK => ?_
  simp -implicitDefEqProofs only [go_sem, ↓reduceIte, Nat.reduceAdd, Nat.reduceEqDiff]
  refine hK _ ?_; clear hK K
  refine AW.cond _ (by simp -implicitDefEqProofs only [go_sem]; rfl) (fun hc => ?_) (fun hc => ?_)
  ·simp at hc
  refine AW.skip ?_
  simp only [andThen, inBlk]
  refine AW.rE (by rfl) fun K hK => ?_
  simp -implicitDefEqProofs only [go_sem, ↓reduceIte, Nat.reduceAdd, Nat.reduceEqDiff, w1]
  refine hK _ ?_; clear hK K
  refine ⟨k + 1, ⟨by omega, by rw [hnx]; exact k2⟩, by omega, ?_⟩
  rw [hnx]
  refine Ghost.ent (fun l => if l = 0 then 0 else 23) ?_ ?_ ?_ <;> simp -implicitDefEqProofs only [go_sem, ↓reduceIte, Nat.reduceEqDiff, reduceCtorEq, encS, List.map_append, liftE_append, liftE_cons, liftE_nil, List.forall_mem_cons, List.not_mem_nil, false_implies, implies_true, and_self, map_renL_lift, labsIn_lift, List.all_append, List.all_cons, List.all_nil, List.map_append, Nat.reduceLT, labsInL, AV.labsIn]
end Go.Aw
namespace Go.Aw
open Go.Proofs Go.RowKit
set_option linter.unusedSimpArgs false
set_option linter.unusedVariables false
def fitsE (S U : Sc) (y z : Ty) : Bool := (firstP (fun x => x.name == y.name) zEn S.enums).2 && ((firstP (fun x => x.name == z.name) zEn U.enums).2 && (firstP (fun x => x.name == y.name) zEn S.enums).1.vals.all fun v => (firstP (fun x => x.name == z.name) zEn U.enums).1.vals.contains v)
def fitsB (S U : Sc) (y z : Ty) : Bool := if y.kind = 1 ∧ z.kind = 2 then true else if y.kind ≠ z.kind then false else if y.kind ≠ 6 then true else fitsE S U y z
end Go.Aw
