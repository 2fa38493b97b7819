/- What the law LawInterpThere leans on, joined (part 4). -/
import Derived.Test.YtpbangopjdlfcaaDoorZinterpThere3
set_option linter.unusedSimpArgs false
set_option linter.unusedVariables false
set_option maxRecDepth 100000
set_option maxHeartbeats 8000000
namespace Go.Aw
open Go.Proofs Go.RowKit
theorem lift_len {α : Type} {f : α → List PV} {n : Nat} (h : ∀ a, (f a).length = n) (l : List α) : ∀ y ∈ liftE (l.map f), y.length = n := by
 intro y hy
 unfold liftE at hy
 rw [List.map_map] at hy
 obtain ⟨a, _, rfl⟩ := List.mem_map.1 hy
 simp [h]
theorem one_lift {l : List PV} (h : ∀ p ∈ l, p.one = true) : oneAll (l.map AV.p) = true := by
 induction l with
 | nil => rfl
 | cons a l ih =>
  rw [List.map_cons, oneAll, ih fun p hp => h p (List.mem_cons_of_mem _ hp), Bool.and_true]
  exact h a List.mem_cons_self
theorem lift_one {α : Type} {f : α → List PV} (h : ∀ a, ∀ p ∈ f a, p.one = true) (l : List α) : ∀ y ∈ liftE (l.map f), oneAll y = true := by
 intro y hy
 unfold liftE at hy
 rw [List.map_map] at hy
 obtain ⟨a, _, rfl⟩ := List.mem_map.1 hy
 exact one_lift (h a)
theorem one_I (a : Int) : ∀ p ∈ encI a, p.one = true := by intro p hp; simp [encI] at hp; subst hp; rfl
theorem one_Fd (a : Fd) : ∀ p ∈ encFd a, p.one = true := by intro p hp; simp [encFd] at hp; rcases hp with rfl | rfl | rfl | rfl | rfl <;> rfl
theorem one_Nm (a : Nm) : ∀ p ∈ encNm a, p.one = true := by intro p hp; simp [encNm] at hp; rcases hp with rfl | rfl <;> rfl
theorem one_Mt (a : Mt) : ∀ p ∈ encMt a, p.one = true := by intro p hp; simp [encMt] at hp; rcases hp with rfl | rfl | rfl <;> rfl
theorem law00_Ints (l : List Int) (hl : l.length ≤ 1000000) : PFn Tryd.prog 65 [.slice (l.map encI)] (.slice (l.map encI)) := by
 refine PFn.of Tryd.func65 rfl (by decide) Tryd.ntmps65 Tryd.results65 (Nat.le_of_ble_eq_true rfl) ?_
 simp only [argsT]
 refine AW.rT (by rfl) fun K hK => ?_
 simp -implicitDefEqProofs only [go_sem]
 apply hK; clear hK K
 refine AW.rT (by rfl) fun K hK => ?_
 simp -implicitDefEqProofs only [go_sem, ↓reduceIte, Nat.reduceAdd, Nat.reduceLeDiff, reduceCtorEq]
 refine ⟨⟨lift_len (f := encI) (fun _ => rfl) l, lift_one one_I l, by simp⟩, ⟨.inl trivial, by simp, by rw [liftE_length, List.length_map]; omega⟩, ?_⟩
 apply hK; clear hK K
 refine AW.ret ?_
 simp -implicitDefEqProofs only [go_sem]
theorem law00_Place (p n : Int) (hn : 0 < n) (hb : n ≤ 9223372036854775807) (hp : -9223372036854775808 ≤ p) (hq : p ≤ 9223372036854775807) : PFn Tryd.prog 22 [.int .i64 p, .int .i64 n] (.int .i64 (p % n)) := by
 refine PFn.of Tryd.func22 rfl (by decide) Tryd.ntmps22 Tryd.results22 (Nat.le_of_ble_eq_true rfl) ?_
 simp only [argsT]
 have z : (n = 0) = False := eq_false (by omega)
 have hm := Int.emod_nonneg p (show n ≠ 0 by omega)
 have hm2 := Int.emod_lt_of_pos p hn
 refine AW.rT (by rfl) fun K hK => ?_
 simp -implicitDefEqProofs only [go_sem]
 apply hK; clear hK K
 refine AW.rT (by rfl) fun K hK => ?_
 simp -implicitDefEqProofs only [go_sem, ↓reduceIte, Nat.reduceAdd, Nat.reduceEqDiff, reduceCtorEq, z]
 apply hK; clear hK K
 refine AW.seq ?_
 have ht : p.tmod n = if 0 ≤ p ∨ p % n = 0 then p % n else p % n - n := by
  rw [Int.tmod_eq_emod]
  have hd : n ∣ p ↔ p % n = 0 := Int.dvd_iff_emod_eq_zero
  have hna : (n.natAbs : Int) = n := by omega
  by_cases h : 0 ≤ p ∨ n ∣ p
  ·rw [if_pos h, if_pos (by rcases h with h | h; exact .inl h; exact .inr (hd.1 h))]; simp
  ·rw [if_neg h, if_neg (by intro h'; apply h; rcases h' with h' | h'; exact .inl h'; exact .inr (hd.2 h')), hna]
 by_cases h : p.tmod n < 0
 ·have f1 : (p.tmod n < 0) = True := eq_true h
  have e : IntKind.wrap .i64 (p.tmod n + n) = p % n := by
   rw [w64]
   all_goals
    split at ht <;> omega
  refine AW.rT (by rfl) fun K hK => ?_
  simp -implicitDefEqProofs only [go_sem, ↓reduceIte, Nat.reduceAdd, f1]
  apply hK; clear hK K
  refine AW.cT rfl ?_
  refine AW.rE (by rfl) fun K hK => ?_
  simp -implicitDefEqProofs only [go_sem, ↓reduceIte, Nat.reduceAdd, Nat.reduceEqDiff, e]
  apply hK; clear hK K
  simp only [andThen]
  refine AW.rT (by rfl) fun K hK => ?_
  simp -implicitDefEqProofs only [go_sem, Nat.reduceAdd]
  apply hK; clear hK K
  refine AW.ret ?_
  simp -implicitDefEqProofs only [go_sem]
 ·have f1 : (p.tmod n < 0) = False := eq_false h
  have e : p.tmod n = p % n := by
   split at ht <;> omega
  refine AW.rT (by rfl) fun K hK => ?_
  simp -implicitDefEqProofs only [go_sem, ↓reduceIte, Nat.reduceAdd, f1]
  apply hK; clear hK K
  refine AW.cF rfl ?_
  refine AW.skip ?_
  simp only [andThen]
  refine AW.rT (by rfl) fun K hK => ?_
  simp -implicitDefEqProofs only [go_sem, ↓reduceIte, Nat.reduceAdd, Nat.reduceEqDiff]
  apply hK; clear hK K
  refine AW.ret ?_
  simp -implicitDefEqProofs only [go_sem, e]
def fdFew (f : Fd) : Bool := decide (f.name.length ≤ 200 ∧ f.ty.name.length ≤ 200)
def msFew (m : Ms) : Bool := decide (m.fields.length ≤ 20 ∧ m.res.length ≤ 40) && m.fields.all fdFew
def nmFew (v : Nm) : Bool := decide (v.name.length ≤ 200)
def enFew (e : En) : Bool := decide (e.name.length ≤ 200 ∧ e.vals.length ≤ 24) && e.vals.all nmFew
def mtFew (t : Mt) : Bool := decide (t.name.length ≤ 200 ∧ t.inn.length ≤ 200 ∧ t.out.length ≤ 200)
def totN (S : Sc) (k : Nat) : Nat := S.name.length + ((S.msgs.take k).map fun m => m.name.length).sum
def fewB (S : Sc) : Bool := (S.msgs.take 20).all msFew && ((S.enums.take 20).all enFew && ((S.meths.take 20).all mtFew && decide (totN S 20 < 3000 ∧ S.msgs.length ≤ 14 ∧ S.enums.length ≤ 10 ∧ S.meths.length ≤ 10)))
def bigS (S : Sc) : Prop := S.name.length ≤ reachBytes ∧ ∀ m ∈ S.msgs, m.name.length ≤ reachBytes
theorem tot_next {S : Sc} {i : Nat} {m : Ms} (h : S.msgs[i]? = some m) : totN S (i + 1) = totN S i + m.name.length := by
 unfold totN
 rw [List.take_add_one, h]
 simp; omega
theorem sum_le {l : List Ms} {n : Nat} (h : ∀ m ∈ l, m.name.length ≤ n) : (l.map fun m => m.name.length).sum ≤ l.length * n := by
 induction l with
 | nil => simp
 | cons a l ih =>
  rw [List.map_cons, List.sum_cons, List.length_cons, Nat.add_mul]
  have := h a List.mem_cons_self
  have := ih fun m hm => h m (List.mem_cons_of_mem _ hm)
  omega
theorem tot_le {S : Sc} (h : bigS S) {i : Nat} (hi : i ≤ 20) : totN S i ≤ 21 * 140737488351232 := by
 have h1 := h.1
 have h2 := sum_le (l := S.msgs.take i) (n := reachBytes) fun m hm => h.2 m (List.mem_of_mem_take hm)
 have hl : (S.msgs.take i).length ≤ 20 := by rw [List.length_take]; omega
 have : (S.msgs.take i).length * reachBytes ≤ 20 * reachBytes := Nat.mul_le_mul_right _ hl
 have e : reachBytes = 140737488351232 := by decide
 unfold totN
 omega
theorem take_end {α : Type} {l : List α} {i : Nat} (hi : i ≤ l.length) (h2 : i ≤ 20) (h : ¬ (i < l.length ∧ i < 20)) : l.take i = l.take 20 := by
 by_cases h3 : i = 20
 ·rw [h3]
 ·rw [List.take_of_length_le (by omega), List.take_of_length_le (by omega)]
theorem few_msg {S : Sc} {i : Nat} {m : Ms} (h : S.msgs[i]? = some m) (hi : i < 20) (hm : msFew m = false) : fewB S = false := by
 have : (S.msgs.take 20).all msFew = false := all_not (k := i) (r := m) (by rw [List.getElem?_take, if_pos hi]; exact h) hm
 unfold fewB; rw [this]; rfl
theorem few_enum {S : Sc} {i : Nat} {m : En} (h : S.enums[i]? = some m) (hi : i < 20) (hm : enFew m = false) : fewB S = false := by
 have : (S.enums.take 20).all enFew = false := all_not (k := i) (r := m) (by rw [List.getElem?_take, if_pos hi]; exact h) hm
 unfold fewB; rw [this]; simp
theorem few_meth {S : Sc} {i : Nat} {m : Mt} (h : S.meths[i]? = some m) (hi : i < 20) (hm : mtFew m = false) : fewB S = false := by
 have : (S.meths.take 20).all mtFew = false := all_not (k := i) (r := m) (by rw [List.getElem?_take, if_pos hi]; exact h) hm
 unfold fewB; rw [this]; simp
def fw (S : Sc) (l : List (Nat × AV)) : St := ⟨ofL ((1, .ptr 0 0 0) :: l), ofH [(0, .row 4 [cellsSc S])], 1⟩
theorem law00_Few (S : Sc) (B : bigS S) : PFn Tryd.prog 19 [.agg (encSc S)] (.bool (fewB S)) := by
 refine PFn.of Tryd.func19 rfl (by decide) Tryd.ntmps19 Tryd.results19 (Nat.le_of_ble_eq_true rfl) ?_
 simp only [argsT, encSc]
 refine AW.rT (by rfl) fun K hK => ?_
 simp -implicitDefEqProofs only [go_sem, Nat.reduceAdd]
 apply hK; clear hK K
 refine AW.rT (by rfl) fun K hK => ?_
 simp -implicitDefEqProofs only [go_sem, ↓reduceIte, Nat.reduceAdd, Nat.reduceEqDiff]
 apply hK; clear hK K
 refine AW.cut (fun _ : Unit => fw S [(3, .p (.int .i64 (totN S 20 : Int)))]) (fun _ => (S.msgs.take 20).all msFew = true) ?_ fun _ qA => ?_
 rotate_left
 ·skip
  try simp only [fw, cellsSc]
  refine AW.cut (fun _ : Unit => fw S [(3, .p (.int .i64 (totN S 20 : Int)))]) (fun _ => (S.enums.take 20).all enFew = true) ?_ fun _ qC => ?_
  ·refine AW.rT (by rfl) fun K hK => ?_
   simp -implicitDefEqProofs only [go_sem, Nat.reduceAdd]
   apply hK; clear hK K
   refine AW.block ?_
   refine AW.loop (fun i : Nat => fw S [(3, .p (.int .i64 (totN S 20 : Int))), (7, .p (.int .i64 (i : Int)))]) (fun i => (i ≤ S.enums.length ∧ i ≤ 20) ∧ (S.enums.take i).all enFew = true) (fun i => 20 - i) 0 ?_ ⟨⟨by omega, by omega⟩, by simp⟩ fun i hi => ?_
   ·simp only [fw, cellsSc]
    refine Ghost.sub ?_ ?_ <;> simp -implicitDefEqProofs only [go_sem, ↓reduceIte, Nat.reduceEqDiff, List.forall_mem_cons, List.not_mem_nil, false_implies, implies_true, and_self, List.all_cons, List.all_nil, Nat.reduceLT, labsInL, AV.labsIn]
    all_goals first | rfl | decide | skip
   obtain ⟨⟨i1, i0⟩, i2⟩ := hi
   try simp only [fw, cellsSc]
   refine AW.seq ?_
   by_cases hil : i < S.enums.length ∧ i < 20
   ·have c1 : ((i : Int) < (S.enums.length : Int)) = True := eq_true (by omega)
    have c2 : ((i : Int) < 20) = True := eq_true (by omega)
    obtain ⟨m, hm⟩ : ∃ m, S.enums[i]? = some m := ⟨_, List.getElem?_eq_getElem hil.1⟩
    have ⟨hm1, hm2, hm3⟩ := at_map' encEn hm
    have hm2' : (i : Int) < (S.enums.length : Int) := by omega
    have w1 : IntKind.wrap .i64 ((i : Int) + 1) = ((i + 1 : Nat) : Int) := by rw [w64] <;> omega
    refine AW.rT (by rfl) fun K hK => ?_
    simp -implicitDefEqProofs only [go_sem, ↓reduceIte, Nat.reduceAdd, Nat.reduceEqDiff, c1, c2, List.length_map]
    apply hK; clear hK K
    refine AW.cT rfl ?_
    refine AW.skip ?_
    simp only [andThen]
    refine AW.seq ?_
    refine AW.block ?_
    refine AW.seq ?_
    by_cases a1 : m.name.length > 200
    ·have f1 : ((m.name.length : Int) > 200) = True := eq_true (by omega)
     have e := few_enum hm hil.2 (by unfold enFew; rw [decide_eq_false (by omega)]; rfl)
     refine AW.rT (by rfl) fun K hK => ?_
     simp -implicitDefEqProofs only [go_sem, ↓reduceIte, Nat.reduceAdd, Nat.reduceEqDiff, hm1, hm2', hm3, encEn, List.length_map, f1]
     apply hK; clear hK K
     refine AW.cT rfl ?_
     refine AW.rT (by rfl) fun K hK => ?_
     simp -implicitDefEqProofs only [go_sem, Nat.reduceAdd]
     apply hK; clear hK K
     refine AW.ret ?_
     simp -implicitDefEqProofs only [go_sem, e]
    have f1 : ((m.name.length : Int) > 200) = False := eq_false (by omega)
    by_cases a2 : m.vals.length > 24
    ·have f2 : ((m.vals.length : Int) > 24) = True := eq_true (by omega)
     have e := few_enum hm hil.2 (by unfold enFew; rw [decide_eq_false (by omega)]; rfl)
     refine AW.rT (by rfl) fun K hK => ?_
     simp -implicitDefEqProofs only [go_sem, ↓reduceIte, Nat.reduceAdd, Nat.reduceEqDiff, hm1, hm2', hm3, encEn, List.length_map, f1, f2]
     apply hK; clear hK K
     refine AW.cT rfl ?_
     refine AW.rT (by rfl) fun K hK => ?_
     simp -implicitDefEqProofs only [go_sem, Nat.reduceAdd]
     apply hK; clear hK K
     refine AW.ret ?_
     simp -implicitDefEqProofs only [go_sem, e]
    have f2 : ((m.vals.length : Int) > 24) = False := eq_false (by omega)
    refine AW.rT (by rfl) fun K hK => ?_
    simp -implicitDefEqProofs only [go_sem, ↓reduceIte, Nat.reduceAdd, Nat.reduceEqDiff, hm1, hm2', hm3, encEn, List.length_map, f1, f2]
    apply hK; clear hK K
    refine AW.cF rfl ?_
    refine AW.skip ?_
    simp only [andThen]
    refine AW.rT (by rfl) fun K hK => ?_
    simp -implicitDefEqProofs only [go_sem, Nat.reduceAdd]
    apply hK; clear hK K
    refine AW.block ?_
    refine AW.loop (fun j : Nat => fw S [(3, .p (.int .i64 (totN S 20 : Int))), (7, .p (.int .i64 (i : Int))), (8, .p (.int .i64 (j : Int)))]) (fun j => j ≤ m.vals.length ∧ (m.vals.take j).all nmFew = true) (fun j => m.vals.length - j) 0 ?_ ⟨by omega, by simp⟩ fun j hj => ?_
    ·simp only [fw, cellsSc]
     refine Ghost.sub ?_ ?_ <;> simp -implicitDefEqProofs only [go_sem, ↓reduceIte, Nat.reduceEqDiff, List.forall_mem_cons, List.not_mem_nil, false_implies, implies_true, and_self, List.all_cons, List.all_nil, Nat.reduceLT, labsInL, AV.labsIn]
     all_goals first | rfl | decide | skip
    obtain ⟨j1, j2⟩ := hj
    try simp only [fw, cellsSc]
    refine AW.seq ?_
    by_cases hjl : j < m.vals.length
    case neg =>
     have c3 : ((j : Int) < (m.vals.length : Int)) = False := eq_false (by omega)
     rw [List.take_of_length_le (by omega)] at j2
     have hmf : enFew m = true := by unfold enFew; rw [decide_eq_true (by omega), j2]; rfl
     refine AW.rT (by rfl) fun K hK => ?_
     simp -implicitDefEqProofs only [go_sem, ↓reduceIte, Nat.reduceAdd, Nat.reduceEqDiff, hm1, hm2', hm3, encEn, List.length_map, c3]
     apply hK; clear hK K
     refine AW.cF rfl ?_
     refine AW.exit ?_
     simp only [andThen, inBlk, ↓reduceIte]
     refine AW.rE (by rfl) fun K hK => ?_
     simp -implicitDefEqProofs only [go_sem, ↓reduceIte, Nat.reduceAdd, Nat.reduceEqDiff, w1]
     apply hK; clear hK K
     refine ⟨i + 1, ⟨⟨by omega, by omega⟩, all_next hm i2 hmf⟩, by omega, ?_⟩
     try simp only [fw, cellsSc]
     refine Ghost.sub ?_ ?_ <;> simp -implicitDefEqProofs only [go_sem, ↓reduceIte, Nat.reduceEqDiff, List.forall_mem_cons, List.not_mem_nil, false_implies, implies_true, and_self, List.all_cons, List.all_nil, Nat.reduceLT, labsInL, AV.labsIn]
    obtain ⟨f, hf⟩ : ∃ f, m.vals[j]? = some f := ⟨_, List.getElem?_eq_getElem hjl⟩
    have ⟨hf1, hf2, hf3⟩ := at_map' encNm hf
    have hf2' : (j : Int) < (m.vals.length : Int) := by omega
    have c3 : ((j : Int) < (m.vals.length : Int)) = True := eq_true (by omega)
    have w3 : IntKind.wrap .i64 ((j : Int) + 1) = ((j + 1 : Nat) : Int) := by rw [w64] <;> omega
    refine AW.rT (by rfl) fun K hK => ?_
    simp -implicitDefEqProofs only [go_sem, ↓reduceIte, Nat.reduceAdd, Nat.reduceEqDiff, hm1, hm2', hm3, encEn, List.length_map, c3]
    apply hK; clear hK K
    refine AW.cT rfl ?_
    refine AW.skip ?_
    simp only [andThen]
    refine AW.seq ?_
    refine AW.block ?_
    by_cases b1 : f.name.length > 200
    ·have f1 : ((f.name.length : Int) > 200) = True := eq_true (by omega)
     have e := few_enum hm hil.2 (by unfold enFew; rw [all_not hf (show nmFew f = false from decide_eq_false (by omega))]; simp)
     refine AW.rT (by rfl) fun K hK => ?_
     simp -implicitDefEqProofs only [go_sem, ↓reduceIte, Nat.reduceAdd, Nat.reduceEqDiff, hm1, hm2', hm3, encEn, List.length_map, hf1, hf2', hf3, encNm, f1]
     apply hK; clear hK K
     refine AW.cT rfl ?_
     refine AW.rT (by rfl) fun K hK => ?_
     simp -implicitDefEqProofs only [go_sem, Nat.reduceAdd]
     apply hK; clear hK K
     refine AW.ret ?_
     simp -implicitDefEqProofs only [go_sem, e]
    have f1 : ((f.name.length : Int) > 200) = False := eq_false (by omega)
    refine AW.rT (by rfl) fun K hK => ?_
    simp -implicitDefEqProofs only [go_sem, ↓reduceIte, Nat.reduceAdd, Nat.reduceEqDiff, hm1, hm2', hm3, encEn, List.length_map, hf1, hf2', hf3, encNm, f1]
    apply hK; clear hK K
    refine AW.cF rfl ?_
    refine AW.skip ?_
    simp only [andThen, inBlk]
    refine AW.rE (by rfl) fun K hK => ?_
    simp -implicitDefEqProofs only [go_sem, ↓reduceIte, Nat.reduceAdd, Nat.reduceEqDiff, w3]
    apply hK; clear hK K
    refine ⟨j + 1, ⟨by omega, all_next hf j2 (decide_eq_true (by omega))⟩, by omega, ?_⟩
    refine Ghost.sub ?_ ?_ <;> simp -implicitDefEqProofs only [go_sem, ↓reduceIte, Nat.reduceEqDiff, List.forall_mem_cons, List.not_mem_nil, false_implies, implies_true, and_self, List.all_cons, List.all_nil, Nat.reduceLT, labsInL, AV.labsIn]
   have ea := take_end i1 i0 hil
   rw [ea] at i2
   by_cases hil' : i < S.enums.length
   ·have c1 : ((i : Int) < (S.enums.length : Int)) = True := eq_true (by omega)
    have c2 : ((i : Int) < 20) = False := eq_false (by omega)
    refine AW.rT (by rfl) fun K hK => ?_
    simp -implicitDefEqProofs only [go_sem, ↓reduceIte, Nat.reduceAdd, Nat.reduceEqDiff, c1, c2, List.length_map]
    apply hK; clear hK K
    refine AW.cF rfl ?_
    refine AW.exit ?_
    simp only [andThen, inBlk, ↓reduceIte]
    refine ⟨(), i2, ?_⟩
    try simp only [fw, cellsSc]
    refine Ghost.sub ?_ ?_ <;> simp -implicitDefEqProofs only [go_sem, ↓reduceIte, Nat.reduceEqDiff, List.forall_mem_cons, List.not_mem_nil, false_implies, implies_true, and_self, List.all_cons, List.all_nil, Nat.reduceLT, labsInL, AV.labsIn]
   ·have c1 : ((i : Int) < (S.enums.length : Int)) = False := eq_false (by omega)
    refine AW.rT (by rfl) fun K hK => ?_
    simp -implicitDefEqProofs only [go_sem, ↓reduceIte, Nat.reduceAdd, Nat.reduceEqDiff, c1, List.length_map]
    apply hK; clear hK K
    refine AW.cF rfl ?_
    refine AW.exit ?_
    simp only [andThen, inBlk, ↓reduceIte]
    refine ⟨(), i2, ?_⟩
    try simp only [fw, cellsSc]
    refine Ghost.sub ?_ ?_ <;> simp -implicitDefEqProofs only [go_sem, ↓reduceIte, Nat.reduceEqDiff, List.forall_mem_cons, List.not_mem_nil, false_implies, implies_true, and_self, List.all_cons, List.all_nil, Nat.reduceLT, labsInL, AV.labsIn]
  try simp only [fw, cellsSc]
  refine AW.cut (fun _ : Unit => fw S [(3, .p (.int .i64 (totN S 20 : Int)))]) (fun _ => (S.meths.take 20).all mtFew = true) ?_ fun _ qE => ?_
  ·refine AW.rT (by rfl) fun K hK => ?_
   simp -implicitDefEqProofs only [go_sem, Nat.reduceAdd]
   apply hK; clear hK K
   refine AW.block ?_
   refine AW.loop (fun i : Nat => fw S [(3, .p (.int .i64 (totN S 20 : Int))), (9, .p (.int .i64 (i : Int)))]) (fun i => (i ≤ S.meths.length ∧ i ≤ 20) ∧ (S.meths.take i).all mtFew = true) (fun i => 20 - i) 0 ?_ ⟨⟨by omega, by omega⟩, by simp⟩ fun i hi => ?_
   ·simp only [fw, cellsSc]
    refine Ghost.sub ?_ ?_ <;> simp -implicitDefEqProofs only [go_sem, ↓reduceIte, Nat.reduceEqDiff, List.forall_mem_cons, List.not_mem_nil, false_implies, implies_true, and_self, List.all_cons, List.all_nil, Nat.reduceLT, labsInL, AV.labsIn]
    all_goals first | rfl | decide | skip
   obtain ⟨⟨i1, i0⟩, i2⟩ := hi
   try simp only [fw, cellsSc]
   refine AW.seq ?_
   by_cases hil : i < S.meths.length ∧ i < 20
   ·have c1 : ((i : Int) < (S.meths.length : Int)) = True := eq_true (by omega)
    have c2 : ((i : Int) < 20) = True := eq_true (by omega)
    obtain ⟨m, hm⟩ : ∃ m, S.meths[i]? = some m := ⟨_, List.getElem?_eq_getElem hil.1⟩
    have ⟨hm1, hm2, hm3⟩ := at_map' encMt hm
    have hm2' : (i : Int) < (S.meths.length : Int) := by omega
    have w1 : IntKind.wrap .i64 ((i : Int) + 1) = ((i + 1 : Nat) : Int) := by rw [w64] <;> omega
    refine AW.rT (by rfl) fun K hK => ?_
    simp -implicitDefEqProofs only [go_sem, ↓reduceIte, Nat.reduceAdd, Nat.reduceEqDiff, c1, c2, List.length_map]
    apply hK; clear hK K
    refine AW.cT rfl ?_
    refine AW.skip ?_
    simp only [andThen]
    refine AW.seq ?_
    refine AW.block ?_
    by_cases a1 : m.name.length > 200
    ·have f1 : ((m.name.length : Int) > 200) = True := eq_true (by omega)
     have e := few_meth hm hil.2 (decide_eq_false (by omega))
     refine AW.rT (by rfl) fun K hK => ?_
     simp -implicitDefEqProofs only [go_sem, ↓reduceIte, Nat.reduceAdd, Nat.reduceEqDiff, hm1, hm2', hm3, encMt, List.length_map, f1]
     apply hK; clear hK K
     refine AW.cT rfl ?_
     refine AW.rT (by rfl) fun K hK => ?_
     simp -implicitDefEqProofs only [go_sem, Nat.reduceAdd]
     apply hK; clear hK K
     refine AW.ret ?_
     simp -implicitDefEqProofs only [go_sem, e]
    have f1 : ((m.name.length : Int) > 200) = False := eq_false (by omega)
    by_cases a2 : m.inn.length > 200
    ·have f2 : ((m.inn.length : Int) > 200) = True := eq_true (by omega)
     have e := few_meth hm hil.2 (decide_eq_false (by omega))
     refine AW.rT (by rfl) fun K hK => ?_
     simp -implicitDefEqProofs only [go_sem, ↓reduceIte, Nat.reduceAdd, Nat.reduceEqDiff, hm1, hm2', hm3, encMt, List.length_map, f1, f2]
     apply hK; clear hK K
     refine AW.cT rfl ?_
     refine AW.rT (by rfl) fun K hK => ?_
     simp -implicitDefEqProofs only [go_sem, Nat.reduceAdd]
     apply hK; clear hK K
     refine AW.ret ?_
     simp -implicitDefEqProofs only [go_sem, e]
    have f2 : ((m.inn.length : Int) > 200) = False := eq_false (by omega)
    by_cases a3 : m.out.length > 200
    ·have f3 : ((m.out.length : Int) > 200) = True := eq_true (by omega)
     have e := few_meth hm hil.2 (decide_eq_false (by omega))
     refine AW.rT (by rfl) fun K hK => ?_
     simp -implicitDefEqProofs only [go_sem, ↓reduceIte, Nat.reduceAdd, Nat.reduceEqDiff, hm1, hm2', hm3, encMt, List.length_map, f1, f2, f3]
     apply hK; clear hK K
     refine AW.cT rfl ?_
     refine AW.rT (by rfl) fun K hK => ?_
     simp -implicitDefEqProofs only [go_sem, Nat.reduceAdd]
     apply hK; clear hK K
     refine AW.ret ?_
     simp -implicitDefEqProofs only [go_sem, e]
    have f3 : ((m.out.length : Int) > 200) = False := eq_false (by omega)
    refine AW.rT (by rfl) fun K hK => ?_
    simp -implicitDefEqProofs only [go_sem, ↓reduceIte, Nat.reduceAdd, Nat.reduceEqDiff, hm1, hm2', hm3, encMt, List.length_map, f1, f2, f3]
    apply hK; clear hK K
    refine AW.cF rfl ?_
    refine AW.skip ?_
    simp only [andThen, inBlk]
    refine AW.rE (by rfl) fun K hK => ?_
    simp -implicitDefEqProofs only [go_sem, ↓reduceIte, Nat.reduceAdd, Nat.reduceEqDiff, w1]
    apply hK; clear hK K
    refine ⟨i + 1, ⟨⟨by omega, by omega⟩, all_next hm i2 (decide_eq_true (by omega))⟩, by omega, ?_⟩
    try simp only [fw, cellsSc]
    refine Ghost.sub ?_ ?_ <;> simp -implicitDefEqProofs only [go_sem, ↓reduceIte, Nat.reduceEqDiff, List.forall_mem_cons, List.not_mem_nil, false_implies, implies_true, and_self, List.all_cons, List.all_nil, Nat.reduceLT, labsInL, AV.labsIn]
   have ea := take_end i1 i0 hil
   rw [ea] at i2
   by_cases hil' : i < S.meths.length
   ·have c1 : ((i : Int) < (S.meths.length : Int)) = True := eq_true (by omega)
    have c2 : ((i : Int) < 20) = False := eq_false (by omega)
    refine AW.rT (by rfl) fun K hK => ?_
    simp -implicitDefEqProofs only [go_sem, ↓reduceIte, Nat.reduceAdd, Nat.reduceEqDiff, c1, c2, List.length_map]
    apply hK; clear hK K
    refine AW.cF rfl ?_
    refine AW.exit ?_
    simp only [andThen, inBlk, ↓reduceIte]
    refine ⟨(), i2, ?_⟩
    try simp only [fw, cellsSc]
    refine Ghost.sub ?_ ?_ <;> simp -implicitDefEqProofs only [go_sem, ↓reduceIte, Nat.reduceEqDiff, List.forall_mem_cons, List.not_mem_nil, false_implies, implies_true, and_self, List.all_cons, List.all_nil, Nat.reduceLT, labsInL, AV.labsIn]
   ·have c1 : ((i : Int) < (S.meths.length : Int)) = False := eq_false (by omega)
    refine AW.rT (by rfl) fun K hK => ?_
    simp -implicitDefEqProofs only [go_sem, ↓reduceIte, Nat.reduceAdd, Nat.reduceEqDiff, c1, List.length_map]
    apply hK; clear hK K
    refine AW.cF rfl ?_
    refine AW.exit ?_
    simp only [andThen, inBlk, ↓reduceIte]
    refine ⟨(), i2, ?_⟩
    try simp only [fw, cellsSc]
    refine Ghost.sub ?_ ?_ <;> simp -implicitDefEqProofs only [go_sem, ↓reduceIte, Nat.reduceEqDiff, List.forall_mem_cons, List.not_mem_nil, false_implies, implies_true, and_self, List.all_cons, List.all_nil, Nat.reduceLT, labsInL, AV.labsIn]
  try simp only [fw, cellsSc]
  have eF : fewB S = decide (totN S 20 < 3000 ∧ S.msgs.length ≤ 14 ∧ S.enums.length ≤ 10 ∧ S.meths.length ≤ 10) := by
   unfold fewB; rw [qA, qC, qE]; simp only [Bool.true_and]
  by_cases a0 : totN S 20 < 3000
  case neg =>
   have f0 : ((totN S 20 : Int) < 3000) = False := eq_false (by omega)
   rw [decide_eq_false (by omega)] at eF
   refine AW.rT (by rfl) fun K hK => ?_
   simp -implicitDefEqProofs only [go_sem, ↓reduceIte, Nat.reduceAdd, Nat.reduceEqDiff, f0]
   apply hK; clear hK K
   refine AW.ret ?_
   simp -implicitDefEqProofs only [go_sem, eF]
  have f0 : ((totN S 20 : Int) < 3000) = True := eq_true (by omega)
  by_cases a1 : S.msgs.length ≤ 14
  case neg =>
   have f1 : ((S.msgs.length : Int) ≤ 14) = False := eq_false (by omega)
   rw [decide_eq_false (by omega)] at eF
   refine AW.rT (by rfl) fun K hK => ?_
   simp -implicitDefEqProofs only [go_sem, ↓reduceIte, Nat.reduceAdd, Nat.reduceEqDiff, f0, f1, List.length_map]
   apply hK; clear hK K
   refine AW.ret ?_
   simp -implicitDefEqProofs only [go_sem, eF]
  have f1 : ((S.msgs.length : Int) ≤ 14) = True := eq_true (by omega)
  by_cases a2 : S.enums.length ≤ 10
  case neg =>
   have f2 : ((S.enums.length : Int) ≤ 10) = False := eq_false (by omega)
   rw [decide_eq_false (by omega)] at eF
   refine AW.rT (by rfl) fun K hK => ?_
   simp -implicitDefEqProofs only [go_sem, ↓reduceIte, Nat.reduceAdd, Nat.reduceEqDiff, f0, f1, f2, List.length_map]
   apply hK; clear hK K
   refine AW.ret ?_
   simp -implicitDefEqProofs only [go_sem, eF]
  have f2 : ((S.enums.length : Int) ≤ 10) = True := eq_true (by omega)
  by_cases a3 : S.meths.length ≤ 10
  case neg =>
   have f3 : ((S.meths.length : Int) ≤ 10) = False := eq_false (by omega)
   rw [decide_eq_false (by omega)] at eF
   refine AW.rT (by rfl) fun K hK => ?_
   simp -implicitDefEqProofs only [go_sem, ↓reduceIte, Nat.reduceAdd, Nat.reduceEqDiff, f0, f1, f2, f3, List.length_map]
   apply hK; clear hK K
   refine AW.ret ?_
   simp -implicitDefEqProofs only [go_sem, eF]
  have f3 : ((S.meths.length : Int) ≤ 10) = True := eq_true (by omega)
  rw [decide_eq_true (by omega)] at eF
  refine AW.rT (by rfl) fun K hK => ?_
  simp -implicitDefEqProofs only [go_sem, ↓reduceIte, Nat.reduceAdd, Nat.reduceEqDiff, f0, f1, f2, f3, List.length_map]
  apply hK; clear hK K
  refine AW.ret ?_
  simp -implicitDefEqProofs only [go_sem, eF]
 refine AW.rT (by rfl) fun K hK => ?_
 simp -implicitDefEqProofs only [go_sem, Nat.reduceAdd]
 apply hK; clear hK K
 refine AW.block ?_
 refine AW.loop (fun i : Nat => fw S [(3, .p (.int .i64 (totN S i : Int))), (4, .p (.int .i64 (i : Int)))]) (fun i => (i ≤ S.msgs.length ∧ i ≤ 20) ∧ (S.msgs.take i).all msFew = true) (fun i => 20 - i) 0 ?_ ⟨⟨by omega, by omega⟩, by simp⟩ fun i hi => ?_
 ·simp only [fw, cellsSc]
  refine Ghost.sub ?_ ?_ <;> simp -implicitDefEqProofs only [go_sem, ↓reduceIte, Nat.reduceEqDiff, totN, List.take_zero, List.map_nil, List.sum_nil, List.forall_mem_cons, List.not_mem_nil, false_implies, implies_true, and_self, List.all_cons, List.all_nil, Nat.reduceLT, labsInL, AV.labsIn]
  all_goals first | rfl | decide | skip
 obtain ⟨⟨i1, i0⟩, i2⟩ := hi
 have ht := tot_le B i0
 try simp only [fw, cellsSc]
 refine AW.seq ?_
 by_cases hil : i < S.msgs.length ∧ i < 20
 ·have c1 : ((i : Int) < (S.msgs.length : Int)) = True := eq_true (by omega)
  have c2 : ((i : Int) < 20) = True := eq_true (by omega)
  obtain ⟨m, hm⟩ : ∃ m, S.msgs[i]? = some m := ⟨_, List.getElem?_eq_getElem hil.1⟩
  have ⟨hm1, hm2, hm3⟩ := at_map' encMs hm
  have hm2' : (i : Int) < (S.msgs.length : Int) := by omega
  have w1 : IntKind.wrap .i64 ((i : Int) + 1) = ((i + 1 : Nat) : Int) := by rw [w64] <;> omega
  have hbm : m.name.length ≤ reachBytes := B.2 m (List.mem_of_getElem? hm)
  have eb : reachBytes = 140737488351232 := by decide
  have hnt := tot_next hm
  have w2 : IntKind.wrap .i64 ((totN S i : Int) + (m.name.length : Int)) = (totN S (i + 1) : Int) := by rw [w64] <;> omega
  refine AW.rT (by rfl) fun K hK => ?_
  simp -implicitDefEqProofs only [go_sem, ↓reduceIte, Nat.reduceAdd, Nat.reduceEqDiff, c1, c2, List.length_map]
  apply hK; clear hK K
  refine AW.cT rfl ?_
  refine AW.skip ?_
  simp only [andThen]
  refine AW.seq ?_
  refine AW.block ?_
  refine AW.rT (by rfl) fun K hK => ?_
  simp -implicitDefEqProofs only [go_sem, ↓reduceIte, Nat.reduceAdd, Nat.reduceEqDiff, c1, List.length_map, hm1, hm3, encMs, w2]
  apply hK; clear hK K
  refine AW.seq ?_
  by_cases a1 : m.fields.length > 20
  ·have f1 : ((m.fields.length : Int) > 20) = True := eq_true (by omega)
   have e := few_msg hm hil.2 (by unfold msFew; rw [decide_eq_false (by omega)]; rfl)
   refine AW.rT (by rfl) fun K hK => ?_
   simp -implicitDefEqProofs only [go_sem, ↓reduceIte, Nat.reduceAdd, Nat.reduceEqDiff, hm1, hm2', hm3, encMs, List.length_map, f1]
   apply hK; clear hK K
   refine AW.cT rfl ?_
   refine AW.rT (by rfl) fun K hK => ?_
   simp -implicitDefEqProofs only [go_sem, Nat.reduceAdd]
   apply hK; clear hK K
   refine AW.ret ?_
   simp -implicitDefEqProofs only [go_sem, e]
  have f1 : ((m.fields.length : Int) > 20) = False := eq_false (by omega)
  by_cases a2 : m.res.length > 40
  ·have f2 : ((m.res.length : Int) > 40) = True := eq_true (by omega)
   have e := few_msg hm hil.2 (by unfold msFew; rw [decide_eq_false (by omega)]; rfl)
   refine AW.rT (by rfl) fun K hK => ?_
   simp -implicitDefEqProofs only [go_sem, ↓reduceIte, Nat.reduceAdd, Nat.reduceEqDiff, hm1, hm2', hm3, encMs, List.length_map, f1, f2]
   apply hK; clear hK K
   refine AW.cT rfl ?_
   refine AW.rT (by rfl) fun K hK => ?_
   simp -implicitDefEqProofs only [go_sem, Nat.reduceAdd]
   apply hK; clear hK K
   refine AW.ret ?_
   simp -implicitDefEqProofs only [go_sem, e]
  have f2 : ((m.res.length : Int) > 40) = False := eq_false (by omega)
  refine AW.rT (by rfl) fun K hK => ?_
  simp -implicitDefEqProofs only [go_sem, ↓reduceIte, Nat.reduceAdd, Nat.reduceEqDiff, hm1, hm2', hm3, encMs, List.length_map, f1, f2]
  apply hK; clear hK K
  refine AW.cF rfl ?_
  refine AW.skip ?_
  simp only [andThen]
  refine AW.rT (by rfl) fun K hK => ?_
  simp -implicitDefEqProofs only [go_sem, Nat.reduceAdd]
  apply hK; clear hK K
  refine AW.block ?_
  refine AW.loop (fun j : Nat => fw S [(3, .p (.int .i64 (totN S (i + 1) : Int))), (4, .p (.int .i64 (i : Int))), (5, .p (.int .i64 (j : Int)))]) (fun j => j ≤ m.fields.length ∧ (m.fields.take j).all fdFew = true) (fun j => m.fields.length - j) 0 ?_ ⟨by omega, by simp⟩ fun j hj => ?_
  ·simp only [fw, cellsSc]
   refine Ghost.sub ?_ ?_ <;> simp -implicitDefEqProofs only [go_sem, ↓reduceIte, Nat.reduceEqDiff, List.forall_mem_cons, List.not_mem_nil, false_implies, implies_true, and_self, List.all_cons, List.all_nil, Nat.reduceLT, labsInL, AV.labsIn]
   all_goals first | rfl | decide | skip
  obtain ⟨j1, j2⟩ := hj
  try simp only [fw, cellsSc]
  refine AW.seq ?_
  by_cases hjl : j < m.fields.length
  case neg =>
   have c3 : ((j : Int) < (m.fields.length : Int)) = False := eq_false (by omega)
   rw [List.take_of_length_le (by omega)] at j2
   have hmf : msFew m = true := by unfold msFew; rw [decide_eq_true (by omega), j2]; rfl
   refine AW.rT (by rfl) fun K hK => ?_
   simp -implicitDefEqProofs only [go_sem, ↓reduceIte, Nat.reduceAdd, Nat.reduceEqDiff, hm1, hm2', hm3, encMs, List.length_map, c3]
   apply hK; clear hK K
   refine AW.cF rfl ?_
   refine AW.exit ?_
   simp only [andThen, inBlk, ↓reduceIte]
   refine AW.rE (by rfl) fun K hK => ?_
   simp -implicitDefEqProofs only [go_sem, ↓reduceIte, Nat.reduceAdd, Nat.reduceEqDiff, w1]
   apply hK; clear hK K
   refine ⟨i + 1, ⟨⟨by omega, by omega⟩, all_next hm i2 hmf⟩, by omega, ?_⟩
   try simp only [fw, cellsSc]
   refine Ghost.sub ?_ ?_ <;> simp -implicitDefEqProofs only [go_sem, ↓reduceIte, Nat.reduceEqDiff, List.forall_mem_cons, List.not_mem_nil, false_implies, implies_true, and_self, List.all_cons, List.all_nil, Nat.reduceLT, labsInL, AV.labsIn]
  obtain ⟨f, hf⟩ : ∃ f, m.fields[j]? = some f := ⟨_, List.getElem?_eq_getElem hjl⟩
  have ⟨hf1, hf2, hf3⟩ := at_map' encFd hf
  have hf2' : (j : Int) < (m.fields.length : Int) := by omega
  have c3 : ((j : Int) < (m.fields.length : Int)) = True := eq_true (by omega)
  have w3 : IntKind.wrap .i64 ((j : Int) + 1) = ((j + 1 : Nat) : Int) := by rw [w64] <;> omega
  refine AW.rT (by rfl) fun K hK => ?_
  simp -implicitDefEqProofs only [go_sem, ↓reduceIte, Nat.reduceAdd, Nat.reduceEqDiff, hm1, hm2', hm3, encMs, List.length_map, c3]
  apply hK; clear hK K
  refine AW.cT rfl ?_
  refine AW.skip ?_
  simp only [andThen]
  refine AW.seq ?_
  refine AW.block ?_
  refine AW.rT (by rfl) fun K hK => ?_
  simp -implicitDefEqProofs only [go_sem, ↓reduceIte, Nat.reduceAdd, Nat.reduceEqDiff, Nat.reduceLeDiff, hm1, hm2', hm3, encMs, List.length_map, hf1, hf2', hf3, encFd]
  apply hK; clear hK K
  have bad : fdFew f = false → fewB S = false := fun h => few_msg hm hil.2 (by unfold msFew; rw [all_not hf h]; simp)
  by_cases b1 : f.name.length > 200
  ·have f1 : ((f.name.length : Int) > 200) = True := eq_true (by omega)
   have e := bad (decide_eq_false (by omega))
   refine AW.rT (by rfl) fun K hK => ?_
   simp -implicitDefEqProofs only [go_sem, ↓reduceIte, Nat.reduceAdd, Nat.reduceEqDiff, f1]
   apply hK; clear hK K
   refine AW.cT rfl ?_
   refine AW.rT (by rfl) fun K hK => ?_
   simp -implicitDefEqProofs only [go_sem, Nat.reduceAdd]
   apply hK; clear hK K
   refine AW.ret ?_
   simp -implicitDefEqProofs only [go_sem, e]
  have f1 : ((f.name.length : Int) > 200) = False := eq_false (by omega)
  by_cases b2 : f.ty.name.length > 200
  ·have f2 : ((f.ty.name.length : Int) > 200) = True := eq_true (by omega)
   have e := bad (decide_eq_false (by omega))
   refine AW.rT (by rfl) fun K hK => ?_
   simp -implicitDefEqProofs only [go_sem, ↓reduceIte, Nat.reduceAdd, Nat.reduceEqDiff, f1, f2]
   apply hK; clear hK K
   refine AW.cT rfl ?_
   refine AW.rT (by rfl) fun K hK => ?_
   simp -implicitDefEqProofs only [go_sem, Nat.reduceAdd]
   apply hK; clear hK K
   refine AW.ret ?_
   simp -implicitDefEqProofs only [go_sem, e]
  have f2 : ((f.ty.name.length : Int) > 200) = False := eq_false (by omega)
  refine AW.rT (by rfl) fun K hK => ?_
  simp -implicitDefEqProofs only [go_sem, ↓reduceIte, Nat.reduceAdd, Nat.reduceEqDiff, f1, f2]
  apply hK; clear hK K
  refine AW.cF rfl ?_
  refine AW.skip ?_
  simp only [andThen, inBlk]
  refine AW.rE (by rfl) fun K hK => ?_
  simp -implicitDefEqProofs only [go_sem, ↓reduceIte, Nat.reduceAdd, Nat.reduceEqDiff, w3]
  apply hK; clear hK K
  refine ⟨j + 1, ⟨by omega, all_next hf j2 (decide_eq_true (by omega))⟩, by omega, ?_⟩
  refine Ghost.sub ?_ ?_ <;> simp -implicitDefEqProofs only [go_sem, ↓reduceIte, Nat.reduceEqDiff, reduceCtorEq, List.forall_mem_cons, List.not_mem_nil, false_implies, implies_true, and_self, List.all_cons, List.all_nil, Nat.reduceLT, labsInL, AV.labsIn]
 have ea := take_end i1 i0 hil
 have et : totN S i = totN S 20 := by unfold totN; rw [ea]
 rw [ea] at i2
 by_cases hil' : i < S.msgs.length
 ·have c1 : ((i : Int) < (S.msgs.length : Int)) = True := eq_true (by omega)
  have c2 : ((i : Int) < 20) = False := eq_false (by omega)
  refine AW.rT (by rfl) fun K hK => ?_
  simp -implicitDefEqProofs only [go_sem, ↓reduceIte, Nat.reduceAdd, Nat.reduceEqDiff, c1, c2, List.length_map]
  apply hK; clear hK K
  refine AW.cF rfl ?_
  refine AW.exit ?_
  simp only [andThen, inBlk, ↓reduceIte]
  refine ⟨(), i2, ?_⟩
  try simp only [fw, cellsSc]
  refine Ghost.sub ?_ ?_ <;> simp -implicitDefEqProofs only [go_sem, ↓reduceIte, Nat.reduceEqDiff, et, List.forall_mem_cons, List.not_mem_nil, false_implies, implies_true, and_self, List.all_cons, List.all_nil, Nat.reduceLT, labsInL, AV.labsIn]
 ·have c1 : ((i : Int) < (S.msgs.length : Int)) = False := eq_false (by omega)
  refine AW.rT (by rfl) fun K hK => ?_
  simp -implicitDefEqProofs only [go_sem, ↓reduceIte, Nat.reduceAdd, Nat.reduceEqDiff, c1, List.length_map]
  apply hK; clear hK K
  refine AW.cF rfl ?_
  refine AW.exit ?_
  simp only [andThen, inBlk, ↓reduceIte]
  refine ⟨(), i2, ?_⟩
  try simp only [fw, cellsSc]
  refine Ghost.sub ?_ ?_ <;> simp -implicitDefEqProofs only [go_sem, ↓reduceIte, Nat.reduceEqDiff, et, List.forall_mem_cons, List.not_mem_nil, false_implies, implies_true, and_self, List.all_cons, List.all_nil, Nat.reduceLT, labsInL, AV.labsIn]
end Go.Aw
namespace Go.Aw
theorem Ghost.nilH {nt : Fm} {s : St} {l i j sz sz' : Nat} {es : List (List AV)} {e : List AV} (hl : s.H l = some (.row sz es)) (hi : es[i]? = some e) (hj : e[j]? = some (.ex [])) :
  Ghost nt s ⟨s.T, upd (upd s.H l (some (.row sz (es.set i (e.set j (.own s.nx)))))) s.nx (some (.row sz' [])), s.nx + 1⟩ := by
 rintro w0 X I0 a w ⟨σ, I, hσ, m⟩
 have hb := m.heap.rows l _ hl
 cases hb with
 | emp h => simp at hi
 | row h hg hcur hc hs ho hr =>
  rename_i g c cur et
  obtain ⟨u, hu, hru⟩ := hr i e j _ hi hj
  have hnx := hσ s.nx (Nat.le_refl _)
  have hln : l ≠ s.nx := by rintro rfl; rw [hnx] at h; cases h
  cases hru with
  | ex he hrep =>
   rename_i ad n
   subst he
   have ext : ∀ l' s', σ l' = some s' → upd σ s.nx (some (.emp ad)) l' = some s' := fun l' s' h' => by
    rw [upd_ne _ _ (by rintro rfl; rw [hnx] at h'; cases h')]
    exact h'
   have H2 := m.heap.empty hnx ad sz'
   refine ⟨upd σ s.nx (some (.emp ad)), I, fun l' h' => ?_, m.defers, m.size, m.pins, ⟨fun l' b' h' => ?_, fun l1 l2 g s1 s2 h1 h2 => ?_, fun l' g s' h1 => ?_, H2.imm, H2.sub, H2.fr⟩, fun i' x hx => ?_⟩
   ·simp only at h'
    rw [upd_ne _ _ (by omega)]
    exact hσ l' (by omega)
   ·simp only at h'
    by_cases e1 : l' = s.nx
    ·subst e1
     rw [upd_same] at h'
     exact H2.rows s.nx b' (by rw [upd_same]; exact h')
    ·rw [upd_ne _ _ e1] at h'
     by_cases e2 : l' = l
     ·subst e2
      rw [upd_same] at h'
      injection h' with h'
      subst h'
      refine .row (by rw [List.length_set]; exact ext _ _ h) hg hcur (by rw [List.length_set]; exact hc) (fun e' he' => ?_) (fun e' he' x hx => ?_) fun i' e' j' x q1 q2 => ?_
      ·rcases List.mem_or_eq_of_mem_set he' with he' | rfl
       ·exact hs e' he'
       ·rw [List.length_set]; exact hs e (List.mem_of_getElem? hi)
      ·rcases List.mem_or_eq_of_mem_set he' with he' | rfl
       ·exact ho e' he' x hx
       ·rcases List.mem_or_eq_of_mem_set hx with hx | rfl
        ·exact ho e (List.mem_of_getElem? hi) x hx
        ·rfl
      ·rw [List.getElem?_set] at q1
       split at q1
       ·rename_i e3
        subst e3
        split at q1
        ·injection q1 with q1
         subst q1
         rw [List.getElem?_set] at q2
         split at q2
         ·rename_i e4
          subst e4
          split at q2
          ·injection q2 with q2
           subst q2
           exact ⟨_, hu, .ownE (upd_same _ _ _)⟩
          ·cases q2
         ·obtain ⟨u', hu', hr'⟩ := hr i e j' x hi q2
          exact ⟨u', hu', hr'.mono ext (fun _ h => h) (fun _ _ => rfl)⟩
        ·cases q1
       ·obtain ⟨u', hu', hr'⟩ := hr i' e' j' x q1 q2
        exact ⟨u', hu', hr'.mono ext (fun _ h => h) (fun _ _ => rfl)⟩
     ·rw [upd_ne _ _ e2] at h'
      exact H2.rows l' b' (by rw [upd_ne _ _ e1]; exact h')
   ·refine H2.inj l1 l2 g s1 s2 ?_ ?_
    ·intro h0; apply h1
     show upd (upd s.H l _) s.nx _ l1 = none
     by_cases e1 : l1 = s.nx
     ·subst e1; rw [upd_same] at h0; cases h0
     ·rw [upd_ne _ _ e1] at h0 ⊢
      by_cases e2 : l1 = l
      ·subst e2; rw [hl] at h0; cases h0
      ·rw [upd_ne _ _ e2]; exact h0
    ·intro h0; apply h2
     show upd (upd s.H l _) s.nx _ l2 = none
     by_cases e1 : l2 = s.nx
     ·subst e1; rw [upd_same] at h0; cases h0
     ·rw [upd_ne _ _ e1] at h0 ⊢
      by_cases e2 : l2 = l
      ·subst e2; rw [hl] at h0; cases h0
      ·rw [upd_ne _ _ e2]; exact h0
   ·refine H2.mine l' g s' ?_
    intro h0; apply h1
    show upd (upd s.H l _) s.nx _ l' = none
    by_cases e1 : l' = s.nx
    ·subst e1; rw [upd_same] at h0; cases h0
    ·rw [upd_ne _ _ e1] at h0 ⊢
     by_cases e2 : l' = l
     ·subst e2; rw [hl] at h0; cases h0
     ·rw [upd_ne _ _ e2]; exact h0
   ·obtain ⟨v, hv, hrv⟩ := m.tmps i' x hx
    exact ⟨v, hv, hrv.mono ext (fun _ h => h) (fun _ _ => rfl)⟩
theorem thaw_lift (lb : Nat) (qs ps : List (List PV)) : (liftE ps).map (fun e => e.map (thaw1 lb qs)) = liftE ps := by
 simp [liftE, thaw1]
end Go.Aw
namespace Go.Aw
open Go.Proofs Go.RowKit
structure FewM (m : Ms) : Prop where
 name : m.name.length < 3000
 fields : m.fields.length ≤ 20
 res : m.res.length ≤ 40
 fd : ∀ f ∈ m.fields, f.name.length ≤ 200 ∧ f.ty.name.length ≤ 200
structure FewE (e : En) : Prop where
 name : e.name.length ≤ 200
 vals : e.vals.length ≤ 24
 nm : ∀ v ∈ e.vals, v.name.length ≤ 200
structure FewS (S : Sc) : Prop where
 name : S.name.length < 3000
 msgs : S.msgs.length ≤ 14
 enums : S.enums.length ≤ 10
 meths : S.meths.length ≤ 10
 ms : ∀ m ∈ S.msgs, FewM m
 en : ∀ e ∈ S.enums, FewE e
 mt : ∀ t ∈ S.meths, t.name.length ≤ 200 ∧ t.inn.length ≤ 200 ∧ t.out.length ≤ 200
theorem le_sum {l : List Ms} {m : Ms} (h : m ∈ l) : m.name.length ≤ (l.map fun m => m.name.length).sum := by
 induction l with
 | nil => cases h
 | cons a l ih =>
  rw [List.map_cons, List.sum_cons]
  rcases List.mem_cons.1 h with rfl | h
  ·omega
  ·have := ih h; omega
theorem few_spec {S : Sc} (h : fewB S = true) : FewS S := by
 unfold fewB at h
 simp only [Bool.and_eq_true, decide_eq_true_eq] at h
 obtain ⟨h1, h2, h3, h4, h5, h6, h7⟩ := h
 rw [List.take_of_length_le (by omega)] at h1 h2 h3
 unfold totN at h4
 rw [List.take_of_length_le (by omega)] at h4
 refine ⟨by omega, h5, h6, h7, fun m hm => ?_, fun e he => ?_, fun t ht => ?_⟩
 ·have q := List.all_eq_true.1 h1 m hm
  unfold msFew at q
  simp only [Bool.and_eq_true, decide_eq_true_eq] at q
  have := le_sum hm
  exact ⟨by omega, q.1.1, q.1.2, fun f hf => by have := List.all_eq_true.1 q.2 f hf; simpa [fdFew] using this⟩
 ·have q := List.all_eq_true.1 h2 e he
  unfold enFew at q
  simp only [Bool.and_eq_true, decide_eq_true_eq] at q
  exact ⟨q.1.1, q.1.2, fun f hf => by have := List.all_eq_true.1 q.2 f hf; simpa [nmFew] using this⟩
 ·have q := List.all_eq_true.1 h3 t ht
  simpa [mtFew] using q
theorem FewS.lens {S : Sc} (h : FewS S) : LensS S := by
 refine ⟨by have := h.name; omega, fun m hm => ⟨by have := (h.ms m hm).name; omega, fun f hf => by have := ((h.ms m hm).fd f hf).1; omega⟩, fun e he => ⟨by have := (h.en e he).name; omega, fun v hv => by have := (h.en e he).nm v hv; omega⟩, fun t ht => by have := (h.mt t ht).1; omega, by have := h.msgs; omega, by have := h.enums; omega, by have := h.meths; omega⟩
def sc1 (S : Sc) (i : Nat) : St := ⟨ofL [(1, .ptr 0 0 0), (2, .ptr 1 0 0), (3, .ptr 2 0 0), (4, .p (.int .i64 (i : Int)))],
 ofH [(0, .row 4 [cellsSc S]), (1, .row 4 [[.p (.str []), .ex [], .ex [], .ex []]]), (2, .row 4 [[.p (.str S.name), .own 3, .ex [], .p (.slice (S.meths.map encMt))]]), (3, .row 3 (liftE ((S.msgs.take i).map encMs)))], 4⟩
def scA (S : Sc) : St := ⟨ofL [(1, .ptr 0 0 0), (2, .ptr 1 0 0), (3, .ptr 2 0 0), (4, .p (.int .i64 0))],
 ofH [(0, .row 4 [cellsSc S]), (1, .row 4 [[.p (.str []), .ex [], .ex [], .ex []]]), (2, .row 4 [[.p (.str S.name), .ex [], .ex [], .p (.slice (S.meths.map encMt))]])], 3⟩
def scB (S : Sc) (m : Ms) (i : Nat) : St := ⟨ofL [(1, .ptr 0 0 0), (2, .ptr 1 0 0), (3, .ptr 2 0 0), (4, .p (.int .i64 (i : Int)))],
 ofH [(0, .row 4 [cellsSc S]), (1, .row 4 [[.p (.str []), .ex [], .ex [], .ex []]]), (2, .row 4 [[.p (.str S.name), .own 3, .ex [], .p (.slice (S.meths.map encMt))]]), (3, .row 3 (liftE ((S.msgs.take i).map encMs) ++ [[.p (.str m.name), .own 4, .p (.slice (m.res.map encI))]])), (4, .row 5 (liftE (m.fields.map encFd)))], 5⟩
def scC (S : Sc) (m : Ms) (i : Nat) : St := ⟨ofL [(1, .ptr 0 0 0), (2, .ptr 1 0 0), (3, .ptr 2 0 0), (4, .p (.int .i64 (i : Int)))],
 ofH [(0, .row 4 [cellsSc S]), (1, .row 4 [[.p (.str []), .ex [], .ex [], .ex []]]), (2, .row 4 [[.p (.str S.name), .own 3, .ex [], .p (.slice (S.meths.map encMt))]]), (3, .row 3 (liftE ((S.msgs.take i).map encMs) ++ [[.p (.str m.name), .p (.slice (m.fields.map encFd)), .p (.slice (m.res.map encI))]]))], 5⟩
def scD (S : Sc) : St := ⟨ofL [(1, .ptr 0 0 0), (2, .ptr 1 0 0), (3, .ptr 2 0 0)],
 ofH [(0, .row 4 [cellsSc S]), (1, .row 4 [[.p (.str []), .ex [], .ex [], .ex []]]), (2, .row 4 [[.p (.str S.name), .p (.slice (S.msgs.map encMs)), .ex [], .p (.slice (S.meths.map encMt))]])], 3⟩
def scE (S : Sc) (i : Nat) : St := ⟨ofL [(1, .ptr 0 0 0), (2, .ptr 1 0 0), (3, .ptr 2 0 0), (6, .p (.int .i64 (i : Int)))],
 ofH [(0, .row 4 [cellsSc S]), (1, .row 4 [[.p (.str []), .ex [], .ex [], .ex []]]), (2, .row 4 [[.p (.str S.name), .p (.slice (S.msgs.map encMs)), .own 3, .p (.slice (S.meths.map encMt))]]), (3, .row 2 (liftE ((S.enums.take i).map encEn)))], 4⟩
def scF (S : Sc) (m : En) (i : Nat) : St := ⟨ofL [(1, .ptr 0 0 0), (2, .ptr 1 0 0), (3, .ptr 2 0 0), (6, .p (.int .i64 (i : Int)))],
 ofH [(0, .row 4 [cellsSc S]), (1, .row 4 [[.p (.str []), .ex [], .ex [], .ex []]]), (2, .row 4 [[.p (.str S.name), .p (.slice (S.msgs.map encMs)), .own 3, .p (.slice (S.meths.map encMt))]]), (3, .row 2 (liftE ((S.enums.take i).map encEn) ++ [[.p (.str m.name), .own 4]])), (4, .row 2 (liftE (m.vals.map encNm)))], 5⟩
def scG (S : Sc) (m : En) (i : Nat) : St := ⟨ofL [(1, .ptr 0 0 0), (2, .ptr 1 0 0), (3, .ptr 2 0 0), (6, .p (.int .i64 (i : Int)))],
 ofH [(0, .row 4 [cellsSc S]), (1, .row 4 [[.p (.str []), .ex [], .ex [], .ex []]]), (2, .row 4 [[.p (.str S.name), .p (.slice (S.msgs.map encMs)), .own 3, .p (.slice (S.meths.map encMt))]]), (3, .row 2 (liftE ((S.enums.take i).map encEn) ++ [[.p (.str m.name), .p (.slice (m.vals.map encNm))]]))], 5⟩
def scH (S : Sc) : St := ⟨ofL [(1, .ptr 0 0 0), (2, .ptr 1 0 0), (3, .ptr 2 0 0)],
 ofH [(0, .row 4 [cellsSc S]), (1, .row 4 [[.p (.str []), .ex [], .ex [], .ex []]]), (2, .row 4 [[.p (.str S.name), .p (.slice (S.msgs.map encMs)), .p (.slice (S.enums.map encEn)), .p (.slice (S.meths.map encMt))]])], 3⟩
def sc0 (S : Sc) : St := ⟨ofL [(1, .ptr 0 0 0), (2, .ptr 1 0 0), (3, .ptr 2 0 0), (4, .p (.int .i64 0))],
 ofH [(0, .row 4 [cellsSc S]), (1, .row 4 [[.p (.str []), .ex [], .ex [], .ex []]]), (2, .row 4 [[.p (.str S.name), .ex [], .ex [], .own 3]]), (3, .row 3 (liftE (S.meths.map encMt)))], 4⟩
theorem law00_Schema (S : Sc) (F : FewS S) : PFn Tryd.prog 25 [.agg (encSc S)] (.agg (encSc S)) := by
 refine PFn.of Tryd.func25 rfl (by decide) Tryd.ntmps25 Tryd.results25 (Nat.le_of_ble_eq_true rfl) ?_
 simp only [argsT, encSc]
 have Fm := F.msgs
 have Fe := F.enums
 have Ft := F.meths
 refine AW.rT (by rfl) fun K hK => ?_
 simp -implicitDefEqProofs only [go_sem, Nat.reduceAdd]
 apply hK; clear hK K
 refine AW.dT mixed (by rfl) (by decide +kernel) fun K hK => ?_
 simp -implicitDefEqProofs only [go_sem, ↓reduceIte, Nat.reduceAdd, Nat.reduceEqDiff, Nat.reduceLeDiff, reduceCtorEq]
 refine ⟨⟨lift_len (f := encMt) (fun _ => rfl) _, lift_one one_Mt _, by simp⟩, ⟨.inl trivial, by simp, by rw [liftE_length, List.length_map]; omega⟩, ?_⟩
 try simp -implicitDefEqProofs only [go_sem, ↓reduceIte, Nat.reduceAdd, Nat.reduceMul, Nat.reduceEqDiff, Nat.reduceLeDiff, reduceCtorEq, Int.reduceToNat]
 refine ⟨by decide +kernel, ?_⟩
 apply hK; clear hK K
 refine AW.seq ?_
 refine AW.rT (by rfl) fun K hK => ?_
 simp -implicitDefEqProofs only [go_sem, Nat.reduceAdd]
 apply hK; clear hK K
 refine AW.block ?_
 refine AW.loop (sc1 S) (fun i => i ≤ S.msgs.length) (fun i => S.msgs.length - i) 0 ?_ (by omega) fun i i1 => ?_
 ·refine Ghost.trans (s' := sc0 S) ?_ ?_
  ·simp only [sc0, cellsSc]
   refine Ghost.ent (fun l => if l = 0 then 0 else if l = 1 then 1 else if l = 2 then 8 else 6) ?_ ?_ ?_ <;> simp -implicitDefEqProofs only [go_sem, ↓reduceIte, Nat.reduceEqDiff, reduceCtorEq, List.forall_mem_cons, List.not_mem_nil, false_implies, implies_true, and_self, map_renL_lift, labsIn_lift, List.all_cons, List.all_nil, Nat.reduceLT, labsInL, AV.labsIn]
   all_goals first | rfl | decide | skip
  refine Ghost.trans (s' := scA S) (Ghost.trans (Ghost.freeze (lb := 3) (ps := S.meths.map encMt) rfl (unlift_liftE _)) ?_) (Ghost.trans (Ghost.nilH (l := 2) (i := 0) (j := 1) (sz' := 3) rfl rfl rfl) ?_)
  ·simp only [sc0, scA, cellsSc]
   refine Ghost.sub ?_ ?_ <;> simp -implicitDefEqProofs only [go_sem, ↓reduceIte, Nat.reduceEqDiff, reduceCtorEq, thaw, thaw1, Option.map_some, List.map_cons, List.map_nil, List.forall_mem_cons, List.not_mem_nil, false_implies, implies_true, and_self, List.all_cons, List.all_nil, Nat.reduceLT, labsInL, AV.labsIn]
   all_goals first | rfl | decide | skip
  ·simp only [scA, sc1, cellsSc]
   refine Ghost.sub ?_ ?_ <;> simp -implicitDefEqProofs only [go_sem, ↓reduceIte, Nat.reduceEqDiff, reduceCtorEq, List.take_zero, List.map_nil, liftE_nil, List.forall_mem_cons, List.not_mem_nil, false_implies, implies_true, and_self, List.all_cons, List.all_nil, Nat.reduceLT, labsInL, AV.labsIn]
   all_goals first | rfl | decide | skip
 simp only [sc1, cellsSc]
 refine AW.seq ?_
 by_cases hil : i < S.msgs.length
 ·obtain ⟨m, hm⟩ : ∃ m, S.msgs[i]? = some m := ⟨_, List.getElem?_eq_getElem hil⟩
  have ⟨hm1, hm2, hm3⟩ := at_map' encMs hm
  have hm2' : (i : Int) < (S.msgs.length : Int) := by omega
  have hc1 : ((i : Int) < (S.msgs.length : Int)) = True := eq_true (by omega)
  have w1 : IntKind.wrap .i64 ((i : Int) + 1) = ((i + 1 : Nat) : Int) := by rw [w64] <;> omega
  have FM := F.ms m (List.mem_of_getElem? hm)
  have f1 := FM.fields
  have f2 := FM.res
  have CI := law00_Ints m.res (by omega)
  refine AW.rT (by rfl) fun K hK => ?_
  simp -implicitDefEqProofs only [go_sem, ↓reduceIte, Nat.reduceAdd, Nat.reduceEqDiff, hc1, List.length_map]
  apply hK; clear hK K
  refine AW.cT rfl ?_
  refine AW.skip ?_
  simp only [andThen]
  refine AW.seq ?_
  refine AW.block ?_
  refine AW.rT (by rfl) fun K hK => ?_
  simp -implicitDefEqProofs only [go_sem, ↓reduceIte, Nat.reduceAdd, Nat.reduceEqDiff, Nat.reduceLeDiff, hm1, hm2', hm3, encMs, List.length_map]
  apply hK; clear hK K
  refine AW.dE mixed (by rfl) (by decide +kernel) fun K hK => ?_
  simp -implicitDefEqProofs only [go_sem, ↓reduceIte, Nat.reduceAdd, Nat.reduceEqDiff, Nat.reduceLeDiff, reduceCtorEq]
  refine ⟨⟨lift_len (f := encFd) (fun _ => rfl) _, lift_one one_Fd _, by simp⟩, ⟨.inl trivial, by simp, by rw [liftE_length, List.length_map]; omega⟩, ?_⟩
  try simp -implicitDefEqProofs only [go_sem, ↓reduceIte, Nat.reduceAdd, Nat.reduceMul, Nat.reduceEqDiff, Nat.reduceLeDiff, reduceCtorEq, Int.reduceToNat]
  refine ⟨.pure _, CI, ?_⟩
  try simp -implicitDefEqProofs only [go_sem, ↓reduceIte, Nat.reduceAdd, Nat.reduceMul, Nat.reduceEqDiff, Nat.reduceLeDiff, reduceCtorEq]
  refine ⟨⟨by simp, by simp [oneAll, AV.one, PV.one], by simp⟩, by simp [liftE_length]; omega, by decide +kernel, ?_⟩
  apply hK; clear hK K
  simp only [andThen, inBlk]
  refine AW.ghost (s' := scB S m i) ?_ (AW.ghost (s' := scC S m i) (Ghost.trans (Ghost.freeze (lb := 4) (ps := m.fields.map encFd) rfl (unlift_liftE _)) ?_) ?_)
  ·simp only [scB, cellsSc]
   refine Ghost.ent (fun l => if l = 0 then 0 else if l = 1 then 1 else if l = 2 then 2 else if l = 3 then 28 else 22) ?_ ?_ ?_ <;> simp -implicitDefEqProofs only [go_sem, ↓reduceIte, Nat.reduceEqDiff, reduceCtorEq, List.forall_mem_cons, List.not_mem_nil, false_implies, implies_true, and_self, map_renL_lift, labsIn_lift, List.all_append, List.all_cons, List.all_nil, List.map_append, Nat.reduceLT, labsInL, AV.labsIn]
   all_goals first | rfl | decide | skip
  ·simp only [scB, scC, cellsSc]
   refine Ghost.sub ?_ ?_ <;> simp -implicitDefEqProofs only [go_sem, ↓reduceIte, Nat.reduceEqDiff, reduceCtorEq, thaw, thaw1, Option.map_some, List.map_cons, List.map_nil, List.map_append, thaw_lift, List.forall_mem_cons, List.not_mem_nil, false_implies, implies_true, and_self, labsIn_lift, List.all_append, List.all_cons, List.all_nil, Nat.reduceLT, labsInL, AV.labsIn]
   all_goals first | rfl | decide | skip
  simp only [scC, cellsSc]
  have e8 : liftE ((S.msgs.take i).map encMs) ++ [[AV.p (.str m.name), .p (.slice (m.fields.map encFd)), .p (.slice (m.res.map encI))]] = liftE ((S.msgs.take (i + 1)).map encMs) := by
   rw [List.take_add_one, hm]
   simp [liftE, encMs]
  rw [e8]
  refine AW.rE (by rfl) fun K hK => ?_
  simp -implicitDefEqProofs only [go_sem, ↓reduceIte, Nat.reduceAdd, Nat.reduceEqDiff, w1]
  apply hK; clear hK K
  refine ⟨i + 1, by omega, by omega, ?_⟩
  refine Ghost.sub ?_ ?_ <;> simp -implicitDefEqProofs only [go_sem, ↓reduceIte, Nat.reduceEqDiff, reduceCtorEq, List.forall_mem_cons, List.not_mem_nil, false_implies, implies_true, and_self, labsIn_lift, List.all_cons, List.all_nil, Nat.reduceLT, labsInL, AV.labsIn]
 have hc1 : ((i : Int) < (S.msgs.length : Int)) = False := eq_false (by omega)
 have ea : S.msgs.take i = S.msgs := List.take_of_length_le (by omega)
 rw [ea]
 clear ea
 refine AW.rT (by rfl) fun K hK => ?_
 simp -implicitDefEqProofs only [go_sem, ↓reduceIte, Nat.reduceAdd, Nat.reduceEqDiff, hc1, List.length_map]
 apply hK; clear hK K
 refine AW.cF rfl ?_
 refine AW.exit ?_
 simp only [andThen, inBlk, ↓reduceIte]
 refine AW.ghost (s' := scD S) (Ghost.trans (Ghost.freeze (lb := 3) (ps := S.msgs.map encMs) rfl (unlift_liftE _)) ?_) ?_
 ·simp only [scD, cellsSc]
  refine Ghost.sub ?_ ?_ <;> simp -implicitDefEqProofs only [go_sem, ↓reduceIte, Nat.reduceEqDiff, reduceCtorEq, thaw, thaw1, Option.map_some, List.map_cons, List.map_nil, List.forall_mem_cons, List.not_mem_nil, false_implies, implies_true, and_self, List.all_cons, List.all_nil, Nat.reduceLT, labsInL, AV.labsIn]
  all_goals first | rfl | decide | skip
 clear hc1 hil i1
 refine AW.seq ?_
 simp only [scD, cellsSc]
 refine AW.rT (by rfl) fun K hK => ?_
 simp -implicitDefEqProofs only [go_sem, Nat.reduceAdd]
 apply hK; clear hK K
 refine AW.block ?_
 refine AW.loop (scE S) (fun i => i ≤ S.enums.length) (fun i => S.enums.length - i) 0 ?_ (by omega) fun j j1 => ?_
 ·refine Ghost.trans (Ghost.nilH (l := 2) (i := 0) (j := 2) (sz' := 2) rfl rfl rfl) ?_
  simp only [scE, cellsSc]
  refine Ghost.ent (fun l => if l = 3 then 4 else l) ?_ ?_ ?_ <;> simp -implicitDefEqProofs only [go_sem, ↓reduceIte, Nat.reduceEqDiff, reduceCtorEq, List.take_zero, List.map_nil, liftE_nil, List.forall_mem_cons, List.not_mem_nil, false_implies, implies_true, and_self, List.all_cons, List.all_nil, Nat.reduceLT, labsInL, AV.labsIn]
  all_goals first | rfl | decide | skip
 simp only [scE, cellsSc]
 refine AW.seq ?_
 by_cases hil : j < S.enums.length
 ·obtain ⟨m, hm⟩ : ∃ m, S.enums[j]? = some m := ⟨_, List.getElem?_eq_getElem hil⟩
  have ⟨hm1, hm2, hm3⟩ := at_map' encEn hm
  have hm2' : (j : Int) < (S.enums.length : Int) := by omega
  have hc1 : ((j : Int) < (S.enums.length : Int)) = True := eq_true (by omega)
  have w1 : IntKind.wrap .i64 ((j : Int) + 1) = ((j + 1 : Nat) : Int) := by rw [w64] <;> omega
  have FE := F.en m (List.mem_of_getElem? hm)
  have f1 := FE.vals
  refine AW.rT (by rfl) fun K hK => ?_
  simp -implicitDefEqProofs only [go_sem, ↓reduceIte, Nat.reduceAdd, Nat.reduceEqDiff, hc1, List.length_map]
  apply hK; clear hK K
  refine AW.cT rfl ?_
  refine AW.skip ?_
  simp only [andThen]
  refine AW.seq ?_
  refine AW.block ?_
  refine AW.dE mixed (by rfl) (by decide +kernel) fun K hK => ?_
  simp -implicitDefEqProofs only [go_sem, ↓reduceIte, Nat.reduceAdd, Nat.reduceMul, Nat.reduceEqDiff, Nat.reduceLeDiff, reduceCtorEq, hm1, hm2', hm3, encEn, List.length_map]
  refine ⟨⟨lift_len (f := encNm) (fun _ => rfl) _, lift_one one_Nm _, by simp⟩, ⟨.inl trivial, by simp, by rw [liftE_length, List.length_map]; omega⟩, ?_⟩
  try simp -implicitDefEqProofs only [go_sem, ↓reduceIte, Nat.reduceAdd, Nat.reduceMul, Nat.reduceEqDiff, Nat.reduceLeDiff, reduceCtorEq, Int.reduceToNat]
  refine ⟨⟨by simp, by simp [oneAll, AV.one, PV.one], by simp⟩, by simp [liftE_length]; omega, by decide +kernel, ?_⟩
  apply hK; clear hK K
  simp only [andThen, inBlk]
  refine AW.ghost (s' := scF S m j) ?_ (AW.ghost (s' := scG S m j) (Ghost.trans (Ghost.freeze (lb := 4) (ps := m.vals.map encNm) rfl (unlift_liftE _)) ?_) ?_)
  ·simp only [scF, cellsSc]
   refine Ghost.ent (fun l => if l = 0 then 0 else if l = 1 then 1 else if l = 2 then 2 else if l = 3 then 26 else 23) ?_ ?_ ?_ <;> simp -implicitDefEqProofs only [go_sem, ↓reduceIte, Nat.reduceEqDiff, reduceCtorEq, List.forall_mem_cons, List.not_mem_nil, false_implies, implies_true, and_self, map_renL_lift, labsIn_lift, List.all_append, List.all_cons, List.all_nil, List.map_append, Nat.reduceLT, labsInL, AV.labsIn]
   all_goals first | rfl | decide | skip
  ·simp only [scF, scG, cellsSc]
   refine Ghost.sub ?_ ?_ <;> simp -implicitDefEqProofs only [go_sem, ↓reduceIte, Nat.reduceEqDiff, reduceCtorEq, thaw, thaw1, Option.map_some, List.map_cons, List.map_nil, List.map_append, thaw_lift, List.forall_mem_cons, List.not_mem_nil, false_implies, implies_true, and_self, labsIn_lift, List.all_append, List.all_cons, List.all_nil, Nat.reduceLT, labsInL, AV.labsIn]
   all_goals first | rfl | decide | skip
  simp only [scG, cellsSc]
  have e8 : liftE ((S.enums.take j).map encEn) ++ [[AV.p (.str m.name), .p (.slice (m.vals.map encNm))]] = liftE ((S.enums.take (j + 1)).map encEn) := by
   rw [List.take_add_one, hm]
   simp [liftE, encEn]
  rw [e8]
  refine AW.rE (by rfl) fun K hK => ?_
  simp -implicitDefEqProofs only [go_sem, ↓reduceIte, Nat.reduceAdd, Nat.reduceEqDiff, w1]
  apply hK; clear hK K
  refine ⟨j + 1, by omega, by omega, ?_⟩
  refine Ghost.sub ?_ ?_ <;> simp -implicitDefEqProofs only [go_sem, ↓reduceIte, Nat.reduceEqDiff, reduceCtorEq, List.forall_mem_cons, List.not_mem_nil, false_implies, implies_true, and_self, labsIn_lift, List.all_cons, List.all_nil, Nat.reduceLT, labsInL, AV.labsIn]
 have hc1 : ((j : Int) < (S.enums.length : Int)) = False := eq_false (by omega)
 have ea : S.enums.take j = S.enums := List.take_of_length_le (by omega)
 rw [ea]
 clear ea
 refine AW.rT (by rfl) fun K hK => ?_
 simp -implicitDefEqProofs only [go_sem, ↓reduceIte, Nat.reduceAdd, Nat.reduceEqDiff, hc1, List.length_map]
 apply hK; clear hK K
 refine AW.cF rfl ?_
 refine AW.exit ?_
 simp only [andThen, inBlk, ↓reduceIte]
 refine AW.ghost (s' := scH S) (Ghost.trans (Ghost.freeze (lb := 3) (ps := S.enums.map encEn) rfl (unlift_liftE _)) ?_) ?_
 ·simp only [scH, cellsSc]
  refine Ghost.sub ?_ ?_ <;> simp -implicitDefEqProofs only [go_sem, ↓reduceIte, Nat.reduceEqDiff, reduceCtorEq, thaw, thaw1, Option.map_some, List.map_cons, List.map_nil, List.forall_mem_cons, List.not_mem_nil, false_implies, implies_true, and_self, List.all_cons, List.all_nil, Nat.reduceLT, labsInL, AV.labsIn]
  all_goals first | rfl | decide | skip
 simp only [scH, cellsSc]
 refine AW.rT (by rfl) fun K hK => ?_
 simp -implicitDefEqProofs only [go_sem, ↓reduceIte, Nat.reduceAdd, Nat.reduceEqDiff, Nat.reduceLeDiff, reduceCtorEq]
 apply hK; clear hK K
 refine AW.ret ?_
 simp -implicitDefEqProofs only [go_sem, ↓reduceIte, Nat.reduceAdd, Nat.reduceEqDiff, Nat.reduceLeDiff]
end Go.Aw
namespace Go.Aw
open Go.Proofs Go.RowKit
theorem msgsC_zero {S : Sc} {K : List (List UInt8) → Int} : ∀ {l : List Ms} {ns : List (List UInt8)}, msgsC S K ns l = 0 → (∀ (i : Nat) m, l[i]? = some m → msgC S (ns ++ (l.take i).map Ms.name) m = 0) ∧ K (ns ++ l.map Ms.name) = 0
 | [], ns, h => ⟨fun i m hm => by simp at hm, by simpa [msgsC] using h⟩
 | a :: l, ns, h => by
  rw [msgsC] at h
  split at h
  ·rename_i h0
   obtain ⟨h1, h2⟩ := msgsC_zero h
   refine ⟨fun i m hm => ?_, by simpa [List.append_assoc] using h2⟩
   cases i with
   | zero => simp at hm; subst hm; simpa using h0
   | succ i => have := h1 i m (by simpa using hm); simpa [List.append_assoc] using this
  ·rename_i h0; exact absurd h h0
theorem enumsC_zero : ∀ {l : List En} {ns : List (List UInt8)}, enumsC ns l = 0 → ∀ (i : Nat) m, l[i]? = some m → enumC (ns ++ (l.take i).map En.name) m = 0
 | [], ns, h, i, m, hm => by simp at hm
 | a :: l, ns, h, i, m, hm => by
  rw [enumsC] at h
  split at h
  ·rename_i h0
   have h1 := enumsC_zero h
   cases i with
   | zero => simp at hm; subst hm; simpa using h0
   | succ i => have := h1 i m (by simpa using hm); simpa [List.append_assoc] using this
  ·rename_i h0; exact absurd h h0
theorem methsC_zero {S : Sc} : ∀ {l : List Mt} {ns : List (List UInt8)}, methsC S ns l = 0 → ∀ (i : Nat) m, l[i]? = some m → takesB (ns ++ (l.take i).map Mt.name) m.name = true ∧ hasM S m.inn = true ∧ hasM S m.out = true
 | [], ns, h, i, m, hm => by simp at hm
 | a :: l, ns, h, i, m, hm => by
  rw [methsC] at h
  split at h
  ·rename_i h0
   split at h
   ·rename_i h2
    have h1 := methsC_zero h
    cases i with
    | zero =>
     simp at hm; subst hm
     simp only [Bool.and_eq_true] at h2
     exact ⟨by simpa using h0, h2⟩
    | succ i => have := h1 i m (by simpa using hm); simpa [List.append_assoc] using this
   ·cases h
  ·cases h
theorem fldsC_zero {S : Sc} : ∀ {l : List Fd} {ns : List (List UInt8)} {us : List Int}, fldsC S ns us l = 0 → ∀ (i : Nat) f, l[i]? = some f → takesB (ns ++ (l.take i).map Fd.name) f.name = true ∧ tagB f.tag = true ∧ (us ++ (l.take i).map Fd.tag).contains f.tag = false ∧ fieldB S f = true
 | [], ns, us, h, i, f, hf => by simp at hf
 | a :: l, ns, us, h, i, f, hf => by
  rw [fldsC] at h
  split at h
  ·rename_i h0
   split at h
   ·rename_i h2
    split at h
    ·rename_i h3
     have h1 := fldsC_zero h
     cases i with
     | zero =>
      simp at hf; subst hf
      simp only [Bool.and_eq_true, Bool.not_eq_true'] at h2
      exact ⟨by simpa using h0, h2.1, by simpa using h2.2, h3⟩
     | succ i => have := h1 i f (by simpa using hf); simpa [List.append_assoc] using this
    ·cases h
   ·cases h
  ·cases h
theorem contains_apart {α : Type} {f : α → List UInt8} {l : List α} {k : List UInt8} (h : (l.map f).contains k = false) : l.all (fun x => !(f x == k)) = true := by
 rw [List.all_eq_true]
 intro x hx
 rw [contains_any, List.any_map] at h
 have := List.any_eq_false.1 h x hx
 simp at this ⊢
 intro e
 exact this e.symm
theorem contains_apartI {α : Type} {f : α → Int} {l : List α} {k : Int} (h : (l.map f).contains k = false) : l.all (fun x => !(f x == k)) = true := by
 rw [List.all_eq_true]
 intro x hx
 rw [contains_any, List.any_map] at h
 have := List.any_eq_false.1 h x hx
 simp at this ⊢
 intro e
 exact this e.symm
theorem contains_app {α : Type} [BEq α] {a b : List α} {k : α} (h : (a ++ b).contains k = false) : a.contains k = false ∧ b.contains k = false := by
 rw [contains_any, List.any_append, Bool.or_eq_false_iff] at h
 exact ⟨by rw [contains_any]; exact h.1, by rw [contains_any]; exact h.2⟩
structure RightS (S : Sc) : Prop where
 msg : ∀ (i : Nat) m, S.msgs[i]? = some m → firstP (fun x => x.name == m.name) zMs S.msgs = (m, true) ∧ firstP (fun x => x.name == m.name) zEn S.enums = (zEn, false) ∧ nameB m.name = true
 enum : ∀ (i : Nat) m, S.enums[i]? = some m → firstP (fun x => x.name == m.name) zEn S.enums = (m, true)
 meth : ∀ (i : Nat) m, S.meths[i]? = some m → firstP (fun x => x.name == m.name) zMt S.meths = (m, true) ∧ hasM S m.inn = true ∧ hasM S m.out = true
 fld : ∀ m ∈ S.msgs, ∀ (i : Nat) f, m.fields[i]? = some f → firstP (fun x => x.tag == f.tag) zFd m.fields = (f, true) ∧ m.res.contains f.tag = false ∧ fieldB S f = true ∧ tagB f.tag = true ∧ nameB f.name = true
 res : ∀ m ∈ S.msgs, ∀ t ∈ m.res, firstP (fun x => x.tag == t) zFd m.fields = (zFd, false)
 no : ∀ m ∈ S.msgs, m.fields.length ≤ 16 ∧ m.res.length ≤ 32
 len : S.msgs.length ≠ 0 ∧ S.msgs.length ≤ 10 ∧ S.enums.length ≤ 6 ∧ S.meths.length ≤ 6
theorem right_of {S : Sc} (h : checkC S = 0) : RightS S := by
 unfold checkC at h
 split at h
 case isFalse => cases h
 split at h
 ·cases h
 rename_i hl0
 split at h
 ·cases h
 rename_i hl1
 split at h
 case isFalse h0 => exact absurd h h0
 rename_i h0
 obtain ⟨h1, h2⟩ := msgsC_zero h0
 have h3 := enumsC_zero h2
 have h4 := methsC_zero h
 have mz : ∀ (i : Nat) m, S.msgs[i]? = some m → takesB ((S.msgs.take i).map Ms.name) m.name = true ∧ bodyC S m = 0 := fun i m hm => by
  have := h1 i m hm
  unfold msgC at this
  rw [List.nil_append] at this
  split at this
  ·rename_i q; exact ⟨q, this⟩
  ·cases this
 have ez : ∀ (i : Nat) m, S.enums[i]? = some m → takesB (S.msgs.map Ms.name ++ (S.enums.take i).map En.name) m.name = true := fun i m hm => by
  have := h3 i m hm
  unfold enumC at this
  rw [List.nil_append] at this
  split at this
  ·rename_i q; exact q
  ·cases this
 have tk : ∀ {ns : List (List UInt8)} {k : List UInt8}, takesB ns k = true → ns.contains k = false ∧ nameB k = true := fun q => by
  unfold takesB at q
  simp only [Bool.and_eq_true, Bool.not_eq_true'] at q
  exact ⟨q.2, q.1⟩
 have bz : ∀ m ∈ S.msgs, (m.fields.length ≤ 16 ∧ m.res.length ≤ 32) ∧ fldsC S [] m.res m.fields = 0 := fun m hm => by
  obtain ⟨i, hi⟩ := List.getElem?_of_mem hm
  have q := (mz i m hi).2
  unfold bodyC at q
  split at q
  ·cases q
  rename_i q1
  split at q
  ·cases q
  ·exact ⟨by omega, q⟩
 have fz : ∀ m ∈ S.msgs, ∀ (i : Nat) f, m.fields[i]? = some f → takesB ((m.fields.take i).map Fd.name) f.name = true ∧ tagB f.tag = true ∧ (m.res ++ (m.fields.take i).map Fd.tag).contains f.tag = false ∧ fieldB S f = true := fun m hm i f hf => by
  have := fldsC_zero (bz m hm).2 i f hf
  rwa [List.nil_append] at this
 refine ⟨fun i m hm => ?_, fun i m hm => ?_, fun i m hm => ?_, fun m hm i f hf => ?_, fun m hm t ht => ?_, fun m hm => (bz m hm).1, ⟨hl0, by omega⟩⟩
 ·refine ⟨first_at hm (contains_apart (tk (mz i m hm).1).1) (by simp), first_not ?_, (tk (mz i m hm).1).2⟩
  rw [List.all_eq_true]
  intro e he
  obtain ⟨j, hj⟩ := List.getElem?_of_mem he
  have q := (contains_app (tk (ez j e hj)).1).1
  have q' := List.all_eq_true.1 (contains_apart q) m (List.mem_of_getElem? hm)
  simp at q' ⊢
  intro e'
  exact q' e'.symm
 ·exact first_at hm (contains_apart (contains_app (tk (ez i m hm)).1).2) (by simp)
 ·have q := h4 i m hm
  rw [List.nil_append] at q
  exact ⟨first_at hm (contains_apart (tk q.1).1) (by simp), q.2⟩
 ·obtain ⟨q1, q2, q3, q4⟩ := fz m hm i f hf
  exact ⟨first_at hf (contains_apartI (contains_app q3).2) (by simp), (contains_app q3).1, q4, q2, (tk q1).2⟩
 ·refine first_not ?_
  rw [List.all_eq_true]
  intro f hf
  obtain ⟨j, hj⟩ := List.getElem?_of_mem hf
  have q := (contains_app (fz m hm j f hj).2.2.1).1
  have : f.tag ≠ t := by
   intro e
   rw [e] at q
   have : m.res.contains t = true := by rw [List.contains_iff_mem]; exact ht
   rw [this] at q
   cases q
  simpa using this
end Go.Aw
namespace Go.Aw.T
open Go.Proofs
def numV (y : Ty) (n : Int) : Bool := if y.kind = 1 then decide (-2147483648 ≤ n ∧ n ≤ 2147483647) else if y.kind = 3 then decide (n = 0 ∨ n = 1) else if y.kind = 6 then decide (0 ≤ n ∧ n ≤ 2147483647) else decide (y.kind = 2)
def zeroV (t : Tr) : Bool := decide (1 ≤ t.kind ∧ t.kind ≤ 3 ∧ t.n = 0 ∧ t.s = [] ∧ t.ents.length = 0 ∧ t.rest.length = 0)
def kdV (y : Ty) : Int := if y.kind = 1 ∨ y.kind = 2 ∨ y.kind = 3 ∨ y.kind = 6 then 1 else if y.kind = 4 ∨ y.kind = 5 then 2 else 3
theorem kdV_3 {y : Ty} (h1 : 1 ≤ y.kind) (h2 : y.kind ≤ 7) : kdV y = 3 ↔ y.kind = 7 := by
 unfold kdV
 by_cases a : y.kind = 4 ∨ y.kind = 5
 ·rw [if_neg (by omega), if_pos a]; omega
 by_cases b : y.kind = 7
 ·rw [if_neg (by omega), if_neg a]; omega
 ·rw [if_pos (by omega)]; omega
def valS (s : List UInt8) : Bool := (runesO s 0).isSome
def fitV (y : Ty) (t : Tr) : Int := if t.kind ≠ kdV y then 8 else if t.kind = 1 ∧ numV y t.n = false then 11 else if y.kind = 4 ∧ valS t.s = false then 9 else 0
def fldOf (m : Ms) (g : Int) : Fd × Bool := firstP (fun x => x.tag == g) zFd m.fields
def msOf (S : Sc) (k : List UInt8) : Ms × Bool := firstP (fun x => x.name == k) zMs S.msgs
mutual
def bareT : Tr → Tr
 | .mk k n s es _ => .mk k n s (bareE es) []
def bareE : List (Int × List Tr) → List (Int × List Tr)
 | [] => []
 | (g, l) :: es => (g, bareTs l) :: bareE es
def bareTs : List Tr → List Tr
 | [] => []
 | t :: l => bareT t :: bareTs l
end
theorem bareTs_map : ∀ l : List Tr, bareTs l = l.map bareT
 | [] => by rw [bareTs]; rfl
 | t :: l => by rw [bareTs, bareTs_map l]; rfl
theorem bareE_map : ∀ es : List (Int × List Tr), bareE es = es.map fun e => (e.1, e.2.map bareT)
 | [] => by rw [bareE]; rfl
 | (g, l) :: es => by rw [bareE, bareE_map es, bareTs_map]; rfl
def orE (a b : Int) : Int := if a ≠ 0 then a else b
mutual
def msgV (S : Sc) (m : Ms) : Tr → Int
 | .mk _ _ _ es r => orE (entV S m es) (if r.any (fun x => (fldOf m x.tag).2) then 7 else 0)
def entV (S : Sc) (m : Ms) : List (Int × List Tr) → Int
 | [] => 0
 | (g, l) :: es => if (fldOf m g).2 = false then 7 else if (fldOf m g).1.label ≠ 3 ∧ 1 < l.length then 4 else orE (oneL S (fldOf m g).1 l) (entV S m es)
def oneL (S : Sc) (f : Fd) : List Tr → Int
 | [] => 0
 | t :: l => orE (orE (fitV f.ty t) (orE (if f.ty.kind = 7 then msgV S (msOf S f.ty.name).1 t else 0) (if f.label = 1 ∧ zeroV t = true then 12 else 0))) (oneL S f l)
end
def oneV (S : Sc) (f : Fd) (t : Tr) : Int := orE (fitV f.ty t) (orE (if f.ty.kind = 7 then msgV S (msOf S f.ty.name).1 t else 0) (if f.label = 1 ∧ zeroV t = true then 12 else 0))
theorem oneL_cons (S : Sc) (f : Fd) (t : Tr) (l : List Tr) : oneL S f (t :: l) = orE (oneV S f t) (oneL S f l) := by rw [oneL]; rfl
theorem msgV_mk (S : Sc) (m : Ms) (t : Tr) : msgV S m t = orE (entV S m t.ents) (if t.rest.any (fun x => (fldOf m x.tag).2) then 7 else 0) := by
 cases t
 rw [msgV]
 rfl
theorem orE_0 (b : Int) : orE 0 b = b := rfl
theorem orE_r (a : Int) : orE a 0 = a := by unfold orE; split <;> omega
theorem orE_eq {a b : Int} : orE a b = 0 ↔ a = 0 ∧ b = 0 := by
 unfold orE
 by_cases h : a = 0 <;> simp [h]
mutual
/-- All texts of a tree are short. -/
def strT : Tr → Bool
 | .mk _ _ s es _ => decide (s.length ≤ 1000000) && strE es
def strE : List (Int × List Tr) → Bool
 | [] => true
 | (_, l) :: es => strTs l && strE es
def strTs : List Tr → Bool
 | [] => true
 | x :: l => strT x && strTs l
end
theorem strTs_iff : ∀ {l : List Tr}, strTs l = true ↔ ∀ x ∈ l, strT x = true
 | [] => by simp [strTs]
 | x :: l => by rw [strTs, Bool.and_eq_true, strTs_iff]; simp
theorem strE_iff : ∀ {es : List (Int × List Tr)}, strE es = true ↔ ∀ e ∈ es, strTs e.2 = true
 | [] => by simp [strE]
 | (_, l) :: es => by rw [strE, Bool.and_eq_true, strE_iff]; simp
def validV (S : Sc) (k : List UInt8) (t : Tr) : Int := if checkC S ≠ 0 then 1 else if (msOf S k).2 = false then 14 else if t.kind ≠ 3 ∨ okT t = false then 1 else msgV S (msOf S k).1 t
end Go.Aw.T
namespace Go.Aw.T
open Go.Proofs
theorem eqb {a b : Int} (h : a = b) : (a == b) = true := by simp [h]
theorem ref10_Zero (t : Tr) : PFn Tryd.prog 38 [.agg (encTr t)] (.bool (zeroV t)) := by
 refine PFn.of Tryd.func38 rfl (by decide) Tryd.ntmps38 Tryd.results38 (Nat.le_of_ble_eq_true rfl) ?_
 simp only [argsT]
 refine AW.rT (by rfl) fun K hK => ?_
 simp -implicitDefEqProofs only [go_sem, Nat.reduceAdd, encTr_eq]
 apply hK; clear hK K
 by_cases h0 : 1 ≤ t.kind
 case neg =>
  have q0 : (t.kind ≥ 1) = False := eq_false h0
  have HH : zeroV t = false := by unfold zeroV; simp only [decide_eq_false_iff_not]; rintro ⟨a1, a2, a3, a4, a5, a6⟩; exact h0 a1
  refine AW.rT (by rfl) fun K hK => ?_
  simp -implicitDefEqProofs only [go_sem, ↓reduceIte, Nat.reduceAdd, Nat.reduceEqDiff, q0]
  apply hK; clear hK K
  refine AW.ret ?_
  simp -implicitDefEqProofs only [go_sem, HH]
 have q0 : (t.kind ≥ 1) = True := eq_true h0
 by_cases h1 : t.kind ≤ 3
 case neg =>
  have q1 : (t.kind ≤ 3) = False := eq_false h1
  have HH : zeroV t = false := by unfold zeroV; simp only [decide_eq_false_iff_not]; rintro ⟨a1, a2, a3, a4, a5, a6⟩; exact h1 a2
  refine AW.rT (by rfl) fun K hK => ?_
  simp -implicitDefEqProofs only [go_sem, ↓reduceIte, Nat.reduceAdd, Nat.reduceEqDiff, q0, q1]
  apply hK; clear hK K
  refine AW.ret ?_
  simp -implicitDefEqProofs only [go_sem, HH]
 have q1 : (t.kind ≤ 3) = True := eq_true h1
 by_cases h2 : t.n = 0
 case neg =>
  have q2 : (t.n == 0) = false := by simp [h2]
  have HH : zeroV t = false := by unfold zeroV; simp only [decide_eq_false_iff_not]; rintro ⟨a1, a2, a3, a4, a5, a6⟩; exact h2 a3
  refine AW.rT (by rfl) fun K hK => ?_
  simp -implicitDefEqProofs only [go_sem, ↓reduceIte, Nat.reduceAdd, Nat.reduceEqDiff, q0, q1, q2]
  apply hK; clear hK K
  refine AW.ret ?_
  simp -implicitDefEqProofs only [go_sem, HH]
 have q2 : (t.n == 0) = true := by simp [h2]
 by_cases h3 : t.s = []
 case neg =>
  have q3 : (t.s == []) = false := by simp [h3]
  have HH : zeroV t = false := by unfold zeroV; simp only [decide_eq_false_iff_not]; rintro ⟨a1, a2, a3, a4, a5, a6⟩; exact h3 a4
  refine AW.rT (by rfl) fun K hK => ?_
  simp -implicitDefEqProofs only [go_sem, ↓reduceIte, Nat.reduceAdd, Nat.reduceEqDiff, q0, q1, q2, q3]
  apply hK; clear hK K
  refine AW.ret ?_
  simp -implicitDefEqProofs only [go_sem, HH]
 have q3 : (t.s == []) = true := by simp [h3]
 by_cases h4 : t.ents.length = 0
 case neg =>
  have q4 : ((t.ents.length : Int) == 0) = false := by simp only [beq_eq_false_iff_ne]; omega
  have HH : zeroV t = false := by unfold zeroV; simp only [decide_eq_false_iff_not]; rintro ⟨a1, a2, a3, a4, a5, a6⟩; exact h4 a5
  refine AW.rT (by rfl) fun K hK => ?_
  simp -implicitDefEqProofs only [go_sem, ↓reduceIte, Nat.reduceAdd, Nat.reduceEqDiff, q0, q1, q2, q3, q4, List.length_map]
  apply hK; clear hK K
  refine AW.ret ?_
  simp -implicitDefEqProofs only [go_sem, HH]
 have q4 : ((t.ents.length : Int) == 0) = true := by simp [h4]
 by_cases h5 : t.rest.length = 0
 case neg =>
  have q5 : ((t.rest.length : Int) == 0) = false := by simp only [beq_eq_false_iff_ne]; omega
  have HH : zeroV t = false := by unfold zeroV; simp only [decide_eq_false_iff_not]; rintro ⟨a1, a2, a3, a4, a5, a6⟩; exact h5 a6
  refine AW.rT (by rfl) fun K hK => ?_
  simp -implicitDefEqProofs only [go_sem, ↓reduceIte, Nat.reduceAdd, Nat.reduceEqDiff, q0, q1, q2, q3, q4, q5, List.length_map]
  apply hK; clear hK K
  refine AW.ret ?_
  simp -implicitDefEqProofs only [go_sem, HH]
 have q5 : ((t.rest.length : Int) == 0) = true := by simp [h5]
 have HH : zeroV t = true := by unfold zeroV; simp only [decide_eq_true_eq]; exact ⟨h0, h1, h2, h3, h4, h5⟩
 refine AW.rT (by rfl) fun K hK => ?_
 simp -implicitDefEqProofs only [go_sem, ↓reduceIte, Nat.reduceAdd, Nat.reduceEqDiff, q0, q1, q2, q3, q4, q5, List.length_map]
 apply hK; clear hK K
 refine AW.ret ?_
 simp -implicitDefEqProofs only [go_sem, HH]
end Go.Aw.T
namespace Go.Aw.T
open Go.Proofs
theorem right_ent {t : Tr} (h : rightT t = true) : ∀ e ∈ t.ents, 1 ≤ e.2.length ∧ ∀ x ∈ e.2, rightT x = true := by
 have all : ∀ {l : List Tr} {k : Int}, rightTs l k = true → ∀ x ∈ l, rightT x = true := fun {l} => by
  induction l with
  | nil => intro k _ x hx; cases hx
  | cons a l ih =>
   intro k h x hx
   rw [rightTs] at h
   split at h
   ·cases h
   split at h
   ·rename_i h2
    rcases List.mem_cons.1 hx with rfl | hx
    ·exact h2
    ·exact ih h x hx
   ·cases h
 have ent : ∀ {es : List (Int × List Tr)} {last : Int}, rightE es last = true → ∀ e ∈ es, 1 ≤ e.2.length ∧ ∀ x ∈ e.2, rightT x = true := fun {es} => by
  induction es with
  | nil => intro k _ x hx; cases hx
  | cons a es ih =>
   obtain ⟨g, l⟩ := a
   intro k h x hx
   rw [rightE] at h
   split at h
   ·cases h
   rename_i h1
   split at h
   ·rename_i h2
    rcases List.mem_cons.1 hx with rfl | hx
    ·exact ⟨by simp only; omega, all h2⟩
    ·exact ih h x hx
   ·cases h
 rw [rightT_mk] at h
 intro e he
 split at h
 ·simp only [Bool.and_eq_true, List.isEmpty_iff] at h
  rw [h.1.2] at he; cases he
 split at h
 ·simp only [Bool.and_eq_true, List.isEmpty_iff] at h
  rw [h.1.2] at he; cases he
 split at h
 ·simp only [Bool.and_eq_true] at h
  exact ent h.1.2 e he
 ·cases h
structure SizS (S : Sc) : Prop where
 msgs : S.msgs.length ≤ 1000000
 flds : ∀ m ∈ S.msgs, m.fields.length ≤ 1000000
theorem siz_of {S : Sc} (h : SizS S) (k : List UInt8) : (msOf S k).1.fields.length ≤ 1000000 := by
 unfold msOf firstP
 split
 ·rename_i m hm
  exact h.flds m (List.mem_of_find?_eq_some hm)
 ·simp [zMs]
end Go.Aw.T
namespace Go.Aw.T
open Go.Proofs
theorem and62 (n : Int) : 0 ≤ andI .i64 n 4611686018427387903 ∧ andI .i64 n 4611686018427387903 ≤ 4611686018427387903 := by
 unfold andI
 have h : (BitVec.ofInt (IntKind.bits .i64) n &&& BitVec.ofInt (IntKind.bits .i64) 4611686018427387903).toNat ≤ 4611686018427387903 := by
  rw [BitVec.toNat_and]
  exact Nat.and_le_right
 generalize (BitVec.ofInt (IntKind.bits .i64) n &&& BitVec.ofInt (IntKind.bits .i64) 4611686018427387903).toNat = q at h
 rw [w64 (by omega) (by omega)]
 omega
def nextF (l : List Int) (a : Nat) : Int × Nat := if l = [] then (0, a) else (andI .i64 (l.getD (((a + 1) * 7 + (a + 1) / l.length) % l.length) 0) 4611686018427387903, a + 1)
theorem nextF_pos (l : List Int) (a : Nat) : 0 ≤ (nextF l a).1 ∧ (nextF l a).1 ≤ 4611686018427387903 ∧ (nextF l a).2 ≤ a + 1 ∧ a ≤ (nextF l a).2 := by
 unfold nextF
 split
 ·simp
 ·have := and62 (l.getD (((a + 1) * 7 + (a + 1) / l.length) % l.length) 0)
  refine ⟨this.1, this.2, by simp, by simp⟩
def grN : List UInt8 := [103, 114, 195, 182, 195, 159, 101]
def cutF (v : Int) : Nat := [0, 1, 2, 4, 6, 7].getD (v % 6).toNat 0
def leafF (k : Int) (v : Int) : Tr := if k = 1 then .mk 1 (v % 4294967296 - 2147483648) [] [] [] else if k = 2 then .mk 1 (v - 2305843009213693952) [] [] [] else if k = 3 then .mk 1 (v % 2) [] [] [] else if k = 6 then .mk 1 (v % 5) [] [] [] else .mk 2 0 (grN.take (cutF v)) [] []
def oneF (l : List Int) (sub : List UInt8 → Nat → Tr × Nat) (f : Fd) (a : Nat) : Tr × Nat := if 1 ≤ f.ty.kind ∧ f.ty.kind ≤ 6 then (leafF f.ty.kind (nextF l a).1, (nextF l a).2) else sub f.ty.name (nextF l a).2
def repF (l : List Int) (sub : List UInt8 → Nat → Tr × Nat) (f : Fd) (x : List Tr × Nat) : List Tr × Nat := (if f.label ≠ 1 ∨ zeroV (oneF l sub f x.2).1 = false then x.1 ++ [(oneF l sub f x.2).1] else x.1, (oneF l sub f x.2).2)
def itS {α : Type} (g : Nat → α → α) : Nat → α → α
 | 0, x => x
 | n + 1, x => g n (itS g n x)
def cntF (l : List Int) (f : Fd) (a : Nat) : Nat × Nat := if f.label = 3 then (1 + ((nextF l a).1 % 3).toNat, (nextF l a).2) else (1, a)
def treesF (l : List Int) (sub : List UInt8 → Nat → Tr × Nat) (f : Fd) (a : Nat) : List Tr × Nat := itS (fun _ => repF l sub f) (cntF l f a).1 ([], (cntF l f a).2)
def tagF (m : Ms) (l : List Int) (sub : List UInt8 → Nat → Tr × Nat) (ok : Bool) (n : Nat) (x : List (Int × List Tr) × Nat) : List (Int × List Tr) × Nat :=
 if 150 ≤ x.2 then x else if (fldOf m ((n : Int) + 1)).2 = false then x else
 if (nextF l x.2).1 % 3 = 0 then (x.1, (nextF l x.2).2) else if (fldOf m ((n : Int) + 1)).1.ty.kind = 7 ∧ ok = false then (x.1, (nextF l x.2).2) else
 if (treesF l sub (fldOf m ((n : Int) + 1)).1 (nextF l x.2).2).1 = [] then (x.1, (treesF l sub (fldOf m ((n : Int) + 1)).1 (nextF l x.2).2).2) else
 (x.1 ++ [((n : Int) + 1, (treesF l sub (fldOf m ((n : Int) + 1)).1 (nextF l x.2).2).1)], (treesF l sub (fldOf m ((n : Int) + 1)).1 (nextF l x.2).2).2)
def nowhere (_ : List UInt8) (a : Nat) : Tr × Nat := (.mk 3 0 [] [] [], a)
def fitF (S : Sc) (l : List Int) : Nat → List UInt8 → Nat → Tr × Nat
 | 0, k, a => (.mk 3 0 [] (itS (tagF (msOf S k).1 l nowhere false) 500 ([], a)).1 [], (itS (tagF (msOf S k).1 l nowhere false) 500 ([], a)).2)
 | d + 1, k, a => (.mk 3 0 [] (itS (tagF (msOf S k).1 l (fitF S l d) true) 500 ([], a)).1 [], (itS (tagF (msOf S k).1 l (fitF S l d) true) 500 ([], a)).2)
def subF (S : Sc) (l : List Int) : Nat → List UInt8 → Nat → Tr × Nat
 | 0 => nowhere
 | d + 1 => fitF S l d
theorem fitF_eq (S : Sc) (l : List Int) (d : Nat) (k : List UInt8) (a : Nat) : fitF S l d k a = (.mk 3 0 [] (itS (tagF (msOf S k).1 l (subF S l d) (d != 0)) 500 ([], a)).1 [], (itS (tagF (msOf S k).1 l (subF S l d) (d != 0)) 500 ([], a)).2) := by
 cases d <;> rfl
theorem tagF_end {m : Ms} {l : List Int} {sub : List UInt8 → Nat → Tr × Nat} {ok : Bool} {n : Nat} {x : List (Int × List Tr) × Nat} (h : 150 ≤ x.2) : tagF m l sub ok n x = x := by
 unfold tagF
 rw [if_pos h]
theorem itS_end {m : Ms} {l : List Int} {sub : List UInt8 → Nat → Tr × Nat} {ok : Bool} {x : List (Int × List Tr) × Nat} {i : Nat} (h : 150 ≤ (itS (tagF m l sub ok) i x).2) : ∀ j, itS (tagF m l sub ok) (i + j) x = itS (tagF m l sub ok) i x
 | 0 => rfl
 | j + 1 => by
  rw [← Nat.add_assoc, itS, itS_end h j, tagF_end h]
theorem rightE_snoc {g : Int} {l : List Tr} (hg : g ≤ 500) (h1 : 1 ≤ l.length) (h2 : l.length ≤ 64) (h3 : rightTs l (headK l) = true) : ∀ (es : List (Int × List Tr)) (last : Int), rightE es last = true → (∀ e ∈ es, e.1 < g) → last < g → rightE (es ++ [(g, l)]) last = true
 | [], last, _, _, hl => by
  rw [List.nil_append, rightE, if_neg (by omega), if_pos h3, rightE]
 | (q, r) :: es, last, hr, he, hl => by
  rw [rightE] at hr
  split at hr
  ·cases hr
  rename_i hq
  split at hr
  ·rename_i hq2
   rw [List.cons_append, rightE, if_neg hq, if_pos hq2]
   exact rightE_snoc hg h1 h2 h3 es q hr (fun e h => he e (List.mem_cons_of_mem _ h)) (he (q, r) (List.mem_cons_self))
  ·cases hr
theorem rightTs_all {k : Int} : ∀ {l : List Tr}, (∀ x ∈ l, x.kind = k ∧ rightT x = true) → rightTs l k = true
 | [], _ => by rw [rightTs]
 | x :: l, h => by
  have := h x (List.mem_cons_self)
  rw [rightTs, if_neg (by simp [this.1]), if_pos this.2]
  exact rightTs_all fun y hy => h y (List.mem_cons_of_mem _ hy)
theorem entV_snoc {S : Sc} {m : Ms} {g : Int} {l : List Tr} (h : entV S m [(g, l)] = 0) : ∀ (es : List (Int × List Tr)), entV S m es = 0 → entV S m (es ++ [(g, l)]) = 0
 | [], _ => h
 | (q, r) :: es, he => by
  rw [entV] at he
  rw [List.cons_append, entV]
  split at he
  ·cases he
  rename_i h1
  rw [if_neg h1]
  split at he
  ·cases he
  rename_i h2
  rw [if_neg h2]
  obtain ⟨e1, e2⟩ := orE_eq.1 he
  rw [e1, orE_0]
  exact entV_snoc h es e2
theorem oneL_all {S : Sc} {f : Fd} : ∀ {l : List Tr}, (∀ x ∈ l, oneV S f x = 0) → oneL S f l = 0
 | [], _ => by rw [oneL]
 | x :: l, h => by
  rw [oneL_cons, h x (List.mem_cons_self), orE_0]
  exact oneL_all fun y hy => h y (List.mem_cons_of_mem _ hy)
theorem dE_snoc {g : Int} {l : List Tr} {m : Nat} : ∀ (es : List (Int × List Tr)) (d : Nat), dE (es ++ [(g, l)]) m d = dTs l m (dE es m d)
 | [], d => by rw [List.nil_append, dE, dE, dE]
 | (q, r) :: es, d => by rw [List.cons_append, dE, dE, dE_snoc es]
theorem dTs_bound {b m : Nat} : ∀ {l : List Tr} {d : Nat}, (∀ x ∈ l, dT x m ≤ b) → d ≤ b → dTs l m d ≤ b
 | [], d, _, h => by rw [dTs]; exact h
 | x :: l, d, hl, h => by
  rw [dTs]
  have := hl x (List.mem_cons_self)
  exact dTs_bound (fun y hy => hl y (List.mem_cons_of_mem _ hy)) (by omega)
structure GoodF (S : Sc) (f : Fd) (d : Nat) (t : Tr) : Prop where
 one : oneV S f t = 0
 kind : t.kind = kdV f.ty
 right : rightT t = true
 deep : ∀ m, dT t m ≤ d
 lens : lensT t = true
 str : strT t = true
structure GoodE (S : Sc) (m : Ms) (d n : Nat) (es : List (Int × List Tr)) : Prop where
 right : rightE es 0 = true
 ent : entV S m es = 0
 tags : ∀ e ∈ es, e.1 ≤ n
 deep : ∀ q, dE es q 0 ≤ d
 lens : es.length ≤ n ∧ lensE es = true
 str : strE es = true
 some : ∀ e ∈ es, (fldOf m e.1).2 = true ∧ 1 ≤ e.2.length ∧ ∀ x ∈ e.2, GoodF S (fldOf m e.1).1 d x
structure GoodM (S : Sc) (m : Ms) (d : Nat) (t : Tr) : Prop where
 kind : t.kind = 3
 right : rightT t = true
 msg : msgV S m t = 0
 deep : ∀ q, dT t q ≤ d
 lens : lensT t = true
 str : strT t = true
 rest : t.rest = []
 some : ∀ e ∈ t.ents, (fldOf m e.1).2 = true ∧ 1 ≤ e.2.length ∧ ∀ x ∈ e.2, GoodF S (fldOf m e.1).1 (d - 1) x
theorem valS_cut (v : Int) : valS (grN.take (cutF v)) = true := by
 unfold cutF
 have h1 : (v % 6).toNat < 6 := by omega
 generalize (v % 6).toNat = q at h1
 match q, h1 with
 | 0, _ => decide +kernel
 | 1, _ => decide +kernel
 | 2, _ => decide +kernel
 | 3, _ => decide +kernel
 | 4, _ => decide +kernel
 | 5, _ => decide +kernel
theorem num_right {n : Int} : rightT (.mk 1 n [] [] []) = true := by rw [rightT]; rfl
theorem txt_right {s : List UInt8} : rightT (.mk 2 0 s [] []) = true := by rw [rightT]; rfl
theorem leaf_good {S : Sc} {f : Fd} {v : Int} (hv : 0 ≤ v) (hv2 : v ≤ 4611686018427387903) (h1 : 1 ≤ f.ty.kind) (h6 : f.ty.kind ≤ 6) (h : f.label = 1 → zeroV (leafF f.ty.kind v) = false) (d : Nat) : GoodF S f d (leafF f.ty.kind v) := by
 have h7 : ¬ f.ty.kind = 7 := by omega
 have hz : ¬ (f.label = 1 ∧ zeroV (leafF f.ty.kind v) = true) := by rintro ⟨a, b⟩; rw [h a] at b; cases b
 have num : ∀ n, kdV f.ty = 1 → numV f.ty n = true → leafF f.ty.kind v = .mk 1 n [] [] [] → GoodF S f d (leafF f.ty.kind v) := fun n h2 h3 h4 => by
  refine ⟨?_, ?_, ?_, fun m => ?_, ?_, ?_⟩
  ·unfold oneV
   rw [if_neg h7, if_neg hz, orE_0, orE_r, h4]
   unfold fitV
   rw [if_neg (by simp [Tr.kind, h2]), if_neg (by simp [Tr.n, h3]), if_neg]
   rintro ⟨a, _⟩
   unfold kdV at h2
   rw [if_neg (by omega), if_pos (by omega)] at h2
   cases h2
  ·rw [h4, h2]; rfl
  ·rw [h4]; exact num_right
  ·rw [h4, dT, if_pos (by omega)]; exact Nat.zero_le _
  ·rw [h4, lensT, lensE]; rfl
  ·rw [h4, strT, strE]; rfl
 have e1 : ∀ k : Int, f.ty.kind = k → leafF f.ty.kind v = leafF k v := fun k h => by rw [h]
 by_cases k1 : f.ty.kind = 1
 ·refine num (v % 4294967296 - 2147483648) (by unfold kdV; rw [if_pos (by omega)]) ?_ (by unfold leafF; rw [if_pos k1])
  unfold numV
  rw [if_pos k1]
  simp only [decide_eq_true_eq]
  omega
 by_cases k2 : f.ty.kind = 2
 ·refine num (v - 2305843009213693952) (by unfold kdV; rw [if_pos (by omega)]) ?_ (by unfold leafF; rw [if_neg k1, if_pos k2])
  unfold numV
  rw [if_neg k1, if_neg (by omega), if_neg (by omega)]
  simp [k2]
 by_cases k3 : f.ty.kind = 3
 ·refine num (v % 2) (by unfold kdV; rw [if_pos (by omega)]) ?_ (by unfold leafF; rw [if_neg k1, if_neg k2, if_pos k3])
  unfold numV
  rw [if_neg k1, if_pos k3]
  simp only [decide_eq_true_eq]
  omega
 by_cases k6 : f.ty.kind = 6
 ·refine num (v % 5) (by unfold kdV; rw [if_pos (by omega)]) ?_ (by unfold leafF; rw [if_neg k1, if_neg k2, if_neg k3, if_pos k6])
  unfold numV
  rw [if_neg k1, if_neg k3, if_pos k6]
  simp only [decide_eq_true_eq]
  omega
 have h4 : leafF f.ty.kind v = .mk 2 0 (grN.take (cutF v)) [] [] := by unfold leafF; rw [if_neg k1, if_neg k2, if_neg k3, if_neg k6]
 have hk : kdV f.ty = 2 := by unfold kdV; rw [if_neg (by omega), if_pos (by omega)]
 refine ⟨?_, ?_, ?_, fun m => ?_, ?_, ?_⟩
 ·unfold oneV
  rw [if_neg h7, if_neg hz, orE_0, orE_r, h4]
  unfold fitV
  rw [if_neg (by simp [Tr.kind, hk]), if_neg (by simp [Tr.kind]), if_neg]
  rintro ⟨_, a⟩
  simp only [Tr.s] at a
  rw [valS_cut] at a
  cases a
 ·rw [h4, hk]; rfl
 ·rw [h4]; exact txt_right
 ·rw [h4, dT, if_pos (by omega)]; exact Nat.zero_le _
 ·rw [h4, lensT, lensE]; rfl
 ·rw [h4, strT, strE]
  simp only [Bool.and_true, decide_eq_true_eq, List.length_take]
  have : grN.length = 7 := rfl
  omega
end Go.Aw.T
namespace Go.Aw.T
open Go.Proofs
def FldsOK (S : Sc) (m : Ms) : Prop := ∀ g, (fldOf m g).2 = true → (1 ≤ (fldOf m g).1.ty.kind ∧ (fldOf m g).1.ty.kind ≤ 7) ∧ ((fldOf m g).1.ty.kind = 7 → (msOf S (fldOf m g).1.ty.name).2 = true)
def SubGood (S : Sc) (d : Nat) (sub : List UInt8 → Nat → Tr × Nat) : Prop := ∀ k a, (msOf S k).2 = true → GoodM S (msOf S k).1 d (sub k a).1
theorem one_good {S : Sc} {l : List Int} {sub : List UInt8 → Nat → Tr × Nat} {f : Fd} {d a : Nat} (h1 : 1 ≤ f.ty.kind) (h7 : f.ty.kind ≤ 7) (hm : f.ty.kind = 7 → (msOf S f.ty.name).2 = true ∧ SubGood S d sub) (hz : f.label = 1 → zeroV (oneF l sub f a).1 = false) : GoodF S f d (oneF l sub f a).1 := by
 have np := nextF_pos l a
 unfold oneF at hz ⊢
 by_cases h6 : f.ty.kind ≤ 6
 ·rw [if_pos ⟨h1, h6⟩] at hz ⊢
  exact leaf_good np.1 np.2.1 h1 h6 hz d
 ·have k7 : f.ty.kind = 7 := by omega
  obtain ⟨q1, q2⟩ := hm k7
  rw [if_neg (by omega)] at hz ⊢
  have g := q2 f.ty.name (nextF l a).2 q1
  have kv : kdV f.ty = 3 := (kdV_3 h1 h7).2 k7
  refine ⟨?_, by rw [g.kind, kv], g.right, g.deep, g.lens, g.str⟩
  have hz' : ¬ (f.label = 1 ∧ zeroV (sub f.ty.name (nextF l a).2).1 = true) := by
   rintro ⟨a', b⟩
   have := hz a'
   rw [this] at b
   cases b
  unfold oneV fitV
  rw [if_neg (by simp [g.kind, kv]), if_neg (by simp [g.kind]), if_neg (by omega), orE_0, if_pos k7, g.msg, orE_0, if_neg hz']
theorem reps_good {S : Sc} {l : List Int} {sub : List UInt8 → Nat → Tr × Nat} {f : Fd} {d : Nat} (h1 : 1 ≤ f.ty.kind) (h7 : f.ty.kind ≤ 7) (hm : f.ty.kind = 7 → (msOf S f.ty.name).2 = true ∧ SubGood S d sub) (a : Nat) :
  ∀ n, (∀ x ∈ (itS (fun _ => repF l sub f) n ([], a)).1, GoodF S f d x) ∧ (itS (fun _ => repF l sub f) n ([], a)).1.length ≤ n
 | 0 => by simp [itS]
 | n + 1 => by
  obtain ⟨g1, g2⟩ := reps_good h1 h7 hm a n
  rw [itS]
  generalize itS (fun _ => repF l sub f) n ([], a) = y at g1 g2
  unfold repF
  by_cases hz : f.label ≠ 1 ∨ zeroV (oneF l sub f y.2).1 = false
  ·rw [if_pos hz]
   refine ⟨fun x hx => ?_, by simp; omega⟩
   rcases List.mem_append.1 hx with hx | hx
   ·exact g1 x hx
   ·simp only [List.mem_singleton] at hx
    subst hx
    exact one_good h1 h7 hm fun hl => by
     rcases hz with q | q
     ·exact absurd hl q
     ·exact q
  ·rw [if_neg hz]
   exact ⟨g1, by simp only; omega⟩
theorem cntF_le (l : List Int) (f : Fd) (a : Nat) : 1 ≤ (cntF l f a).1 ∧ (cntF l f a).1 ≤ 3 ∧ (f.label ≠ 3 → (cntF l f a).1 = 1) ∧ (cntF l f a).2 ≤ a + 1 ∧ a ≤ (cntF l f a).2 := by
 have np := nextF_pos l a
 unfold cntF
 split
 ·rename_i h
  refine ⟨by simp only; omega, by simp only; omega, fun h' => absurd h h', np.2.2.1, np.2.2.2⟩
 ·exact ⟨by simp, by simp, fun _ => rfl, by simp, by simp⟩
theorem trees_good {S : Sc} {l : List Int} {sub : List UInt8 → Nat → Tr × Nat} {f : Fd} {d : Nat} (h1 : 1 ≤ f.ty.kind) (h7 : f.ty.kind ≤ 7) (hm : f.ty.kind = 7 → (msOf S f.ty.name).2 = true ∧ SubGood S d sub) (a : Nat) :
  (∀ x ∈ (treesF l sub f a).1, GoodF S f d x) ∧ (treesF l sub f a).1.length ≤ 3 ∧ (f.label ≠ 3 → (treesF l sub f a).1.length ≤ 1) := by
 have c := cntF_le l f a
 have r := reps_good (l := l) h1 h7 hm (cntF l f a).2 (cntF l f a).1
 unfold treesF
 exact ⟨r.1, by omega, fun h => by have := c.2.2.1 h; omega⟩
theorem GoodE.up {S : Sc} {m : Ms} {d n : Nat} {es : List (Int × List Tr)} (h : GoodE S m d n es) : GoodE S m d (n + 1) es :=
 ⟨h.right, h.ent, fun e he => by have := h.tags e he; omega, h.deep, ⟨by have := h.lens.1; omega, h.lens.2⟩, h.str, h.some⟩
theorem lensE_snoc {g : Int} {l : List Tr} (h1 : l.length ≤ 1000) (h2 : lensTs l = true) : ∀ {es : List (Int × List Tr)}, lensE es = true → lensE (es ++ [(g, l)]) = true
 | [], _ => by rw [List.nil_append, lensE, lensE, h2]; simp [h1]
 | (q, r) :: es, h => by
  rw [lensE, Bool.and_eq_true] at h
  rw [List.cons_append, lensE, h.1, lensE_snoc h1 h2 h.2]
  rfl
theorem lensTs_all : ∀ {l : List Tr}, (∀ x ∈ l, lensT x = true) → lensTs l = true
 | [], _ => by rw [lensTs]
 | x :: l, h => by
  rw [lensTs, h x (List.mem_cons_self), lensTs_all fun y hy => h y (List.mem_cons_of_mem _ hy)]
  rfl
theorem tag_good {S : Sc} {m : Ms} {l : List Int} {sub : List UInt8 → Nat → Tr × Nat} {ok : Bool} {d n : Nat} (FO : FldsOK S m) (hs : ok = true → SubGood S d sub) (hn : n + 1 ≤ 500) {x : List (Int × List Tr) × Nat} (G : GoodE S m d n x.1) : GoodE S m d (n + 1) (tagF m l sub ok n x).1 := by
 unfold tagF
 split
 ·exact G.up
 split
 ·exact G.up
 rename_i hf
 split
 ·exact G.up
 split
 ·exact G.up
 rename_i hk
 split
 ·exact G.up
 rename_i hne
 have hf' : (fldOf m ((n : Int) + 1)).2 = true := by simpa using hf
 obtain ⟨⟨k1, k7⟩, km⟩ := FO _ hf'
 obtain ⟨t1, t2, t3⟩ := trees_good (l := l) (sub := sub) (d := d) k1 k7 (fun h => ⟨km h, hs (by simp only [not_and, Bool.not_eq_false] at hk; exact hk h)⟩) (nextF l x.2).2
 generalize (treesF l sub (fldOf m ((n : Int) + 1)).1 (nextF l x.2).2).1 = ts at t1 t2 t3 hne
 have hl : 1 ≤ ts.length := by cases ts with
  | nil => exact absurd rfl hne
  | cons a b => simp
 have hrt : rightTs ts (headK ts) = true := by
  refine rightTs_all fun y hy => ⟨?_, (t1 y hy).right⟩
  rw [(t1 y hy).kind]
  cases ts with
  | nil => cases hy
  | cons a b => rw [headK, (t1 a (List.mem_cons_self)).kind]
 refine ⟨?_, ?_, ?_, ?_, ?_, ?_, ?_⟩
 ·exact rightE_snoc (by omega) hl (by omega) hrt x.1 0 G.right (fun e he => by have := G.tags e he; omega) (by omega)
 ·refine entV_snoc ?_ x.1 G.ent
  rw [entV, if_neg (by simp [hf']), if_neg (by rintro ⟨a, b⟩; have := t3 a; omega), oneL_all fun y hy => (t1 y hy).one, orE_0, entV]
 ·intro e he
  rcases List.mem_append.1 he with he | he
  ·have := G.tags e he; omega
  ·simp only [List.mem_singleton] at he
   subst he
   simp
 ·intro q
  show dE (x.1 ++ [((n : Int) + 1, ts)]) q 0 ≤ d
  rw [dE_snoc]
  exact dTs_bound (fun y hy => (t1 y hy).deep q) (G.deep q)
 ·exact ⟨by simp; exact G.lens.1, lensE_snoc (by omega) (lensTs_all fun y hy => (t1 y hy).lens) G.lens.2⟩
 ·refine strE_iff.2 fun e he => ?_
  rcases List.mem_append.1 he with he | he
  ·exact strE_iff.1 G.str e he
  ·simp only [List.mem_singleton] at he
   subst he
   exact strTs_iff.2 fun y hy => (t1 y hy).str
 ·intro e he
  rcases List.mem_append.1 he with he | he
  ·exact G.some e he
  ·simp only [List.mem_singleton] at he
   subst he
   exact ⟨hf', hl, t1⟩
theorem tags_good {S : Sc} {m : Ms} {l : List Int} {sub : List UInt8 → Nat → Tr × Nat} {ok : Bool} {d : Nat} (FO : FldsOK S m) (hs : ok = true → SubGood S d sub) (a : Nat) : ∀ n, n ≤ 500 → GoodE S m d n (itS (tagF m l sub ok) n ([], a)).1
 | 0, _ => by
  refine ⟨by rw [itS, rightE], by rw [itS, entV], by simp [itS], fun q => by rw [itS, dE]; omega, ⟨by simp [itS], by rw [itS, lensE]⟩, by rw [itS, strE], by simp [itS]⟩
 | n + 1, h => by
  rw [itS]
  exact tag_good FO hs h (tags_good FO hs a n (by omega))
theorem good_tree {S : Sc} {m : Ms} {d n : Nat} {es : List (Int × List Tr)} (G : GoodE S m d n es) (hn : n ≤ 500) : GoodM S m (d + 1) (.mk 3 0 [] es []) := by
 refine ⟨rfl, ?_, ?_, fun q => ?_, ?_, ?_, rfl, G.some⟩
 ·rw [rightT_mk]
  simp only [Tr.kind, Tr.n, Tr.s, Tr.ents, Tr.rest]
  rw [G.right]
  rfl
 ·rw [msgV_mk]
  simp only [Tr.ents, Tr.rest]
  rw [G.ent]
  rfl
 ·rw [dT]
  split
  ·omega
  ·have := G.deep (q - 1); omega
 ·rw [lensT, G.lens.2]
  have := G.lens.1
  simp; omega
 ·rw [strT, G.str]
  simp
theorem fit_good {S : Sc} (FO : ∀ k, (msOf S k).2 = true → FldsOK S (msOf S k).1) (l : List Int) : ∀ (d : Nat) (k : List UInt8) (a : Nat), (msOf S k).2 = true → GoodM S (msOf S k).1 (d + 1) (fitF S l d k a).1
 | 0, k, a, h => by
  rw [fitF]
  exact good_tree (tags_good (FO k h) (fun h => by cases h) a 500 (by omega)) (by omega)
 | d + 1, k, a, h => by
  rw [fitF]
  exact good_tree (tags_good (FO k h) (fun _ k a h => fit_good FO l d k a h) a 500 (by omega)) (by omega)
def SubAt (B : Nat) (sub : List UInt8 → Nat → Tr × Nat) : Prop := ∀ k a, (sub k a).2 ≤ max a B ∧ a ≤ (sub k a).2
theorem one_at {l : List Int} {sub : List UInt8 → Nat → Tr × Nat} {f : Fd} {B a : Nat} (h : SubAt B sub) : (oneF l sub f a).2 ≤ max (a + 1) B ∧ a ≤ (oneF l sub f a).2 := by
 have np := nextF_pos l a
 unfold oneF
 split
 ·simp only; omega
 ·have := h f.ty.name (nextF l a).2; omega
theorem reps_at {l : List Int} {sub : List UInt8 → Nat → Tr × Nat} {f : Fd} {B : Nat} (h : SubAt B sub) (x : List Tr × Nat) : ∀ n, (itS (fun _ => repF l sub f) n x).2 ≤ max x.2 B + n ∧ x.2 ≤ (itS (fun _ => repF l sub f) n x).2
 | 0 => by simp only [itS]; omega
 | n + 1 => by
  have g := reps_at h x n (l := l) (f := f)
  have o := one_at (l := l) (f := f) (a := (itS (fun _ => repF l sub f) n x).2) h
  rw [itS]
  unfold repF at g o ⊢
  simp only at g o ⊢
  omega
theorem trees_at {l : List Int} {sub : List UInt8 → Nat → Tr × Nat} {f : Fd} {B a : Nat} (h : SubAt B sub) : (treesF l sub f a).2 ≤ max (a + 1) B + 3 ∧ a ≤ (treesF l sub f a).2 := by
 have c := cntF_le l f a
 have r := reps_at (l := l) (f := f) h ([], (cntF l f a).2) (cntF l f a).1
 unfold treesF
 simp only at r
 omega
theorem tag_at {m : Ms} {l : List Int} {sub : List UInt8 → Nat → Tr × Nat} {ok : Bool} {B n : Nat} (h : SubAt B sub) (x : List (Int × List Tr) × Nat) : (tagF m l sub ok n x).2 ≤ max x.2 (max 151 B + 3) ∧ x.2 ≤ (tagF m l sub ok n x).2 := by
 have np := nextF_pos l x.2
 have t := trees_at (l := l) (f := (fldOf m ((n : Int) + 1)).1) (a := (nextF l x.2).2) h
 unfold tagF
 repeat' split
 all_goals first | omega | (simp only; omega)
theorem tags_at {m : Ms} {l : List Int} {sub : List UInt8 → Nat → Tr × Nat} {ok : Bool} {B : Nat} (h : SubAt B sub) (x : List (Int × List Tr) × Nat) : ∀ n, (itS (tagF m l sub ok) n x).2 ≤ max x.2 (max 151 B + 3) ∧ x.2 ≤ (itS (tagF m l sub ok) n x).2
 | 0 => by simp only [itS]; omega
 | n + 1 => by
  have g := tags_at h x n (m := m) (l := l) (ok := ok)
  have o := tag_at (m := m) (l := l) (ok := ok) (n := n) h (itS (tagF m l sub ok) n x)
  rw [itS]
  omega
theorem fit_at (S : Sc) (l : List Int) : ∀ d, SubAt (154 + 3 * d) (fitF S l d)
 | 0, k, a => by
  have := tags_at (m := (msOf S k).1) (l := l) (ok := false) (B := 0) (sub := nowhere) (fun k a => by simp [nowhere]) ([], a) 500
  rw [fitF]
  simp only at this ⊢
  omega
 | d + 1, k, a => by
  have := tags_at (m := (msOf S k).1) (l := l) (ok := true) (fit_at S l d) ([], a) 500
  rw [fitF]
  simp only at this ⊢
  omega
theorem sub_at (S : Sc) (l : List Int) (d : Nat) : SubAt (154 + 3 * d) (subF S l d) := by
 cases d with
 | zero => intro k a; simp [subF, nowhere]; omega
 | succ d => intro k a; have := fit_at S l d k a; rw [subF]; omega
end Go.Aw.T
namespace Go.Aw.T
open Go.Proofs
end Go.Aw.T
namespace Go.Aw.T
open Go.Proofs
end Go.Aw.T
namespace Go.Aw
open Go.Proofs Go.RowKit
end Go.Aw
namespace Go.Aw.T
open Go.Proofs
theorem ms_mem {S : Sc} {k : List UInt8} (h : (msOf S k).2 = true) : (msOf S k).1 ∈ S.msgs ∧ (msOf S k).1.name = k := by
 unfold msOf firstP at h ⊢
 split at h
 ·rename_i m hm
  exact ⟨List.mem_of_find?_eq_some hm, by simpa using List.find?_some hm⟩
 ·cases h
theorem fld_mem {m : Ms} {g : Int} (h : (fldOf m g).2 = true) : (fldOf m g).1 ∈ m.fields ∧ (fldOf m g).1.tag = g := by
 unfold fldOf firstP at h ⊢
 split at h
 ·rename_i m hm
  exact ⟨List.mem_of_find?_eq_some hm, by simpa using List.find?_some hm⟩
 ·cases h
theorem flds_ok {S : Sc} (R : RightS S) {m : Ms} (hm : m ∈ S.msgs) : FldsOK S m := by
 intro g hg
 obtain ⟨i, hi⟩ := List.getElem?_of_mem (fld_mem hg).1
 have := (R.fld m hm i _ hi).2.2.1
 unfold fieldB kindB at this
 rw [Bool.and_eq_true] at this
 have h2 := this.2
 split at h2
 ·exact ⟨by omega, fun h => by omega⟩
 split at h2
 ·exact ⟨by omega, fun _ => h2⟩
 ·simp only [Bool.and_eq_true, decide_eq_true_eq] at h2
  exact ⟨by omega, fun h => by omega⟩
theorem siz_right {S : Sc} (R : RightS S) : SizS S := ⟨by have := R.len; omega, fun m hm => by have := R.no m hm; omega⟩
theorem flds_all {S : Sc} (R : RightS S) (k : List UInt8) (h : (msOf S k).2 = true) : FldsOK S (msOf S k).1 := flds_ok R (ms_mem h).1
theorem ok_right {t : Tr} (h : okT t = true) : rightT t = true := by
 unfold okT at h
 rw [Bool.and_eq_true] at h
 exact h.2
end Go.Aw.T
namespace Go.Aw.T
open Go.Proofs
theorem find_none {es : List (Int × List Tr)} {g : Int} (h : es.all (fun e => e.1 != g) = true) : es.find? (fun e => e.1 == g) = none := by
 rw [List.find?_eq_none]
 intro e he
 have := List.all_eq_true.1 h e he
 simpa using this
theorem find_some {es : List (Int × List Tr)} {g : Int} {i : Nat} {e : Int × List Tr} (h : (es.take i).all (fun e => e.1 != g) = true) (he : es[i]? = some e) (hg : e.1 = g) : es.find? (fun e => e.1 == g) = some e := by
 have hl := (List.getElem?_eq_some_iff.1 he).1
 have e1 : es = es.take i ++ e :: es.drop (i + 1) := by
  conv => lhs; rw [← List.take_append_drop i es, List.drop_eq_getElem_cons hl, (List.getElem?_eq_some_iff.1 he).2]
 rw [e1, List.find?_append, find_none h]
 simp [hg]
theorem all_take {es : List (Int × List Tr)} {g : Int} {i : Nat} {e : Int × List Tr} (he : es[i]? = some e) (h : (es.take i).all (fun e => e.1 != g) = true) (hg : e.1 ≠ g) : (es.take (i + 1)).all (fun e => e.1 != g) = true := by
 rw [List.take_add_one, he, List.all_append, h]
 simpa using hg
end Go.Aw.T
namespace Go.Aw.T
open Go.Proofs
end Go.Aw.T
namespace Go.Aw.T
open Go.Proofs
def bareN (e : Int × List Tr) : Int × List Tr := (e.1, e.2.map bareT)
def bx (t : Tr) (i : Nat) : St := ⟨ofL [(1, .ptr 0 0 0), (2, .ptr 1 0 0), (3, .ptr 2 0 0), (4, .p (.int .i64 (i : Int)))],
 ofH [(0, .row 5 [cellsT t]), (1, .row 5 [[.p (.int .i64 0), .p (.int .i64 0), .p (.str []), .ex [], .ex []]]), (2, .row 5 [[.p (.int .i64 t.kind), .p (.int .i64 t.n), .p (.str t.s), .own 3, .ex []]]),
  (3, .row 2 (liftE (((t.ents.map bareN).take i).map encEn)))], 4⟩
def bz (t : Tr) (i : Nat) (e : Int × List Tr) : St := ⟨ofL [(1, .ptr 0 0 0), (2, .ptr 1 0 0), (3, .ptr 2 0 0), (4, .p (.int .i64 (i : Int))), (5, .ptr 4 0 0)],
 ofH [(0, .row 5 [cellsT t]), (1, .row 5 [[.p (.int .i64 0), .p (.int .i64 0), .p (.str []), .ex [], .ex []]]), (2, .row 5 [[.p (.int .i64 t.kind), .p (.int .i64 t.n), .p (.str t.s), .own 3, .ex []]]),
  (3, .row 2 (liftE (((t.ents.map bareN).take i).map encEn))), (4, .row 2 [[.p (.int .i64 e.1), .p (.slice ((e.2.map bareT).map encTr))]])], 5⟩
theorem map_at {α β : Type} {f : α → β} {l : List α} {i : Nat} {x : α} (h : l[i]? = some x) : (l.map f)[i]? = some (f x) := by rw [List.getElem?_map, h]; rfl
end Go.Aw.T
namespace Go.Aw.T
open Go.Proofs
def cx (t : Tr) (i : Nat) (l : List (Nat × AV)) (h : List (Nat × Blk)) (n : Nat) : St := ⟨ofL ((1, .ptr 0 0 0) :: (2, .ptr 1 0 0) :: (3, .own 2) :: (11, .p (.slice (t.ents.map encEn))) :: (12, .p (.int .i64 (t.ents.length : Int))) :: (13, .p (.int .i64 (i : Int))) :: l),
 ofH ((0, .row 5 [[.p (.int .i64 t.kind), .p (.int .i64 t.n), .p (.str t.s), .p (.slice (t.ents.map encEn)), .ex []]]) :: (1, .row 5 [[.p (.int .i64 0), .p (.int .i64 0), .p (.str []), .ex [], .ex []]]) ::
  (2, .row 2 (liftE (((t.ents.map bareN).take i).map encEn))) :: h), n⟩
end Go.Aw.T
namespace Go.Aw.T
open Go.Proofs
theorem lensTs_iff : ∀ {l : List Tr}, lensTs l = true ↔ ∀ x ∈ l, lensT x = true
 | [] => by simp [lensTs]
 | x :: l => by rw [lensTs, Bool.and_eq_true, lensTs_iff]; simp
theorem lensE_iff : ∀ {es : List (Int × List Tr)}, lensE es = true ↔ ∀ e ∈ es, e.2.length ≤ 1000 ∧ lensTs e.2 = true
 | [] => by simp [lensE]
 | (g, l) :: es => by
  rw [lensE, Bool.and_eq_true, Bool.and_eq_true, decide_eq_true_eq, lensE_iff]
  simp
theorem same_self (t : Tr) : sameT t t = true := (sameT_iff t t).2 rfl
theorem same_of {a b : Tr} {f : FuncId} (h : PFn Tryd.prog f [.agg (encTr a), .agg (encTr b)] (.bool (sameT a b))) (e : a = b) : PFn Tryd.prog f [.agg (encTr a), .agg (encTr b)] (.bool true) := by
 rw [e] at h ⊢
 rwa [same_self] at h
end Go.Aw.T
namespace Go.Aw.T
theorem big_of {S : Sc} (G : GSc S) : bigS S := ⟨G.name, fun m hm => (G.msgs.2 m hm).name⟩
end Go.Aw.T
namespace Go.Aw.T
open Go.Proofs
end Go.Aw.T
namespace Go.Aw.T
open Go.Proofs
def clampV (n : Int) : Int := if n < -2147483648 then -2147483648 else if 2147483647 < n then 2147483647 else n
def pfit (y : Ty) (t : Tr) : Bool := if y.kind = 1 ∨ y.kind = 2 then decide (t.kind = 1) else if y.kind = 3 ∨ y.kind = 6 then decide (t.kind = 1) && numV y t.n else if y.kind = 4 then decide (t.kind = 2) && valS t.s else if y.kind = 5 then decide (t.kind = 2) else decide (t.kind = 3)
def selL {α : Type} (f : Fd) (l : List α) : List α := if f.label = 3 then l else l.drop (l.length - 1)
theorem selL_map {α β : Type} (f : Fd) (g : α → β) (l : List α) : selL f (l.map g) = (selL f l).map g := by
 unfold selL
 split
 ·rfl
 ·rw [List.map_drop, List.length_map]
def keepL (f : Fd) (l : List Tr) : Bool := f.label != 1 || !(l.head?.any zeroV)
mutual
def prM (S : Sc) (m : Ms) : Tr → Tr
 | .mk _ _ _ es _ => .mk 3 0 [] (prE S m es) []
def prE (S : Sc) (m : Ms) : List (Int × List Tr) → List (Int × List Tr)
 | [] => []
 | (g, l) :: es => if ((fldOf m g).2 && l.all (pfit (fldOf m g).1.ty) && keepL (fldOf m g).1 (selL (fldOf m g).1 (prL S (fldOf m g).1 l))) = true then (g, selL (fldOf m g).1 (prL S (fldOf m g).1 l)) :: prE S m es else prE S m es
def prL (S : Sc) (f : Fd) : List Tr → List Tr
 | [] => []
 | t :: l => (if f.ty.kind = 1 then .mk t.kind (clampV t.n) t.s t.ents t.rest else if f.ty.kind = 7 then prM S (msOf S f.ty.name).1 t else t) :: prL S f l
end
def pr1 (S : Sc) (f : Fd) (t : Tr) : Tr := if f.ty.kind = 1 then .mk t.kind (clampV t.n) t.s t.ents t.rest else if f.ty.kind = 7 then prM S (msOf S f.ty.name).1 t else t
theorem prL_map (S : Sc) (f : Fd) : ∀ l : List Tr, prL S f l = l.map (pr1 S f)
 | [] => by rw [prL]; rfl
 | t :: l => by rw [prL, prL_map S f l]; rfl
theorem prM_mk (S : Sc) (m : Ms) (t : Tr) : prM S m t = .mk 3 0 [] (prE S m t.ents) [] := by
 cases t
 rw [prM]
 rfl
def fieldP (S : Sc) (f : Fd) (l : List Tr) : List Tr × Bool := if l.all (pfit f.ty) = false then ([], false) else ((selL f l).map (pr1 S f), keepL f ((selL f l).map (pr1 S f)))
def entP (S : Sc) (m : Ms) (e : Int × List Tr) : List (Int × List Tr) := if (fldOf m e.1).2 = true ∧ (fieldP S (fldOf m e.1).1 e.2).2 = true then [(e.1, (fieldP S (fldOf m e.1).1 e.2).1)] else []
theorem prE_cons (S : Sc) (m : Ms) (e : Int × List Tr) (es : List (Int × List Tr)) : prE S m (e :: es) = entP S m e ++ prE S m es := by
 obtain ⟨g, l⟩ := e
 rw [prE]
 unfold entP fieldP
 simp only
 rw [prL_map, selL_map]
 cases h1 : (fldOf m g).2
 ·simp
 cases h2 : l.all (pfit (fldOf m g).1.ty)
 ·simp
 cases h3 : keepL (fldOf m g).1 ((selL (fldOf m g).1 l).map (pr1 S (fldOf m g).1))
 ·simp
 ·simp
theorem prE_flat (S : Sc) (m : Ms) : ∀ es : List (Int × List Tr), prE S m es = es.flatMap (entP S m)
 | [] => by rw [prE]; rfl
 | e :: es => by rw [prE_cons, prE_flat S m es]; rfl
theorem entP_len (S : Sc) (m : Ms) (e : Int × List Tr) : (entP S m e).length ≤ 1 := by
 unfold entP
 split <;> simp
theorem prE_len (S : Sc) (m : Ms) (es : List (Int × List Tr)) : (prE S m es).length ≤ es.length := by
 induction es with
 | nil => simp [prE]
 | cons e es ih =>
  rw [prE_cons, List.length_append, List.length_cons]
  have := entP_len S m e
  omega
def zeroTr : Tr := .mk 0 0 [] [] []
end Go.Aw.T
namespace Go.Aw
open Go.Proofs Go.RowKit
def fitsE (S U : Sc) (y z : Ty) : Bool := (firstP (fun x => x.name == y.name) zEn S.enums).2 && ((firstP (fun x => x.name == z.name) zEn U.enums).2 && (firstP (fun x => x.name == y.name) zEn S.enums).1.vals.all fun v => (firstP (fun x => x.name == z.name) zEn U.enums).1.vals.contains v)
def fitsB (S U : Sc) (y z : Ty) : Bool := if y.kind = 1 ∧ z.kind = 2 then true else if y.kind ≠ z.kind then false else if y.kind ≠ 6 then true else fitsE S U y z
end Go.Aw
namespace Go.Aw
open Go.Proofs Go.RowKit
theorem msgsC_back {S : Sc} {K : List (List UInt8) → Int} : ∀ {l : List Ms} {ns : List (List UInt8)}, (∀ (i : Nat) m, l[i]? = some m → msgC S (ns ++ (l.take i).map Ms.name) m = 0) → K (ns ++ l.map Ms.name) = 0 → msgsC S K ns l = 0
 | [], ns, _, h => by simpa [msgsC] using h
 | a :: l, ns, h1, h2 => by
  have h0 := h1 0 a rfl
  rw [msgsC, if_pos (by simpa using h0)]
  exact msgsC_back (fun i m hm => by have := h1 (i + 1) m (by simpa using hm); simpa [List.append_assoc] using this) (by simpa [List.append_assoc] using h2)
theorem enumsC_back : ∀ {l : List En} {ns : List (List UInt8)}, (∀ (i : Nat) m, l[i]? = some m → enumC (ns ++ (l.take i).map En.name) m = 0) → enumsC ns l = 0
 | [], ns, _ => rfl
 | a :: l, ns, h1 => by
  have h0 := h1 0 a rfl
  rw [enumsC, if_pos (by simpa using h0)]
  exact enumsC_back (fun i m hm => by have := h1 (i + 1) m (by simpa using hm); simpa [List.append_assoc] using this)
theorem methsC_back {S : Sc} : ∀ {l : List Mt} {ns : List (List UInt8)}, (∀ (i : Nat) m, l[i]? = some m → takesB (ns ++ (l.take i).map Mt.name) m.name = true ∧ hasM S m.inn = true ∧ hasM S m.out = true) → methsC S ns l = 0
 | [], ns, _ => rfl
 | a :: l, ns, h1 => by
  obtain ⟨q1, q2, q3⟩ := h1 0 a rfl
  rw [methsC, if_pos (by simpa using q1), if_pos (by rw [q2, q3]; rfl)]
  exact methsC_back (fun i m hm => by have := h1 (i + 1) m (by simpa using hm); simpa [List.append_assoc] using this)
theorem takes_iff {ns : List (List UInt8)} {k : List UInt8} : takesB ns k = true ↔ nameB k = true ∧ k ∉ ns := by
 unfold takesB
 rw [Bool.and_eq_true, Bool.not_eq_true', ← Bool.not_eq_true, List.contains_iff_mem]
theorem takes_all {α : Type} {f : α → List UInt8} : ∀ {l : List α} {ns : List (List UInt8)}, ns.Nodup → ((∀ (i : Nat) a, l[i]? = some a → takesB (ns ++ (l.take i).map f) (f a) = true) ↔ (∀ a ∈ l, nameB (f a) = true) ∧ (ns ++ l.map f).Nodup)
 | [], ns, hn => by simp [hn]
 | a :: l, ns, hn => by
  constructor
  ·intro h
   have h0 := takes_iff.1 (h 0 a rfl)
   have hn' : (ns ++ [f a]).Nodup := by
    rw [List.nodup_append]
    refine ⟨hn, by simp, fun x hx y hy => ?_⟩
    simp at hy
    subst hy
    rintro rfl
    exact h0.2 (by simpa using hx)
   have := (takes_all (f := f) (l := l) hn').1 fun i b hb => by
    have := h (i + 1) b (by simpa using hb)
    simpa [List.append_assoc] using this
   refine ⟨fun b hb => ?_, by simpa [List.append_assoc] using this.2⟩
   rcases List.mem_cons.1 hb with rfl | hb
   ·exact h0.1
   ·exact this.1 b hb
  ·rintro ⟨h1, h2⟩ i b hb
   have h2' : ((ns ++ [f a]) ++ l.map f).Nodup := by simpa [List.append_assoc] using h2
   cases i with
   | zero =>
    simp at hb
    subst hb
    refine takes_iff.2 ⟨h1 _ List.mem_cons_self, fun hm => ?_⟩
    have q := (List.nodup_append.1 h2').1
    rw [List.nodup_append] at q
    exact q.2.2 (f a) (by simpa using hm) (f a) (by simp) rfl
   | succ i =>
    have hn' := (List.nodup_append.1 h2').1
    have := (takes_all (f := f) (l := l) hn').2 ⟨fun c hc => h1 c (List.mem_cons_of_mem _ hc), h2'⟩ i b (by simpa using hb)
    simpa [List.append_assoc] using this
def namesS (S : Sc) : List (List UInt8) := S.msgs.map Ms.name ++ S.enums.map En.name
structure FitS (S : Sc) : Prop where
 name : nameB S.name = true
 lens : S.msgs.length ≠ 0 ∧ S.msgs.length ≤ 10 ∧ S.enums.length ≤ 6 ∧ S.meths.length ≤ 6
 mn : ∀ m ∈ S.msgs, nameB m.name = true
 en : ∀ m ∈ S.enums, nameB m.name = true
 nd : (namesS S).Nodup
 body : ∀ m ∈ S.msgs, bodyC S m = 0
 ebody : ∀ m ∈ S.enums, enumBody m = 0
 tn : ∀ t ∈ S.meths, nameB t.name = true
 tnd : (S.meths.map Mt.name).Nodup
 tio : ∀ t ∈ S.meths, hasM S t.inn = true ∧ hasM S t.out = true
theorem msgC_zero {S : Sc} {ns : List (List UInt8)} {m : Ms} : msgC S ns m = 0 ↔ takesB ns m.name = true ∧ bodyC S m = 0 := by
 unfold msgC
 split
 ·rename_i h; simp [h]
 ·rename_i h; simp [h]
theorem enumC_zero {ns : List (List UInt8)} {m : En} : enumC ns m = 0 ↔ takesB ns m.name = true ∧ enumBody m = 0 := by
 unfold enumC
 split
 ·rename_i h; simp [h]
 ·rename_i h; simp [h]
theorem check_fit {S : Sc} : checkC S = 0 ↔ FitS S := by
 constructor
 ·intro h
  have R := right_of h
  unfold checkC at h
  split at h
  case isFalse => cases h
  rename_i hn
  split at h
  ·cases h
  split at h
  ·cases h
  split at h
  case isFalse h0 => exact absurd h h0
  rename_i h0
  obtain ⟨h1, h2⟩ := msgsC_zero h0
  have h3 := enumsC_zero h2
  have h4 := methsC_zero h
  rw [List.nil_append] at h3
  have a1 := (takes_all (f := Ms.name) (l := S.msgs) (ns := []) List.nodup_nil).1 fun i m hm => (msgC_zero.1 (h1 i m hm)).1
  rw [List.nil_append] at a1
  have a2 := (takes_all (f := En.name) (l := S.enums) a1.2).1 fun i m hm => (enumC_zero.1 (h3 i m hm)).1
  have a3 := (takes_all (f := Mt.name) (l := S.meths) (ns := []) List.nodup_nil).1 fun i m hm => (h4 i m hm).1
  refine ⟨hn, R.len, a1.1, a2.1, a2.2, fun m hm => ?_, fun m hm => ?_, a3.1, by simpa using a3.2, fun t ht => ?_⟩
  ·obtain ⟨i, hi⟩ := List.getElem?_of_mem hm
   exact (msgC_zero.1 (h1 i m hi)).2
  ·obtain ⟨i, hi⟩ := List.getElem?_of_mem hm
   exact (enumC_zero.1 (h3 i m hi)).2
  ·obtain ⟨i, hi⟩ := List.getElem?_of_mem ht
   exact (h4 i t hi).2
 ·intro F
  have nd := F.nd
  unfold namesS at nd
  have nd1 := (List.nodup_append.1 nd).1
  have a1 := (takes_all (f := Ms.name) (l := S.msgs) (ns := []) List.nodup_nil).2 ⟨F.mn, by simpa using nd1⟩
  have a2 := (takes_all (f := En.name) (l := S.enums) nd1).2 ⟨F.en, nd⟩
  have a3 := (takes_all (f := Mt.name) (l := S.meths) (ns := []) List.nodup_nil).2 ⟨F.tn, by simpa using F.tnd⟩
  have hp : partsC S = 0 := by
   refine msgsC_back (fun i m hm => msgC_zero.2 ⟨a1 i m hm, F.body m (List.mem_of_getElem? hm)⟩) ?_
   rw [List.nil_append]
   exact enumsC_back fun i m hm => enumC_zero.2 ⟨a2 i m hm, F.ebody m (List.mem_of_getElem? hm)⟩
  have hm : methsC S [] S.meths = 0 := methsC_back fun i m hm => ⟨a3 i m hm, F.tio m (List.mem_of_getElem? hm)⟩
  have l := F.lens
  unfold checkC
  rw [if_pos F.name, if_neg l.1, if_neg (by omega), if_pos hp, hm]
theorem found_any {α : Type} {p : α → Bool} {z : α} {l : List α} : (firstP p z l).2 = l.any p := by
 unfold firstP
 cases h : l.find? p with
 | none =>
  symm
  rw [List.find?_eq_none] at h
  rw [List.any_eq_false]
  exact h
 | some a =>
  symm
  rw [List.any_eq_true]
  exact ⟨a, List.mem_of_find?_eq_some h, List.find?_some h⟩
end Go.Aw
namespace Go.Aw
open Go.Proofs Go.RowKit
def niceE (e : En) : Prop := (e.vals.map Nm.n).Nodup ∧ ∀ v ∈ e.vals, v.name ≠ []
theorem nice_z : niceE zEn := ⟨List.nodup_nil, fun v hv => by cases hv⟩
def mN (l : List Nm) : List (PV × AV) := l.map fun v => (.int .i64 v.n, .p (.str v.name))
theorem mN_labs (l : List Nm) (n : Nat) : (mN l).all (fun e => AV.labsIn n e.2) = true := by
 simp [mN, AV.labsIn]
attribute [go_sem] mN_labs
theorem mN_no {l : List Nm} {k : Int} (h : l.any (fun v => k == v.n) = false) : MapAt (mN l) (.int .i64 k) none :=
 mapAt_none (q := fun a : Nm => k == a.n) (fun a => by simp [keyEq]) h
theorem mN_yes {l : List Nm} (hd : (l.map Nm.n).Nodup) {v : Nm} (h : v ∈ l) : ∃ i : Nat, MapAt (mN l) (.int .i64 v.n) (some (i, .p (.str v.name))) := by
 obtain ⟨i, a, h1, h2, h3⟩ := first_of (q := fun u : Nm => v.n == u.n) (List.any_eq_true.2 ⟨v, h, by simp⟩)
 have ea : a = v := by
  obtain ⟨j, hj⟩ := List.getElem?_of_mem h
  have e : a.n = v.n := by simpa using (beq_iff_eq.1 h2).symm
  have : i = j := by
   have q1 : (l.map Nm.n)[i]? = some a.n := by simp [h1]
   have q2 : (l.map Nm.n)[j]? = some v.n := by simp [hj]
   have li : i < (l.map Nm.n).length := (List.getElem?_eq_some_iff.1 q1).1
   rw [e, ← q2] at q1
   exact (List.getElem?_inj li hd).1 q1
  subst this
  rw [h1] at hj
  exact Option.some.inj hj
 subst ea
 exact ⟨i, mapAt_some (q := fun u : Nm => a.n == u.n) (fun a => by simp [keyEq]) h1 h2 h3⟩
theorem nm_in {l : List Nm} (hd : (l.map Nm.n).Nodup) {u v : Nm} (hu : u ∈ l) (hn : u.n = v.n) : l.contains v = (u.name == v.name) := by
 rw [Bool.eq_iff_iff, List.contains_iff_mem, beq_iff_eq]
 constructor
 ·intro hv
  obtain ⟨i, hi⟩ := List.getElem?_of_mem hu
  obtain ⟨j, hj⟩ := List.getElem?_of_mem hv
  have q1 : (l.map Nm.n)[i]? = some u.n := by simp [hi]
  have q2 : (l.map Nm.n)[j]? = some v.n := by simp [hj]
  have li : i < (l.map Nm.n).length := (List.getElem?_eq_some_iff.1 q1).1
  rw [hn, ← q2] at q1
  have : i = j := (List.getElem?_inj li hd).1 q1
  subst this
  rw [hi] at hj
  rw [Option.some.inj hj]
 ·intro e
  have : u = v := by cases u; cases v; simp_all
  rw [← this]; exact hu
def fx1 (o n : En) (b1 b2 : Bool) (j : Nat) : St := ⟨ofL [(9, .ptr 0 0 0), (10, .p (.bool b1)), (12, .p (.bool b2)), (13, .map 2), (53, .p (.slice (n.vals.map encNm))), (54, .p (.int .i64 (n.vals.length : Int))), (55, .p (.int .i64 (j : Int)))], ofH [(0, .row 2 [cellsEn o]), (2, .map (mN (n.vals.take j)))], 3⟩
def fx2 (o n : En) (b1 b2 : Bool) (j : Nat) : St := ⟨ofL [(10, .p (.bool b1)), (12, .p (.bool b2)), (13, .map 2), (66, .p (.slice (o.vals.map encNm))), (67, .p (.int .i64 (o.vals.length : Int))), (68, .p (.int .i64 (j : Int)))], ofH [(2, .map (mN n.vals))], 3⟩
theorem compat_Fits (S U : Sc) (y z : Ty) (h1 : S.enums.length ≤ 1000000) (h2 : U.enums.length ≤ 1000000) (hv : ∀ e ∈ S.enums, e.vals.length ≤ 1000000) (hw : ∀ e ∈ U.enums, e.vals.length ≤ 1000000) (hS : ∀ e ∈ S.enums, niceE e) (hU : ∀ e ∈ U.enums, niceE e) :
  PFn Tryd.prog 118 [.agg (encSc S), .agg (encSc U), .agg (encTy y), .agg (encTy z)] (.bool (fitsB S U y z)) := by
 refine PFn.of Tryd.func118 rfl (by decide) Tryd.ntmps118 Tryd.results118 (Nat.le_of_ble_eq_true rfl) ?_
 simp only [argsT, encSc, encTy]
 refine AW.rT (by rfl) fun K hK => ?_
 simp -implicitDefEqProofs only [go_sem, ↓reduceIte, Nat.reduceAdd, Nat.reduceEqDiff, reduceCtorEq]
 apply hK; clear hK K
 refine AW.seq ?_
 refine AW.block ?_
 by_cases k1 : y.kind = 1 ∧ z.kind = 2
 ·have a1 : (y.kind == 1) = true := by simp; omega
  have a2 : (z.kind == 2) = true := by simp; omega
  have e : fitsB S U y z = true := by unfold fitsB; rw [if_pos k1]
  refine AW.rT (by rfl) fun K hK => ?_
  simp -implicitDefEqProofs only [go_sem, ↓reduceIte, Nat.reduceAdd, Nat.reduceEqDiff, a1, a2]
  apply hK; clear hK K
  refine AW.cond _ (by simp -implicitDefEqProofs only [go_sem]; rfl) (fun hc => ?_) (fun hc => ?_)
  rotate_left
  ·simp at hc
  refine AW.rT (by rfl) fun K hK => ?_
  simp -implicitDefEqProofs only [go_sem, Nat.reduceAdd]
  apply hK; clear hK K
  refine AW.ret ?_
  simp -implicitDefEqProofs only [go_sem, e]
 have e0 : fitsB S U y z = if y.kind ≠ z.kind then false else if y.kind ≠ 6 then true else fitsE S U y z := by unfold fitsB; rw [if_neg k1]
 have cond1 : (y.kind == 1) = false ∨ ((y.kind == 1) = true ∧ (z.kind == 2) = false) := by
  by_cases h : y.kind = 1
  ·right
   exact ⟨by simp; omega, by simp; omega⟩
  ·left; simp; omega
 refine AW.cut (fun _ : Unit => ⟨ofL [(4, .ptr 0 0 0), (5, .ptr 1 0 0), (6, .ptr 2 0 0), (7, .ptr 3 0 0), (18, .p (.bool false))], ofH [(0, .row 4 [cellsSc S]), (1, .row 4 [cellsSc U]), (2, .row 2 [[.p (.int .i64 y.kind), .p (.str y.name)]]), (3, .row 2 [[.p (.int .i64 z.kind), .p (.str z.name)]])], 4⟩) (fun _ => True) ?_ fun _ _ => ?_
 ·rcases cond1 with a1 | ⟨a1, a2⟩
  ·refine AW.rE (by rfl) fun K hK => ?_
   simp -implicitDefEqProofs only [go_sem, ↓reduceIte, Nat.reduceAdd, Nat.reduceEqDiff, a1]
   apply hK; clear hK K
   simp only [andThen]
   refine ⟨(), trivial, ?_⟩
   simp only [cellsSc]
   refine Ghost.sub ?_ ?_ <;> simp -implicitDefEqProofs only [go_sem, ↓reduceIte, Nat.reduceEqDiff, reduceCtorEq, List.forall_mem_cons, List.not_mem_nil, false_implies, implies_true, and_self, List.all_cons, List.all_nil, Nat.reduceLT, labsInL, AV.labsIn]
   all_goals first | rfl | decide | skip
  ·refine AW.rE (by rfl) fun K hK => ?_
   simp -implicitDefEqProofs only [go_sem, ↓reduceIte, Nat.reduceAdd, Nat.reduceEqDiff, a1, a2]
   apply hK; clear hK K
   simp only [andThen]
   refine ⟨(), trivial, ?_⟩
   simp only [cellsSc]
   refine Ghost.sub ?_ ?_ <;> simp -implicitDefEqProofs only [go_sem, ↓reduceIte, Nat.reduceEqDiff, reduceCtorEq, List.forall_mem_cons, List.not_mem_nil, false_implies, implies_true, and_self, List.all_cons, List.all_nil, Nat.reduceLT, labsInL, AV.labsIn]
   all_goals first | rfl | decide | skip
 simp only [cellsSc]
 refine AW.cond _ (by simp -implicitDefEqProofs only [go_sem, ↓reduceIte, Nat.reduceEqDiff]; rfl) (fun hc => ?_) (fun hc => ?_)
 ·simp at hc
 by_cases k2 : y.kind = z.kind
 case neg =>
  have a3 : (y.kind != z.kind) = true := by simp; omega
  rw [if_pos k2] at e0
  refine AW.rT (by rfl) fun K hK => ?_
  simp -implicitDefEqProofs only [go_sem, ↓reduceIte, Nat.reduceAdd, Nat.reduceEqDiff, reduceCtorEq, a3]
  apply hK; clear hK K
  refine AW.cond _ (by simp -implicitDefEqProofs only [go_sem]; rfl) (fun hc => ?_) (fun hc => ?_)
  rotate_left
  ·simp at hc
  refine AW.rT (by rfl) fun K hK => ?_
  simp -implicitDefEqProofs only [go_sem, Nat.reduceAdd]
  apply hK; clear hK K
  refine AW.ret ?_
  simp -implicitDefEqProofs only [go_sem, e0]
 have a3 : (y.kind != z.kind) = false := by simp; omega
 rw [if_neg (by simpa using k2)] at e0
 refine AW.rT (by rfl) fun K hK => ?_
 simp -implicitDefEqProofs only [go_sem, ↓reduceIte, Nat.reduceAdd, Nat.reduceEqDiff, reduceCtorEq, a3]
 apply hK; clear hK K
 refine AW.cond _ (by simp -implicitDefEqProofs only [go_sem]; rfl) (fun hc => ?_) (fun hc => ?_)
 ·simp at hc
 by_cases k3 : y.kind = 6
 case neg =>
  have a4 : (y.kind != 6) = true := by simp; omega
  rw [if_pos k3] at e0
  refine AW.rT (by rfl) fun K hK => ?_
  simp -implicitDefEqProofs only [go_sem, ↓reduceIte, Nat.reduceAdd, Nat.reduceEqDiff, reduceCtorEq, a4]
  apply hK; clear hK K
  refine AW.cond _ (by simp -implicitDefEqProofs only [go_sem]; rfl) (fun hc => ?_) (fun hc => ?_)
  rotate_left
  ·simp at hc
  refine AW.rT (by rfl) fun K hK => ?_
  simp -implicitDefEqProofs only [go_sem, Nat.reduceAdd]
  apply hK; clear hK K
  refine AW.ret ?_
  simp -implicitDefEqProofs only [go_sem, e0]
 have a4 : (y.kind != 6) = false := by simp; omega
 rw [if_neg (by simpa using k3)] at e0
 refine AW.rT (by rfl) fun K hK => ?_
 simp -implicitDefEqProofs only [go_sem, ↓reduceIte, Nat.reduceAdd, Nat.reduceEqDiff, reduceCtorEq, a4]
 apply hK; clear hK K
 refine AW.cond _ (by simp -implicitDefEqProofs only [go_sem]; rfl) (fun hc => ?_) (fun hc => ?_)
 ·simp at hc
 refine AW.skip ?_
 simp only [andThen, inBlk]
 have E1 := check_Enum S y.name h1
 have E2 := check_Enum U z.name h2
 have l1 : (firstP (fun x => x.name == y.name) zEn S.enums).1.vals.length ≤ 1000000 := by
  have : (firstP (fun x => x.name == y.name) zEn S.enums).1 ∈ S.enums ∨ (firstP (fun x => x.name == y.name) zEn S.enums).1 = zEn := by
   unfold firstP
   cases h : S.enums.find? fun x => x.name == y.name with
   | none => exact .inr rfl
   | some a => exact .inl (List.mem_of_find?_eq_some h)
  rcases this with h | h
  ·exact hv _ h
  ·rw [h]; decide
 have l2 : (firstP (fun x => x.name == z.name) zEn U.enums).1.vals.length ≤ 1000000 := by
  have : (firstP (fun x => x.name == z.name) zEn U.enums).1 ∈ U.enums ∨ (firstP (fun x => x.name == z.name) zEn U.enums).1 = zEn := by
   unfold firstP
   cases h : U.enums.find? fun x => x.name == z.name with
   | none => exact .inr rfl
   | some a => exact .inl (List.mem_of_find?_eq_some h)
  rcases this with h | h
  ·exact hw _ h
  ·rw [h]; decide
 have n1 : niceE (firstP (fun x => x.name == y.name) zEn S.enums).1 := by
  rcases (show _ ∨ _ from by
   unfold firstP
   cases h : S.enums.find? fun x => x.name == y.name with
   | none => exact .inr rfl
   | some a => exact .inl (List.mem_of_find?_eq_some h) : (firstP (fun x => x.name == y.name) zEn S.enums).1 ∈ S.enums ∨ (firstP (fun x => x.name == y.name) zEn S.enums).1 = zEn) with h | h
  ·exact hS _ h
  ·rw [h]; exact nice_z
 have n2 : niceE (firstP (fun x => x.name == z.name) zEn U.enums).1 := by
  rcases (show _ ∨ _ from by
   unfold firstP
   cases h : U.enums.find? fun x => x.name == z.name with
   | none => exact .inr rfl
   | some a => exact .inl (List.mem_of_find?_eq_some h) : (firstP (fun x => x.name == z.name) zEn U.enums).1 ∈ U.enums ∨ (firstP (fun x => x.name == z.name) zEn U.enums).1 = zEn) with h | h
  ·exact hU _ h
  ·rw [h]; exact nice_z
 unfold fitsE at e0
 generalize firstP (fun x => x.name == y.name) zEn S.enums = o at *
 generalize firstP (fun x => x.name == z.name) zEn U.enums = n at *
 obtain ⟨o, b1⟩ := o
 obtain ⟨n, b2⟩ := n
 dsimp only at e0 E1 E2 l1 l2 n1 n2
 simp only [encSc, encEn] at E1 E2
 refine AW.rT (by rfl) fun K hK => ?_
 simp -implicitDefEqProofs only [go_sem, ↓reduceIte, Nat.reduceAdd, Nat.reduceEqDiff, Nat.reduceLeDiff, reduceCtorEq]
 refine ⟨.pure _, E1, ?_⟩
 try simp -implicitDefEqProofs only [go_sem, ↓reduceIte, Nat.reduceAdd, Nat.reduceEqDiff, Nat.reduceLeDiff]
 apply hK; clear hK K
 refine AW.rT (by rfl) fun K hK => ?_
 simp -implicitDefEqProofs only [go_sem, ↓reduceIte, Nat.reduceAdd, Nat.reduceEqDiff, Nat.reduceLeDiff, reduceCtorEq]
 refine ⟨.pure _, E2, ?_⟩
 try simp -implicitDefEqProofs only [go_sem, ↓reduceIte, Nat.reduceAdd, Nat.reduceEqDiff, Nat.reduceLeDiff]
 apply hK; clear hK K
 refine AW.rT (by rfl) fun K hK => ?_
 simp -implicitDefEqProofs only [go_sem, Nat.reduceAdd]
 apply hK; clear hK K
 refine AW.seq ?_
 refine AW.rT (by rfl) fun K hK => ?_
 simp -implicitDefEqProofs only [go_sem, ↓reduceIte, Nat.reduceAdd, Nat.reduceEqDiff, List.length_map]
 apply hK; clear hK K
 refine AW.block ?_
 refine AW.loop (fx1 o n b1 b2) (fun j => j ≤ n.vals.length) (fun j => n.vals.length - j) 0 ?_ (by omega) fun j j1 => ?_
 ·simp only [fx1, cellsEn]
  refine Ghost.ent (fun l => if l = 0 then 21 else 34) ?_ ?_ ?_ <;> simp -implicitDefEqProofs only [go_sem, ↓reduceIte, Nat.reduceEqDiff, reduceCtorEq, List.take_zero, mN, List.map_nil, List.forall_mem_cons, List.not_mem_nil, false_implies, implies_true, and_self, List.all_cons, List.all_nil, Nat.reduceLT, labsInL, AV.labsIn]
  all_goals first | rfl | decide | skip
 simp only [fx1, cellsEn]
 by_cases hjl : j < n.vals.length
 ·obtain ⟨v, hv'⟩ : ∃ v, n.vals[j]? = some v := ⟨_, List.getElem?_eq_getElem hjl⟩
  have ⟨v1, v2, v3⟩ := at_map' encNm hv'
  have hc1 : ((j : Int) < (n.vals.length : Int)) = True := eq_true (by omega)
  have w1 : IntKind.wrap .i64 ((j : Int) + 1) = ((j + 1 : Nat) : Int) := by rw [w64] <;> omega
  have hno : (n.vals.take j).any (fun u => v.n == u.n) = false := by
   rw [List.any_eq_false]
   intro u hu
   obtain ⟨q, hq⟩ := List.getElem?_of_mem hu
   rw [List.getElem?_take] at hq
   split at hq
   ·rename_i hqj
    intro e
    have e := beq_iff_eq.1 e
    have q1 : (n.vals.map Nm.n)[q]? = some u.n := by simp [hq]
    have q2 : (n.vals.map Nm.n)[j]? = some v.n := by simp [hv']
    have li : q < (n.vals.map Nm.n).length := (List.getElem?_eq_some_iff.1 q1).1
    rw [← e, ← q2] at q1
    have := (List.getElem?_inj li n2.1).1 q1
    omega
   ·cases hq
  have hnx : mN (n.vals.take j) ++ [(.int .i64 v.n, .p (.str v.name))] = mN (n.vals.take (j + 1)) := by
   rw [List.take_add_one, hv']; simp [mN]
  have hm := mN_no hno
  refine AW.rT (by rfl) fun K hK => ?_
  simp -implicitDefEqProofs only [go_sem, ↓reduceIte, Nat.reduceAdd, Nat.reduceEqDiff, hc1]
  apply hK; clear hK K
  refine AW.seq ?_
  refine AW.cond _ (by simp -implicitDefEqProofs only [go_sem]; rfl) (fun hc => ?_) (fun hc => ?_)
  rotate_left
  ·simp at hc
  refine AW.skip ?_
  simp only [andThen]
  refine AW.seq ?_
  refine AW.block ?_
  refine AW.rT (by rfl) fun K hK => ?_
  simp -implicitDefEqProofs only [go_sem, ↓reduceIte, Nat.reduceAdd, Nat.reduceEqDiff, Nat.reduceLeDiff, v1, v3, hc1, encNm, List.length_map]
  apply hK; clear hK K
  refine AW.rE (by rfl) fun K hK => ?_
  simp -implicitDefEqProofs only [go_sem, ↓reduceIte, Nat.reduceAdd, Nat.reduceEqDiff, reduceCtorEq]
  refine ⟨keyI v.n, _, hm, ?_⟩
  try simp -implicitDefEqProofs only [go_sem]
  apply hK; clear hK K
  simp only [andThen, inBlk]
  refine AW.rE (by rfl) fun K hK => ?_
  simp -implicitDefEqProofs only [go_sem, ↓reduceIte, Nat.reduceAdd, Nat.reduceEqDiff, w1]
  apply hK; clear hK K
  refine ⟨j + 1, by omega, by omega, ?_⟩
  refine Ghost.sub ?_ ?_ <;> simp -implicitDefEqProofs only [go_sem, ↓reduceIte, Nat.reduceEqDiff, reduceCtorEq, hnx, List.forall_mem_cons, List.not_mem_nil, false_implies, implies_true, and_self, List.all_cons, List.all_nil, Nat.reduceLT, labsInL, AV.labsIn]
 have hc1 : ((j : Int) < (n.vals.length : Int)) = False := eq_false (by omega)
 have ea : n.vals.take j = n.vals := List.take_of_length_le (by omega)
 rw [ea]
 clear ea hjl
 refine AW.rT (by rfl) fun K hK => ?_
 simp -implicitDefEqProofs only [go_sem, ↓reduceIte, Nat.reduceAdd, Nat.reduceEqDiff, hc1]
 apply hK; clear hK K
 refine AW.seq ?_
 refine AW.cond _ (by simp -implicitDefEqProofs only [go_sem]; rfl) (fun hc => ?_) (fun hc => ?_)
 ·simp at hc
 refine AW.exit ?_
 simp only [andThen, inBlk, ↓reduceIte]
 refine AW.seq ?_
 refine AW.rT (by rfl) fun K hK => ?_
 simp -implicitDefEqProofs only [go_sem, ↓reduceIte, Nat.reduceAdd, Nat.reduceEqDiff, List.length_map]
 apply hK; clear hK K
 refine AW.block ?_
 refine AW.loop (fx2 o n b1 b2) (fun i => i ≤ o.vals.length ∧ (o.vals.take i).all (fun v => n.vals.contains v) = true) (fun i => o.vals.length - i) 0 ?_ ⟨by omega, by simp⟩ fun i hi => ?_
 ·simp only [fx2]
  refine Ghost.sub ?_ ?_ <;> simp -implicitDefEqProofs only [go_sem, ↓reduceIte, Nat.reduceEqDiff, reduceCtorEq, List.forall_mem_cons, List.not_mem_nil, false_implies, implies_true, and_self, Nat.reduceLT, AV.labsIn]
  all_goals first | rfl | decide | skip
 obtain ⟨i1, i2⟩ := hi
 simp only [fx2]
 by_cases hil : i < o.vals.length
 case neg =>
  have hc2 : ((i : Int) < (o.vals.length : Int)) = False := eq_false (by omega)
  rw [List.take_of_length_le (by omega)] at i2
  rw [i2, Bool.and_true] at e0
  refine AW.rT (by rfl) fun K hK => ?_
  simp -implicitDefEqProofs only [go_sem, ↓reduceIte, Nat.reduceAdd, Nat.reduceEqDiff, hc2]
  apply hK; clear hK K
  refine AW.seq ?_
  refine AW.cond _ (by simp -implicitDefEqProofs only [go_sem]; rfl) (fun hc => ?_) (fun hc => ?_)
  ·simp at hc
  refine AW.exit ?_
  simp only [andThen, inBlk, ↓reduceIte]
  cases b1 with
  | true =>
   rw [Bool.true_and] at e0
   refine AW.rT (by rfl) fun K hK => ?_
   simp -implicitDefEqProofs only [go_sem, ↓reduceIte, Nat.reduceAdd, Nat.reduceEqDiff]
   apply hK; clear hK K
   refine AW.ret ?_
   simp -implicitDefEqProofs only [go_sem, e0]
  | false =>
   rw [Bool.false_and] at e0
   refine AW.rT (by rfl) fun K hK => ?_
   simp -implicitDefEqProofs only [go_sem, ↓reduceIte, Nat.reduceAdd, Nat.reduceEqDiff]
   apply hK; clear hK K
   refine AW.ret ?_
   simp -implicitDefEqProofs only [go_sem, e0]
 obtain ⟨v, hv'⟩ : ∃ v, o.vals[i]? = some v := ⟨_, List.getElem?_eq_getElem hil⟩
 have ⟨v1, v2, v3⟩ := at_map' encNm hv'
 have hc2 : ((i : Int) < (o.vals.length : Int)) = True := eq_true (by omega)
 have w2 : IntKind.wrap .i64 ((i : Int) + 1) = ((i + 1 : Nat) : Int) := by rw [w64] <;> omega
 have vne := n1.2 v (List.mem_of_getElem? hv')
 have bad : n.vals.contains v = false → fitsB S U y z = false := fun h => by
  rw [e0, all_not hv' h, Bool.and_false, Bool.and_false]
 refine AW.rT (by rfl) fun K hK => ?_
 simp -implicitDefEqProofs only [go_sem, ↓reduceIte, Nat.reduceAdd, Nat.reduceEqDiff, hc2]
 apply hK; clear hK K
 refine AW.seq ?_
 refine AW.cond _ (by simp -implicitDefEqProofs only [go_sem]; rfl) (fun hc => ?_) (fun hc => ?_)
 rotate_left
 ·simp at hc
 refine AW.skip ?_
 simp only [andThen]
 refine AW.seq ?_
 refine AW.block ?_
 refine AW.rT (by rfl) fun K hK => ?_
 simp -implicitDefEqProofs only [go_sem, ↓reduceIte, Nat.reduceAdd, Nat.reduceEqDiff, Nat.reduceLeDiff, v1, v3, hc2, encNm, List.length_map]
 apply hK; clear hK K
 cases hk : n.vals.any (fun u => v.n == u.n) with
 | false =>
  have hm := mN_no hk
  have e := bad (by
   rw [contains_any, List.any_eq_false]
   intro u hu
   have := List.any_eq_false.1 hk u hu
   intro e
   have e := beq_iff_eq.1 e
   rw [e] at this
   simp at this)
  have ns : (([] : List UInt8) == v.name) = false := by
   cases hn : v.name with
   | nil => exact absurd hn vne
   | cons a l => rfl
  refine AW.rT (by rfl) fun K hK => ?_
  simp -implicitDefEqProofs only [go_sem, ↓reduceIte, Nat.reduceAdd, Nat.reduceEqDiff]
  refine ⟨keyI v.n, none, hm, .str [], rfl, ?_⟩
  try simp -implicitDefEqProofs only [go_sem, ns]
  apply hK; clear hK K
  refine AW.cond _ (by simp -implicitDefEqProofs only [go_sem]; rfl) (fun hc => ?_) (fun hc => ?_)
  rotate_left
  ·simp at hc
  refine AW.rT (by rfl) fun K hK => ?_
  simp -implicitDefEqProofs only [go_sem, Nat.reduceAdd]
  apply hK; clear hK K
  refine AW.ret ?_
  simp -implicitDefEqProofs only [go_sem, e]
 | true =>
  obtain ⟨u, hu, hun⟩ := List.any_eq_true.1 hk
  have hun := (beq_iff_eq.1 hun).symm
  obtain ⟨q, hm⟩ := mN_yes n2.1 hu
  rw [hun] at hm
  have hcn := nm_in n2.1 hu hun
  cases hq : (u.name == v.name) with
  | true =>
   refine AW.rT (by rfl) fun K hK => ?_
   simp -implicitDefEqProofs only [go_sem, ↓reduceIte, Nat.reduceAdd, Nat.reduceEqDiff]
   refine ⟨keyI v.n, some (q, .p (.str u.name)), hm, .str u.name, rfl, ?_⟩
   try simp -implicitDefEqProofs only [go_sem, hq]
   apply hK; clear hK K
   refine AW.cond _ (by simp -implicitDefEqProofs only [go_sem]; rfl) (fun hc => ?_) (fun hc => ?_)
   ·simp at hc
   refine AW.skip ?_
   simp only [andThen, inBlk]
   refine AW.rE (by rfl) fun K hK => ?_
   simp -implicitDefEqProofs only [go_sem, ↓reduceIte, Nat.reduceAdd, Nat.reduceEqDiff, w2]
   apply hK; clear hK K
   refine ⟨i + 1, ⟨by omega, all_next hv' i2 (by rw [hcn, hq])⟩, by omega, ?_⟩
   refine Ghost.sub ?_ ?_ <;> simp -implicitDefEqProofs only [go_sem, ↓reduceIte, Nat.reduceEqDiff, List.forall_mem_cons, List.not_mem_nil, false_implies, implies_true, and_self, Nat.reduceLT, AV.labsIn]
  | false =>
   have e := bad (by rw [hcn, hq])
   refine AW.rT (by rfl) fun K hK => ?_
   simp -implicitDefEqProofs only [go_sem, ↓reduceIte, Nat.reduceAdd, Nat.reduceEqDiff]
   refine ⟨keyI v.n, some (q, .p (.str u.name)), hm, .str u.name, rfl, ?_⟩
   try simp -implicitDefEqProofs only [go_sem, hq]
   apply hK; clear hK K
   refine AW.cond _ (by simp -implicitDefEqProofs only [go_sem]; rfl) (fun hc => ?_) (fun hc => ?_)
   rotate_left
   ·simp at hc
   refine AW.rT (by rfl) fun K hK => ?_
   simp -implicitDefEqProofs only [go_sem, Nat.reduceAdd]
   apply hK; clear hK K
   refine AW.ret ?_
   simp -implicitDefEqProofs only [go_sem, e]
end Go.Aw
namespace Go.Aw
open Go.Proofs Go.RowKit
structure Pr where
 o : List UInt8
 n : List UInt8
 deriving DecidableEq
def encPr (p : Pr) : List PV := [.str p.o, .str p.n]
theorem eq113 (x y : Pr) (w : World) : (Op.equalIn 10000 138 (.agg #[.string ⟨⟨x.o⟩⟩, .string ⟨⟨x.n⟩⟩]) (.agg #[.string ⟨⟨y.o⟩⟩, .string ⟨⟨y.n⟩⟩])).run Tryd.prog w = .ok (decide (x = y)) w := by
 have u3 := Tryd.underlying3
 have u9 := Tryd.underlying9
 have a3 := Tryd.isAgg3
 have a9 := Tryd.isAgg9
 have z3 := Tryd.sizeOf3
 have z9 := Tryd.sizeOf9
 have hS : Tryd.prog.underlying 138 = some (.struct (Tryd.prog.fieldsOf 138)) := by kernel_rfl
 have hp : Tryd.prog.stoodInHeld 138 = false := by kernel_rfl
 rw [show (10000 : Nat) = 9999 + 1 from rfl, run_equalIn_agg w 9999 138 _ _ hS hp]
 simp only [Program.fieldsOf, Tryd.underlying138]
 go_simp
 obtain ⟨a0, a1⟩ := x
 obtain ⟨b0, b1⟩ := y
 simp only [Pr.mk.injEq]
 by_cases h0 : a0 = b0 <;> by_cases h1 : a1 = b1 <;> simp [h0, h1]
theorem keyP (a b : List UInt8) : KeyT Tryd.prog 138 (.agg [.str a, .str b]) := by
 refine key_pair Tryd.underlying138 (fun a b e w => ?_) (fun a b c d w => ?_) a b
 ·have u9 := Tryd.underlying9
  have u113 := Tryd.underlying138
  have a9 := Tryd.isAgg9
  have z9 := Tryd.sizeOf9
  have ck : ∀ (x : List UInt8) w, (Instr.checkKey e 9999 9 (.string ⟨⟨x⟩⟩)).run Tryd.prog w = .ok () w := fun x w => by
   rw [show (9999 : Nat) = 9998 + 1 from rfl]
   unfold Instr.checkKey
   go_simp
  rw [show (10000 : Nat) = 9999 + 1 from rfl]
  unfold Instr.checkKey
  go_simp
 ·have h := eq113 ⟨a, b⟩ ⟨c, d⟩ w
  simp only at h
  have e : decide ((⟨a, b⟩ : Pr) = ⟨c, d⟩) = (a == c && b == d) := by
   rw [Bool.eq_iff_iff]; simp
  rw [e] at h
  exact h
end Go.Aw
namespace Go.Aw
open Go.RowKit
variable {P : Program}
theorem seq_part {w0 : World} {X I0 : Nat → Prop} {nt : Fm} {ops : Array Oper} {Q : Exit → Act → World → Prop} {K : (Nat → Option AV) → (Nat → Option Blk) → Nat → Prop} (hd : ops.toList.all (dstOK nt) = true) (tx : TabX w0 X I0) {r' : List Oper} :
  ∀ (r : List Oper) (i nx : Nat) (T : Nat → Option AV) (H : Nat → Option Blk) (σ : Lab) (I : Nat → Prop) (a : Act) (w : World), ops.toList.drop i = r ++ r' → Match nt w0 X I0 σ I T H a w → (∀ l, nx ≤ l → σ l = none) → seqW P ops.toList nx r T H K →
   (∀ T H n σ I a w, Match nt w0 X I0 σ I T H a w → (∀ l, n ≤ l → σ l = none) → K T H n → wpOps P ops Q (List.range' (i + r.length) r'.length) a w) → wpOps P ops Q (List.range' i (r ++ r').length) a w := by
 intro r
 induction r with
 | nil => intro i nx T H σ I a w _ m hn hk hK; exact hK T H nx σ I a w m hn hk
 | cons o r ih =>
  intro i nx T H σ I a w hr m hn hk hK
  have hi : ops[i]? = some o := by
   rw [← Array.getElem?_toList, show i = i + 0 from rfl, ← List.getElem?_drop, hr]; rfl
  have hdr : ops.toList.drop (i + 1) = r ++ r' := by rw [← List.drop_drop, hr]; rfl
  have hdo : dstOK nt o = true := List.all_eq_true.1 hd o (List.mem_of_getElem? (by rw [Array.getElem?_toList]; exact hi))
  have hK' : ∀ T H n σ I a w, Match nt w0 X I0 σ I T H a w → (∀ l, n ≤ l → σ l = none) → K T H n → wpOps P ops Q (List.range' (i + 1 + r.length) r'.length) a w := by
   intro T H n σ I a w h1 h2 h3
   have := hK T H n σ I a w h1 h2 h3
   rwa [List.length_cons, show i + (r.length + 1) = i + 1 + r.length by omega] at this
  rw [List.cons_append, List.length_cons, List.range'_succ]
  simp only [wpOps, hi]
  simp only [seqW] at hk
  have run : (opW P nx o.op T H fun e => seqW P ops.toList (nx + 1) r (putT T o.dst e.val) (putH H e.upd) K) → o.wp P a w (wpOps P ops Q (List.range' (i + 1) (r ++ r').length)) Q := by
   intro hop
   refine snd_op (w0 := w0) (X := X) (I0 := I0) ⟨m.heap, m.tmps, hn nx (Nat.le_refl _), tx⟩ hop _ _ fun e v w' σ' I' hk' out => ?_
   refine ih (i + 1) (nx + 1) _ _ σ' I' _ w' hdr (m.put hdo out.heap out.ext out.imm out.same out.val) (fun l hl => ?_) hk' hK'
   rw [out.lab l (by omega)]
   exact hn l (by omega)
  have skip : seqW P ops.toList (nx + 1) r (putT T o.dst (some (.p (.cst undef)))) H K → wpOps P ops Q (List.range' (i + 1) (r ++ r').length) (a.put o.dst undef) w := by
   intro hk'
   exact ih (i + 1) (nx + 1) _ _ σ I _ w hdr (m.put hdo m.heap (fun _ _ h => h) (fun _ h => h) (fun _ _ => rfl) (fun y hy => by injection hy with hy; subst hy; exact .p (.cst undef))) (fun l hl => hn l (by omega)) hk' hK'
  unfold guardS at hk
  cases hg : o.guard with
  | none =>
   rw [hg] at hk
   have : Region.wanted o (yielded ops a.tmps) = true := by simp [Region.wanted, hg]
   rw [if_pos this]
   exact .inl (run hk)
  | some jw =>
   obtain ⟨j, want⟩ := jw
   rw [hg] at hk
   simp only at hk
   split at hk
   ·rename_i b hb
    obtain ⟨d, hd1, hd2⟩ := Option.bind_eq_some_iff.1 hb
    rw [Array.getElem?_toList] at hd1
    obtain ⟨u, hu, hru⟩ := m.tmps d _ hd2
    have hy : yielded ops a.tmps j = some b := by
     cases hru with
     | p h => cases h; simp [yielded, hd1, hu]
    have hw : Region.wanted o (yielded ops a.tmps) = (b == want) := by
     simp only [Region.wanted, hg, hy]
     cases b <;> cases want <;> rfl
    split at hk
    ·rename_i hbw
     rw [hw, if_pos (by simp [hbw])]
     exact .inl (run hk)
    ·rename_i hbw
     rw [hw, if_neg (by simp [hbw])]
     exact skip hk
   ·rename_i x hb
    obtain ⟨d, hd1, hd2⟩ := Option.bind_eq_some_iff.1 hb
    rw [Array.getElem?_toList] at hd1
    obtain ⟨u, hu, hru⟩ := m.tmps d _ hd2
    have hy : yielded ops a.tmps j = none := by
     cases hru with
     | p h =>
      cases h
      simp only [yielded, hd1, Option.bind_some, hu]
      have := hk.1
      cases x <;> first | rfl | exact this.elim
    have hw : Region.wanted o (yielded ops a.tmps) = false := by
     simp only [Region.wanted, hg, hy]
     cases want <;> rfl
    rw [hw, if_neg (by simp)]
    exact skip hk.2
   ·exact hk.elim
end Go.Aw
namespace Go.Aw
open Go.RowKit
variable {P : Program}
def SeqR (P : Program) (nt : Fm) (ops : Array Oper) (i : Nat) (s : St) (K : St → Prop) : Prop :=
 ∀ w0 X I0 a w (Q : Exit → Act → World → Prop), TabX w0 X I0 → Matches nt w0 X I0 s a w → (∀ s' a' w', Matches nt w0 X I0 s' a' w' → K s' → Q .normal a' w') → wpOps P ops Q (List.range' i (ops.size - i)) a w
theorem SeqR.ghost {nt : Fm} {ops : Array Oper} {i : Nat} {s s' : St} {K : St → Prop} (g : Ghost nt s s') (h : SeqR P nt ops i s' K) : SeqR P nt ops i s K :=
 fun w0 X I0 a w Q tx m hQ => h w0 X I0 a w Q tx (g w0 X I0 a w m) hQ
theorem SeqR.last {nt : Fm} {ops : Array Oper} {i : Nat} {s : St} {K : St → Prop} (hi : ops.size = i) (h : K s) : SeqR P nt ops i s K := by
 intro w0 X I0 a w Q tx m hQ
 subst hi
 rw [Nat.sub_self]
 exact hQ s a w m h
theorem SeqR.ev {nt : Fm} {ops : Array Oper} {i : Nat} {s : St} {K : St → Prop} (k : Nat) (hd : ops.toList.all (dstOK nt) = true) (hk : i + k ≤ ops.size) (h : seqO P ops.toList s.nx ((ops.toList.drop i).take k) s.T s.H fun T H n => SeqR P nt ops (i + k) ⟨T, H, n⟩ K) : SeqR P nt ops i s K := by
 intro w0 X I0 a w Q tx ⟨σ, I, hn, m⟩ hQ
 rw [seqO_eq] at h
 have hl : ops.toList.length = ops.size := Array.length_toList
 have main := seq_part (P := P) (w0 := w0) (X := X) (I0 := I0) (r' := ops.toList.drop (i + k)) (Q := Q) hd tx ((ops.toList.drop i).take k) i s.nx s.T s.H σ I a w (by rw [← List.drop_drop, List.take_append_drop]) m hn h
  (fun T H n σ I a w m hn hq => by
   have := hq w0 X I0 a w Q tx ⟨σ, I, hn, m⟩ hQ
   rw [List.length_take, List.length_drop, Nat.min_eq_left (by omega), List.length_drop, hl]
   exact this)
 rw [← List.drop_drop, List.take_append_drop, List.length_drop, hl] at main
 exact main
def CallD (P : Program) (nt : Fm) (o : Oper) (s : St) (K : St → Prop) : Prop :=
 ∀ w0 X I0 a w (next : Act → World → Prop) (Q : Exit → Act → World → Prop), TabX w0 X I0 → Matches nt w0 X I0 s a w → (∀ s' a' w', Matches nt w0 X I0 s' a' w' → K s' → next a' w') → o.wp P a w next Q
theorem SeqR.op {nt : Fm} {ops : Array Oper} {i : Nat} {s : St} {K : St → Prop} {o : Oper} (ho : ops[i]? = some o) (hg : o.guard = none) (h : CallD P nt o s fun s' => SeqR P nt ops (i + 1) s' K) : SeqR P nt ops i s K := by
 intro w0 X I0 a w Q tx m hQ
 have hi : i < ops.size := (Array.getElem?_eq_some_iff.1 ho).1
 rw [show ops.size - i = (ops.size - (i + 1)) + 1 by omega, List.range'_succ]
 simp only [wpOps, ho]
 have : Region.wanted o (yielded ops a.tmps) = true := by simp [Region.wanted, hg]
 rw [if_pos this]
 exact .inl (h w0 X I0 a w _ Q tx m fun s' a' w' m' k => k w0 X I0 a' w' Q tx m' hQ)
theorem AW.rR {nt : Fm} {id : Nat} {ops : Array Oper} {y : Code} {s : St} {Q : Exit → St → Prop} (h : SeqR P nt ops 0 s fun s' => AW P nt y s' Q) : AW P nt (.seq (.region id ops false) y) s Q := by
 refine AW.seq ?_
 intro w0 X I0 a w tx m
 refine wp_region ?_
 have := h w0 X I0 a w (fun e a' w' => ∃ s', Matches nt w0 X I0 s' a' w' ∧ andThen (fun s' => AW P nt y s' Q) Q e s') tx m fun s' a' w' m' k => ⟨s', m', k⟩
 rw [List.range_eq_range']
 simpa using this
theorem AW.rRE {nt : Fm} {id : Nat} {ops : Array Oper} {s : St} {Q : Exit → St → Prop} (h : SeqR P nt ops 0 s fun s' => Q .normal s') : AW P nt (.region id ops false) s Q := by
 intro w0 X I0 a w tx m
 refine wp_region ?_
 have := h w0 X I0 a w (fun e a' w' => ∃ s', Matches nt w0 X I0 s' a' w' ∧ Q e s') tx m fun s' a' w' m' k => ⟨s', m', k⟩
 rw [List.range_eq_range']
 simpa using this
mutual
def AV.labsBy (p : Nat → Bool) : AV → Bool
 | .p _ | .ex _ | .vw _ _ => true
 | .own l | .cut l _ _ | .ptr l _ _ | .map l | .it l => p l
 | .agg cs | .tuple cs | .fn _ cs => labsByL p cs
 | .iface _ x => x.labsBy p
def labsByL (p : Nat → Bool) : List AV → Bool
 | [] => true
 | x :: l => x.labsBy p && labsByL p l
end
theorem labsByL_mem {p : Nat → Bool} {l : List AV} (h : labsByL p l = true) {x : AV} (hx : x ∈ l) : x.labsBy p = true := by
 induction l with
 | nil => cases hx
 | cons y l ih =>
  rw [labsByL, Bool.and_eq_true] at h
  rcases List.mem_cons.1 hx with rfl | hx
  ·exact h.1
  ·exact ih h.2 hx
def Blk.labsBy (p : Nat → Bool) : Blk → Bool
 | .row _ es => es.all (labsByL p)
 | .map es => es.all fun e => e.2.labsBy p
 | .iter _ _ => true
theorem repA_by {σ σ' : Lab} {w : World} {I : Nat → Prop} {ρ : Nat → Nat} {p : Nat → Bool} (hp : ∀ l, p l = true → ∀ s, σ l = some s → σ' (ρ l) = some s) {u : Value} {x : AV} (h : repA σ w I u x) : x.labsBy p = true → repA σ' w I u (x.ren ρ) := by
 induction h with
 | p h => intro _; exact .p h
 | ex hn h => intro _; exact .ex hn h
 | vw hn hm hc h => intro _; exact .vw hn hm hc h
 | ownE h => intro q; exact .ownE (hp _ q _ h)
 | own h => intro q; exact .own (hp _ q _ h)
 | cut h hm hc => intro q; exact .cut (hp _ q _ h) hm hc
 | ptr h => intro q; exact .ptr (hp _ q _ h)
 | map h => intro q; exact .map (hp _ q _ h)
 | it h => intro q; exact .it (hp _ q _ h)
 | agg hs hr ih =>
  intro q
  refine .agg (by rw [renL_length]; exact hs) fun j u y h1 h2 => ?_
  rw [renL_get, Option.map_eq_some_iff] at h2
  obtain ⟨z, hz, rfl⟩ := h2
  exact ih j u z h1 hz (labsByL_mem q (List.mem_of_getElem? hz))
 | tuple hs hr ih =>
  intro q
  refine .tuple (by rw [renL_length]; exact hs) fun j u y h1 h2 => ?_
  rw [renL_get, Option.map_eq_some_iff] at h2
  obtain ⟨z, hz, rfl⟩ := h2
  exact ih j u z h1 hz (labsByL_mem q (List.mem_of_getElem? hz))
 | iface t h ih => intro q; exact .iface t (ih q)
 | fn f hs hr ih =>
  intro q
  refine .fn f (by rw [renL_length]; exact hs) fun j u y h1 h2 => ?_
  rw [renL_get, Option.map_eq_some_iff] at h2
  obtain ⟨z, hz, rfl⟩ := h2
  exact ih j u z h1 hz (labsByL_mem q (List.mem_of_getElem? hz))
theorem repB_by {σ σ' : Lab} {w : World} {I : Nat → Prop} {ρ : Nat → Nat} {p : Nat → Bool} (hp : ∀ l, p l = true → ∀ s, σ l = some s → σ' (ρ l) = some s) {l : Nat} {b : Blk} (hl : p l = true) (h : repB σ w I l b) (hb : b.labsBy p = true) : repB σ' w I (ρ l) (b.ren ρ) := by
 cases h with
 | emp h => exact .emp (hp _ hl _ h)
 | row h hg hcur hc hs ho hr =>
  rename_i g c sz cur et es
  refine .row (by rw [List.length_map]; exact hp _ hl _ h) hg hcur (by rw [List.length_map]; exact hc) (fun e he => ?_) (fun e he x hx => ?_) fun i e j x q1 q2 => ?_
  ·obtain ⟨e', he', rfl⟩ := List.mem_map.1 he
   rw [renL_length]
   exact hs e' he'
  ·obtain ⟨e', he', rfl⟩ := List.mem_map.1 he
   obtain ⟨j, hj⟩ := List.getElem?_of_mem hx
   rw [renL_get, Option.map_eq_some_iff] at hj
   obtain ⟨x', hx', rfl⟩ := hj
   rw [AV.one_ren]
   exact ho e' he' x' (List.mem_of_getElem? hx')
  ·rw [List.getElem?_map, Option.map_eq_some_iff] at q1
   obtain ⟨e', he', rfl⟩ := q1
   rw [renL_get, Option.map_eq_some_iff] at q2
   obtain ⟨x', hx', rfl⟩ := q2
   obtain ⟨u, hu, hru⟩ := hr i e' j x' he' hx'
   exact ⟨u, hu, repA_by hp hru (labsByL_mem (List.all_eq_true.1 hb e' (List.mem_of_getElem? he')) (List.mem_of_getElem? hx'))⟩
 | map h hg hn hr =>
  rename_i g k ms es
  refine .map (hp _ hl _ h) hg (by rw [List.length_map]; exact hn) fun i m e q1 q2 => ?_
  rw [List.getElem?_map, Option.map_eq_some_iff] at q2
  obtain ⟨e', he', rfl⟩ := q2
  obtain ⟨r1, r2⟩ := hr i m e' q1 he'
  exact ⟨r1, repA_by hp r2 (List.all_eq_true.1 hb e' (List.mem_of_getElem? he'))⟩
 | iter h hg => exact .iter (hp _ hl _ h) hg
def DFn (P : Program) (f : FuncId) (args : List AV) (h : List (Nat × Blk)) (n : Nat) (rt : List Nat) (r : AV) (h' : List (Nat × Blk)) (m : Nat) : Prop :=
 enters P f = true ∧ ∀ (w : World) (I : Nat → Prop) (σ : Lab) (vals : Array Value), vals.size = args.length → (∀ l, n ≤ l → σ l = none) → (∀ (j : Nat) u x, vals[j]? = some u → args[j]? = some x → repA σ w I u x) →
  HOK σ w I (ofH h) w (lentX σ (ofH h)) I → tabOK w I →
  Calls P f vals w fun e w' => ∃ v σ' I', e = .returned v ∧ HOK σ' w' I' (ofH h') w (lentX σ (ofH h)) I ∧ repA σ' w' I' v r ∧ (∀ l ∈ rt, σ' l = σ l) ∧ (∀ l, n + m ≤ l → σ' l = none)
def avT : List AV → Nat → Nat → Option AV
 | [], _ => fun _ => none
 | x :: l, i => upd (avT l (i + 1)) i (some x)
theorem avT_at : ∀ (l : List AV) (i j : Nat), avT l i j = if j < i then none else l[j - i]? := by
 intro l
 induction l with
 | nil => intro i j; simp [avT]
 | cons a l ih =>
  intro i j
  rw [avT]
  by_cases h : j = i
  ·subst h; rw [upd_same, if_neg (by omega), Nat.sub_self]; rfl
  ·rw [upd_ne _ _ h, ih]
   by_cases h2 : j < i
   ·rw [if_pos (by omega), if_pos h2]
   ·rw [if_neg (by omega), if_neg h2, show j - i = (j - (i + 1)) + 1 by omega, List.getElem?_cons_succ]
def resD (P : Program) (s : St) : List ResultVar → List AV → Prop
 | [], [] => True
 | .tmp t :: r, x :: l => s.T t = some x ∧ resD P s r l
 | .cell t ty :: r, x :: l => loadW P ty (s.T t) s.H (fun e => e = ⟨some x, []⟩) ∧ resD P s r l
 | _, _ => False
def oneOrA : List AV → AV
 | [x] => x
 | l => .tuple l
def rootOK (s : St) (args : List AV) (h h' : List (Nat × Blk)) (pins : List Nat) (ρ : Nat → Nat) (l : Nat) : Prop :=
 (∃ j i off sz es es', j ∈ pins ∧ args[j]? = some (.ptr l i off) ∧ s.T j = some (.ptr (ρ l) i off) ∧ ofH h l = some (.row sz es) ∧ ofH h' l = some (.row sz es') ∧ es'.length = es.length ∧ 0 < sz) ∨
 (∃ j es, j ∈ pins ∧ args[j]? = some (.map l) ∧ s.T j = some (.map (ρ l)) ∧ ofH h l = some (.map es)) ∨
 (∃ (j k : Nat) (cs cs' : List AV) (sz : Nat) (es es' : List (List AV)), j ∈ pins ∧ args[j]? = some (.agg cs) ∧ cs[k]? = some (AV.own l) ∧ s.T j = some (.agg cs') ∧ cs'[k]? = some (AV.own (ρ l)) ∧ ofH h l = some (.row sz es) ∧ ofH h' l = some (.row sz es') ∧ es ≠ [] ∧ es' ≠ [])
def EndD (P : Program) (rs : Array ResultVar) (args : List AV) (h : List (Nat × Blk)) (n : Nat) (rt : List Nat) (r : AV) (h' : List (Nat × Blk)) (m : Nat) (pins : List Nat) : Exit → St → Prop
 | .normal, s | .ret, s => ∃ (ρ : Nat → Nat) (l : List AV), resD P s rs.toList l ∧ oneOrA l = r.ren ρ ∧ r.labsIn (n + m) = true ∧ (∀ x ∈ h', s.H (ρ x.1) = some (x.2.ren ρ) ∧ x.1 < n + m ∧ x.2.labsIn (n + m) = true) ∧
   (∀ x ∈ h', ∀ y ∈ h', ρ x.1 = ρ y.1 → x.1 = y.1) ∧ ∀ l ∈ rt, l < n ∧ rootOK s args h h' pins ρ l
 | _, _ => False
theorem slot_kept {σ0 σ1 : Lab} {w0 w1 : World} {I0 I1 : Nat → Prop} {v : Value} {l l1 i off sz : Nat} {es es1 : List (List AV)} (h0 : repA σ0 w0 I0 v (.ptr l i off)) (h1 : repA σ1 w1 I1 v (.ptr l1 i off)) (b0 : repB σ0 w0 I0 l (.row sz es)) (b1 : repB σ1 w1 I1 l1 (.row sz es1))
  (hl : es1.length = es.length) (hz : 0 < sz) (hfr : ∀ (b : Nat) (cur : Array Value) (et : TypeId) (p : Nat × Nat), w0.heap[b]? = some (Obj.cells cur et p) → ∃ (cur' : Array Value) (et' : TypeId) (p' : Nat × Nat), w1.heap[b]? = some (Obj.cells cur' et' p') ∧ cur'.size = cur.size) : σ1 l1 = σ0 l := by
 cases h0 with
 | ptr s0 =>
  rename_i g n c sz0
  generalize hxe : Value.pointer (some ⟨g, i * sz0 + off, none⟩) = xv at h1
  cases h1 with
  | ptr s1 =>
   rename_i g1 n1 c1 sz1
   injection hxe with hxe
   injection hxe with hxe
   injection hxe with hg _ _
   subst hg
   obtain ⟨cur0, et0, p0, e0, f0⟩ := cells_slot b0 s0
   obtain ⟨cur1, et1, p1, e1, f1⟩ := cells_slot b1 s1
   obtain ⟨cur2, et2, p2, e2, f2⟩ := hfr g cur0 et0 p0 e0
   rw [e1] at e2
   injection e2 with e2
   injection e2 with e2
   subst e2
   have n0 : n = es.length ∧ sz0 = sz := by
    cases b0 with
    | emp h => rw [s0] at h; cases h
    | row h => rw [s0] at h; injection h with h; injection h with _ h2 _ h4; exact ⟨h2, h4⟩
   have n1' : n1 = es1.length ∧ sz1 = sz := by
    cases b1 with
    | emp h => rw [s1] at h; cases h
    | row h => rw [s1] at h; injection h with h; injection h with _ h2 _ h4; exact ⟨h2, h4⟩
   obtain ⟨rfl, rfl⟩ := n0
   obtain ⟨rfl, rfl⟩ := n1'
   have hc : c1 = c := Nat.eq_of_mul_eq_mul_right hz (by rw [← f1, f2, f0])
   rw [s0, s1, hc, hl]
theorem own_kept {σ0 σ1 : Lab} {w0 w1 : World} {I0 I1 : Nat → Prop} {v : Value} {l l1 sz : Nat} {es es1 : List (List AV)} (h0 : repA σ0 w0 I0 v (.own l)) (h1 : repA σ1 w1 I1 v (.own l1)) (b0 : repB σ0 w0 I0 l (.row sz es)) (b1 : repB σ1 w1 I1 l1 (.row sz es1))
  (hz : es ≠ []) (hz1 : es1 ≠ []) : σ1 l1 = σ0 l := by
 cases b0 with
 | emp h => exact absurd rfl hz
 | row s0 =>
  cases b1 with
  | emp h => exact absurd rfl hz1
  | row s1 =>
   cases h0 with
   | ownE q => rw [s0] at q; cases q
   | own q0 =>
    rw [s0] at q0
    injection q0 with q0
    injection q0 with a1 a2 a3 a4
    subst a1 a2 a3 a4
    generalize hxe : Value.slice _ _ _ = xv at h1
    cases h1 with
    | ownE q => rw [s1] at q; cases q
    | own q1 =>
     rw [s1] at q1
     injection q1 with q1
     injection q1 with c1 c2 c3 c4
     subst c1 c2 c3 c4
     injection hxe with e1 e2 e3
     injection e1 with e1
     injection e1 with e1 _ _
     rw [s0, s1, e1, e2, e3]
theorem aggA {σ : Lab} {w : World} {I : Nat → Prop} {v : Value} {cs : List AV} (h : repA σ w I v (.agg cs)) : ∃ vs : Array Value, v = .agg vs ∧ vs.size = cs.length ∧ ∀ (j : Nat) u p, vs[j]? = some u → cs[j]? = some p → repA σ w I u p := by
 cases h with
 | agg h hr => exact ⟨_, rfl, h, hr⟩
theorem resD_run {nt : Fm} {w0 : World} {X I0 : Nat → Prop} {σ : Lab} {I : Nat → Prop} {s : St} {a : Act} {w : World} (tx : TabX w0 X I0) (m : Match nt w0 X I0 σ I s.T s.H a w) (hlab : σ s.nx = none) (f : ResultVar → Sem Value) (hf : ∀ t, f (.tmp t) = pure (a.tmps.getD t undef)) (hf' : ∀ t ty, f (.cell t ty) = (do loadVar ty (← asAddr (a.tmps.getD t undef)))) : ∀ (rs : List ResultVar) (l : List AV), resD P s rs l →
  ∃ vs : List Value, (rs.mapM f).run P w = .ok vs w ∧ vs.length = l.length ∧ ∀ (j : Nat) u x, vs[j]? = some u → l[j]? = some x → repA σ w I u x := by
 intro rs
 induction rs with
 | nil =>
  intro l h
  cases l with
  | nil => exact ⟨[], rfl, rfl, fun j u p h _ => by simp at h⟩
  | cons x l => simp [resD] at h
 | cons r rs ih =>
  intro l h
  cases l with
  | nil => cases r <;> simp [resD] at h
  | cons x l =>
   cases r with
   | cell t ty =>
    obtain ⟨hx, hl⟩ := h
    obtain ⟨ad, v, y, q1, q2, q3, q4⟩ := load_run (P := P) (lab := s.nx) (t := ty) (x := .tmp t) (k := fun e => e = ⟨some x, []⟩) ⟨m.heap, m.tmps, hlab, tx⟩ hx
    simp only [Eff.mk.injEq, Option.some.injEq, and_true] at q4
    subst q4
    obtain ⟨vs, h1, h2, h3⟩ := ih l hl
    refine ⟨v :: vs, ?_, by simp [h2], fun j u p r1 r2 => ?_⟩
    ·have q1' : a.tmps.getD t undef = .pointer (some ad) := q1
     rw [List.mapM_cons, hf', q1']
     simp [asAddr, q2, h1]
    ·rcases j with _ | j
     ·simp at r1 r2; subst r1 r2; exact q3
     ·exact h3 j u p (by simpa using r1) (by simpa using r2)
   | tmp t =>
    obtain ⟨hx, hl⟩ := h
    obtain ⟨u, hu, hru⟩ := m.tmps t x hx
    obtain ⟨vs, h1, h2, h3⟩ := ih l hl
    refine ⟨u :: vs, ?_, by simp [h2], fun j u' p r1 r2 => ?_⟩
    ·rw [List.mapM_cons, hf]
     have : a.tmps.getD t undef = u := by simp [Array.getD_eq_getD_getElem?, hu]
     rw [this]
     simp [h1]
    ·rcases j with _ | j
     ·simp at r1 r2; subst r1 r2; exact hru
     ·exact h3 j u' p (by simpa using r1) (by simpa using r2)
end Go.Aw
namespace Go.Aw
open Go.RowKit
variable {P : Program}
theorem DFn.of {f : FuncId} {fn : Func} {c : Code} {args : List AV} {h : List (Nat × Blk)} {n : Nat} {rt : List Nat} {r : AV} {h' : List (Nat × Blk)} {m : Nat} (pins : List Nat) (hf : P.funcs[f]? = some fn) (hb : fn.body = some c) (hn : fn.name ≠ "runtime.NumGoroutine") {nt : Nat} (hnt : fn.ntmps = nt) {rs : Array ResultVar} (hrs : fn.results = rs) (hnt' : args.length ≤ nt)
  (hpins : ∀ i ∈ pins, i < args.length) (hw : ∀ val : Nat → Value, AW P ⟨nt, pins, val⟩ c ⟨avT args 0, ofH h, n⟩ (EndD P rs args h n rt r h' m pins)) : DFn P f args h n rt r h' m := by
 subst hnt hrs
 refine ⟨by simp [enters, hf, hb, hn], fun w I σ vals hs hσ hr hH ht => ?_⟩
 have tx : TabX w (lentX σ (ofH h)) I := ⟨ht, fun g hg => (hH.imm g hg).1, fun g ⟨l, s, q1, q2, q3⟩ => (hH.mine l g s q1 q2 q3).1⟩
 refine calls_of_wp hf hb ?_
 have at_ : ∀ i, i < vals.size → (vals ++ Array.replicate (fn.ntmps - vals.size) undef)[i]? = vals[i]? := fun i hi => by rw [Array.getElem?_append_left hi]
 have mt : Matches ⟨fn.ntmps, pins, fun i => vals.getD i undef⟩ w (lentX σ (ofH h)) I ⟨avT args 0, ofH h, n⟩ { tmps := vals ++ Array.replicate (fn.ntmps - vals.size) undef, defers := [] } w := by
  refine ⟨σ, I, hσ, rfl, (by simp; omega), fun i hi => ?_, hH, fun i x hx => ?_⟩
  ·have hlt := hpins i hi
   rw [← hs] at hlt
   simp only
   rw [at_ i hlt, Array.getD_eq_getD_getElem?, Array.getElem?_eq_getElem hlt]
   rfl
  ·simp only at hx
   rw [avT_at, if_neg (by omega), Nat.sub_zero] at hx
   have hi : i < vals.size := by rw [hs]; exact (List.getElem?_eq_some_iff.1 hx).1
   exact ⟨vals[i], by rw [at_ i hi, Array.getElem?_eq_getElem hi], hr i _ x (Array.getElem?_eq_getElem hi) hx⟩
 refine wp_mono (hw _ w _ I _ w tx mt) ?_
 rintro e a' w' ⟨s', ⟨σ', I', hn', m'⟩, q⟩
 have fin : EndD P fn.results args h n rt r h' m pins .ret s' → a'.defers = [] ∧ ∃ v, (results fn a'.tmps).run P w' = .ok v w' ∧
   ∃ v' σ'' I'', Ending.returned v = .returned v' ∧ HOK σ'' w' I'' (ofH h') w (lentX σ (ofH h)) I ∧ repA σ'' w' I'' v' r ∧ (∀ l ∈ rt, σ'' l = σ l) ∧ (∀ l, n + m ≤ l → σ'' l = none) := by
  rintro ⟨ρ, l, q1, q2, q3, q4, q5, q6⟩
  obtain ⟨vs, h1, h2, h3⟩ := resD_run (P := P) tx m' (hn' _ (Nat.le_refl _)) (resF a'.tmps) (fun t => rfl) (fun t ty => rfl) fn.results.toList l q1
  have hrun : (results fn a'.tmps).run P w' = .ok (if h : vs.length = 1 then vs[0] else .tuple vs.toArray) w' := by
   rw [results_eq, show fn.results = fn.results.toList.toArray by simp, List.mapM_toArray]
   simp only [Sem.run_bind, Sem.run_map, h1, Result.andThen_ok, Sem.run_pure, List.size_toArray, List.getElem_toArray]
  have hat : ∀ l b, ofH h' l = some b → s'.H (ρ l) = some (b.ren ρ) ∧ l < n + m ∧ b.labsIn (n + m) = true := fun l b hl => q4 (l, b) (ofH_mem hl)
  have hv : repA σ' w' I' (if h : vs.length = 1 then vs[0] else .tuple vs.toArray) (oneOrA l) := by
   by_cases h4 : vs.length = 1
   ·rw [dif_pos h4]
    obtain ⟨p, rfl⟩ : ∃ p, l = [p] := List.length_eq_one_iff.1 (by omega)
    exact h3 0 _ p (List.getElem?_eq_getElem (by omega)) rfl
   ·rw [dif_neg h4]
    have : oneOrA l = .tuple l := by
     unfold oneOrA
     split
     ·exact absurd h2 h4
     ·rfl
    rw [this]
    exact .tuple (by simpa using h2) (fun j u p q1 q2 => h3 j u p (by simpa using q1) q2)
  refine ⟨m'.defers, _, hrun, _, relab ρ (n + m) σ', I', rfl, ⟨fun l b hl => ?_, fun l l' g s1 s2 n1 n2 e1 e2 g1 g2 => ?_, fun l g s1 n1 e1 g1 => ?_, m'.heap.imm, m'.heap.sub, m'.heap.fr⟩, repA_ren hv r q2 q3, fun l hl => ?_, fun l hl => ?_⟩
  ·obtain ⟨p1, p2, p3⟩ := hat l b hl
   exact repB_ren p2 (m'.heap.rows _ _ p1) p3
  ·obtain ⟨b1, hb1⟩ := Option.ne_none_iff_exists'.1 n1
   obtain ⟨b2, hb2⟩ := Option.ne_none_iff_exists'.1 n2
   obtain ⟨p1, p2, p3⟩ := hat l b1 hb1
   obtain ⟨p1', p2', p3'⟩ := hat l' b2 hb2
   unfold relab at e1 e2
   rw [if_pos p2] at e1
   rw [if_pos p2'] at e2
   have := m'.heap.inj (ρ l) (ρ l') g s1 s2 (by rw [p1]; simp) (by rw [p1']; simp) e1 e2 g1 g2
   exact q5 (l, b1) (ofH_mem hb1) (l', b2) (ofH_mem hb2) this
  ·obtain ⟨b1, hb1⟩ := Option.ne_none_iff_exists'.1 n1
   obtain ⟨p1, p2, p3⟩ := hat l b1 hb1
   unfold relab at e1
   rw [if_pos p2] at e1
   exact m'.heap.mine (ρ l) g s1 (by rw [p1]; simp) e1 g1
  ·obtain ⟨hln, hroot⟩ := q6 l hl
   unfold relab
   rw [if_pos (by omega)]
   have pin : ∀ j, j ∈ pins → ∀ x, s'.T j = some x → ∃ u, vals[j]? = some u ∧ repA σ' w' I' u x := fun j hj x hx => by
    have hp := m'.pins j hj
    obtain ⟨u, hu, hru⟩ := m'.tmps j x hx
    rw [hp] at hu
    have hlt : j < vals.size := by rw [hs]; exact hpins j hj
    simp only [Option.some.injEq] at hu
    rw [Array.getD_eq_getD_getElem?, Array.getElem?_eq_getElem hlt] at hu
    simp only [Option.getD_some] at hu
    subst hu
    exact ⟨_, Array.getElem?_eq_getElem hlt, hru⟩
   rcases hroot with ⟨j, i, off, sz, es, es', r1, r2, r3, r4, r5, r6, r7⟩ | ⟨j, es, r1, r2, r3, r4⟩ | ⟨j, k, cs, cs', sz, es, es', r1, r2, r3, r4, r5, r6, r7, r8, r9⟩
   ·obtain ⟨u, hu, hru⟩ := pin j r1 _ r3
    obtain ⟨p1, p2, p3⟩ := hat l _ r5
    have hu0 := hr j u _ hu r2
    have b0 := hH.rows l _ r4
    have b1 := m'.heap.rows _ _ p1
    exact slot_kept hu0 hru b0 b1 (by rw [List.length_map]; exact r6) r7 m'.heap.fr.shape
   ·obtain ⟨u, hu, hru⟩ := pin j r1 _ r3
    have hu0 := hr j u _ hu r2
    cases hu0 with
    | map s0 =>
     cases hru with
     | map s1 => rw [s0, s1]
   ·obtain ⟨u, hu, hru⟩ := pin j r1 _ r4
    obtain ⟨p1, p2, p3⟩ := hat l _ r7
    have hu0 := hr j u _ hu r2
    have b0 := hH.rows l _ r6
    have b1 := m'.heap.rows _ _ p1
    obtain ⟨vs, rfl, z1, z2⟩ := aggA hu0
    obtain ⟨vs', e', z3, z4⟩ := aggA hru
    injection e' with e'
    subst e'
    have hk : k < vs.size := by rw [z1]; exact (List.getElem?_eq_some_iff.1 r3).1
    have y0 := z2 k _ _ (Array.getElem?_eq_getElem hk) r3
    have y1 := z4 k _ _ (Array.getElem?_eq_getElem hk) r5
    exact own_kept y0 y1 b0 b1 r8 (by simpa using r9)
  ·unfold relab
   rw [if_neg (by omega)]
 cases e with
 | normal => exact fin q
 | ret => exact fin q
 | exit _ => exact q.elim
 | goto _ => exact q.elim
 | panic _ => exact q.elim
 | outgrown => exact q.elim
def argD (T : Nat → Option AV) (ρ : Nat → Nat) : List Operand → List AV → Prop
 | [], [] => True
 | x :: xs, .p p :: ys => (match ev T x with | some v => pureA v = some p | none => False) ∧ argD T ρ xs ys
 | x :: xs, y :: ys => ev T x = some (y.ren ρ) ∧ argD T ρ xs ys
 | _, _ => False
theorem argD_spec {T : Nat → Option AV} {ρ : Nat → Nat} : ∀ {xs : List Operand} {ys : List AV}, argD T ρ xs ys → xs.length = ys.length ∧ ∀ (j : Nat) x y, xs[j]? = some x → ys[j]? = some y → (∃ p v, y = .p p ∧ ev T x = some v ∧ pureA v = some p) ∨ ev T x = some (y.ren ρ) := by
 intro xs
 induction xs with
 | nil =>
  intro ys h
  cases ys with
  | nil => exact ⟨rfl, fun j x y h => by simp at h⟩
  | cons y ys => simp [argD] at h
 | cons x xs ih =>
  intro ys h
  cases ys with
  | nil => simp [argD] at h
  | cons y ys =>
   have main : argD T ρ xs ys → ((∃ p v, y = .p p ∧ ev T x = some v ∧ pureA v = some p) ∨ ev T x = some (y.ren ρ)) → (x :: xs).length = (y :: ys).length ∧ ∀ (j : Nat) x' y', (x :: xs)[j]? = some x' → (y :: ys)[j]? = some y' → (∃ p v, y' = .p p ∧ ev T x' = some v ∧ pureA v = some p) ∨ ev T x' = some (y'.ren ρ) := by
    intro h1 h2
    obtain ⟨q1, q2⟩ := ih h1
    refine ⟨by simp [q1], fun j x' y' e1 e2 => ?_⟩
    cases j with
    | zero => simp at e1 e2; subst e1 e2; exact h2
    | succ j => exact q2 j x' y' (by simpa using e1) (by simpa using e2)
   cases y with
   | p p =>
    simp only [argD] at h
    obtain ⟨h1, h2⟩ := h
    split at h1
    ·rename_i v hv
     exact main h2 (.inl ⟨p, v, rfl, hv, h1⟩)
    ·exact h1.elim
   | _ => exact main h.2 (.inr h.1)
def lift2 (ρ : Nat → Nat) (n nx : Nat) (l : Nat) : Nat := if l < n then ρ l else nx + (l - n)
def goneU (ρ : Nat → Nat) (h : List (Nat × Blk)) : List (Nat × Option Blk) := h.map fun x => (ρ x.1, none)
def newU (ρ : Nat → Nat) (h : List (Nat × Blk)) : List (Nat × Option Blk) := h.map fun x => (ρ x.1, some (x.2.ren ρ))
theorem putH_gone (ρ : Nat → Nat) (l : Nat) : ∀ (h : List (Nat × Blk)) (H : Nat → Option Blk), (putH H (goneU ρ h) l = H l ∧ ∀ x ∈ h, ρ x.1 ≠ l) ∨ (putH H (goneU ρ h) l = none ∧ ∃ x ∈ h, ρ x.1 = l)
 | [], H => .inl ⟨rfl, fun x hx => by cases hx⟩
 | x :: h, H => by
  have e : putH H (goneU ρ (x :: h)) = putH (upd H (ρ x.1) none) (goneU ρ h) := rfl
  rw [e]
  rcases putH_gone ρ l h (upd H (ρ x.1) none) with ⟨h1, h2⟩ | ⟨h1, y, hy, h2⟩
  ·by_cases hl : ρ x.1 = l
   ·right
    refine ⟨?_, x, List.mem_cons_self, hl⟩
    rw [h1, hl, upd_same]
   ·left
    refine ⟨by rw [h1, upd_ne _ _ (fun h => hl h.symm)], fun y hy => ?_⟩
    rcases List.mem_cons.1 hy with rfl | hy
    ·exact hl
    ·exact h2 y hy
  ·exact .inr ⟨h1, y, List.mem_cons_of_mem _ hy, h2⟩
theorem putH_new (ρ : Nat → Nat) (l : Nat) : ∀ (h : List (Nat × Blk)) (H : Nat → Option Blk), (putH H (newU ρ h) l = H l ∧ ∀ x ∈ h, ρ x.1 ≠ l) ∨ (∃ x ∈ h, ρ x.1 = l ∧ putH H (newU ρ h) l = some (x.2.ren ρ))
 | [], H => .inl ⟨rfl, fun x hx => by cases hx⟩
 | x :: h, H => by
  have e : putH H (newU ρ (x :: h)) = putH (upd H (ρ x.1) (some (x.2.ren ρ))) (newU ρ h) := rfl
  rw [e]
  rcases putH_new ρ l h (upd H (ρ x.1) (some (x.2.ren ρ))) with ⟨h1, h2⟩ | ⟨y, hy, h1, h2⟩
  ·by_cases hl : ρ x.1 = l
   ·right
    refine ⟨x, List.mem_cons_self, hl, ?_⟩
    rw [h1, ← hl, upd_same]
   ·left
    refine ⟨by rw [h1, upd_ne _ _ (fun h => hl h.symm)], fun y hy => ?_⟩
    rcases List.mem_cons.1 hy with rfl | hy
    ·exact hl
    ·exact h2 y hy
  ·exact .inr ⟨y, List.mem_cons_of_mem _ hy, h1, h2⟩
def distinct : List Nat → Bool
 | [] => true
 | x :: l => !l.contains x && distinct l
theorem ofH_of_mem : ∀ {h : List (Nat × Blk)} {x : Nat × Blk}, distinct (h.map (·.1)) = true → x ∈ h → ofH h x.1 = some x.2
 | [], _, _, h => by cases h
 | y :: h, x, hd, hx => by
  simp only [List.map_cons, distinct, Bool.and_eq_true, Bool.not_eq_true'] at hd
  obtain ⟨a, b⟩ := y
  rcases List.mem_cons.1 hx with rfl | hx'
  ·simp [ofH]
  ·have : x.1 ≠ a := by
    intro e
    have : (h.map (·.1)).contains a = true := by
     rw [List.contains_iff_mem]
     exact List.mem_map.2 ⟨x, hx', e⟩
    rw [this] at hd
    cases hd.1
   simp only [ofH, if_neg this]
   exact ofH_of_mem hd.2 hx'
structure FitD (s : St) (xs : List Operand) (args : List AV) (h : List (Nat × Blk)) (n : Nat) (rt : List Nat) (r : AV) (h' : List (Nat × Blk)) (ρ : Nat → Nat) : Prop where
 opd : argD s.T ρ xs args
 labs : args.all (fun y => y.labsIn n) = true
 here : ∀ x ∈ h, s.H (ρ x.1) = some (x.2.ren ρ) ∧ x.1 < n ∧ x.2.labsIn n = true
 inj : distinct (h.map fun x => ρ x.1) = true
 dist : distinct (h.map (·.1)) = true
 dist' : distinct (h'.map (·.1)) = true
 roots : rt.all (fun l => (h.map (·.1)).contains l) = true
 res : r.labsBy (fun l => rt.contains l || decide (n ≤ l)) = true
 mem : h'.all (fun x => (rt.contains x.1 || decide (n ≤ x.1)) && x.2.labsBy (fun l => rt.contains l || decide (n ≤ l))) = true
theorem distinct_inj {ρ : Nat → Nat} : ∀ {h : List (Nat × Blk)}, distinct (h.map fun x => ρ x.1) = true → ∀ x ∈ h, ∀ y ∈ h, ρ x.1 = ρ y.1 → x = y
 | [], _, x, hx, _, _, _ => by cases hx
 | z :: h, hd, x, hx, y, hy, e => by
  simp only [List.map_cons, distinct, Bool.and_eq_true, Bool.not_eq_true'] at hd
  have no : ∀ v ∈ h, ρ v.1 ≠ ρ z.1 := fun v hv e => by
   have : (h.map fun x => ρ x.1).contains (ρ z.1) = true := by
    rw [List.contains_iff_mem]
    exact List.mem_map.2 ⟨v, hv, e⟩
   rw [this] at hd
   cases hd.1
  rcases List.mem_cons.1 hx with hx' | hx'
  ·rcases List.mem_cons.1 hy with hy' | hy'
   ·rw [hx', hy']
   ·rw [hx'] at e
    exact absurd e.symm (no y hy')
  ·rcases List.mem_cons.1 hy with hy' | hy'
   ·rw [hy'] at e
    exact absurd e (no x hx')
   ·exact distinct_inj hd.2 x hx' y hy' e
theorem callD_fn {nt : Fm} {s : St} {K : St → Prop} {o : Oper} {f : FuncId} {xs : Array Operand} {ts : Array TypeId} {args : List AV} {h : List (Nat × Blk)} {n : Nat} {rt : List Nat} {r : AV} {h' : List (Nat × Blk)} {m : Nat} (ρ : Nat → Nat)
  (ho : o.op = .call { callee := .value (.func f), args := xs, argTypes := ts }) (hd : dstOK nt o = true) (D : DFn P f args h n rt r h' m) (F : FitD s xs.toList args h n rt r h' ρ)
  (hk : K ⟨putT s.T o.dst (some (r.ren (lift2 ρ n s.nx))), putH (putH s.H (goneU ρ h)) (newU (lift2 ρ n s.nx) h'), s.nx + m⟩) : CallD P nt o s K := by
 obtain ⟨hen, hp⟩ := D
 intro w0 X I0 a w next Q tx ⟨σ, I, hn, mm⟩ hnext
 have IN : In σ w I s.T s.H w0 X I0 a s.nx := ⟨mm.heap, mm.tmps, hn _ (Nat.le_refl _), tx⟩
 have hrun : (execOp a.eval o).run P w = .ok (.enter f (xs.map a.eval)) w := by
  have he : a.eval (.func f) = .func (.func f) #[] #[] := rfl
  simp only [execOp, ho, resolve, he, Deferred.ofValue, Sem.run_bind, Sem.run_pure, Result.andThen_ok, invoke, Array.append_empty, Array.empty_append, run_enter hen]
 obtain ⟨p1, p2⟩ := argD_spec F.opd
 have here : ∀ l b, ofH h l = some b → s.H (ρ l) = some (b.ren ρ) ∧ l < n ∧ b.labsIn n = true := fun l b hl => F.here (l, b) (ofH_mem hl)
 have inj : ∀ l l' b b', ofH h l = some b → ofH h l' = some b' → ρ l = ρ l' → l = l' := fun l l' b b' h1 h2 e => by
  have := distinct_inj F.inj (l, b) (ofH_mem h1) (l', b') (ofH_mem h2) e
  injection this
 generalize hσc : relab ρ n σ = σc
 have σat : ∀ l, l < n → σc l = σ (ρ l) := fun l hl => by rw [← hσc]; unfold relab; rw [if_pos hl]
 have σno : ∀ l, n ≤ l → σc l = none := fun l hl => by rw [← hσc]; unfold relab; rw [if_neg (by omega)]
 have Xof : ∀ g, lentX σc (ofH h) g → ∃ l b sl, ofH h l = some b ∧ s.H (ρ l) = some (b.ren ρ) ∧ σ (ρ l) = some sl ∧ sl.block = some g := fun g ⟨l, sl, q1, q2, q3⟩ => by
  obtain ⟨b, hb⟩ := Option.ne_none_iff_exists'.1 q1
  obtain ⟨r1, r2, _⟩ := here l b hb
  exact ⟨l, b, sl, hb, r1, by rw [← σat l r2]; exact q2, q3⟩
 have hH : HOK σc w I (ofH h) w (lentX σc (ofH h)) I := by
  refine ⟨fun l b hl => ?_, fun l l' g s1 s2 n1 n2 e1 e2 g1 g2 => ?_, fun l g s1 n1 e1 g1 => ?_, fun g hg => ⟨(mm.heap.imm g hg).1, .inl hg⟩, fun _ h => h, Fr.refl _ _⟩
  ·obtain ⟨r1, r2, r3⟩ := here l b hl
   rw [← hσc]
   exact repB_ren r2 (mm.heap.rows _ _ r1) r3
  ·obtain ⟨b1, hb1⟩ := Option.ne_none_iff_exists'.1 n1
   obtain ⟨b2, hb2⟩ := Option.ne_none_iff_exists'.1 n2
   obtain ⟨r1, r2, _⟩ := here l b1 hb1
   obtain ⟨r1', r2', _⟩ := here l' b2 hb2
   rw [σat l r2] at e1
   rw [σat l' r2'] at e2
   exact inj l l' b1 b2 hb1 hb2 (mm.heap.inj _ _ g s1 s2 (by rw [r1]; simp) (by rw [r1']; simp) e1 e2 g1 g2)
  ·obtain ⟨b1, hb1⟩ := Option.ne_none_iff_exists'.1 n1
   obtain ⟨r1, r2, _⟩ := here l b1 hb1
   refine ⟨?_, .inl ⟨l, s1, n1, e1, g1⟩⟩
   rw [σat l r2] at e1
   exact (mm.heap.mine _ g s1 (by rw [r1]; simp) e1 g1).1
 have hargs := hp w I σc (xs.map a.eval) (by simpa using p1) σno (fun j u y q1 q2 => by
  rw [Array.getElem?_map, Option.map_eq_some_iff] at q1
  obtain ⟨x, hx, rfl⟩ := q1
  have hlab : y.labsIn n = true := List.all_eq_true.1 F.labs y (List.mem_of_getElem? q2)
  rcases p2 j x y (by simpa using hx) q2 with ⟨p, v, rfl, hv, hpv⟩ | hv
  ·exact .p (rep_pureA (IN.ev hv) hpv)
  ·rw [← hσc]
   exact repA_ren (IN.ev hv) y rfl hlab) hH IN.tabs
 unfold Oper.wp
 rw [hrun, Oper.upon_enter]
 refine hargs.mono fun e w' he => ?_
 obtain ⟨v, σ', I', rfl, hh, hrv, hroot, hnew⟩ := he
 -- the caller's labels behind the call
 obtain ⟨σ2, hσ2⟩ : ∃ σ2 : Lab, ∀ l, σ2 l = if l < s.nx then σ l else σ' (n + (l - s.nx)) := ⟨fun l => if l < s.nx then σ l else σ' (n + (l - s.nx)), fun _ => rfl⟩
 have old : ∀ l sl, σ l = some sl → σ2 l = some sl := fun l sl hl => by
  rw [hσ2]
  rcases Nat.lt_or_ge l s.nx with q | q
  ·rw [if_pos q]; exact hl
  ·rw [hn l q] at hl; cases hl
 have new : ∀ l, (rt.contains l || decide (n ≤ l)) = true → ∀ sl, σ' l = some sl → σ2 (lift2 ρ n s.nx l) = some sl := fun l hl sl hs => by
  unfold lift2
  rcases Nat.lt_or_ge l n with q | q
  ·rw [if_pos q]
   have hm : l ∈ rt := by
    rcases Bool.or_eq_true_iff.1 hl with hl | hl
    ·exact List.contains_iff_mem.1 hl
    ·simp at hl; omega
   rw [hroot l hm, σat l q] at hs
   exact old _ _ hs
  ·rw [if_neg (by omega), hσ2, if_neg (by omega), show n + (s.nx + (l - n) - s.nx) = l by omega]
   exact hs
 have blk : ∀ l g sl, s.H l ≠ none → σ l = some sl → sl.block = some g → g < w.heap.size := fun l g sl hn hs hg => by
  obtain ⟨b, hb⟩ := Option.ne_none_iff_exists'.1 hn
  obtain ⟨s', hs', hlt⟩ := (mm.heap.rows l b hb).block
  rw [hs] at hs'; injection hs' with hs'; subst hs'
  exact hlt g hg
 have Xmine : ∀ g, lentX σc (ofH h) g → ¬ I g ∧ (X g ∨ w0.heap.size ≤ g) ∧ g < w.heap.size := fun g hg => by
  obtain ⟨l, b, sl, q1, q2, q3, q4⟩ := Xof g hg
  obtain ⟨m1, m2⟩ := mm.heap.mine _ g sl (by rw [q2]; simp) q3 q4
  exact ⟨m1, m2, blk _ g sl (by rw [q2]; simp) q3 q4⟩
 have same : ∀ b, I b → w'.heap[b]? = w.heap[b]? := fun b hb => hh.fr.block b (mm.heap.imm b hb).1 fun hx => (Xmine b hx).1 hb
 have hI : ∀ g, I g → I' g := hh.sub
 have fresh : ∀ g, I' g → I g ∨ lentX σc (ofH h) g ∨ w.heap.size ≤ g := fun g hg => (hh.imm g hg).2
 have frame : ∀ l b, s.H l = some b → (∀ x ∈ h, ρ x.1 ≠ l) → ∀ g sl, σ l = some sl → sl.block = some g → ¬ lentX σc (ofH h) g := fun l b hl hno g sl hs hg hx => by
  obtain ⟨l2, b2, sl2, q1, q2, q3, q4⟩ := Xof g hx
  exact hno (l2, b2) (ofH_mem q1) (mm.heap.inj _ _ g sl2 sl (by rw [q2]; simp) (by rw [hl]; simp) q3 hs q4 hg)
 -- what stands where
 have cls : ∀ l b, putH (putH s.H (goneU ρ h)) (newU (lift2 ρ n s.nx) h') l = some b → (∃ x ∈ h', lift2 ρ n s.nx x.1 = l ∧ b = x.2.ren (lift2 ρ n s.nx)) ∨ (s.H l = some b ∧ (∀ x ∈ h, ρ x.1 ≠ l)) := fun l b hl => by
  rcases putH_new (lift2 ρ n s.nx) l h' (putH s.H (goneU ρ h)) with ⟨e1, e2⟩ | ⟨x, hx, e1, e2⟩
  ·rw [e1] at hl
   rcases putH_gone ρ l h s.H with ⟨e3, e4⟩ | ⟨e3, _⟩
   ·rw [e3] at hl; exact .inr ⟨hl, e4⟩
   ·rw [e3] at hl; cases hl
  ·rw [e2] at hl
   injection hl with hl
   exact .inl ⟨x, hx, e1, hl.symm⟩
 have mem' : ∀ x ∈ h', (rt.contains x.1 || decide (n ≤ x.1)) = true ∧ x.2.labsBy (fun l => rt.contains l || decide (n ≤ l)) = true := fun x hx => by
  have := List.all_eq_true.1 F.mem x hx
  rwa [Bool.and_eq_true] at this
 have inv : ∀ l, (rt.contains l || decide (n ≤ l)) = true → ∀ sl, σ2 (lift2 ρ n s.nx l) = some sl → σ' l = some sl := fun l hl sl hs => by
  unfold lift2 at hs
  rcases Nat.lt_or_ge l n with q | q
  ·rw [if_pos q] at hs
   have hm : l ∈ rt := by
    rcases Bool.or_eq_true_iff.1 hl with hl | hl
    ·exact List.contains_iff_mem.1 hl
    ·simp at hl; omega
   rw [hroot l hm, σat l q]
   have hc := List.contains_iff_mem.1 (List.all_eq_true.1 F.roots l hm)
   obtain ⟨x, hx, hxl⟩ := List.mem_map.1 hc
   obtain ⟨r1, r2, _⟩ := F.here x hx
   have hlt : ρ l < s.nx := by
    rcases Nat.lt_or_ge (ρ l) s.nx with z | z
    ·exact z
    ·obtain ⟨sl', hsl', _⟩ := (mm.heap.rows _ _ r1).block
     rw [hxl, hn _ z] at hsl'; cases hsl'
   rw [hσ2, if_pos hlt] at hs
   exact hs
  ·rw [if_neg (by omega), hσ2, if_neg (by omega), show n + (s.nx + (l - n) - s.nx) = l by omega] at hs
   exact hs
 have OK : HOK σ2 w' I' (putH (putH s.H (goneU ρ h)) (newU (lift2 ρ n s.nx) h')) w0 X I0 := by
  have rowN : ∀ x ∈ h', repB σ' w' I' x.1 x.2 := fun x hx => hh.rows x.1 x.2 (ofH_of_mem F.dist' hx)
  have neN : ∀ x ∈ h', ofH h' x.1 ≠ none := fun x hx => by rw [ofH_of_mem F.dist' hx]; simp
  have slotF : ∀ l b sl, s.H l = some b → σ2 l = some sl → σ l = some sl := fun l b sl hl hs => by
   obtain ⟨sl', hsl', _⟩ := (mm.heap.rows l b hl).block
   rw [old l sl' hsl'] at hs
   rw [hsl']; exact hs
  refine ⟨fun l b hl => ?_, fun l1 l2 g s1 s2 n1 n2 e1 e2 g1 g2 => ?_, fun l g sl n1 e1 g1 => ?_, fun g hg => ?_, fun g hg => hh.sub g (mm.heap.sub g hg), ⟨hh.fr.os.trans mm.heap.fr.os, hh.fr.tape.trans mm.heap.fr.tape, hh.fr.output.trans mm.heap.fr.output, Nat.le_trans mm.heap.fr.size hh.fr.size, fun b hb hx => ?_, mm.heap.fr.step fun b cur et p hb hc => hh.fr.shape b cur et p hc⟩⟩
  ·rcases cls l b hl with ⟨x, hx, rfl, rfl⟩ | ⟨hl', hno⟩
   ·exact repB_by new (mem' x hx).1 (rowN x hx) (mem' x hx).2
   ·obtain ⟨sl, hsl, hlt⟩ := (mm.heap.rows l b hl').block
    refine (mm.heap.rows l b hl').mono old hI same fun g s' q1 q2 => ?_
    rw [hsl] at q1; injection q1 with q1; subst q1
    exact hh.fr.block g (hlt g q2) (frame l b hl' hno g _ hsl q2)
  ·obtain ⟨b1, hb1⟩ := Option.ne_none_iff_exists'.1 n1
   obtain ⟨b2, hb2⟩ := Option.ne_none_iff_exists'.1 n2
   rcases cls l1 b1 hb1 with ⟨x, hx, rfl, rfl⟩ | ⟨h1, no1⟩
   ·have f1 := inv x.1 (mem' x hx).1 s1 e1
    rcases cls l2 b2 hb2 with ⟨y, hy, rfl, rfl⟩ | ⟨h2, no2⟩
    ·have f2 := inv y.1 (mem' y hy).1 s2 e2
     rw [hh.inj x.1 y.1 g s1 s2 (neN x hx) (neN y hy) f1 f2 g1 g2]
    ·exfalso
     have f2 := slotF l2 b2 s2 h2 e2
     rcases (hh.mine x.1 g s1 (neN x hx) f1 g1).2 with q | q
     ·exact frame l2 b2 h2 no2 g s2 f2 g2 q
     ·have := blk l2 g s2 (by rw [h2]; simp) f2 g2; omega
   ·have f1 := slotF l1 b1 s1 h1 e1
    rcases cls l2 b2 hb2 with ⟨y, hy, rfl, rfl⟩ | ⟨h2, no2⟩
    ·exfalso
     have f2 := inv y.1 (mem' y hy).1 s2 e2
     rcases (hh.mine y.1 g s2 (neN y hy) f2 g2).2 with q | q
     ·exact frame l1 b1 h1 no1 g s1 f1 g1 q
     ·have := blk l1 g s1 (by rw [h1]; simp) f1 g1; omega
    ·exact mm.heap.inj l1 l2 g s1 s2 (by rw [h1]; simp) (by rw [h2]; simp) f1 (slotF l2 b2 s2 h2 e2) g1 g2
  ·obtain ⟨b1, hb1⟩ := Option.ne_none_iff_exists'.1 n1
   rcases cls l b1 hb1 with ⟨x, hx, rfl, rfl⟩ | ⟨h1, no1⟩
   ·have f1 := inv x.1 (mem' x hx).1 sl e1
    obtain ⟨m1, m2⟩ := hh.mine x.1 g sl (neN x hx) f1 g1
    refine ⟨m1, ?_⟩
    rcases m2 with q | q
    ·exact (Xmine g q).2.1
    ·exact .inr (Nat.le_trans mm.heap.fr.size q)
   ·have f1 := slotF l b1 sl h1 e1
    obtain ⟨m1, m2⟩ := mm.heap.mine l g sl (by rw [h1]; simp) f1 g1
    refine ⟨fun hg => ?_, m2⟩
    rcases fresh g hg with q | q | q
    ·exact m1 q
    ·exact frame l b1 h1 no1 g sl f1 g1 q
    ·have := blk l g sl (by rw [h1]; simp) f1 g1; omega
  ·refine ⟨(hh.imm g hg).1, ?_⟩
   rcases fresh g hg with q | q | q
   ·exact (mm.heap.imm g q).2
   ·exact .inr (Xmine g q).2.1
   ·exact .inr (.inr (Nat.le_trans mm.heap.fr.size q))
  ·rw [hh.fr.block b (by have := mm.heap.fr.size; omega) fun hx' => ?_]
   ·exact mm.heap.fr.block b hb hx
   ·rcases (Xmine b hx').2.1 with q | q
    ·exact hx q
    ·omega
 refine hnext ⟨putT s.T o.dst (some (r.ren (lift2 ρ n s.nx))), _, s.nx + m⟩ _ w' ⟨σ2, I', fun l hl => ?_, mm.put hd OK old hI same fun y hy => by injection hy with hy; subst hy; exact repA_by new hrv F.res⟩ hk
 simp only at hl
 rw [hσ2, if_neg (by omega)]
 exact hnew _ (by omega)
end Go.Aw
namespace Go.Aw
open Go.Proofs Go.RowKit
theorem SeqR.call {P : Program} {nt : Fm} {s : St} {ops : Array Oper} {i : Nat} {K : St → Prop} {d : Tmp} {f : FuncId} {xs : Array Operand} {ts : Array TypeId} {ty : TypeId} {ps : String} {af : Array Edge} {args : List AV} {h : List (Nat × Blk)} {n : Nat} {rt : List Nat} {r : AV} {h' : List (Nat × Blk)} {m : Nat} (ρ : Nat → Nat)
  (ho : ops[i]? = some ⟨some d, .call { callee := .value (.func f), args := xs, argTypes := ts }, ty, ps, af, none⟩) (hd : dstOK nt ⟨some d, .call { callee := .value (.func f), args := xs, argTypes := ts }, ty, ps, af, none⟩ = true) (D : DFn P f args h n rt r h' m) (F : FitD s xs.toList args h n rt r h' ρ)
  (hk : SeqR P nt ops (i + 1) ⟨upd s.T d (some (r.ren (lift2 ρ n s.nx))), putH (putH s.H (goneU ρ h)) (newU (lift2 ρ n s.nx) h'), s.nx + m⟩ K) : SeqR P nt ops i s K :=
 SeqR.op ho rfl (callD_fn ρ rfl hd D F hk)
theorem labsBy_lift {p : Nat → Bool} {sz : Nat} {es : List (List PV)} : (Blk.row sz (liftE es)).labsBy p = true := by
 have : ∀ l : List PV, labsByL p (l.map AV.p) = true := fun l => by
  induction l with
  | nil => rfl
  | cons a l ih => rw [List.map_cons, labsByL, ih]; rfl
 simp only [Blk.labsBy, liftE, List.all_map, List.all_eq_true]
 intro e _
 exact this e
end Go.Aw
namespace Go.Aw
open Go.Proofs Go.RowKit
def mP (l : List Pr) : List (PV × AV) := l.map fun p => (.agg [.str p.o, .str p.n], .p (.bool true))
theorem mP_no {l : List Pr} {p : Pr} (h : l.contains p = false) : MapAt (mP l) (.agg [.str p.o, .str p.n]) none :=
 mapAt_none (q := fun a : Pr => p == a) (fun a => by
  simp only [keyEq]
  congr 1
  rw [Bool.eq_iff_iff]
  cases p; cases a
  simp) (by rw [← contains_any]; exact h)
theorem mP_yes {l : List Pr} {p : Pr} (h : l.contains p = true) : ∃ i : Nat, MapAt (mP l) (.agg [.str p.o, .str p.n]) (some (i, .p (.bool true))) := by
 rw [contains_any] at h
 obtain ⟨i, a, h1, h2, h3⟩ := first_of h
 exact ⟨i, mapAt_some (q := fun a : Pr => p == a) (fun a => by
  simp only [keyEq]
  congr 1
  rw [Bool.eq_iff_iff]
  cases p; cases a
  simp) h1 h2 h3⟩
theorem mP_add (l : List Pr) (p : Pr) : mP l ++ [(.agg [.str p.o, .str p.n], .p (.bool true))] = mP (l ++ [p]) := by simp [mP]
theorem mP_ren (l : List Pr) (ρ : Nat → Nat) : (mP l).map (fun e => (e.1, AV.ren ρ e.2)) = mP l := by
 simp [mP, AV.ren]
theorem mP_labs (l : List Pr) (n : Nat) : (mP l).all (fun e => AV.labsIn n e.2) = true := by
 simp [mP, AV.labsIn]
attribute [go_sem] mP_ren mP_labs
def addP (l : List Pr) (p : Pr) : List Pr := if l.contains p = true then l else l ++ [p]
def memP (l : List Pr) (r a b : Nat) : List (Nat × Blk) := [(r, .row 2 [[.own a, .map b]]), (a, .row 2 (liftE (l.map encPr))), (b, .map (mP l))]
def adZ (l : List Pr) : St := ⟨ofL [(0, .ptr 0 0 0)], ofH (memP l 0 1 2), 3⟩
theorem compat_add (l : List Pr) (p : Pr) (hl : l.length ≤ 1000000) : DFn Tryd.prog 82 [.ptr 0 0 0, .p (.str p.o), .p (.str p.n)] (memP l 0 1 2) 3 [0] (.tuple []) (memP (addP l p) 0 3 4) 2 := by
 refine DFn.of [0] Tryd.func82 rfl (by decide) Tryd.ntmps82 Tryd.results82 (Nat.le_of_ble_eq_true rfl) (by simp) fun val => ?_
 simp only [avT, memP]
 refine AW.rT (by rfl) fun K hK => ?_
 simp -implicitDefEqProofs only [go_sem, ↓reduceIte, Nat.reduceAdd, Nat.reduceEqDiff, Nat.reduceLeDiff, reduceCtorEq]
 apply hK; clear hK K
 cases hk : l.contains p with
 | true =>
  have e : addP l p = l := by unfold addP; rw [hk]; rfl
  obtain ⟨i, hm⟩ := mP_yes hk
  refine AW.dT mixed (by rfl) (by decide +kernel) fun K hK => ?_
  simp -implicitDefEqProofs only [go_sem, ↓reduceIte, Nat.reduceAdd, Nat.reduceEqDiff, Nat.reduceLeDiff, reduceCtorEq]
  refine ⟨keyP p.o p.n, _, hm, _, rfl, ?_⟩
  try simp -implicitDefEqProofs only [go_sem]
  refine ⟨heapOK_nil rfl, ?_⟩
  apply hK; clear hK K
  refine AW.cF rfl ?_
  refine AW.ghost (s' := adZ (addP l p)) ?_ ?_
  ·simp only [adZ, memP, e]
   refine Ghost.ent (fun l => l) ?_ ?_ ?_ <;> simp -implicitDefEqProofs only [go_sem, ↓reduceIte, Nat.reduceEqDiff, reduceCtorEq, List.forall_mem_cons, List.not_mem_nil, false_implies, implies_true, and_self, map_renL_lift, labsIn_lift, List.all_cons, List.all_nil, Nat.reduceLT, labsInL, AV.labsIn]
   all_goals first | rfl | decide | skip
  refine AW.skip ⟨fun k => if k = 0 then 0 else k - 2, [], trivial, rfl, rfl, ?_, ?_, ?_⟩
  ·simp only [adZ, memP]
   simp -implicitDefEqProofs only [go_sem, ↓reduceIte, Nat.reduceAdd, reduceCtorEq, List.forall_mem_cons, List.not_mem_nil, false_implies, implies_true, Nat.reduceSub]
   first | done | decide
  ·simp []
  ·intro k hk'
   simp at hk'
   subst hk'
   exact ⟨by decide, .inl ⟨0, 0, 0, 2, _, _, by simp, rfl, rfl, rfl, rfl, rfl, by decide⟩⟩
 | false =>
  have e : addP l p = l ++ [p] := by unfold addP; rw [hk]; rfl
  have hm := mP_no hk
  refine AW.dT mixed (by rfl) (by decide +kernel) fun K hK => ?_
  simp -implicitDefEqProofs only [go_sem, ↓reduceIte, Nat.reduceAdd, Nat.reduceEqDiff, Nat.reduceLeDiff, reduceCtorEq]
  refine ⟨keyP p.o p.n, _, hm, _, rfl, ?_⟩
  try simp -implicitDefEqProofs only [go_sem]
  refine ⟨heapOK_nil rfl, ?_⟩
  apply hK; clear hK K
  refine AW.cT rfl ?_
  refine AW.dT mixed (by rfl) (by decide +kernel) fun K hK => ?_
  simp -implicitDefEqProofs only [go_sem, ↓reduceIte, Nat.reduceAdd, Nat.reduceEqDiff, Nat.reduceLeDiff, reduceCtorEq]
  refine ⟨keyP p.o p.n, _, hm, ?_⟩
  try simp -implicitDefEqProofs only [go_sem]
  refine ⟨by decide +kernel, ?_⟩
  apply hK; clear hK K
  refine AW.dE mixed (by rfl) (by decide +kernel) fun K hK => ?_
  simp -implicitDefEqProofs only [go_sem, ↓reduceIte, Nat.reduceAdd, Nat.reduceMul, Nat.reduceEqDiff, Nat.reduceLeDiff, reduceCtorEq]
  refine ⟨⟨by simp, by simp [oneAll, AV.one, PV.one], by simp⟩, by simp [liftE_length]; omega, ?_⟩
  try simp -implicitDefEqProofs only [go_sem, ↓reduceIte, Nat.reduceAdd, Nat.reduceMul, Nat.reduceEqDiff, Nat.reduceLeDiff, reduceCtorEq, Int.reduceToNat]
  refine ⟨by decide +kernel, ?_⟩
  apply hK; clear hK K
  rw [e]
  refine ⟨fun k => if k = 0 then 0 else if k = 3 then 28 else 2, [], trivial, rfl, rfl, ?_, ?_, ?_⟩
  ·simp -implicitDefEqProofs only [go_sem, ↓reduceIte, Nat.reduceAdd, Nat.reduceEqDiff, reduceCtorEq, List.forall_mem_cons, List.not_mem_nil, false_implies, implies_true, mP_add, encPr, List.map_append, liftE_append, liftE_cons, liftE_nil]
   simp [labsIn_lift, labsInL, AV.labsIn, List.all_append]
  ·simp []
  ·intro k hk'
   simp at hk'
   subst hk'
   refine ⟨by decide, .inl ⟨0, 0, 0, 2, [[.own 1, .map 2]], [[.own 3, .map 4]], by simp, rfl, ?_, rfl, rfl, rfl, by decide⟩⟩
   simp -implicitDefEqProofs only [go_sem, ↓reduceIte, reduceCtorEq]
end Go.Aw
namespace Go.Aw
open Go.Proofs Go.RowKit
theorem mP_by {p : Nat → Bool} (l : List Pr) : (Blk.map (mP l)).labsBy p = true := by
 simp [Blk.labsBy, mP, AV.labsBy]
def fOf (m : Ms) (t : Int) : Fd × Bool := firstP (fun x => x.tag == t) zFd m.fields
def keepB (S U : Sc) (mo mn : Ms) (t : Int) : Bool := (fOf mn t).2 && (((fOf mo t).1.label == (fOf mn t).1.label) && fitsB S U (fOf mo t).1.ty (fOf mn t).1.ty)
def stayB (S U : Sc) (mo mn : Ms) (t : Int) : Bool := if (fOf mo t).2 = true then (if keepB S U mo mn t = true then true else mn.res.contains t) else (mn.res.contains t || !mo.res.contains t)
def stayL (S U : Sc) (mo mn : Ms) (t : Int) (l : List Pr) : List Pr := if (fOf mo t).2 = true ∧ keepB S U mo mn t = true ∧ (fOf mo t).1.ty.kind = 7 then addP l ⟨(fOf mo t).1.ty.name, (fOf mn t).1.ty.name⟩ else l
theorem addEnd {l0 l : List Pr} {b : Bool} {rs : Array ResultVar} {args : List AV} {s : St} (ha : args[0]? = some (.ptr 0 0 0)) (hs : s.T 0 = some (.ptr 0 0 0)) (h0 : s.H 0 = some (.row 2 [[.own 1, .map 2]])) (h1 : s.H 1 = some (.row 2 (liftE (l.map encPr)))) (h2 : s.H 2 = some (.map (mP l))) (hr : resD Tryd.prog s rs.toList [.p (.bool b)]) :
  EndD Tryd.prog rs args (memP l0 0 1 2) 3 [0] (.p (.bool b)) (memP l 0 3 4) 2 [0] .ret s := by
 refine ⟨fun k => if k = 0 then 0 else k - 2, [.p (.bool b)], hr, rfl, rfl, ?_, ?_, ?_⟩
 ·simp only [memP]
  simp -implicitDefEqProofs only [go_sem, ↓reduceIte, Nat.reduceAdd, reduceCtorEq, List.forall_mem_cons, List.not_mem_nil, false_implies, implies_true, Nat.reduceSub, h0, h1, h2]
  first | done | decide
 ·simp [memP]
 ·intro k hk'
  simp at hk'
  subst hk'
  exact ⟨by decide, .inl ⟨0, 0, 0, 2, _, _, by simp, ha, hs, rfl, rfl, rfl, by decide⟩⟩
theorem compat_stays (S U : Sc) (mo mn : Ms) (t : Int) (l : List Pr) (hl : l.length ≤ 1000000) (ho : mo.fields.length ≤ 1000000) (hn : mn.fields.length ≤ 1000000) (hro : mo.res.length ≤ 1000000) (hrn : mn.res.length ≤ 1000000)
  (HF : ∀ y z, PFn Tryd.prog 118 [.agg (encSc S), .agg (encSc U), .agg (encTy y), .agg (encTy z)] (.bool (fitsB S U y z))) :
  DFn Tryd.prog 83 [.ptr 0 0 0, .p (.agg (encSc S)), .p (.agg (encSc U)), .p (.agg (encMs mo)), .p (.agg (encMs mn)), .p (.int .i64 t)] (memP l 0 1 2) 3 [0] (.p (.bool (stayB S U mo mn t))) (memP (stayL S U mo mn t l) 0 3 4) 2 := by
 refine DFn.of [0] Tryd.func83 rfl (by decide) Tryd.ntmps83 Tryd.results83 (Nat.le_of_ble_eq_true rfl) (by simp) fun val => ?_
 have R1 := check_Reserved mn t hrn
 have R2 := check_Reserved mo t hro
 have F1 := check_Field mo t ho
 have F2 := check_Field mn t hn
 have e1 : firstP (fun x => x.tag == t) zFd mo.fields = fOf mo t := rfl
 have e2 : firstP (fun x => x.tag == t) zFd mn.fields = fOf mn t := rfl
 rw [e1] at F1
 rw [e2] at F2
 have HF := HF (fOf mo t).1.ty (fOf mn t).1.ty
 have eL : (fOf mo t).2 = false ∨ keepB S U mo mn t = false → stayL S U mo mn t l = l := by
  intro h
  unfold stayL
  rw [if_neg]
  rintro ⟨q1, q2, _⟩
  rcases h with h | h
  ·rw [h] at q1; cases q1
  ·rw [h] at q2; cases q2
 simp only [encSc, encMs, encFd, encTy] at R1 R2 F1 F2 HF
 simp only [avT, encSc, encMs]
 refine AW.rT (by rfl) fun K hK => ?_
 simp -implicitDefEqProofs only [go_sem, ↓reduceIte, Nat.reduceAdd, Nat.reduceEqDiff, reduceCtorEq, memP]
 apply hK; clear hK K
 refine AW.rT (by rfl) fun K hK => ?_
 simp -implicitDefEqProofs only [go_sem, ↓reduceIte, Nat.reduceAdd, Nat.reduceEqDiff, Nat.reduceLeDiff, reduceCtorEq]
 refine ⟨.pure _, R1, ?_⟩
 try simp -implicitDefEqProofs only [go_sem, Nat.reduceAdd]
 apply hK; clear hK K
 refine AW.rT (by rfl) fun K hK => ?_
 simp -implicitDefEqProofs only [go_sem, ↓reduceIte, Nat.reduceAdd, Nat.reduceEqDiff, Nat.reduceLeDiff, reduceCtorEq]
 refine ⟨.pure _, F1, ?_⟩
 try simp -implicitDefEqProofs only [go_sem, ↓reduceIte, Nat.reduceAdd, Nat.reduceEqDiff, Nat.reduceLeDiff]
 apply hK; clear hK K
 refine AW.seq ?_
 cases hf : (fOf mo t).2 with
 | false =>
  have eB : stayB S U mo mn t = (mn.res.contains t || !mo.res.contains t) := by unfold stayB; rw [hf]; rfl
  rw [eL (.inl hf)]
  refine AW.rT (by rfl) fun K hK => ?_
  simp -implicitDefEqProofs only [go_sem, Nat.reduceAdd]
  apply hK; clear hK K
  refine AW.cT rfl ?_
  cases hg : mn.res.contains t with
  | true =>
   rw [hg, Bool.true_or] at eB
   refine AW.rT (by rfl) fun K hK => ?_
   simp -implicitDefEqProofs only [go_sem, ↓reduceIte, Nat.reduceAdd, Nat.reduceEqDiff]
   apply hK; clear hK K
   rw [eB]
   refine AW.ret (addEnd rfl ?_ ?_ ?_ ?_ ⟨?_, trivial⟩) <;> simp -implicitDefEqProofs only [go_sem, ↓reduceIte, Nat.reduceEqDiff, reduceCtorEq]
  | false =>
   rw [hg, Bool.false_or] at eB
   refine AW.rT (by rfl) fun K hK => ?_
   simp -implicitDefEqProofs only [go_sem, ↓reduceIte, Nat.reduceAdd, Nat.reduceEqDiff, Nat.reduceLeDiff, reduceCtorEq]
   refine ⟨.pure _, R2, ?_⟩
   try simp -implicitDefEqProofs only [go_sem, ↓reduceIte, Nat.reduceAdd, Nat.reduceEqDiff]
   apply hK; clear hK K
   rw [eB]
   refine AW.ret (addEnd rfl ?_ ?_ ?_ ?_ ⟨?_, trivial⟩) <;> simp -implicitDefEqProofs only [go_sem, ↓reduceIte, Nat.reduceEqDiff, reduceCtorEq]
 | true =>
  have eB : stayB S U mo mn t = if keepB S U mo mn t = true then true else mn.res.contains t := by unfold stayB; rw [hf]; rfl
  refine AW.rT (by rfl) fun K hK => ?_
  simp -implicitDefEqProofs only [go_sem, Nat.reduceAdd]
  apply hK; clear hK K
  refine AW.cF rfl ?_
  refine AW.skip ?_
  simp only [andThen]
  refine AW.rT (by rfl) fun K hK => ?_
  simp -implicitDefEqProofs only [go_sem, ↓reduceIte, Nat.reduceAdd, Nat.reduceEqDiff, Nat.reduceLeDiff, reduceCtorEq]
  refine ⟨.pure _, F2, ?_⟩
  try simp -implicitDefEqProofs only [go_sem, ↓reduceIte, Nat.reduceAdd, Nat.reduceEqDiff, Nat.reduceLeDiff]
  apply hK; clear hK K
  refine AW.seq ?_
  cases hg : (fOf mn t).2 with
  | false =>
   have kb : keepB S U mo mn t = false := by unfold keepB; rw [hg]; rfl
   rw [kb, if_neg (by simp)] at eB
   rw [eL (.inr kb), eB]
   refine AW.rT (by rfl) fun K hK => ?_
   simp -implicitDefEqProofs only [go_sem, ↓reduceIte, Nat.reduceAdd, Nat.reduceEqDiff]
   apply hK; clear hK K
   refine AW.cT rfl ?_
   refine AW.rT (by rfl) fun K hK => ?_
   simp -implicitDefEqProofs only [go_sem, ↓reduceIte, Nat.reduceAdd, Nat.reduceEqDiff]
   apply hK; clear hK K
   refine AW.ret (addEnd rfl ?_ ?_ ?_ ?_ ⟨?_, trivial⟩) <;> simp -implicitDefEqProofs only [go_sem, ↓reduceIte, Nat.reduceEqDiff, reduceCtorEq]
  | true =>
  by_cases hlb : (fOf mo t).1.label = (fOf mn t).1.label
  case neg =>
   have f1 : ((fOf mo t).1.label != (fOf mn t).1.label) = true := by simp [hlb]
   have kb : keepB S U mo mn t = false := by unfold keepB; rw [beq_eq_false_iff_ne.2 hlb]; simp
   rw [kb, if_neg (by simp)] at eB
   rw [eL (.inr kb), eB]
   refine AW.rT (by rfl) fun K hK => ?_
   simp -implicitDefEqProofs only [go_sem, ↓reduceIte, Nat.reduceAdd, Nat.reduceEqDiff, f1]
   apply hK; clear hK K
   refine AW.cT rfl ?_
   refine AW.rT (by rfl) fun K hK => ?_
   simp -implicitDefEqProofs only [go_sem, ↓reduceIte, Nat.reduceAdd, Nat.reduceEqDiff]
   apply hK; clear hK K
   refine AW.ret (addEnd rfl ?_ ?_ ?_ ?_ ⟨?_, trivial⟩) <;> simp -implicitDefEqProofs only [go_sem, ↓reduceIte, Nat.reduceEqDiff, reduceCtorEq]
  have f1 : ((fOf mo t).1.label != (fOf mn t).1.label) = false := by simp [hlb]
  have f1' : ((fOf mo t).1.label == (fOf mn t).1.label) = true := by simp [hlb]
  cases hq : fitsB S U (fOf mo t).1.ty (fOf mn t).1.ty with
  | false =>
   have kb : keepB S U mo mn t = false := by unfold keepB; rw [hq]; simp
   rw [kb, if_neg (by simp)] at eB
   rw [eL (.inr kb), eB]
   refine AW.rT (by rfl) fun K hK => ?_
   simp -implicitDefEqProofs only [go_sem, ↓reduceIte, Nat.reduceAdd, Nat.reduceEqDiff, Nat.reduceLeDiff, f1]
   refine ⟨.pure _, HF, ?_⟩
   try simp -implicitDefEqProofs only [go_sem, ↓reduceIte, Nat.reduceAdd, Nat.reduceEqDiff, hq]
   apply hK; clear hK K
   refine AW.cT rfl ?_
   refine AW.rT (by rfl) fun K hK => ?_
   simp -implicitDefEqProofs only [go_sem, ↓reduceIte, Nat.reduceAdd, Nat.reduceEqDiff]
   apply hK; clear hK K
   refine AW.ret (addEnd rfl ?_ ?_ ?_ ?_ ⟨?_, trivial⟩) <;> simp -implicitDefEqProofs only [go_sem, ↓reduceIte, Nat.reduceEqDiff, reduceCtorEq]
  | true =>
  have kb : keepB S U mo mn t = true := by unfold keepB; rw [hg, f1', hq]; rfl
  rw [kb, if_pos rfl] at eB
  rw [eB]
  refine AW.rT (by rfl) fun K hK => ?_
  simp -implicitDefEqProofs only [go_sem, ↓reduceIte, Nat.reduceAdd, Nat.reduceEqDiff, Nat.reduceLeDiff, f1]
  refine ⟨.pure _, HF, ?_⟩
  try simp -implicitDefEqProofs only [go_sem, ↓reduceIte, Nat.reduceAdd, Nat.reduceEqDiff, hq]
  apply hK; clear hK K
  refine AW.cF rfl ?_
  refine AW.skip ?_
  simp only [andThen]
  refine AW.seq ?_
  by_cases k7 : (fOf mo t).1.ty.kind = 7
  case neg =>
   have f7 : ((fOf mo t).1.ty.kind == 7) = false := beq_eq_false_iff_ne.2 k7
   have e9 : stayL S U mo mn t l = l := by unfold stayL; rw [if_neg (fun h => k7 h.2.2)]
   rw [e9]
   refine AW.rT (by rfl) fun K hK => ?_
   simp -implicitDefEqProofs only [go_sem, ↓reduceIte, Nat.reduceAdd, Nat.reduceEqDiff, f7]
   apply hK; clear hK K
   refine AW.cF rfl ?_
   refine AW.skip ?_
   simp only [andThen]
   refine AW.rT (by rfl) fun K hK => ?_
   simp -implicitDefEqProofs only [go_sem, Nat.reduceAdd]
   apply hK; clear hK K
   refine AW.ret (addEnd rfl ?_ ?_ ?_ ?_ ⟨?_, trivial⟩) <;> simp -implicitDefEqProofs only [go_sem, ↓reduceIte, Nat.reduceEqDiff, reduceCtorEq]
  have f7 : ((fOf mo t).1.ty.kind == 7) = true := by simp [k7]
  have e9 : stayL S U mo mn t l = addP l ⟨(fOf mo t).1.ty.name, (fOf mn t).1.ty.name⟩ := by unfold stayL; rw [if_pos ⟨hf, kb, k7⟩]
  rw [e9]
  have AD := compat_add l ⟨(fOf mo t).1.ty.name, (fOf mn t).1.ty.name⟩ hl
  generalize addP l ⟨(fOf mo t).1.ty.name, (fOf mn t).1.ty.name⟩ = l' at *
  refine AW.rT (by rfl) fun K hK => ?_
  simp -implicitDefEqProofs only [go_sem, ↓reduceIte, Nat.reduceAdd, Nat.reduceEqDiff, f7]
  apply hK; clear hK K
  refine AW.cT rfl ?_
  refine AW.rRE (SeqR.ev 7 (by rfl) (by decide) ?_)
  simp -implicitDefEqProofs only [go_sem, ↓reduceIte, Nat.reduceAdd, Nat.reduceEqDiff, reduceCtorEq]
  refine SeqR.call (fun k => k) rfl rfl AD ⟨?_, rfl, ?_, rfl, rfl, rfl, rfl, rfl, ?_⟩ ?_
  ·simp -implicitDefEqProofs only [go_sem, ↓reduceIte, Nat.reduceEqDiff, argD]
  ·simp only [memP]
   simp -implicitDefEqProofs only [go_sem, ↓reduceIte, Nat.reduceEqDiff, reduceCtorEq, List.forall_mem_cons, List.not_mem_nil, false_implies, implies_true]
   first | done | decide
  ·simp only [memP, List.all_cons, List.all_nil, labsBy_lift, mP_by]
   rfl
  refine SeqR.last rfl ?_
  simp only []
  refine AW.ghost (s' := adZ l') ?_ ?_
  ·simp only [adZ, memP]
   refine Ghost.ent (fun k => if k = 0 then 0 else k + 61) ?_ ?_ ?_ <;> simp -implicitDefEqProofs only [go_sem, ↓reduceIte, Nat.reduceAdd, Nat.reduceEqDiff, reduceCtorEq, lift2, goneU, newU, Nat.reduceSub, List.forall_mem_cons, List.not_mem_nil, false_implies, implies_true, and_self, map_renL_lift, labsIn_lift, List.all_cons, List.all_nil, Nat.reduceLT, labsInL, AV.labsIn]
   all_goals first | rfl | decide | skip
  simp only [adZ]
  refine AW.rT (by rfl) fun K hK => ?_
  simp -implicitDefEqProofs only [go_sem, Nat.reduceAdd, memP]
  apply hK; clear hK K
  refine AW.ret (addEnd rfl ?_ ?_ ?_ ?_ ⟨?_, trivial⟩) <;> simp -implicitDefEqProofs only [go_sem, ↓reduceIte, reduceCtorEq]
end Go.Aw
namespace Go.Aw
open Go.Proofs Go.RowKit
end Go.Aw
namespace Go.Aw
open Go.Proofs Go.RowKit
def noGo (Q : Exit → St → Prop) : Exit → St → Prop
 | .goto _, _ => False
 | e, s => Q e s
attribute [go_sem] noGo
theorem AW.scope {P : Program} {nt : Fm} {c : Code} {s : St} {Q : Exit → St → Prop} (h : AW P nt c s (noGo Q)) : AW P nt (.scope c) s Q := by
 intro w0 X I0 a w tx m
 refine wp_scope_straight (wp_mono (h w0 X I0 a w tx m) ?_)
 rintro e a' w' ⟨s', m', q⟩
 cases e <;> first | exact ⟨s', m', q⟩ | exact q.elim
end Go.Aw
namespace Go.Aw
open Go.Proofs Go.RowKit
def msgOf (S : Sc) (k : List UInt8) : Ms := (firstP (fun x => x.name == k) zMs S.msgs).1
def methOf (S : Sc) (k : List UInt8) : Mt × Bool := firstP (fun x => x.name == k) zMt S.meths
def seedP (U : Sc) (l : List Pr) : List Mt → List UInt8 ⊕ List Pr
 | [] => .inr l
 | m :: r => if (methOf U m.name).2 = true then seedP U (addP (addP l ⟨m.inn, (methOf U m.name).1.inn⟩) ⟨m.out, (methOf U m.name).1.out⟩) r else .inl m.name
def tagsP (S U : Sc) (mo mn : Ms) : Nat → Int → List Pr → Int ⊕ List Pr
 | 0, _, l => .inr l
 | n + 1, t, l => if stayB S U mo mn t = true then tagsP S U mo mn n (t + 1) (stayL S U mo mn t l) else .inl t
def walkP (S U : Sc) : Nat → Nat → List Pr → List UInt8 × Int × Bool
 | 0, _, _ => ([], 0, true)
 | n + 1, i, l => match l[i]? with
  | none => ([], 0, true)
  | some p => match tagsP S U (msgOf S p.o) (msgOf U p.n) 500 1 l with
   | .inl t => (p.o, t, false)
   | .inr l' => walkP S U n (i + 1) l'
def evoP (S U : Sc) : List UInt8 × Int × Bool := if checkC S = 0 ∧ checkC U = 0 then (match seedP U [] S.meths with | .inl k => (k, 0, false) | .inr l => walkP S U 101 0 l) else ([], 0, false)
structure PairsOK (S U : Sc) (l : List Pr) : Prop where
 here : ∀ p ∈ l, hasM S p.o = true ∧ hasM U p.n = true
 nd : l.Nodup
theorem addP_ok {S U : Sc} {l : List Pr} {p : Pr} (h : PairsOK S U l) (h1 : hasM S p.o = true) (h2 : hasM U p.n = true) : PairsOK S U (addP l p) := by
 unfold addP
 split
 ·exact h
 ·rename_i hn
  refine ⟨fun q hq => ?_, ?_⟩
  ·rcases List.mem_append.1 hq with hq | hq
   ·exact h.here q hq
   ·simp at hq; subst hq; exact ⟨h1, h2⟩
  ·rw [List.nodup_append]
   refine ⟨h.nd, by simp, fun x hx y hy => ?_⟩
   simp at hy
   subst hy
   rintro rfl
   exact hn (by rw [List.contains_iff_mem]; exact hx)
theorem sub_len {α : Type} [DecidableEq α] : ∀ {a b : List α}, a.Nodup → (∀ x ∈ a, x ∈ b) → a.length ≤ b.length
 | [], b, _, _ => Nat.zero_le _
 | x :: a, b, hn, hs => by
  have hx := hs x List.mem_cons_self
  have h := sub_len (a := a) (b := b.erase x) (List.nodup_cons.1 hn).2 fun y hy => by
   have hy' := hs y (List.mem_cons_of_mem _ hy)
   have hne : y ≠ x := by
    rintro rfl
    exact (List.nodup_cons.1 hn).1 hy
   exact (List.mem_erase_of_ne hne).2 hy'
  have hl := List.length_erase_of_mem hx
  have : 0 < b.length := List.length_pos_of_mem hx
  rw [List.length_cons]
  omega
def allPairs (S U : Sc) : List Pr := S.msgs.flatMap fun x => U.msgs.map fun y => ⟨x.name, y.name⟩
theorem flat_len {α β : Type} {f : α → List β} {n : Nat} : ∀ {l : List α}, (∀ x ∈ l, (f x).length = n) → (l.flatMap f).length = l.length * n
 | [], _ => by simp
 | x :: l, h => by
  rw [List.flatMap_cons, List.length_append, flat_len (l := l) fun y hy => h y (List.mem_cons_of_mem _ hy), h x List.mem_cons_self, List.length_cons, Nat.add_mul, Nat.one_mul, Nat.add_comm]
theorem pairs_len {S U : Sc} {l : List Pr} (h : PairsOK S U l) (h1 : S.msgs.length ≤ 10) (h2 : U.msgs.length ≤ 10) : l.length ≤ 100 := by
 have q := sub_len (b := allPairs S U) h.nd fun p hp => by
  obtain ⟨q1, q2⟩ := h.here p hp
  unfold hasM at q1 q2
  rw [found_any, List.any_eq_true] at q1 q2
  obtain ⟨x, hx, ex⟩ := q1
  obtain ⟨y, hy, ey⟩ := q2
  unfold allPairs
  rw [List.mem_flatMap]
  refine ⟨x, hx, List.mem_map.2 ⟨y, hy, ?_⟩⟩
  have e1 : x.name = p.o := by simpa using ex
  have e2 : y.name = p.n := by simpa using ey
  rw [e1, e2]
 have e : (allPairs S U).length = S.msgs.length * U.msgs.length := flat_len fun x _ => by simp
 have : S.msgs.length * U.msgs.length ≤ 10 * 10 := Nat.mul_le_mul h1 h2
 omega
theorem first_found {α : Type} {p : α → Bool} {z : α} {l : List α} (h : (firstP p z l).2 = true) : (firstP p z l).1 ∈ l ∧ p (firstP p z l).1 = true := by
 unfold firstP at *
 cases e : l.find? p with
 | none => rw [e] at h; cases h
 | some a => exact ⟨List.mem_of_find?_eq_some e, List.find?_some e⟩
theorem kind7 {S : Sc} (R : RightS S) {m : Ms} (hm : m ∈ S.msgs) {f : Fd} (hf : f ∈ m.fields) (k : f.ty.kind = 7) : hasM S f.ty.name = true := by
 obtain ⟨i, hi⟩ := List.getElem?_of_mem hf
 have q := (R.fld m hm i f hi).2.2.1
 unfold fieldB at q
 rw [Bool.and_eq_true] at q
 have q := q.2
 unfold kindB at q
 rw [if_neg (by omega), if_pos k] at q
 exact q
theorem stayL_ok {S U : Sc} (RS : RightS S) (RU : RightS U) {mo mn : Ms} (hmo : mo ∈ S.msgs) (hmn : mn ∈ U.msgs) {t : Int} {l : List Pr} (h : PairsOK S U l) : PairsOK S U (stayL S U mo mn t l) := by
 unfold stayL
 split
 ·rename_i hc
  obtain ⟨c1, c2, c3⟩ := hc
  unfold keepB at c2
  simp only [Bool.and_eq_true] at c2
  obtain ⟨d1, d2, d3⟩ := c2
  have f1 := first_found (p := fun x : Fd => x.tag == t) (z := zFd) (l := mo.fields) c1
  have f2 := first_found (p := fun x : Fd => x.tag == t) (z := zFd) (l := mn.fields) d1
  have k7 : (fOf mn t).1.ty.kind = 7 := by
   unfold fitsB at d3
   split at d3
   ·rename_i q; omega
   ·split at d3
    ·cases d3
    ·rename_i q; rw [← c3]; symm; simpa using q
  exact addP_ok h (kind7 RS hmo f1.1 c3) (kind7 RU hmn f2.1 k7)
 ·exact h
theorem stayL_len {S U : Sc} {mo mn : Ms} {t : Int} {l : List Pr} : l.length ≤ (stayL S U mo mn t l).length ∧ ∀ (i : Nat) p, l[i]? = some p → (stayL S U mo mn t l)[i]? = some p := by
 unfold stayL addP
 split
 ·split
  ·exact ⟨Nat.le_refl _, fun i p h => h⟩
  ·exact ⟨by simp, fun i p h => by rw [List.getElem?_append_left (List.getElem?_eq_some_iff.1 h).1]; exact h⟩
 ·exact ⟨Nat.le_refl _, fun i p h => h⟩
end Go.Aw
namespace Go.Aw
open Go.Proofs Go.RowKit
def newP (S U : Sc) (mo mn : Ms) (t : Int) : Option Pr := if (fOf mo t).2 = true ∧ keepB S U mo mn t = true ∧ (fOf mo t).1.ty.kind = 7 then some ⟨(fOf mo t).1.ty.name, (fOf mn t).1.ty.name⟩ else none
theorem stayL_new (S U : Sc) (mo mn : Ms) (t : Int) (l : List Pr) : stayL S U mo mn t l = (match newP S U mo mn t with | some p => addP l p | none => l) := by
 unfold stayL newP
 split <;> rfl
theorem mem_addP {l : List Pr} {p q : Pr} : q ∈ addP l p ↔ q ∈ l ∨ q = p := by
 unfold addP
 split
 ·rename_i h
  rw [List.contains_iff_mem] at h
  constructor
  ·exact .inl
  ·rintro (h' | rfl)
   ·exact h'
   ·exact h
 ·simp
theorem mem_stayL {S U : Sc} {mo mn : Ms} {t : Int} {l : List Pr} {q : Pr} : q ∈ stayL S U mo mn t l ↔ q ∈ l ∨ newP S U mo mn t = some q := by
 rw [stayL_new]
 cases h : newP S U mo mn t with
 | none => simp
 | some p => simp only [mem_addP, Option.some.injEq]; constructor <;> (rintro (h' | h'); exact .inl h'; exact .inr h'.symm)
theorem tagsP_done {S U : Sc} {mo mn : Ms} : ∀ (n : Nat) (t : Int) (l l' : List Pr), tagsP S U mo mn n t l = .inr l' → (∀ (i : Nat) p, l[i]? = some p → l'[i]? = some p) ∧ ∀ u, t ≤ u → u < t + n → stayB S U mo mn u = true ∧ ∀ q, newP S U mo mn u = some q → q ∈ l'
 | 0, t, l, l', h => by
  injection h with h
  subst h
  exact ⟨fun i p hp => hp, fun u h1 h2 => by simp at h2; omega⟩
 | n + 1, t, l, l', h => by
  rw [tagsP] at h
  split at h
  ·rename_i hb
   obtain ⟨h1, h2⟩ := tagsP_done n (t + 1) _ l' h
   refine ⟨fun i p hp => h1 i p ((stayL_len).2 i p hp), fun u q1 q2 => ?_⟩
   by_cases hu : u = t
   ·subst hu
    refine ⟨hb, fun q hq => ?_⟩
    obtain ⟨i, hi⟩ := List.getElem?_of_mem (mem_stayL.2 (.inr hq) : q ∈ stayL S U mo mn u l)
    exact List.mem_of_getElem? (h1 i q hi)
   ·exact h2 u (by omega) (by push_cast at q2; omega)
  ·cases h
theorem tagsP_ok {S U : Sc} (RS : RightS S) (RU : RightS U) {mo mn : Ms} (hmo : mo ∈ S.msgs) (hmn : mn ∈ U.msgs) : ∀ (n : Nat) (t : Int) (l l' : List Pr), tagsP S U mo mn n t l = .inr l' → PairsOK S U l → PairsOK S U l'
 | 0, t, l, l', h, hl => by injection h with h; subst h; exact hl
 | n + 1, t, l, l', h, hl => by
  rw [tagsP] at h
  split at h
  ·exact tagsP_ok RS RU hmo hmn n (t + 1) _ l' h (stayL_ok RS RU hmo hmn hl)
  ·cases h
theorem msgOf_mem {S : Sc} {k : List UInt8} (h : hasM S k = true) : msgOf S k ∈ S.msgs ∧ (msgOf S k).name = k := by
 have := first_found (p := fun x : Ms => x.name == k) (z := zMs) (l := S.msgs) h
 exact ⟨this.1, eq_of_beq this.2⟩
theorem walkP_done {S U : Sc} (RS : RightS S) (RU : RightS U) : ∀ (n i : Nat) (l : List Pr), 101 ≤ n + i → PairsOK S U l → (walkP S U n i l).2.2 = true →
  ∃ L, PairsOK S U L ∧ (∀ p ∈ l, p ∈ L) ∧ (∀ (j : Nat) p, l[j]? = some p → L[j]? = some p) ∧ ∀ (j : Nat) p, i ≤ j → L[j]? = some p → ∀ u, 1 ≤ u → u ≤ 500 → stayB S U (msgOf S p.o) (msgOf U p.n) u = true ∧ ∀ q, newP S U (msgOf S p.o) (msgOf U p.n) u = some q → q ∈ L
 | 0, i, l, hi, hl, h => ⟨l, hl, fun p hp => hp, fun j p hp => hp, fun j p hj hp => by
   have := pairs_len hl RS.len.2.1 RU.len.2.1
   have := (List.getElem?_eq_some_iff.1 hp).1
   omega⟩
 | n + 1, i, l, hi, hl, h => by
  rw [walkP] at h
  cases hp : l[i]? with
  | none =>
   refine ⟨l, hl, fun p hp => hp, fun j p hp => hp, fun j p hj hq => ?_⟩
   have := List.getElem?_eq_none_iff.1 hp
   have := (List.getElem?_eq_some_iff.1 hq).1
   omega
  | some p =>
   simp only [hp] at h
   have hh := hl.here p (List.mem_of_getElem? hp)
   cases ht : tagsP S U (msgOf S p.o) (msgOf U p.n) 500 1 l with
   | inl t => simp only [ht] at h; cases h
   | inr l' =>
    simp only [ht] at h
    obtain ⟨d1, d2⟩ := tagsP_done 500 1 l l' ht
    have ok' := tagsP_ok RS RU (msgOf_mem hh.1).1 (msgOf_mem hh.2).1 500 1 l l' ht hl
    obtain ⟨L, h1, h2, h3, h4⟩ := walkP_done RS RU n (i + 1) l' (by omega) ok' h
    refine ⟨L, h1, fun q hq => ?_, fun j q hq => h3 j q (d1 j q hq), fun j q hj hq u u1 u2 => ?_⟩
    ·obtain ⟨j, hj⟩ := List.getElem?_of_mem hq
     exact List.mem_of_getElem? (h3 j q (d1 j q hj))
    ·by_cases hij : j = i
     ·subst hij
      have := h3 j p (d1 j p hp)
      rw [this] at hq
      injection hq with hq
      subst hq
      obtain ⟨e1, e2⟩ := d2 u u1 (by omega)
      exact ⟨e1, fun r hr => h2 r (e2 r hr)⟩
     ·exact h4 j q (by omega) hq u u1 u2
theorem seedP_done {U : Sc} : ∀ (ms : List Mt) (l l' : List Pr), seedP U l ms = .inr l' → (∀ p ∈ l, p ∈ l') ∧ ∀ m ∈ ms, (methOf U m.name).2 = true ∧ (⟨m.inn, (methOf U m.name).1.inn⟩ : Pr) ∈ l' ∧ (⟨m.out, (methOf U m.name).1.out⟩ : Pr) ∈ l'
 | [], l, l', h => by injection h with h; subst h; exact ⟨fun p hp => hp, fun m hm => by cases hm⟩
 | m :: r, l, l', h => by
  rw [seedP] at h
  split at h
  ·rename_i h0
   obtain ⟨h1, h2⟩ := seedP_done r _ l' h
   refine ⟨fun p hp => h1 p (mem_addP.2 (.inl (mem_addP.2 (.inl hp)))), fun x hx => ?_⟩
   rcases List.mem_cons.1 hx with rfl | hx
   ·exact ⟨h0, h1 _ (mem_addP.2 (.inl (mem_addP.2 (.inr rfl)))), h1 _ (mem_addP.2 (.inr rfl))⟩
   ·exact h2 x hx
  ·cases h
theorem meth_right {S : Sc} (R : RightS S) {k : List UInt8} (h : (methOf S k).2 = true) : (methOf S k).1 ∈ S.meths ∧ (methOf S k).1.name = k ∧ hasM S (methOf S k).1.inn = true ∧ hasM S (methOf S k).1.out = true := by
 have := first_found (p := fun x : Mt => x.name == k) (z := zMt) (l := S.meths) h
 obtain ⟨i, hi⟩ := List.getElem?_of_mem this.1
 exact ⟨this.1, eq_of_beq this.2, (R.meth i _ hi).2⟩
theorem seedP_pairs {S U : Sc} (RS : RightS S) (RU : RightS U) : ∀ (ms : List Mt) (l l' : List Pr), (∀ m ∈ ms, m ∈ S.meths) → seedP U l ms = .inr l' → PairsOK S U l → PairsOK S U l'
 | [], l, l', _, h, hl => by injection h with h; subst h; exact hl
 | m :: r, l, l', hm, h, hl => by
  rw [seedP] at h
  split at h
  ·rename_i h0
   obtain ⟨i, hi⟩ := List.getElem?_of_mem (hm m List.mem_cons_self)
   have a := (RS.meth i m hi).2
   have b := (meth_right RU h0).2.2
   exact seedP_pairs RS RU r _ l' (fun x hx => hm x (List.mem_cons_of_mem _ hx)) h (addP_ok (addP_ok hl a.1 b.1) a.2 b.2)
  ·cases h
structure Over (S U : Sc) (L : List Pr) : Prop where
 s : checkC S = 0
 u : checkC U = 0
 ok : PairsOK S U L
 meth : ∀ m ∈ S.meths, (methOf U m.name).2 = true ∧ (⟨m.inn, (methOf U m.name).1.inn⟩ : Pr) ∈ L ∧ (⟨m.out, (methOf U m.name).1.out⟩ : Pr) ∈ L
 all : ∀ p ∈ L, ∀ u, 1 ≤ u → u ≤ 500 → stayB S U (msgOf S p.o) (msgOf U p.n) u = true ∧ ∀ q, newP S U (msgOf S p.o) (msgOf U p.n) u = some q → q ∈ L
theorem evo_over {S U : Sc} (h : (evoP S U).2.2 = true) : ∃ L, Over S U L := by
 unfold evoP at h
 split at h
 ·rename_i hc
  have RS := right_of hc.1
  have RU := right_of hc.2
  cases hs : seedP U [] S.meths with
  | inl k => rw [hs] at h; cases h
  | inr l =>
   rw [hs] at h
   have ok := seedP_pairs RS RU S.meths [] l (fun m hm => hm) hs ⟨fun p hp => (by cases hp), List.nodup_nil⟩
   obtain ⟨L, h1, h2, h3, h4⟩ := walkP_done RS RU 101 0 l (by omega) ok h
   have sd := (seedP_done S.meths [] l hs).2
   refine ⟨L, hc.1, hc.2, h1, fun m hm => ?_, fun p hp u u1 u2 => ?_⟩
   ·obtain ⟨q1, q2, q3⟩ := sd m hm
    exact ⟨q1, h2 _ q2, h2 _ q3⟩
   ·obtain ⟨j, hj⟩ := List.getElem?_of_mem hp
    exact h4 j p (Nat.zero_le _) hj u u1 u2
 ·cases h
theorem keep_spec {S U : Sc} {mo mn : Ms} {t : Int} : keepB S U mo mn t = true ↔ (fOf mn t).2 = true ∧ (fOf mo t).1.label = (fOf mn t).1.label ∧ fitsB S U (fOf mo t).1.ty (fOf mn t).1.ty = true := by
 unfold keepB
 simp
theorem res_free {S : Sc} (R : RightS S) {m : Ms} (hm : m ∈ S.msgs) {t : Int} (h : m.res.contains t = true) : (fOf m t).2 = false := by
 have := R.res m hm t (by rw [← List.contains_iff_mem]; exact h)
 unfold fOf
 rw [this]
end Go.Aw
namespace Go.Aw
open Go.Proofs Go.RowKit
end Go.Aw
namespace Go.Aw
open Go.Proofs Go.RowKit
theorem flds_iff {S : Sc} : ∀ {l : List Fd} {ns : List (List UInt8)} {us : List Int}, fldsC S ns us l = 0 ↔ (∀ f ∈ l, nameB f.name = true ∧ tagB f.tag = true ∧ fieldB S f = true ∧ f.name ∉ ns ∧ f.tag ∉ us) ∧ (l.map Fd.name).Nodup ∧ (l.map Fd.tag).Nodup
 | [], ns, us => by simp [fldsC]
 | f :: l, ns, us => by
  rw [fldsC, List.map_cons, List.map_cons, List.nodup_cons, List.nodup_cons]
  constructor
  ·intro h
   split at h
   ·rename_i h1
    split at h
    ·rename_i h2
     split at h
     ·rename_i h3
      obtain ⟨q1, q2, q3⟩ := (flds_iff (l := l)).1 h
      have t1 := takes_iff.1 h1
      rw [Bool.and_eq_true, Bool.not_eq_true', ← Bool.not_eq_true, List.contains_iff_mem] at h2
      refine ⟨fun g hg => ?_, ⟨fun hm => ?_, q2⟩, ⟨fun hm => ?_, q3⟩⟩
      ·rcases List.mem_cons.1 hg with rfl | hg
       ·exact ⟨t1.1, h2.1, h3, t1.2, h2.2⟩
       ·obtain ⟨a, b, c, d, e⟩ := q1 g hg
        exact ⟨a, b, c, fun hm => d (List.mem_append.2 (.inl hm)), fun hm => e (List.mem_append.2 (.inl hm))⟩
      ·obtain ⟨g, hg, e⟩ := List.mem_map.1 hm
       exact (q1 g hg).2.2.2.1 (by rw [e]; simp)
      ·obtain ⟨g, hg, e⟩ := List.mem_map.1 hm
       exact (q1 g hg).2.2.2.2 (by rw [e]; simp)
     ·cases h
    ·cases h
   ·cases h
  ·rintro ⟨h, ⟨n1, n2⟩, ⟨m1, m2⟩⟩
   obtain ⟨a, b, c, d, e⟩ := h f List.mem_cons_self
   rw [if_pos (takes_iff.2 ⟨a, d⟩), if_pos (by rw [Bool.and_eq_true, Bool.not_eq_true', ← Bool.not_eq_true, List.contains_iff_mem]; exact ⟨b, e⟩), if_pos c]
   refine (flds_iff (l := l)).2 ⟨fun g hg => ?_, n2, m2⟩
   obtain ⟨a', b', c', d', e'⟩ := h g (List.mem_cons_of_mem _ hg)
   refine ⟨a', b', c', fun hm => ?_, fun hm => ?_⟩
   ·rcases List.mem_append.1 hm with hm | hm
    ·exact d' hm
    ·simp at hm; exact n1 (List.mem_map.2 ⟨g, hg, hm⟩)
   ·rcases List.mem_append.1 hm with hm | hm
    ·exact e' hm
    ·simp at hm; exact m1 (List.mem_map.2 ⟨g, hg, hm⟩)
theorem res_iff : ∀ {l : List Int} {us : List Int}, resBad us l = false ↔ (∀ t ∈ l, tagB t = true ∧ t ∉ us) ∧ l.Nodup
 | [], us => by simp [resBad]
 | t :: l, us => by
  rw [resBad, List.nodup_cons]
  constructor
  ·intro h
   split at h
   ·rename_i h2
    rw [Bool.and_eq_true, Bool.not_eq_true', ← Bool.not_eq_true, List.contains_iff_mem] at h2
    obtain ⟨q1, q2⟩ := (res_iff (l := l)).1 h
    refine ⟨fun g hg => ?_, fun hm => ?_, q2⟩
    ·rcases List.mem_cons.1 hg with rfl | hg
     ·exact h2
     ·exact ⟨(q1 g hg).1, fun hm => (q1 g hg).2 (List.mem_append.2 (.inl hm))⟩
    ·exact (q1 t hm).2 (by simp)
   ·cases h
  ·rintro ⟨h, n1, n2⟩
   obtain ⟨a, b⟩ := h t List.mem_cons_self
   rw [if_pos (by rw [Bool.and_eq_true, Bool.not_eq_true', ← Bool.not_eq_true, List.contains_iff_mem]; exact ⟨a, b⟩)]
   refine (res_iff (l := l)).2 ⟨fun g hg => ?_, n2⟩
   obtain ⟨a', b'⟩ := h g (List.mem_cons_of_mem _ hg)
   refine ⟨a', fun hm => ?_⟩
   rcases List.mem_append.1 hm with hm | hm
   ·exact b' hm
   ·simp at hm; subst hm; exact n1 hg
structure FitM (S : Sc) (m : Ms) : Prop where
 no : m.fields.length ≤ 16 ∧ m.res.length ≤ 32
 res : ∀ t ∈ m.res, tagB t = true
 rnd : m.res.Nodup
 fld : ∀ f ∈ m.fields, nameB f.name = true ∧ tagB f.tag = true ∧ fieldB S f = true ∧ f.tag ∉ m.res
 nnd : (m.fields.map Fd.name).Nodup
 tnd : (m.fields.map Fd.tag).Nodup
theorem body_iff {S : Sc} {m : Ms} : bodyC S m = 0 ↔ FitM S m := by
 unfold bodyC
 constructor
 ·intro h
  split at h
  ·cases h
  rename_i h1
  split at h
  ·cases h
  rename_i h2
  obtain ⟨q1, q2, q3⟩ := flds_iff.1 h
  obtain ⟨r1, r2⟩ := res_iff.1 (by simpa using h2)
  exact ⟨by omega, fun t ht => (r1 t ht).1, r2, fun f hf => ⟨(q1 f hf).1, (q1 f hf).2.1, (q1 f hf).2.2.1, (q1 f hf).2.2.2.2⟩, q2, q3⟩
 ·intro F
  have := F.no
  rw [if_neg (by omega), if_neg (by rw [Bool.not_eq_true]; exact res_iff.2 ⟨fun t ht => ⟨F.res t ht, by simp⟩, F.rnd⟩)]
  exact flds_iff.2 ⟨fun f hf => ⟨(F.fld f hf).1, (F.fld f hf).2.1, (F.fld f hf).2.2.1, by simp, (F.fld f hf).2.2.2⟩, F.nnd, F.tnd⟩
theorem fOf_tag {m : Ms} {t : Int} (h : (fOf m t).2 = true) : (fOf m t).1 ∈ m.fields ∧ (fOf m t).1.tag = t := by
 have := first_found (p := fun x : Fd => x.tag == t) (z := zFd) (l := m.fields) h
 exact ⟨this.1, eq_of_beq this.2⟩
theorem fit_msgs {S : Sc} (F : FitS S) {m : Ms} (h : m ∈ S.msgs) : FitM S m := body_iff.1 (F.body m h)
theorem hasM_iff {S : Sc} {k : List UInt8} : hasM S k = true ↔ ∃ m ∈ S.msgs, m.name = k := by
 unfold hasM
 rw [found_any, List.any_eq_true]
 simp
end Go.Aw
namespace Go.Aw
open Go.Proofs Go.RowKit
theorem tag_in {t : Int} (h : tagB t = true) : 1 ≤ t ∧ t ≤ 500 := by
 unfold tagB at h
 simpa using h
end Go.Aw
namespace Go.Aw
open Go.Proofs Go.RowKit
structure Stp where
 op : Int
 tag : Int
 sub : Int
 deriving DecidableEq
def encSt (s : Stp) : List PV := [.int .i64 s.op, .int .i64 s.tag, .int .i64 s.sub]
def encPt (l : List Stp) : List PV := [.slice (l.map encSt)]
def placeP (l : List Pr) (p : Pr) : Nat := l.findIdx (fun x => x == p)
theorem place_yes {l : List Pr} {p : Pr} (h : p ∈ l) : placeP l p < l.length ∧ l[placeP l p]? = some p := by
 have h1 : placeP l p < l.length := List.findIdx_lt_length_of_exists ⟨p, h, by simp⟩
 refine ⟨h1, ?_⟩
 have h2 : l[placeP l p]? = some l[placeP l p] := List.getElem?_eq_getElem h1
 have h3 : (l[placeP l p] == p) = true := List.findIdx_getElem (p := fun x => x == p) (w := h1)
 rw [h2, show l[placeP l p] = p by simpa using h3]
theorem place_no {l : List Pr} {p : Pr} (h : p ∉ l) : placeP l p = l.length :=
 List.findIdx_eq_length_of_false fun x hx => by
  rw [beq_eq_false_iff_ne]
  rintro rfl
  exact h hx
def intoB (mo mn : Ms) (t : Int) : Bool := (fOf mo t).2 && (fOf mn t).2 && ((fOf mo t).1.label == (fOf mn t).1.label) && ((fOf mo t).1.ty.kind == 7) && ((fOf mn t).1.ty.kind == 7)
def pairO (mo mn : Ms) (t : Int) : Pr := ⟨(fOf mo t).1.ty.name, (fOf mn t).1.ty.name⟩
def stepO (mo mn : Ms) (t : Int) (l : List Pr) : Option Stp :=
 if (fOf mo t).2 = true ∧ (fOf mn t).2 = true ∧ (fOf mo t).1.label = (fOf mn t).1.label then
  (if (fOf mo t).1.ty.kind = 7 ∧ (fOf mn t).1.ty.kind = 7 then some ⟨if (fOf mo t).1.label = 1 then 4 else 3, t, placeP l (pairO mo mn t)⟩
  else if (fOf mo t).1.ty.kind = 2 ∧ (fOf mn t).1.ty.kind = 1 then some ⟨2, t, 0⟩
  else if (fOf mo t).1.ty.kind = (fOf mn t).1.ty.kind ∨ (fOf mo t).1.ty.kind = 1 ∧ (fOf mn t).1.ty.kind = 2 then some ⟨1, t, 0⟩ else none)
 else none
def stepLs (mo mn : Ms) (t : Int) (l : List Pr) : List Pr := if intoB mo mn t = true then addP l (pairO mo mn t) else l
def stepsP (mo mn : Ms) : Nat → Int → List Pr → List Stp × List Pr
 | 0, _, l => ([], l)
 | n + 1, t, l => ((stepO mo mn t l).toList ++ (stepsP mo mn n (t + 1) (stepLs mo mn t l)).1, (stepsP mo mn n (t + 1) (stepLs mo mn t l)).2)
def makeP (S U : Sc) : Nat → Nat → List Pr → List (List Stp)
 | 0, _, _ => []
 | n + 1, i, l => match l[i]? with
  | none => []
  | some p => (stepsP (msgOf S p.o) (msgOf U p.n) 500 1 l).1 :: makeP S U n (i + 1) (stepsP (msgOf S p.o) (msgOf U p.n) 500 1 l).2
def makeL (S U : Sc) : Nat → Nat → List Pr → List Pr
 | 0, _, l => l
 | n + 1, i, l => match l[i]? with
  | none => l
  | some p => makeL S U n (i + 1) (stepsP (msgOf S p.o) (msgOf U p.n) 500 1 l).2
def makeR (S U : Sc) (a b : List UInt8) : List (List Stp) × Int :=
 if checkC S = 0 ∧ checkC U = 0 then (if hasM S a = true ∧ hasM U b = true then (makeP S U 101 0 [⟨a, b⟩], 0) else ([], 14)) else ([], 1)
theorem pref_stepLs (mo mn : Ms) (t : Int) (l : List Pr) : ∀ (i : Nat) p, l[i]? = some p → (stepLs mo mn t l)[i]? = some p := by
 intro i p h
 unfold stepLs addP
 split
 ·split
  ·exact h
  ·rw [List.getElem?_append_left (List.getElem?_eq_some_iff.1 h).1]; exact h
 ·exact h
theorem pref_stepsP (mo mn : Ms) : ∀ (n : Nat) (t : Int) (l : List Pr) (i : Nat) p, l[i]? = some p → (stepsP mo mn n t l).2[i]? = some p
 | 0, t, l, i, p, h => h
 | n + 1, t, l, i, p, h => pref_stepsP mo mn n (t + 1) _ i p (pref_stepLs mo mn t l i p h)
theorem pref_makeL (S U : Sc) : ∀ (n i : Nat) (l : List Pr) (j : Nat) p, l[j]? = some p → (makeL S U n i l)[j]? = some p
 | 0, i, l, j, p, h => h
 | n + 1, i, l, j, p, h => by
  rw [makeL]
  split
  ·exact h
  ·exact pref_makeL S U n (i + 1) _ j p (pref_stepsP _ _ 500 1 l j p h)
theorem intoB_spec {mo mn : Ms} {t : Int} (h : intoB mo mn t = true) : (fOf mo t).2 = true ∧ (fOf mn t).2 = true ∧ (fOf mo t).1.label = (fOf mn t).1.label ∧ (fOf mo t).1.ty.kind = 7 ∧ (fOf mn t).1.ty.kind = 7 := by
 unfold intoB at h
 simp only [Bool.and_eq_true, beq_iff_eq] at h
 obtain ⟨⟨⟨⟨a, b⟩, c⟩, d⟩, e⟩ := h
 exact ⟨a, b, c, d, e⟩
theorem stepLs_ok {S U : Sc} (RS : RightS S) (RU : RightS U) {mo mn : Ms} (hmo : mo ∈ S.msgs) (hmn : mn ∈ U.msgs) {t : Int} {l : List Pr} (h : PairsOK S U l) : PairsOK S U (stepLs mo mn t l) := by
 unfold stepLs
 split
 ·rename_i hb
  obtain ⟨a, b, _, d, e⟩ := intoB_spec hb
  exact addP_ok h (kind7 RS hmo (fOf_tag a).1 d) (kind7 RU hmn (fOf_tag b).1 e)
 ·exact h
theorem stepsP_ok {S U : Sc} (RS : RightS S) (RU : RightS U) {mo mn : Ms} (hmo : mo ∈ S.msgs) (hmn : mn ∈ U.msgs) : ∀ (n : Nat) (t : Int) (l : List Pr), PairsOK S U l → PairsOK S U (stepsP mo mn n t l).2
 | 0, t, l, h => h
 | n + 1, t, l, h => stepsP_ok RS RU hmo hmn n (t + 1) _ (stepLs_ok RS RU hmo hmn h)
theorem makeL_ok {S U : Sc} (RS : RightS S) (RU : RightS U) : ∀ (n i : Nat) (l : List Pr), PairsOK S U l → PairsOK S U (makeL S U n i l)
 | 0, i, l, h => h
 | n + 1, i, l, h => by
  rw [makeL]
  split
  ·exact h
  ·rename_i p hp
   obtain ⟨a, b⟩ := h.here p (List.mem_of_getElem? hp)
   exact makeL_ok RS RU n (i + 1) _ (stepsP_ok RS RU (msgOf_mem a).1 (msgOf_mem b).1 500 1 l h)
theorem make_len {S U : Sc} (RS : RightS S) (RU : RightS U) : ∀ (n i : Nat) (l : List Pr), 101 ≤ n + i → i ≤ l.length → PairsOK S U l → (makeP S U n i l).length + i = (makeL S U n i l).length
 | 0, i, l, hn, hi, h => by
  have := pairs_len h RS.len.2.1 RU.len.2.1
  omega
 | n + 1, i, l, hn, hi, h => by
  rw [makeP, makeL]
  cases hp : l[i]? with
  | none =>
   have := List.getElem?_eq_none_iff.1 hp
   simp only [List.length_nil]
   omega
  | some p =>
   obtain ⟨a, b⟩ := h.here p (List.mem_of_getElem? hp)
   have ok := stepsP_ok RS RU (msgOf_mem a).1 (msgOf_mem b).1 500 1 l h
   have hl : i + 1 ≤ (stepsP (msgOf S p.o) (msgOf U p.n) 500 1 l).2.length := by
    have := (List.getElem?_eq_some_iff.1 (pref_stepsP (msgOf S p.o) (msgOf U p.n) 500 1 l i p hp)).1
    omega
   have := make_len RS RU n (i + 1) _ (by omega) hl ok
   simp only [List.length_cons]
   omega
def stOK (n : Nat) (last : Int) (s : Stp) : Bool := decide (last < s.tag ∧ s.tag ≤ 500) && ((decide (s.op = 1 ∨ s.op = 2) && (s.sub == 0)) || (decide (s.op = 3 ∨ s.op = 4) && decide (0 ≤ s.sub ∧ s.sub < n)))
def partB (n : Nat) : Int → List Stp → Bool
 | _, [] => true
 | last, s :: l => stOK n last s && partB n s.tag l
def progB (p : List (List Stp)) : Bool := decide (1 ≤ p.length ∧ p.length ≤ 100) && p.all (partB p.length 0)
theorem partB_low {n : Nat} {a b : Int} (h : a ≤ b) : ∀ {l : List Stp}, partB n b l = true → partB n a l = true
 | [], _ => rfl
 | s :: l, q => by
  rw [partB, Bool.and_eq_true] at q ⊢
  refine ⟨?_, q.2⟩
  have := q.1
  unfold stOK at this ⊢
  rw [Bool.and_eq_true, decide_eq_true_eq] at this ⊢
  exact ⟨by omega, this.2⟩
theorem stepO_sub {mo mn : Ms} {t : Int} {l : List Pr} {s : Stp} (h : stepO mo mn t l = some s) : s.tag = t ∧ ((s.op = 1 ∨ s.op = 2) ∧ s.sub = 0 ∨ (s.op = 3 ∨ s.op = 4) ∧ s.sub = (placeP l (pairO mo mn t) : Int) ∧ (stepLs mo mn t l)[placeP l (pairO mo mn t)]? = some (pairO mo mn t)) := by
 unfold stepO at h
 split at h
 ·rename_i h1
  split at h
  ·rename_i h2
   injection h with h
   subst h
   refine ⟨rfl, .inr ⟨by split <;> simp, rfl, ?_⟩⟩
   have hb : intoB mo mn t = true := by unfold intoB; simp [h1, h2]
   unfold stepLs
   rw [if_pos hb]
   unfold addP
   split
   ·rename_i h3
    rw [List.contains_iff_mem] at h3
    exact (place_yes h3).2
   ·rename_i h3
    rw [List.contains_iff_mem] at h3
    rw [place_no h3, List.getElem?_append_right (Nat.le_refl _), Nat.sub_self]
    rfl
  ·split at h
   ·injection h with h; subst h; exact ⟨rfl, .inl ⟨.inr rfl, rfl⟩⟩
   ·split at h
    ·injection h with h; subst h; exact ⟨rfl, .inl ⟨.inl rfl, rfl⟩⟩
    ·cases h
 ·cases h
theorem steps_part {mo mn : Ms} {N : Nat} : ∀ (n : Nat) (t : Int) (l : List Pr), t + n ≤ 501 → (stepsP mo mn n t l).2.length ≤ N → partB N (t - 1) (stepsP mo mn n t l).1 = true
 | 0, t, l, _, _ => rfl
 | n + 1, t, l, ht, hN => by
  rw [stepsP] at hN ⊢
  simp only at hN ⊢
  have ih := steps_part (N := N) n (t + 1) (stepLs mo mn t l) (by push_cast at ht; omega) hN
  rw [show t + 1 - 1 = t by omega] at ih
  cases hs : stepO mo mn t l with
  | none => exact partB_low (by omega) ih
  | some s =>
   obtain ⟨a, b⟩ := stepO_sub hs
   show partB N (t - 1) (s :: _) = true
   rw [partB, Bool.and_eq_true]
   refine ⟨?_, by rw [a]; exact ih⟩
   unfold stOK
   rw [Bool.and_eq_true, decide_eq_true_eq]
   refine ⟨by push_cast at ht; omega, ?_⟩
   rw [Bool.or_eq_true, Bool.and_eq_true, Bool.and_eq_true, decide_eq_true_eq, decide_eq_true_eq, decide_eq_true_eq, beq_iff_eq]
   rcases b with ⟨b1, b2⟩ | ⟨b1, b2, b3⟩
   ·exact .inl ⟨b1, b2⟩
   ·refine .inr ⟨b1, by omega, ?_⟩
    have := (List.getElem?_eq_some_iff.1 (pref_stepsP mo mn n (t + 1) _ _ _ b3)).1
    omega
theorem make_parts {S U : Sc} {N : Nat} : ∀ (n i : Nat) (l : List Pr), (makeL S U n i l).length ≤ N → ∀ x ∈ makeP S U n i l, partB N 0 x = true
 | 0, i, l, _, x, hx => by cases hx
 | n + 1, i, l, hN, x, hx => by
  rw [makeP] at hx
  rw [makeL] at hN
  cases hp : l[i]? with
  | none => rw [hp] at hx; cases hx
  | some p =>
   simp only [hp] at hx hN
   rcases List.mem_cons.1 hx with rfl | hx
   ·have hl : (stepsP (msgOf S p.o) (msgOf U p.n) 500 1 l).2.length ≤ N := by
     refine Nat.le_trans ?_ hN
     rcases Nat.eq_zero_or_pos (stepsP (msgOf S p.o) (msgOf U p.n) 500 1 l).2.length with z | z
     ·omega
     ·obtain ⟨q, hq⟩ : ∃ q, (stepsP (msgOf S p.o) (msgOf U p.n) 500 1 l).2[(stepsP (msgOf S p.o) (msgOf U p.n) 500 1 l).2.length - 1]? = some q := ⟨_, List.getElem?_eq_getElem (by omega)⟩
      have := (List.getElem?_eq_some_iff.1 (pref_makeL S U n (i + 1) _ _ q hq)).1
      omega
    exact steps_part 500 1 l (by omega) hl
   ·exact make_parts n (i + 1) _ hN x hx
theorem make_prog {S U : Sc} {a b : List UInt8} (hS : checkC S = 0) (hU : checkC U = 0) (ha : hasM S a = true) (hb : hasM U b = true) :
  progB (makeP S U 101 0 [⟨a, b⟩]) = true ∧ (makeP S U 101 0 [⟨a, b⟩]).length ≤ S.msgs.length * U.msgs.length ∧ ∃ r, makeP S U 101 0 [⟨a, b⟩] = (stepsP (msgOf S a) (msgOf U b) 500 1 [⟨a, b⟩]).1 :: r := by
 have RS := right_of hS
 have RU := right_of hU
 have ok : PairsOK S U [⟨a, b⟩] := ⟨fun p hp => by simp at hp; subst hp; exact ⟨ha, hb⟩, by simp⟩
 have hl := make_len RS RU 101 0 [⟨a, b⟩] (by omega) (by omega) ok
 have ok' := makeL_ok RS RU 101 0 [⟨a, b⟩] ok
 have h100 := pairs_len ok' RS.len.2.1 RU.len.2.1
 have e : makeP S U 101 0 [⟨a, b⟩] = (stepsP (msgOf S a) (msgOf U b) 500 1 [⟨a, b⟩]).1 :: makeP S U 100 1 (stepsP (msgOf S a) (msgOf U b) 500 1 [⟨a, b⟩]).2 := rfl
 refine ⟨?_, ?_, _, e⟩
 ·unfold progB
  rw [Bool.and_eq_true, decide_eq_true_eq, List.all_eq_true]
  refine ⟨⟨by rw [e, List.length_cons]; omega, by omega⟩, fun x hx => ?_⟩
  exact make_parts (N := (makeP S U 101 0 [⟨a, b⟩]).length) 101 0 [⟨a, b⟩] (by omega) x hx
 ·have q := sub_len (b := allPairs S U) ok'.nd fun p hp => by
   obtain ⟨q1, q2⟩ := ok'.here p hp
   obtain ⟨x, hx, ex⟩ := hasM_iff.1 q1
   obtain ⟨y, hy, ey⟩ := hasM_iff.1 q2
   unfold allPairs
   rw [List.mem_flatMap]
   exact ⟨x, hx, List.mem_map.2 ⟨y, hy, by rw [ex, ey]⟩⟩
  have e2 : (allPairs S U).length = S.msgs.length * U.msgs.length := flat_len fun x _ => by simp
  omega
end Go.Aw
namespace Go.Aw.T
open Go.Proofs
def getG {α : Type} (es : List (Int × List α)) (g : Int) : List α := match es.find? (fun e => e.1 == g) with | some e => e.2 | none => []
theorem getG_map {α β : Type} (h : α → β) (g : Int) : ∀ es : List (Int × List α), getG (es.map fun e => (e.1, e.2.map h)) g = (getG es g).map h
 | [] => rfl
 | (k, l) :: es => by
  have ih := getG_map h g es
  unfold getG at ih ⊢
  rw [List.map_cons, List.find?_cons, List.find?_cons]
  simp only
  cases hk : (k == g) with
  | true => rfl
  | false => exact ih
theorem getG_cases {α : Type} (es : List (Int × List α)) (g : Int) : getG es g = [] ∨ ∃ e ∈ es, e.1 = g ∧ getG es g = e.2 := by
 unfold getG
 cases hf : es.find? (fun e => e.1 == g) with
 | none => exact .inl rfl
 | some e => exact .inr ⟨e, List.mem_of_find?_eq_some hf, by simpa using List.find?_some hf, rfl⟩
mutual
def subT {β : Type} (F : List (Int × List (Tr × (Int → β))) → Int → β) : Tr → Int → β
 | .mk _ _ _ es _ => F (subE F es)
def subE {β : Type} (F : List (Int × List (Tr × (Int → β))) → Int → β) : List (Int × List Tr) → List (Int × List (Tr × (Int → β)))
 | [] => []
 | (g, l) :: es => (g, subL F l) :: subE F es
def subL {β : Type} (F : List (Int × List (Tr × (Int → β))) → Int → β) : List Tr → List (Tr × (Int → β))
 | [] => []
 | t :: l => (t, subT F t) :: subL F l
end
theorem subL_map {β : Type} (F : List (Int × List (Tr × (Int → β))) → Int → β) : ∀ l : List Tr, subL F l = l.map fun x => (x, subT F x)
 | [] => by rw [subL]; rfl
 | t :: l => by rw [subL, subL_map F l]; rfl
theorem subE_map {β : Type} (F : List (Int × List (Tr × (Int → β))) → Int → β) : ∀ es : List (Int × List Tr), subE F es = es.map fun e => (e.1, e.2.map fun x => (x, subT F x))
 | [] => by rw [subE]; rfl
 | (g, l) :: es => by rw [subE, subE_map F es, subL_map]; rfl
theorem subT_eq {β : Type} (F : List (Int × List (Tr × (Int → β))) → Int → β) (t : Tr) : subT F t = F (t.ents.map fun e => (e.1, e.2.map fun x => (x, subT F x))) := by
 cases t
 rw [subT, subE_map]
 rfl
def lastL {α : Type} (s : Stp) (l : List α) : List α := if s.op = 4 then l.drop (l.length - 1) else l
theorem lastL_map {α β : Type} (s : Stp) (h : α → β) (l : List α) : lastL s (l.map h) = (lastL s l).map h := by
 unfold lastL
 split
 ·rw [List.map_drop, List.length_map]
 ·rfl
theorem lastL_mem {α : Type} {s : Stp} {l : List α} {x : α} (h : x ∈ lastL s l) : x ∈ l := by
 unfold lastL at h
 split at h
 ·exact List.mem_of_mem_drop h
 ·exact h
theorem lastL_len {α : Type} (s : Stp) (l : List α) : (lastL s l).length ≤ l.length ∧ (1 ≤ l.length → 1 ≤ (lastL s l).length) ∧ (s.op = 4 → (lastL s l).length ≤ 1) := by
 unfold lastL
 split
 ·rw [List.length_drop]; omega
 ·omega
def kindOK (s : Stp) (l : List Tr) : Bool := if s.op = 2 then l.all (fun t => decide (t.kind = 1)) else if s.op = 3 ∨ s.op = 4 then l.all (fun t => decide (t.kind = 3)) else true
def clampT (t : Tr) : Tr := .mk t.kind (clampV t.n) t.s t.ents t.rest
def run1 (s : Stp) (x : Tr × (Int → Tr)) : Tr := if s.op = 2 then clampT x.1 else if s.op = 3 ∨ s.op = 4 then x.2 s.sub else x.1
def stepR (s : Stp) (l : List (Tr × (Int → Tr))) : List Tr :=
 if kindOK s (l.map Prod.fst) = false then [] else if s.op = 4 ∧ ((lastL s l).map (run1 s)).any (fun y => y.ents.isEmpty) = true then [] else (lastL s l).map (run1 s)
def entR (R : List (Int × List (Tr × (Int → Tr)))) (s : Stp) : List (Int × List Tr) := if (stepR s (getG R s.tag)).isEmpty = true then [] else [(s.tag, stepR s (getG R s.tag))]
def partO (P : List (List Stp)) (i : Int) : List Stp := P.getD i.toNat []
def runF (P : List (List Stp)) : Tr → Int → Tr := subT fun R i => .mk 3 0 [] ((partO P i).flatMap (entR R)) []
def run1F (P : List (List Stp)) (s : Stp) (t : Tr) : Tr := if s.op = 2 then clampT t else if s.op = 3 ∨ s.op = 4 then runF P t s.sub else t
def stepF (P : List (List Stp)) (s : Stp) (l : List Tr) : List Tr :=
 if kindOK s l = false then [] else if s.op = 4 ∧ ((lastL s l).map (run1F P s)).any (fun y => y.ents.isEmpty) = true then [] else (lastL s l).map (run1F P s)
def entF (P : List (List Stp)) (es : List (Int × List Tr)) (s : Stp) : List (Int × List Tr) := if (stepF P s (getG es s.tag)).isEmpty = true then [] else [(s.tag, stepF P s (getG es s.tag))]
theorem stepR_F (P : List (List Stp)) (s : Stp) (l : List Tr) : stepR s (l.map fun x => (x, runF P x)) = stepF P s l := by
 unfold stepR stepF
 rw [List.map_map, lastL_map, List.map_map]
 have e1 : (Prod.fst ∘ fun x : Tr => (x, runF P x)) = id := rfl
 have e2 : (run1 s ∘ fun x : Tr => (x, runF P x)) = run1F P s := rfl
 rw [e1, e2, List.map_id]
theorem runF_eq (P : List (List Stp)) (t : Tr) (i : Int) : runF P t i = .mk 3 0 [] ((partO P i).flatMap (entF P t.ents)) [] := by
 have h : runF P t = (fun R i => Tr.mk 3 0 [] ((partO P i).flatMap (entR R)) []) (t.ents.map fun e => (e.1, e.2.map fun x => (x, runF P x))) := by
  conv => lhs; unfold runF
  rw [subT_eq]
  rfl
 rw [h]
 simp only
 congr 1
 congr 1
 funext s
 unfold entR entF
 rw [getG_map, stepR_F]
def lookR (s : Stp) (l : List (Tr × (Int → Nat))) : Nat := if (s.op = 3 ∨ s.op = 4) ∧ kindOK s (l.map Prod.fst) = true then ((lastL s l).map fun x => x.2 s.sub).sum else 0
def lookF (P : List (List Stp)) : Tr → Int → Nat := subT fun R i => ((partO P i).map fun s => 1 + lookR s (getG R s.tag)).sum
def lookS (P : List (List Stp)) (s : Stp) (l : List Tr) : Nat := if (s.op = 3 ∨ s.op = 4) ∧ kindOK s l = true then ((lastL s l).map fun x => lookF P x s.sub).sum else 0
theorem lookF_eq (P : List (List Stp)) (t : Tr) (i : Int) : lookF P t i = ((partO P i).map fun s => 1 + lookS P s (getG t.ents s.tag)).sum := by
 have h : lookF P t = (fun R i => ((partO P i).map fun s => 1 + lookR s (getG R s.tag)).sum) (t.ents.map fun e => (e.1, e.2.map fun x => (x, lookF P x))) := by
  conv => lhs; unfold lookF
  rw [subT_eq]
  rfl
 rw [h]
 simp only
 congr 1
 congr 1
 funext s
 congr 1
 unfold lookR lookS
 rw [getG_map, List.map_map, lastL_map, List.map_map]
 have e1 : (Prod.fst ∘ fun x : Tr => (x, lookF P x)) = id := rfl
 rw [e1, List.map_id]
 rfl
def runP (P : List (List Stp)) (t : Tr) : Tr × Int := if progB P = false ∨ t.kind ≠ 3 ∨ okT t = false then (zeroTr, 1) else (runF P t 0, 0)
def lookP (P : List (List Stp)) (t : Tr) : Nat := if progB P = false ∨ t.kind ≠ 3 ∨ okT t = false then 0 else lookF P t 0
theorem wrap_more (a : Int) (n : Nat) : IntKind.wrap .i64 (IntKind.wrap .i64 a + (n : Int)) = IntKind.wrap .i64 (a + (n : Int)) := by
 have e : (2 : Int) ^ 64 = 18446744073709551616 := by decide
 have e' : (2 : Int) ^ (64 - 1) = 9223372036854775808 := by decide
 simp only [IntKind.wrap, IntKind.bits, IntKind.signed, e, e', Bool.true_and, decide_eq_true_eq]
 split <;> split <;> split <;> omega
end Go.Aw.T
namespace Go.Aw
open Go.Proofs Go.RowKit
end Go.Aw
namespace Go.Aw
open Go.RowKit
variable {P : Program}
end Go.Aw
namespace Go.Aw
open Go.RowKit
variable {P : Program}
end Go.Aw
namespace Go.Aw
open Go.RowKit
variable {P : Program}
section
variable {nt : Fm} {ops : Array Oper} {L : List (Oper × Rec)} {nx dc ex : Nat} {T0 : Nat → Option AV} {H0 : Nat → Option Blk} {w0 : World} {X I0 : Nat → Prop}
end
end Go.Aw
namespace Go.Aw
open Go.RowKit
variable {P : Program}
end Go.Aw
namespace Go.Aw.T
open Go.Proofs Go.RowKit
theorem law00_next (l : List Int) (a : Nat) (ha : a ≤ 1000) (hl : l.length ≤ 200) : LFn Tryd.prog 90 [.v (.slice (l.map encI)), .ptr 0 0 1 [[.int .i64 (a : Int)]]] [none, some (.row 1 [[.int .i64 ((nextF l a).2 : Int)]])] (.int .i64 (nextF l a).1) := by
 refine LFn.of Tryd.func90 rfl (by decide) Tryd.ntmps90 Tryd.results90 (Nat.le_of_ble_eq_true rfl) rfl fun val => ?_
 simp only [laT, laH, laPins, LA.av, List.length_cons, List.length_nil]
 refine AW.rT (by rfl) fun K hK => ?_
 simp -implicitDefEqProofs only [go_sem, Nat.reduceAdd, liftE_cons, liftE_nil, List.map_cons, List.map_nil]
 apply hK; clear hK K
 refine AW.seq ?_
 by_cases h0 : l = []
 ·subst h0
  refine AW.rT (by rfl) fun K hK => ?_
  simp -implicitDefEqProofs only [go_sem, ↓reduceIte, Nat.reduceAdd, reduceCtorEq, List.map_nil]
  apply hK; clear hK K
  refine AW.cT rfl ?_
  refine AW.rT (by rfl) fun K hK => ?_
  simp -implicitDefEqProofs only [go_sem, Nat.reduceAdd]
  apply hK; clear hK K
  refine AW.ret (show _ ∧ ((∃ l, _ ∧ _) ∧ (_ ∧ _ ∧ _) ∧ True) from ⟨?_, ⟨1, ?_, ?_⟩, ⟨rfl, by decide, rfl⟩, trivial⟩) <;> simp -implicitDefEqProofs only [go_sem, ↓reduceIte, Nat.reduceEqDiff, liftE_cons, liftE_nil, List.map_cons, List.map_nil, nextF]
 have hn : 0 < l.length := List.length_pos_iff.2 h0
 have b0 : ((l.length : Int) == 0) = false := beqf (by omega)
 have NF : nextF l a = (andI .i64 (l.getD (((a + 1) * 7 + (a + 1) / l.length) % l.length) 0) 4611686018427387903, a + 1) := by unfold nextF; rw [if_neg h0]
 have W1 : IntKind.wrap .i64 ((a : Int) + 1) = ((a + 1 : Nat) : Int) := by rw [w64] <;> omega
 refine AW.rT (by rfl) fun K hK => ?_
 simp -implicitDefEqProofs only [go_sem, ↓reduceIte, Nat.reduceAdd, reduceCtorEq, List.length_map, b0]
 apply hK; clear hK K
 refine AW.cF rfl ?_
 refine AW.skip ?_
 simp only [andThen]
 refine AW.rT (by rfl) fun K hK => ?_
 simp -implicitDefEqProofs only [go_sem, ↓reduceIte, Nat.reduceAdd, Nat.reduceEqDiff, Nat.reduceLeDiff, W1, List.set_cons_zero]
 apply hK; clear hK K
 have hz : ((l.length : Int) = 0) = False := eq_false (by omega)
 have hd : (((a + 1 : Nat) : Int)).tdiv (l.length : Int) = (((a + 1) / l.length : Nat) : Int) := (Int.ofNat_tdiv _ _).symm
 have hdl : (a + 1) / l.length ≤ a + 1 := Nat.div_le_self _ _
 have wm : IntKind.wrap .i64 (((a + 1 : Nat) : Int) * 7) = (((a + 1) * 7 : Nat) : Int) := by rw [w64] <;> omega
 generalize (a + 1) / l.length = d at hd hdl NF
 have wd : IntKind.wrap .i64 ((d : Nat) : Int) = ((d : Nat) : Int) := by rw [w64] <;> omega
 have ws : IntKind.wrap .i64 ((((a + 1) * 7 : Nat) : Int) + ((d : Nat) : Int)) = (((a + 1) * 7 + d : Nat) : Int) := by rw [w64] <;> omega
 have CP := Go.Aw.law00_Place (((a + 1) * 7 + d : Nat) : Int) (l.length : Int) (by omega) (by omega) (by omega) (by omega)
 rw [show (((a + 1) * 7 + d : Nat) : Int) % (l.length : Int) = ((((a + 1) * 7 + d) % l.length : Nat) : Int) from (Int.natCast_emod _ _).symm] at CP
 have hq : ((a + 1) * 7 + d) % l.length < l.length := Nat.mod_lt _ hn
 obtain ⟨x, hx⟩ : ∃ x, l[((a + 1) * 7 + d) % l.length]? = some x := ⟨_, List.getElem?_eq_getElem hq⟩
 have hxd : l.getD (((a + 1) * 7 + d) % l.length) 0 = x := by rw [List.getD_eq_getElem?_getD, hx]; rfl
 rw [hxd] at NF
 generalize ((a + 1) * 7 + d) % l.length = q at CP hq hx
 have ⟨hx1, hx2, hx3⟩ := at_map' encI hx
 have hq1 : ((q : Int) < (l.length : Int)) = True := eq_true (by omega)
 refine AW.dT mixed (by rfl) (by decide +kernel) fun K hK => ?_
 simp -implicitDefEqProofs only [go_sem, ↓reduceIte, Nat.reduceAdd, Nat.reduceEqDiff, reduceCtorEq, List.length_map, hz, hd, wd, wm, ws]
 refine ⟨.pure _, CP, ?_⟩
 try simp -implicitDefEqProofs only [go_sem, ↓reduceIte, Nat.reduceAdd, Nat.reduceEqDiff, hx1, hq1, hx3, encI, List.length_map]
 refine ⟨heapOK_nil rfl, ?_⟩
 apply hK; clear hK K
 refine AW.ret (show _ ∧ ((∃ l, _ ∧ _) ∧ (_ ∧ _ ∧ _) ∧ True) from ⟨?_, ⟨1, ?_, ?_⟩, ⟨rfl, by decide, rfl⟩, trivial⟩) <;> simp -implicitDefEqProofs only [go_sem, ↓reduceIte, Nat.reduceEqDiff, liftE_cons, liftE_nil, List.map_cons, List.map_nil, NF]
end Go.Aw.T
namespace Go.Aw.T
open Go.Proofs Go.RowKit
def atH (a : Nat) : List (Nat × Blk) := [(0, .row 1 [[.p (.int .i64 (a : Int))]])]
def FitOK (S : Sc) (l : List Int) (d : Nat) : Prop := ∀ (k : List UInt8) (a : Nat), a ≤ 900 → (msOf S k).2 = true → DFn Tryd.prog 60 [.p (.agg (encSc S)), .p (.str k), .p (.slice (l.map encI)), .ptr 0 0 0, .p (.int .i64 ((5 - d : Nat) : Int))] (atH a) 1 [0] (.p (.agg (encTr (fitF S l d k a).1))) (atH (fitF S l d k a).2) 0
theorem at_root {s : St} {args : List AV} {a b : Nat} (h : args[3]? = some (.ptr 0 0 0)) (hs : s.T 3 = some (.ptr 0 0 0)) : ∀ l ∈ ([0] : List Nat), l < 1 ∧ rootOK s args (atH a) (atH b) [3] (fun k => k) l := by
 intro k hk
 simp only [List.mem_singleton] at hk
 subst hk
 exact ⟨by decide, .inl ⟨3, 0, 0, 1, _, _, by simp, h, hs, rfl, rfl, rfl, by decide⟩⟩
theorem Ghost.exH {nt : Fm} {s : St} {l i j sz : Nat} {es : List (List AV)} {e : List AV} {ps : List (List PV)} (hl : s.H l = some (.row sz es)) (hi : es[i]? = some e) (hj : e[j]? = some (.ex ps)) : Ghost nt s ⟨s.T, upd s.H l (some (.row sz (es.set i (e.set j (.p (.slice ps)))))), s.nx⟩ :=
 Ghost.weakH hl hi hj rfl fun _ _ _ _ h => by
  cases h with
  | ex _ h => exact .p h
def ve1 (t : Tr) (b : Nat) : St := ⟨ofL [(3, .ptr 0 0 0), (10, .ptr 3 0 0)], ofH [(0, .row 1 [[.p (.int .i64 (b : Int))]]), (3, .row 5 [cellsT t])], 4⟩
theorem one_end {args : List AV} {t : Tr} {a b : Nat} (h : args[3]? = some (.ptr 0 0 0)) : EndD Tryd.prog #[ResultVar.cell 10 39] args (atH a) 1 [0] (.p (.agg (encTr t))) (atH b) 0 [3] .ret (ve1 t b) := by
 refine ⟨fun k => k, [.p (.agg (encTr t))], ⟨?_, trivial⟩, rfl, rfl, ?_, ?_, ?_⟩
 ·simp only [ve1, cellsT, encTr_eq]
  simp -implicitDefEqProofs only [go_sem, ↓reduceIte, Nat.reduceAdd, Nat.reduceEqDiff, Nat.reduceLeDiff, reduceCtorEq]
  done
 ·simp only [atH, ve1]
  simp -implicitDefEqProofs only [go_sem, ↓reduceIte, List.forall_mem_cons, List.not_mem_nil, false_implies, implies_true]
  first | done | decide
 ·simp [atH]
 ·exact at_root h rfl
def vr0 (S : Sc) (f : Fd) (l : List Int) (d : Nat) (v : Int) (a : Nat) : St := ⟨ofL [(2, .p (.slice (l.map encI))), (3, .ptr 0 0 0), (4, .p (.int .i64 ((5 - d : Nat) : Int))), (5, .ptr 1 0 0), (6, .ptr 2 0 0), (10, .ptr 3 0 0), (11, .p (.int .i64 v))],
 ofH [(0, .row 1 [[.p (.int .i64 (a : Int))]]), (1, .row 4 [cellsSc S]), (2, .row 5 [cellsFd f]), (3, .row 5 [[.p (.int .i64 0), .p (.int .i64 0), .p (.str []), .ex [], .ex []]])], 4⟩
def vr9 (S : Sc) (f : Fd) (l : List Int) (d : Nat) (v : Int) (a : Nat) (b : Bool) : St := ⟨ofL [(2, .p (.slice (l.map encI))), (3, .ptr 0 0 0), (4, .p (.int .i64 ((5 - d : Nat) : Int))), (5, .ptr 1 0 0), (6, .ptr 2 0 0), (10, .ptr 3 0 0), (11, .p (.int .i64 v)), (39, .p (.bool b))],
 ofH [(0, .row 1 [[.p (.int .i64 (a : Int))]]), (1, .row 4 [cellsSc S]), (2, .row 5 [cellsFd f]), (3, .row 5 [[.p (.int .i64 0), .p (.int .i64 0), .p (.str []), .ex [], .ex []]])], 4⟩
theorem law00_one (S : Sc) (l : List Int) (hl : l.length ≤ 200) (f : Fd) (d a : Nat) (ha : a ≤ 890) (h1 : 1 ≤ f.ty.kind) (h7 : f.ty.kind ≤ 7) (hd : f.ty.kind = 7 → ∃ e, d = e + 1 ∧ d ≤ 4 ∧ FitOK S l e ∧ (msOf S f.ty.name).2 = true) :
  DFn Tryd.prog 91 [.p (.agg (encSc S)), .p (.agg (encFd f)), .p (.slice (l.map encI)), .ptr 0 0 0, .p (.int .i64 ((5 - d : Nat) : Int))] (atH a) 1 [0] (.p (.agg (encTr (oneF l (subF S l d) f a).1))) (atH (oneF l (subF S l d) f a).2) 0 := by
 have np := nextF_pos l a
 have CN := law00_next l a (by omega) hl
 refine DFn.of [3] Tryd.func91 rfl (by decide) Tryd.ntmps91 Tryd.results91 (Nat.le_of_ble_eq_true rfl) (by simp) fun val => ?_
 simp only [avT, atH]
 refine AW.rT (by rfl) fun K hK => ?_
 simp -implicitDefEqProofs only [go_sem, ↓reduceIte, Nat.reduceAdd, Nat.reduceEqDiff, encSc, encFd]
 apply hK; clear hK K
 refine AW.rT (by rfl) fun K hK => ?_
 simp -implicitDefEqProofs only [go_sem, ↓reduceIte, Nat.reduceAdd, Nat.reduceEqDiff, reduceCtorEq]
 refine ⟨.lend [none, some 0] [.v (.slice (l.map encI)), .ptr 0 0 1 [[.int .i64 (a : Int)]]] [none, some (.row 1 [[.int .i64 ((nextF l a).2 : Int)]])] (.int .i64 (nextF l a).1), ⟨CN, rfl, ?_⟩, ?_⟩
 ·simp -implicitDefEqProofs only [go_sem, ↓reduceIte, Nat.reduceEqDiff, reduceCtorEq, liftE_cons, liftE_nil, List.map_cons, List.map_nil, and_self]
 simp -implicitDefEqProofs only [go_sem, Nat.reduceAdd, liftE_cons, liftE_nil, List.map_cons, List.map_nil]
 apply hK; clear hK K
 refine AW.ghost (s' := vr0 S f l d (nextF l a).1 (nextF l a).2) ?_ ?_
 ·simp only [vr0, cellsSc, cellsFd]
  refine Ghost.sub ?_ ?_ <;> simp -implicitDefEqProofs only [go_sem, ↓reduceIte, Nat.reduceEqDiff, reduceCtorEq, List.forall_mem_cons, List.not_mem_nil, false_implies, implies_true, and_self, List.all_cons, List.all_nil, Nat.reduceLT, labsInL, AV.labsIn]
  done
 have OF : ∀ (h6 : f.ty.kind ≤ 6), oneF l (subF S l d) f a = (leafF f.ty.kind (nextF l a).1, (nextF l a).2) := fun h6 => by unfold oneF; rw [if_pos ⟨h1, h6⟩]
 have O7 : ∀ (h6 : f.ty.kind = 7), oneF l (subF S l d) f a = subF S l d f.ty.name (nextF l a).2 := fun h6 => by unfold oneF; rw [if_neg (by omega)]
 generalize (nextF l a).1 = v at np OF
 generalize (nextF l a).2 = b at np OF O7
 obtain ⟨np1, np2, np3, np4⟩ := np
 simp only [vr0, cellsSc, cellsFd]
 refine AW.seq ?_
 refine AW.rT (by rfl) fun K hK => ?_
 simp -implicitDefEqProofs only [go_sem, ↓reduceIte, Nat.reduceAdd, Nat.reduceEqDiff, reduceCtorEq]
 apply hK; clear hK K
 refine AW.block ?_
 by_cases k1 : f.ty.kind = 1
 ·have e1 := eqb k1
  have HH : oneF l (subF S l d) f a = (.mk 1 (v % 4294967296 - 2147483648) [] [] [], b) := by rw [OF (by omega)]; unfold leafF; rw [if_pos k1]
  have rm : v.tmod 4294967296 = v % 4294967296 := Int.tmod_eq_emod_of_nonneg np1
  have hz : ((4294967296 : Int) = 0) = False := by simp
  have wq : IntKind.wrap .i64 (v % 4294967296) = v % 4294967296 := by rw [w64] <;> omega
  have wr : IntKind.wrap .i64 (v % 4294967296 - 2147483648) = v % 4294967296 - 2147483648 := by rw [w64] <;> omega
  refine AW.rT (by rfl) fun K hK => ?_
  simp -implicitDefEqProofs only [go_sem, ↓reduceIte, Nat.reduceAdd, e1]
  apply hK; clear hK K
  refine AW.cT rfl ?_
  refine AW.rT (by rfl) fun K hK => ?_
  simp -implicitDefEqProofs only [go_sem, ↓reduceIte, Nat.reduceAdd, Nat.reduceEqDiff, Nat.reduceLeDiff, reduceCtorEq, rm, hz, wr, List.set_cons_zero]
  apply hK; clear hK K
  rw [HH]
  refine AW.ghost (s' := ve1 (.mk 1 (v % 4294967296 - 2147483648) [] [] []) b) (Ghost.trans (Ghost.exH (l := 3) (i := 0) (j := 3) rfl rfl rfl) (Ghost.trans (Ghost.exH (l := 3) (i := 0) (j := 4) rfl rfl rfl) ?_)) ?_
  ·simp only [ve1, cellsT, Tr.kind, Tr.n, Tr.s, Tr.ents, Tr.rest, List.map_nil]
   refine Ghost.sub ?_ ?_ <;> simp -implicitDefEqProofs only [go_sem, ↓reduceIte, Nat.reduceEqDiff, reduceCtorEq, List.set_cons_zero, List.set_cons_succ, List.forall_mem_cons, List.not_mem_nil, false_implies, implies_true, and_self, List.all_cons, List.all_nil, Nat.reduceLT, labsInL, AV.labsIn]
   done
  exact AW.ret (one_end rfl)
 have e1 := beqf k1
 refine AW.rT (by rfl) fun K hK => ?_
 simp -implicitDefEqProofs only [go_sem, ↓reduceIte, Nat.reduceAdd, e1]
 apply hK; clear hK K
 refine AW.cF rfl ?_
 by_cases k2 : f.ty.kind = 2
 ·have e1 := eqb k2
  have HH : oneF l (subF S l d) f a = (.mk 1 (v - 2305843009213693952) [] [] [], b) := by rw [OF (by omega)]; unfold leafF; rw [if_neg k1, if_pos k2]
  have wr : IntKind.wrap .i64 (v - 2305843009213693952) = v - 2305843009213693952 := by rw [w64] <;> omega
  refine AW.rT (by rfl) fun K hK => ?_
  simp -implicitDefEqProofs only [go_sem, ↓reduceIte, Nat.reduceAdd, Nat.reduceEqDiff, e1]
  apply hK; clear hK K
  refine AW.cT rfl ?_
  refine AW.rT (by rfl) fun K hK => ?_
  simp -implicitDefEqProofs only [go_sem, ↓reduceIte, Nat.reduceAdd, Nat.reduceEqDiff, Nat.reduceLeDiff, reduceCtorEq, wr, List.set_cons_zero]
  apply hK; clear hK K
  rw [HH]
  refine AW.ghost (s' := ve1 (.mk 1 (v - 2305843009213693952) [] [] []) b) (Ghost.trans (Ghost.exH (l := 3) (i := 0) (j := 3) rfl rfl rfl) (Ghost.trans (Ghost.exH (l := 3) (i := 0) (j := 4) rfl rfl rfl) ?_)) ?_
  ·simp only [ve1, cellsT, Tr.kind, Tr.n, Tr.s, Tr.ents, Tr.rest, List.map_nil]
   refine Ghost.sub ?_ ?_ <;> simp -implicitDefEqProofs only [go_sem, ↓reduceIte, Nat.reduceEqDiff, reduceCtorEq, List.set_cons_zero, List.set_cons_succ, List.forall_mem_cons, List.not_mem_nil, false_implies, implies_true, and_self, List.all_cons, List.all_nil, Nat.reduceLT, labsInL, AV.labsIn]
   done
  exact AW.ret (one_end rfl)
 have e2 := beqf k2
 refine AW.rT (by rfl) fun K hK => ?_
 simp -implicitDefEqProofs only [go_sem, ↓reduceIte, Nat.reduceAdd, Nat.reduceEqDiff, e2]
 apply hK; clear hK K
 refine AW.cF rfl ?_
 by_cases k3 : f.ty.kind = 3
 ·have e1 := eqb k3
  have HH : oneF l (subF S l d) f a = (.mk 1 (v % 2) [] [] [], b) := by rw [OF (by omega)]; unfold leafF; rw [if_neg k1, if_neg k2, if_pos k3]
  have rm : v.tmod 2 = v % 2 := Int.tmod_eq_emod_of_nonneg np1
  have hz : ((2 : Int) = 0) = False := by simp
  have wr : IntKind.wrap .i64 (v % 2) = v % 2 := by rw [w64] <;> omega
  refine AW.rT (by rfl) fun K hK => ?_
  simp -implicitDefEqProofs only [go_sem, ↓reduceIte, Nat.reduceAdd, Nat.reduceEqDiff, e1]
  apply hK; clear hK K
  refine AW.cT rfl ?_
  refine AW.rT (by rfl) fun K hK => ?_
  simp -implicitDefEqProofs only [go_sem, ↓reduceIte, Nat.reduceAdd, Nat.reduceEqDiff, Nat.reduceLeDiff, reduceCtorEq, rm, hz, List.set_cons_zero]
  apply hK; clear hK K
  rw [HH]
  refine AW.ghost (s' := ve1 (.mk 1 (v % 2) [] [] []) b) (Ghost.trans (Ghost.exH (l := 3) (i := 0) (j := 3) rfl rfl rfl) (Ghost.trans (Ghost.exH (l := 3) (i := 0) (j := 4) rfl rfl rfl) ?_)) ?_
  ·simp only [ve1, cellsT, Tr.kind, Tr.n, Tr.s, Tr.ents, Tr.rest, List.map_nil]
   refine Ghost.sub ?_ ?_ <;> simp -implicitDefEqProofs only [go_sem, ↓reduceIte, Nat.reduceEqDiff, reduceCtorEq, List.set_cons_zero, List.set_cons_succ, List.forall_mem_cons, List.not_mem_nil, false_implies, implies_true, and_self, List.all_cons, List.all_nil, Nat.reduceLT, labsInL, AV.labsIn]
   done
  exact AW.ret (one_end rfl)
 have e3 := beqf k3
 refine AW.rT (by rfl) fun K hK => ?_
 simp -implicitDefEqProofs only [go_sem, ↓reduceIte, Nat.reduceAdd, Nat.reduceEqDiff, e3]
 apply hK; clear hK K
 refine AW.cF rfl ?_
 by_cases k6 : f.ty.kind = 6
 ·have e1 := eqb k6
  have HH : oneF l (subF S l d) f a = (.mk 1 (v % 5) [] [] [], b) := by rw [OF (by omega)]; unfold leafF; rw [if_neg k1, if_neg k2, if_neg k3, if_pos k6]
  have rm : v.tmod 5 = v % 5 := Int.tmod_eq_emod_of_nonneg np1
  have hz : ((5 : Int) = 0) = False := by simp
  have wr : IntKind.wrap .i64 (v % 5) = v % 5 := by rw [w64] <;> omega
  refine AW.rT (by rfl) fun K hK => ?_
  simp -implicitDefEqProofs only [go_sem, ↓reduceIte, Nat.reduceAdd, Nat.reduceEqDiff, e1]
  apply hK; clear hK K
  refine AW.cT rfl ?_
  refine AW.rT (by rfl) fun K hK => ?_
  simp -implicitDefEqProofs only [go_sem, ↓reduceIte, Nat.reduceAdd, Nat.reduceEqDiff, Nat.reduceLeDiff, reduceCtorEq, rm, hz, List.set_cons_zero]
  apply hK; clear hK K
  rw [HH]
  refine AW.ghost (s' := ve1 (.mk 1 (v % 5) [] [] []) b) (Ghost.trans (Ghost.exH (l := 3) (i := 0) (j := 3) rfl rfl rfl) (Ghost.trans (Ghost.exH (l := 3) (i := 0) (j := 4) rfl rfl rfl) ?_)) ?_
  ·simp only [ve1, cellsT, Tr.kind, Tr.n, Tr.s, Tr.ents, Tr.rest, List.map_nil]
   refine Ghost.sub ?_ ?_ <;> simp -implicitDefEqProofs only [go_sem, ↓reduceIte, Nat.reduceEqDiff, reduceCtorEq, List.set_cons_zero, List.set_cons_succ, List.forall_mem_cons, List.not_mem_nil, false_implies, implies_true, and_self, List.all_cons, List.all_nil, Nat.reduceLT, labsInL, AV.labsIn]
   done
  exact AW.ret (one_end rfl)
 have e6 := beqf k6
 refine AW.rT (by rfl) fun K hK => ?_
 simp -implicitDefEqProofs only [go_sem, ↓reduceIte, Nat.reduceAdd, Nat.reduceEqDiff, e6]
 apply hK; clear hK K
 refine AW.cF rfl ?_
 have kt : ∀ (c : Nat), v % 6 = (c : Int) → leafF f.ty.kind v = .mk 2 0 (grN.take ([0, 1, 2, 4, 6, 7].getD c 0)) [] [] := fun c hcv => by
  unfold leafF cutF
  rw [if_neg k1, if_neg k2, if_neg k3, if_neg k6, hcv]
  rfl
 refine AW.cut (fun b' : Bool => vr9 S f l d v b b') (fun b' => b' = decide (f.ty.kind ≠ 7)) ?_ fun b' hb' => ?_
 ·by_cases k7 : f.ty.kind = 7
  ·have e4 := beqf (show f.ty.kind ≠ 4 by omega)
   have e5 := beqf (show f.ty.kind ≠ 5 by omega)
   refine AW.rT (by rfl) fun K hK => ?_
   simp -implicitDefEqProofs only [go_sem, ↓reduceIte, Nat.reduceAdd, Nat.reduceEqDiff, e4]
   apply hK; clear hK K
   refine AW.cF rfl ?_
   refine AW.rE (by rfl) fun K hK => ?_
   simp -implicitDefEqProofs only [go_sem, ↓reduceIte, Nat.reduceAdd, Nat.reduceEqDiff, e5]
   apply hK; clear hK K
   simp only [andThen]
   refine ⟨false, by simp [k7], ?_⟩
   simp only [vr9, cellsSc, cellsFd]
   refine Ghost.sub ?_ ?_ <;> simp -implicitDefEqProofs only [go_sem, ↓reduceIte, Nat.reduceEqDiff, reduceCtorEq, List.forall_mem_cons, List.not_mem_nil, false_implies, implies_true, and_self, List.all_cons, List.all_nil, Nat.reduceLT, labsInL, AV.labsIn]
   done
  by_cases k4 : f.ty.kind = 4
  ·have e4 := eqb k4
   refine AW.rT (by rfl) fun K hK => ?_
   simp -implicitDefEqProofs only [go_sem, ↓reduceIte, Nat.reduceAdd, Nat.reduceEqDiff, e4]
   apply hK; clear hK K
   refine AW.cT rfl ?_
   refine AW.skip ?_
   simp only [andThen]
   refine ⟨true, by simp [k7], ?_⟩
   simp only [vr9, cellsSc, cellsFd]
   refine Ghost.sub ?_ ?_ <;> simp -implicitDefEqProofs only [go_sem, ↓reduceIte, Nat.reduceEqDiff, reduceCtorEq, List.forall_mem_cons, List.not_mem_nil, false_implies, implies_true, and_self, List.all_cons, List.all_nil, Nat.reduceLT, labsInL, AV.labsIn]
   done
  ·have e4 := beqf k4
   have e5 := eqb (show f.ty.kind = 5 by omega)
   refine AW.rT (by rfl) fun K hK => ?_
   simp -implicitDefEqProofs only [go_sem, ↓reduceIte, Nat.reduceAdd, Nat.reduceEqDiff, e4]
   apply hK; clear hK K
   refine AW.cF rfl ?_
   refine AW.rE (by rfl) fun K hK => ?_
   simp -implicitDefEqProofs only [go_sem, ↓reduceIte, Nat.reduceAdd, Nat.reduceEqDiff, e5]
   apply hK; clear hK K
   simp only [andThen]
   refine ⟨true, by simp [k7], ?_⟩
   simp only [vr9, cellsSc, cellsFd]
   refine Ghost.sub ?_ ?_ <;> simp -implicitDefEqProofs only [go_sem, ↓reduceIte, Nat.reduceEqDiff, reduceCtorEq, List.forall_mem_cons, List.not_mem_nil, false_implies, implies_true, and_self, List.all_cons, List.all_nil, Nat.reduceLT, labsInL, AV.labsIn]
   done
 simp only [vr9, cellsSc, cellsFd]
 by_cases k7 : f.ty.kind = 7
 ·have hb : b' = false := by rw [hb']; simp [k7]
  subst hb
  obtain ⟨q, rfl, hd4, FT, hM⟩ := hd k7
  have CT := FT f.ty.name b (by omega) hM
  have OO : oneF l (subF S l (q + 1)) f a = fitF S l q f.ty.name b := by rw [O7 k7]; rfl
  rw [OO]
  have wa : IntKind.wrap .i64 (((5 - (q + 1) : Nat) : Int) + 1) = ((5 - q : Nat) : Int) := by rw [w64] <;> omega
  refine AW.cF rfl ?_
  refine AW.skip ?_
  simp only [andThen, inBlk]
  refine AW.rR (SeqR.ev 8 (by rfl) (by decide) ?_)
  simp -implicitDefEqProofs only [go_sem, ↓reduceIte, Nat.reduceAdd, Nat.reduceEqDiff, Nat.reduceLeDiff, reduceCtorEq, wa]
  generalize (fitF S l q f.ty.name b).1 = tr at CT
  generalize (fitF S l q f.ty.name b).2 = b2 at CT
  rw [encTr_eq tr] at CT
  refine SeqR.call (fun k => k) rfl rfl CT ⟨?_, rfl, ?_, rfl, rfl, rfl, rfl, rfl, rfl⟩ ?_
  ·simp -implicitDefEqProofs only [go_sem, ↓reduceIte, Nat.reduceEqDiff, argD, encSc]
  ·simp only [atH]
   simp -implicitDefEqProofs only [go_sem, ↓reduceIte, List.forall_mem_cons, List.not_mem_nil, false_implies, implies_true]
   first | done | decide
  simp only [atH, AV.ren]
  refine SeqR.ev 1 (by rfl) (by decide) ?_
  simp -implicitDefEqProofs only [go_sem, ↓reduceIte, Nat.reduceAdd, Nat.reduceEqDiff, Nat.reduceLeDiff, reduceCtorEq, lift2, goneU, newU, List.map_cons, List.map_nil, putH, Nat.reduceLT]
  refine SeqR.last rfl ?_
  refine AW.ghost (s' := ve1 tr b2) ?_ (AW.ret (one_end rfl))
  simp only [ve1, cellsT]
  refine Ghost.sub ?_ ?_ <;> simp -implicitDefEqProofs only [go_sem, ↓reduceIte, Nat.reduceEqDiff, reduceCtorEq, List.forall_mem_cons, List.not_mem_nil, false_implies, implies_true, and_self, List.all_cons, List.all_nil, Nat.reduceLT, labsInL, AV.labsIn]
  done
 have hb : b' = true := by rw [hb']; simp [k7]
 subst hb
 have rm : v.tmod 6 = v % 6 := Int.tmod_eq_emod_of_nonneg np1
 have hz : ((6 : Int) = 0) = False := by simp
 refine AW.cT rfl ?_
 rw [OF (by omega)]
 have h6 : v % 6 = 0 ∨ v % 6 = 1 ∨ v % 6 = 2 ∨ v % 6 = 3 ∨ v % 6 = 4 ∨ v % 6 = 5 := by omega
 rcases h6 with w0 | w0 | w0 | w0 | w0 | w0
 ·rw [kt 0 w0]
  rw [w0] at rm
  have wq : IntKind.wrap .i64 0 = 0 := by decide
  refine AW.rT (by rfl) fun K hK => ?_
  simp -implicitDefEqProofs only [go_sem, ↓reduceIte, Nat.reduceAdd, Nat.reduceMul, Nat.reduceEqDiff, Nat.reduceLeDiff, reduceCtorEq, Int.reduceToNat, rm, hz]
  refine ⟨by decide, by decide, ?_⟩
  apply hK; clear hK K
  refine AW.ghost (s' := ve1 (.mk 2 0 (grN.take ([0, 1, 2, 4, 6, 7].getD 0 0)) [] []) b) (Ghost.trans (Ghost.exH (l := 3) (i := 0) (j := 3) rfl rfl rfl) (Ghost.trans (Ghost.exH (l := 3) (i := 0) (j := 4) rfl rfl rfl) ?_)) ?_
  ·simp only [ve1, cellsT, Tr.kind, Tr.n, Tr.s, Tr.ents, Tr.rest, List.map_nil]
   refine Ghost.sub ?_ ?_ <;> simp -implicitDefEqProofs only [go_sem, ↓reduceIte, Nat.reduceEqDiff, reduceCtorEq, List.set_cons_zero, List.set_cons_succ, List.forall_mem_cons, List.not_mem_nil, false_implies, implies_true, and_self, List.all_cons, List.all_nil, Nat.reduceLT, labsInL, AV.labsIn]
   all_goals first | rfl | skip
  exact AW.ret (one_end rfl)
 ·rw [kt 1 w0]
  rw [w0] at rm
  have wq : IntKind.wrap .i64 1 = 1 := by decide
  refine AW.rT (by rfl) fun K hK => ?_
  simp -implicitDefEqProofs only [go_sem, ↓reduceIte, Nat.reduceAdd, Nat.reduceMul, Nat.reduceEqDiff, Nat.reduceLeDiff, reduceCtorEq, Int.reduceToNat, rm, hz]
  refine ⟨by decide, by decide, ?_⟩
  apply hK; clear hK K
  refine AW.ghost (s' := ve1 (.mk 2 0 (grN.take ([0, 1, 2, 4, 6, 7].getD 1 0)) [] []) b) (Ghost.trans (Ghost.exH (l := 3) (i := 0) (j := 3) rfl rfl rfl) (Ghost.trans (Ghost.exH (l := 3) (i := 0) (j := 4) rfl rfl rfl) ?_)) ?_
  ·simp only [ve1, cellsT, Tr.kind, Tr.n, Tr.s, Tr.ents, Tr.rest, List.map_nil]
   refine Ghost.sub ?_ ?_ <;> simp -implicitDefEqProofs only [go_sem, ↓reduceIte, Nat.reduceEqDiff, reduceCtorEq, List.set_cons_zero, List.set_cons_succ, List.forall_mem_cons, List.not_mem_nil, false_implies, implies_true, and_self, List.all_cons, List.all_nil, Nat.reduceLT, labsInL, AV.labsIn]
   all_goals first | rfl | skip
  exact AW.ret (one_end rfl)
 ·rw [kt 2 w0]
  rw [w0] at rm
  have wq : IntKind.wrap .i64 2 = 2 := by decide
  refine AW.rT (by rfl) fun K hK => ?_
  simp -implicitDefEqProofs only [go_sem, ↓reduceIte, Nat.reduceAdd, Nat.reduceMul, Nat.reduceEqDiff, Nat.reduceLeDiff, reduceCtorEq, Int.reduceToNat, rm, hz]
  refine ⟨by decide, by decide, ?_⟩
  apply hK; clear hK K
  refine AW.ghost (s' := ve1 (.mk 2 0 (grN.take ([0, 1, 2, 4, 6, 7].getD 2 0)) [] []) b) (Ghost.trans (Ghost.exH (l := 3) (i := 0) (j := 3) rfl rfl rfl) (Ghost.trans (Ghost.exH (l := 3) (i := 0) (j := 4) rfl rfl rfl) ?_)) ?_
  ·simp only [ve1, cellsT, Tr.kind, Tr.n, Tr.s, Tr.ents, Tr.rest, List.map_nil]
   refine Ghost.sub ?_ ?_ <;> simp -implicitDefEqProofs only [go_sem, ↓reduceIte, Nat.reduceEqDiff, reduceCtorEq, List.set_cons_zero, List.set_cons_succ, List.forall_mem_cons, List.not_mem_nil, false_implies, implies_true, and_self, List.all_cons, List.all_nil, Nat.reduceLT, labsInL, AV.labsIn]
   all_goals first | rfl | skip
  exact AW.ret (one_end rfl)
 ·rw [kt 3 w0]
  rw [w0] at rm
  have wq : IntKind.wrap .i64 3 = 3 := by decide
  refine AW.rT (by rfl) fun K hK => ?_
  simp -implicitDefEqProofs only [go_sem, ↓reduceIte, Nat.reduceAdd, Nat.reduceMul, Nat.reduceEqDiff, Nat.reduceLeDiff, reduceCtorEq, Int.reduceToNat, rm, hz]
  refine ⟨by decide, by decide, ?_⟩
  apply hK; clear hK K
  refine AW.ghost (s' := ve1 (.mk 2 0 (grN.take ([0, 1, 2, 4, 6, 7].getD 3 0)) [] []) b) (Ghost.trans (Ghost.exH (l := 3) (i := 0) (j := 3) rfl rfl rfl) (Ghost.trans (Ghost.exH (l := 3) (i := 0) (j := 4) rfl rfl rfl) ?_)) ?_
  ·simp only [ve1, cellsT, Tr.kind, Tr.n, Tr.s, Tr.ents, Tr.rest, List.map_nil]
   refine Ghost.sub ?_ ?_ <;> simp -implicitDefEqProofs only [go_sem, ↓reduceIte, Nat.reduceEqDiff, reduceCtorEq, List.set_cons_zero, List.set_cons_succ, List.forall_mem_cons, List.not_mem_nil, false_implies, implies_true, and_self, List.all_cons, List.all_nil, Nat.reduceLT, labsInL, AV.labsIn]
   all_goals first | rfl | skip
  exact AW.ret (one_end rfl)
 ·rw [kt 4 w0]
  rw [w0] at rm
  have wq : IntKind.wrap .i64 4 = 4 := by decide
  refine AW.rT (by rfl) fun K hK => ?_
  simp -implicitDefEqProofs only [go_sem, ↓reduceIte, Nat.reduceAdd, Nat.reduceMul, Nat.reduceEqDiff, Nat.reduceLeDiff, reduceCtorEq, Int.reduceToNat, rm, hz]
  refine ⟨by decide, by decide, ?_⟩
  apply hK; clear hK K
  refine AW.ghost (s' := ve1 (.mk 2 0 (grN.take ([0, 1, 2, 4, 6, 7].getD 4 0)) [] []) b) (Ghost.trans (Ghost.exH (l := 3) (i := 0) (j := 3) rfl rfl rfl) (Ghost.trans (Ghost.exH (l := 3) (i := 0) (j := 4) rfl rfl rfl) ?_)) ?_
  ·simp only [ve1, cellsT, Tr.kind, Tr.n, Tr.s, Tr.ents, Tr.rest, List.map_nil]
   refine Ghost.sub ?_ ?_ <;> simp -implicitDefEqProofs only [go_sem, ↓reduceIte, Nat.reduceEqDiff, reduceCtorEq, List.set_cons_zero, List.set_cons_succ, List.forall_mem_cons, List.not_mem_nil, false_implies, implies_true, and_self, List.all_cons, List.all_nil, Nat.reduceLT, labsInL, AV.labsIn]
   all_goals first | rfl | skip
  exact AW.ret (one_end rfl)
 ·rw [kt 5 w0]
  rw [w0] at rm
  have wq : IntKind.wrap .i64 5 = 5 := by decide
  refine AW.rT (by rfl) fun K hK => ?_
  simp -implicitDefEqProofs only [go_sem, ↓reduceIte, Nat.reduceAdd, Nat.reduceMul, Nat.reduceEqDiff, Nat.reduceLeDiff, reduceCtorEq, Int.reduceToNat, rm, hz]
  refine ⟨by decide, by decide, ?_⟩
  apply hK; clear hK K
  refine AW.ghost (s' := ve1 (.mk 2 0 (grN.take ([0, 1, 2, 4, 6, 7].getD 5 0)) [] []) b) (Ghost.trans (Ghost.exH (l := 3) (i := 0) (j := 3) rfl rfl rfl) (Ghost.trans (Ghost.exH (l := 3) (i := 0) (j := 4) rfl rfl rfl) ?_)) ?_
  ·simp only [ve1, cellsT, Tr.kind, Tr.n, Tr.s, Tr.ents, Tr.rest, List.map_nil]
   refine Ghost.sub ?_ ?_ <;> simp -implicitDefEqProofs only [go_sem, ↓reduceIte, Nat.reduceEqDiff, reduceCtorEq, List.set_cons_zero, List.set_cons_succ, List.forall_mem_cons, List.not_mem_nil, false_implies, implies_true, and_self, List.all_cons, List.all_nil, Nat.reduceLT, labsInL, AV.labsIn]
   all_goals first | rfl | skip
  exact AW.ret (one_end rfl)
end Go.Aw.T
