/- What the law LawProjectDrops leans on, joined (part 3). -/
import Derived.Test.YtpbangopjdlfcaaDoorZprojectDrops2
set_option linter.unusedSimpArgs false
set_option linter.unusedVariables false
namespace Go.Aw
open Go.Proofs
set_option linter.unusedSimpArgs false
set_option linter.unusedVariables false
def st26 (s : Sc) (k : List UInt8) (i : Nat) : St := ⟨ofL [(1, .p (.str k)), (2, .ptr 0 0 0), (4, .ptr 1 0 0), (9, .p (.slice (s.msgs.map encMs))), (10, .p (.int .i64 (s.msgs.length : Int))), (11, .p (.int .i64 (i : Int)))], ofH [(0, .row 4 [cellsSc s]), (1, .row 3 [[.p (.str []), .ex [], .ex []]])], 2⟩
set_option maxRecDepth 100000 in
theorem check_Message (s : Sc) (k : List UInt8) (hl : s.msgs.length ≤ 1000000) : PFn Tryd.prog 62 [.agg (encSc s), .str k] (.tuple [.agg (encMs (firstP (fun x => x.name == k) zMs s.msgs).1), .bool (firstP (fun x => x.name == k) zMs s.msgs).2]) := by
 refine PFn.of Tryd.func62 rfl (by decide) Tryd.ntmps62 Tryd.results62 (Nat.le_of_ble_eq_true rfl) ?_
 simp only [argsT, encSc]
 refine AW.rT (by rfl) fun K hK => ?_
 simp -implicitDefEqProofs only [go_sem, Nat.reduceAdd]
 refine hK _ ?_; clear hK K
 refine AW.seq ?_
 refine AW.rT (by rfl) fun K hK => ?_
 simp -implicitDefEqProofs only [go_sem, ↓reduceIte, Nat.reduceAdd, Nat.reduceEqDiff, reduceCtorEq, List.length_map]
 refine hK _ ?_; clear hK K
 refine AW.block ?_
 refine AW.loop (st26 s k) (fun i => i ≤ s.msgs.length ∧ (s.msgs.take i).all (fun x => !(x.name == k)) = true) (fun i => s.msgs.length - i) 0 ?_ (by simp) fun i hi => ?_
 ·simp only [st26, cellsSc]
  refine Ghost.sub ?_ ?_ <;> simp -implicitDefEqProofs only [go_sem, ↓reduceIte, Nat.reduceEqDiff, reduceCtorEq, List.forall_mem_cons, List.not_mem_nil, false_implies, implies_true, and_self, List.all_cons, List.all_nil, Nat.reduceLT, labsInL, AV.labsIn]
  rfl
 obtain ⟨g1, g2⟩ := hi
 simp only [st26, cellsSc]
 by_cases hil : i < s.msgs.length
 case neg =>
  have hc1 : ((i : Int) < (s.msgs.length : Int)) = False := by simp; omega
  rw [List.take_of_length_le (by omega)] at g2
  have FF := first_not (z := zMs) g2
  refine AW.rT (by rfl) fun K hK => ?_
  simp -implicitDefEqProofs only [go_sem, ↓reduceIte, Nat.reduceAdd, Nat.reduceEqDiff, hc1]
  refine hK _ ?_; clear hK K
  refine AW.seq ?_
  refine AW.cond _ (by simp -implicitDefEqProofs only [go_sem]; rfl) (fun hc => ?_) (fun hc => ?_)
  ·simp at hc
  refine AW.exit ?_
  simp only [andThen, inBlk, ↓reduceIte]
  refine AW.rT (by rfl) fun K hK => ?_
  simp -implicitDefEqProofs only [go_sem, ↓reduceIte, Nat.reduceAdd, Nat.reduceEqDiff, Nat.reduceLeDiff]
  refine hK _ ?_; clear hK K
  refine AW.ret ?_
  simp -implicitDefEqProofs only [go_sem, ↓reduceIte, Nat.reduceAdd, Nat.reduceEqDiff, Nat.reduceLeDiff, FF]
  rfl
 obtain ⟨e, he⟩ : ∃ e, s.msgs[i]? = some e := ⟨_, List.getElem?_eq_getElem hil⟩
 have ⟨he1, he2, he3⟩ := at_map' encMs he
 have hc1 : ((i : Int) < (s.msgs.length : Int)) = True := by simp; omega
 refine AW.rT (by rfl) fun K hK => ?_
 simp -implicitDefEqProofs only [go_sem, ↓reduceIte, Nat.reduceAdd, Nat.reduceEqDiff, hc1]
 refine hK _ ?_; clear hK K
 refine AW.seq ?_
 refine AW.cond _ (by simp -implicitDefEqProofs only [go_sem]; rfl) (fun hc => ?_) (fun hc => ?_)
 rotate_left
 ·simp at hc
 refine AW.skip ?_
 simp only [andThen]
 refine AW.seq ?_
 refine AW.block ?_
 refine AW.rT (by rfl) fun K hK => ?_
 simp -implicitDefEqProofs only [go_sem, ↓reduceIte, Nat.reduceAdd, Nat.reduceEqDiff, Nat.reduceLeDiff, he1, he3, hc1, encMs, List.length_map]
 refine hK _ ?_; clear hK K
 cases hk : (e.name == k) with
 | true =>
  have FF := first_at (z := zMs) he g2 hk
  refine AW.rT (by rfl) fun K hK => ?_
  simp -implicitDefEqProofs only [go_sem, ↓reduceIte, Nat.reduceAdd, Nat.reduceEqDiff, hk]
  refine hK _ ?_; clear hK K
  refine AW.cond _ (by simp -implicitDefEqProofs only [go_sem]; rfl) (fun hc => ?_) (fun hc => ?_)
  rotate_left
  ·simp at hc
  refine AW.rT (by rfl) fun K hK => ?_
  simp -implicitDefEqProofs only [go_sem, ↓reduceIte, Nat.reduceAdd, Nat.reduceEqDiff, Nat.reduceLeDiff]
  refine hK _ ?_; clear hK K
  refine AW.ret ?_
  simp -implicitDefEqProofs only [go_sem, ↓reduceIte, Nat.reduceAdd, Nat.reduceEqDiff, Nat.reduceLeDiff, FF, encMs]
 | false =>
  refine AW.rT (by rfl) fun K hK => ?_
  simp -implicitDefEqProofs only [go_sem, ↓reduceIte, Nat.reduceAdd, Nat.reduceEqDiff, hk]
  refine hK _ ?_; clear hK K
  refine AW.cond _ (by simp -implicitDefEqProofs only [go_sem]; rfl) (fun hc => ?_) (fun hc => ?_)
  ·simp at hc
  refine AW.skip ?_
  simp only [andThen, inBlk]
  have w1 : IntKind.wrap .i64 ((i : Int) + 1) = ((i + 1 : Nat) : Int) := by rw [w64] <;> omega
  refine AW.rE (by rfl) fun K hK => ?_
  simp -implicitDefEqProofs only [go_sem, ↓reduceIte, Nat.reduceAdd, Nat.reduceEqDiff, w1]
  refine hK _ ?_; clear hK K
  refine ⟨i + 1, ⟨by omega, all_next he g2 (by rw [hk]; rfl)⟩, by omega, ?_⟩
  refine Ghost.sub ?_ ?_ <;> simp -implicitDefEqProofs only [go_sem, ↓reduceIte, Nat.reduceEqDiff, reduceCtorEq, List.forall_mem_cons, List.not_mem_nil, false_implies, implies_true, and_self, List.all_cons, List.all_nil, Nat.reduceLT, labsInL, AV.labsIn]
def st30 (s : Sc) (k : List UInt8) (i : Nat) : St := ⟨ofL [(1, .p (.str k)), (2, .ptr 0 0 0), (4, .ptr 1 0 0), (6, .p (.int .i64 (i : Int)))], ofH [(0, .row 4 [cellsSc s]), (1, .row 3 [[.p (.str []), .ex [], .ex []]])], 2⟩
set_option maxRecDepth 100000 in
theorem ref07_Message (s : Sc) (k : List UInt8) (hl : s.msgs.length ≤ 1000000) : PFn Tryd.prog 55 [.agg (encSc s), .str k] (.tuple [.agg (encMs (firstP (fun x => x.name == k) zMs s.msgs).1), .bool (firstP (fun x => x.name == k) zMs s.msgs).2]) := by
 refine PFn.of Tryd.func55 rfl (by decide) Tryd.ntmps55 Tryd.results55 (Nat.le_of_ble_eq_true rfl) ?_
 simp only [argsT, encSc]
 refine AW.rT (by rfl) fun K hK => ?_
 simp -implicitDefEqProofs only [go_sem, Nat.reduceAdd]
 refine hK _ ?_; clear hK K
 refine AW.seq ?_
 refine AW.rT (by rfl) fun K hK => ?_
 simp -implicitDefEqProofs only [go_sem, Nat.reduceAdd]
 refine hK _ ?_; clear hK K
 refine AW.block ?_
 refine AW.loop (st30 s k) (fun i => i ≤ s.msgs.length ∧ (s.msgs.take i).all (fun x => !(x.name == k)) = true) (fun i => s.msgs.length - i) 0 ?_ (by simp) fun i hi => ?_
 ·simp only [st30, cellsSc]
  refine Ghost.sub ?_ ?_ <;> simp -implicitDefEqProofs only [go_sem, ↓reduceIte, Nat.reduceEqDiff, reduceCtorEq, List.forall_mem_cons, List.not_mem_nil, false_implies, implies_true, and_self, List.all_cons, List.all_nil, Nat.reduceLT, labsInL, AV.labsIn]
  rfl
 obtain ⟨g1, g2⟩ := hi
 simp only [st30, cellsSc]
 refine AW.seq ?_
 by_cases hil : i < s.msgs.length
 case neg =>
  have hc1 : ((i : Int) < (s.msgs.length : Int)) = False := by simp; omega
  rw [List.take_of_length_le (by omega)] at g2
  have FF := first_not (z := zMs) g2
  refine AW.rT (by rfl) fun K hK => ?_
  simp -implicitDefEqProofs only [go_sem, ↓reduceIte, Nat.reduceAdd, Nat.reduceEqDiff, hc1, List.length_map]
  refine hK _ ?_; clear hK K
  refine AW.cond _ (by simp -implicitDefEqProofs only [go_sem]; rfl) (fun hc => ?_) (fun hc => ?_)
  ·simp at hc
  refine AW.exit ?_
  simp only [andThen, inBlk, ↓reduceIte]
  refine AW.rT (by rfl) fun K hK => ?_
  simp -implicitDefEqProofs only [go_sem, ↓reduceIte, Nat.reduceAdd, Nat.reduceEqDiff, Nat.reduceLeDiff]
  refine hK _ ?_; clear hK K
  refine AW.ret ?_
  simp -implicitDefEqProofs only [go_sem, ↓reduceIte, Nat.reduceAdd, Nat.reduceEqDiff, Nat.reduceLeDiff, FF]
  rfl
 obtain ⟨e, he⟩ : ∃ e, s.msgs[i]? = some e := ⟨_, List.getElem?_eq_getElem hil⟩
 have ⟨he1, he2, he3⟩ := at_map' encMs he
 have hc1 : ((i : Int) < (s.msgs.length : Int)) = True := by simp; omega
 refine AW.rT (by rfl) fun K hK => ?_
 simp -implicitDefEqProofs only [go_sem, ↓reduceIte, Nat.reduceAdd, Nat.reduceEqDiff, hc1, List.length_map]
 refine hK _ ?_; clear hK K
 refine AW.cond _ (by simp -implicitDefEqProofs only [go_sem]; rfl) (fun hc => ?_) (fun hc => ?_)
 rotate_left
 ·simp at hc
 refine AW.skip ?_
 simp only [andThen]
 refine AW.seq ?_
 refine AW.block ?_
 cases hk : (e.name == k) with
 | true =>
  have FF := first_at (z := zMs) he g2 hk
  refine AW.rT (by rfl) fun K hK => ?_
  simp -implicitDefEqProofs only [go_sem, ↓reduceIte, Nat.reduceAdd, Nat.reduceEqDiff, he1, he3, hc1, encMs, List.length_map, hk]
  refine hK _ ?_; clear hK K
  refine AW.cond _ (by simp -implicitDefEqProofs only [go_sem]; rfl) (fun hc => ?_) (fun hc => ?_)
  rotate_left
  ·simp at hc
  refine AW.rT (by rfl) fun K hK => ?_
  simp -implicitDefEqProofs only [go_sem, ↓reduceIte, Nat.reduceAdd, Nat.reduceEqDiff, Nat.reduceLeDiff, he1, he3, hc1, encMs, List.length_map]
  refine hK _ ?_; clear hK K
  refine AW.ret ?_
  simp -implicitDefEqProofs only [go_sem, ↓reduceIte, Nat.reduceAdd, Nat.reduceEqDiff, Nat.reduceLeDiff, FF, encMs]
 | false =>
  refine AW.rT (by rfl) fun K hK => ?_
  simp -implicitDefEqProofs only [go_sem, ↓reduceIte, Nat.reduceAdd, Nat.reduceEqDiff, he1, he3, hc1, encMs, List.length_map, hk]
  refine hK _ ?_; clear hK K
  refine AW.cond _ (by simp -implicitDefEqProofs only [go_sem]; rfl) (fun hc => ?_) (fun hc => ?_)
  ·simp at hc
  refine AW.skip ?_
  simp only [andThen, inBlk]
  have w1 : IntKind.wrap .i64 ((i : Int) + 1) = ((i + 1 : Nat) : Int) := by rw [w64] <;> omega
  refine AW.rE (by rfl) fun K hK => ?_
  simp -implicitDefEqProofs only [go_sem, ↓reduceIte, Nat.reduceAdd, Nat.reduceEqDiff, w1]
  refine hK _ ?_; clear hK K
  refine ⟨i + 1, ⟨by omega, all_next he g2 (by rw [hk]; rfl)⟩, by omega, ?_⟩
  refine Ghost.sub ?_ ?_ <;> simp -implicitDefEqProofs only [go_sem, ↓reduceIte, Nat.reduceEqDiff, List.forall_mem_cons, List.not_mem_nil, false_implies, implies_true, and_self, List.all_cons, List.all_nil, Nat.reduceLT, labsInL, AV.labsIn]
def st31 (s : Sc) (k : List UInt8) (i : Nat) : St := ⟨ofL [(1, .p (.str k)), (2, .ptr 0 0 0), (4, .ptr 1 0 0), (9, .p (.slice (s.enums.map encEn))), (10, .p (.int .i64 (s.enums.length : Int))), (11, .p (.int .i64 (i : Int)))], ofH [(0, .row 4 [cellsSc s]), (1, .row 2 [[.p (.str []), .ex []]])], 2⟩
set_option maxRecDepth 100000 in
theorem check_Enum (s : Sc) (k : List UInt8) (hl : s.enums.length ≤ 1000000) : PFn Tryd.prog 143 [.agg (encSc s), .str k] (.tuple [.agg (encEn (firstP (fun x => x.name == k) zEn s.enums).1), .bool (firstP (fun x => x.name == k) zEn s.enums).2]) := by
 refine PFn.of Tryd.func143 rfl (by decide) Tryd.ntmps143 Tryd.results143 (Nat.le_of_ble_eq_true rfl) ?_
 simp only [argsT, encSc]
 refine AW.rT (by rfl) fun K hK => ?_
 simp -implicitDefEqProofs only [go_sem, Nat.reduceAdd]
 refine hK _ ?_; clear hK K
 refine AW.seq ?_
 refine AW.rT (by rfl) fun K hK => ?_
 simp -implicitDefEqProofs only [go_sem, ↓reduceIte, Nat.reduceAdd, Nat.reduceEqDiff, reduceCtorEq, List.length_map]
 refine hK _ ?_; clear hK K
 refine AW.block ?_
 refine AW.loop (st31 s k) (fun i => i ≤ s.enums.length ∧ (s.enums.take i).all (fun x => !(x.name == k)) = true) (fun i => s.enums.length - i) 0 ?_ (by simp) fun i hi => ?_
 ·simp only [st31, cellsSc]
  refine Ghost.sub ?_ ?_ <;> simp -implicitDefEqProofs only [go_sem, ↓reduceIte, Nat.reduceEqDiff, reduceCtorEq, List.forall_mem_cons, List.not_mem_nil, false_implies, implies_true, and_self, List.all_cons, List.all_nil, Nat.reduceLT, labsInL, AV.labsIn]
  rfl
 obtain ⟨g1, g2⟩ := hi
 simp only [st31, cellsSc]
 by_cases hil : i < s.enums.length
 case neg =>
  have hc1 : ((i : Int) < (s.enums.length : Int)) = False := by simp; omega
  rw [List.take_of_length_le (by omega)] at g2
  have FF := first_not (z := zEn) g2
  refine AW.rT (by rfl) fun K hK => ?_
  simp -implicitDefEqProofs only [go_sem, ↓reduceIte, Nat.reduceAdd, Nat.reduceEqDiff, hc1]
  refine hK _ ?_; clear hK K
  refine AW.seq ?_
  refine AW.cond _ (by simp -implicitDefEqProofs only [go_sem]; rfl) (fun hc => ?_) (fun hc => ?_)
  ·simp at hc
  refine AW.exit ?_
  simp only [andThen, inBlk, ↓reduceIte]
  refine AW.rT (by rfl) fun K hK => ?_
  simp -implicitDefEqProofs only [go_sem, ↓reduceIte, Nat.reduceAdd, Nat.reduceEqDiff, Nat.reduceLeDiff]
  refine hK _ ?_; clear hK K
  refine AW.ret ?_
  simp -implicitDefEqProofs only [go_sem, ↓reduceIte, Nat.reduceAdd, Nat.reduceEqDiff, Nat.reduceLeDiff, FF]
  rfl
 obtain ⟨e, he⟩ : ∃ e, s.enums[i]? = some e := ⟨_, List.getElem?_eq_getElem hil⟩
 have ⟨he1, he2, he3⟩ := at_map' encEn he
 have hc1 : ((i : Int) < (s.enums.length : Int)) = True := by simp; omega
 refine AW.rT (by rfl) fun K hK => ?_
 simp -implicitDefEqProofs only [go_sem, ↓reduceIte, Nat.reduceAdd, Nat.reduceEqDiff, hc1]
 refine hK _ ?_; clear hK K
 refine AW.seq ?_
 refine AW.cond _ (by simp -implicitDefEqProofs only [go_sem]; rfl) (fun hc => ?_) (fun hc => ?_)
 rotate_left
 ·simp at hc
 refine AW.skip ?_
 simp only [andThen]
 refine AW.seq ?_
 refine AW.block ?_
 refine AW.rT (by rfl) fun K hK => ?_
 simp -implicitDefEqProofs only [go_sem, ↓reduceIte, Nat.reduceAdd, Nat.reduceEqDiff, Nat.reduceLeDiff, he1, he3, hc1, encEn, List.length_map]
 refine hK _ ?_; clear hK K
 cases hk : (e.name == k) with
 | true =>
  have FF := first_at (z := zEn) he g2 hk
  refine AW.rT (by rfl) fun K hK => ?_
  simp -implicitDefEqProofs only [go_sem, ↓reduceIte, Nat.reduceAdd, Nat.reduceEqDiff, hk]
  refine hK _ ?_; clear hK K
  refine AW.cond _ (by simp -implicitDefEqProofs only [go_sem]; rfl) (fun hc => ?_) (fun hc => ?_)
  rotate_left
  ·simp at hc
  refine AW.rT (by rfl) fun K hK => ?_
  simp -implicitDefEqProofs only [go_sem, ↓reduceIte, Nat.reduceAdd, Nat.reduceEqDiff, Nat.reduceLeDiff]
  refine hK _ ?_; clear hK K
  refine AW.ret ?_
  simp -implicitDefEqProofs only [go_sem, ↓reduceIte, Nat.reduceAdd, Nat.reduceEqDiff, Nat.reduceLeDiff, FF, encEn]
 | false =>
  refine AW.rT (by rfl) fun K hK => ?_
  simp -implicitDefEqProofs only [go_sem, ↓reduceIte, Nat.reduceAdd, Nat.reduceEqDiff, hk]
  refine hK _ ?_; clear hK K
  refine AW.cond _ (by simp -implicitDefEqProofs only [go_sem]; rfl) (fun hc => ?_) (fun hc => ?_)
  ·simp at hc
  refine AW.skip ?_
  simp only [andThen, inBlk]
  have w1 : IntKind.wrap .i64 ((i : Int) + 1) = ((i + 1 : Nat) : Int) := by rw [w64] <;> omega
  refine AW.rE (by rfl) fun K hK => ?_
  simp -implicitDefEqProofs only [go_sem, ↓reduceIte, Nat.reduceAdd, Nat.reduceEqDiff, w1]
  refine hK _ ?_; clear hK K
  refine ⟨i + 1, ⟨by omega, all_next he g2 (by rw [hk]; rfl)⟩, by omega, ?_⟩
  refine Ghost.sub ?_ ?_ <;> simp -implicitDefEqProofs only [go_sem, ↓reduceIte, Nat.reduceEqDiff, reduceCtorEq, List.forall_mem_cons, List.not_mem_nil, false_implies, implies_true, and_self, List.all_cons, List.all_nil, Nat.reduceLT, labsInL, AV.labsIn]
def st32 (s : Sc) (k : List UInt8) (i : Nat) : St := ⟨ofL [(1, .p (.str k)), (2, .ptr 0 0 0), (4, .ptr 1 0 0), (6, .p (.int .i64 (i : Int)))], ofH [(0, .row 4 [cellsSc s]), (1, .row 2 [[.p (.str []), .ex []]])], 2⟩
set_option maxRecDepth 100000 in
theorem ref07_Enum (s : Sc) (k : List UInt8) (hl : s.enums.length ≤ 1000000) : PFn Tryd.prog 145 [.agg (encSc s), .str k] (.tuple [.agg (encEn (firstP (fun x => x.name == k) zEn s.enums).1), .bool (firstP (fun x => x.name == k) zEn s.enums).2]) := by
 refine PFn.of Tryd.func145 rfl (by decide) Tryd.ntmps145 Tryd.results145 (Nat.le_of_ble_eq_true rfl) ?_
 simp only [argsT, encSc]
 refine AW.rT (by rfl) fun K hK => ?_
 simp -implicitDefEqProofs only [go_sem, Nat.reduceAdd]
 refine hK _ ?_; clear hK K
 refine AW.seq ?_
 refine AW.rT (by rfl) fun K hK => ?_
 simp -implicitDefEqProofs only [go_sem, Nat.reduceAdd]
 refine hK _ ?_; clear hK K
 refine AW.block ?_
 refine AW.loop (st32 s k) (fun i => i ≤ s.enums.length ∧ (s.enums.take i).all (fun x => !(x.name == k)) = true) (fun i => s.enums.length - i) 0 ?_ (by simp) fun i hi => ?_
 ·simp only [st32, cellsSc]
  refine Ghost.sub ?_ ?_ <;> simp -implicitDefEqProofs only [go_sem, ↓reduceIte, Nat.reduceEqDiff, reduceCtorEq, List.forall_mem_cons, List.not_mem_nil, false_implies, implies_true, and_self, List.all_cons, List.all_nil, Nat.reduceLT, labsInL, AV.labsIn]
  rfl
 obtain ⟨g1, g2⟩ := hi
 simp only [st32, cellsSc]
 refine AW.seq ?_
 by_cases hil : i < s.enums.length
 case neg =>
  have hc1 : ((i : Int) < (s.enums.length : Int)) = False := by simp; omega
  rw [List.take_of_length_le (by omega)] at g2
  have FF := first_not (z := zEn) g2
  refine AW.rT (by rfl) fun K hK => ?_
  simp -implicitDefEqProofs only [go_sem, ↓reduceIte, Nat.reduceAdd, Nat.reduceEqDiff, hc1, List.length_map]
  refine hK _ ?_; clear hK K
  refine AW.cond _ (by simp -implicitDefEqProofs only [go_sem]; rfl) (fun hc => ?_) (fun hc => ?_)
  ·simp at hc
  refine AW.exit ?_
  simp only [andThen, inBlk, ↓reduceIte]
  refine AW.rT (by rfl) fun K hK => ?_
  simp -implicitDefEqProofs only [go_sem, ↓reduceIte, Nat.reduceAdd, Nat.reduceEqDiff, Nat.reduceLeDiff]
  refine hK _ ?_; clear hK K
  refine AW.ret ?_
  simp -implicitDefEqProofs only [go_sem, ↓reduceIte, Nat.reduceAdd, Nat.reduceEqDiff, Nat.reduceLeDiff, FF]
  rfl
 obtain ⟨e, he⟩ : ∃ e, s.enums[i]? = some e := ⟨_, List.getElem?_eq_getElem hil⟩
 have ⟨he1, he2, he3⟩ := at_map' encEn he
 have hc1 : ((i : Int) < (s.enums.length : Int)) = True := by simp; omega
 refine AW.rT (by rfl) fun K hK => ?_
 simp -implicitDefEqProofs only [go_sem, ↓reduceIte, Nat.reduceAdd, Nat.reduceEqDiff, hc1, List.length_map]
 refine hK _ ?_; clear hK K
 refine AW.cond _ (by simp -implicitDefEqProofs only [go_sem]; rfl) (fun hc => ?_) (fun hc => ?_)
 rotate_left
 ·simp at hc
 refine AW.skip ?_
 simp only [andThen]
 refine AW.seq ?_
 refine AW.block ?_
 cases hk : (e.name == k) with
 | true =>
  have FF := first_at (z := zEn) he g2 hk
  refine AW.rT (by rfl) fun K hK => ?_
  simp -implicitDefEqProofs only [go_sem, ↓reduceIte, Nat.reduceAdd, Nat.reduceEqDiff, he1, he3, hc1, encEn, List.length_map, hk]
  refine hK _ ?_; clear hK K
  refine AW.cond _ (by simp -implicitDefEqProofs only [go_sem]; rfl) (fun hc => ?_) (fun hc => ?_)
  rotate_left
  ·simp at hc
  refine AW.rT (by rfl) fun K hK => ?_
  simp -implicitDefEqProofs only [go_sem, ↓reduceIte, Nat.reduceAdd, Nat.reduceEqDiff, Nat.reduceLeDiff, he1, he3, hc1, encEn, List.length_map]
  refine hK _ ?_; clear hK K
  refine AW.ret ?_
  simp -implicitDefEqProofs only [go_sem, ↓reduceIte, Nat.reduceAdd, Nat.reduceEqDiff, Nat.reduceLeDiff, FF, encEn]
 | false =>
  refine AW.rT (by rfl) fun K hK => ?_
  simp -implicitDefEqProofs only [go_sem, ↓reduceIte, Nat.reduceAdd, Nat.reduceEqDiff, he1, he3, hc1, encEn, List.length_map, hk]
  refine hK _ ?_; clear hK K
  refine AW.cond _ (by simp -implicitDefEqProofs only [go_sem]; rfl) (fun hc => ?_) (fun hc => ?_)
  ·simp at hc
  refine AW.skip ?_
  simp only [andThen, inBlk]
  have w1 : IntKind.wrap .i64 ((i : Int) + 1) = ((i + 1 : Nat) : Int) := by rw [w64] <;> omega
  refine AW.rE (by rfl) fun K hK => ?_
  simp -implicitDefEqProofs only [go_sem, ↓reduceIte, Nat.reduceAdd, Nat.reduceEqDiff, w1]
  refine hK _ ?_; clear hK K
  refine ⟨i + 1, ⟨by omega, all_next he g2 (by rw [hk]; rfl)⟩, by omega, ?_⟩
  refine Ghost.sub ?_ ?_ <;> simp -implicitDefEqProofs only [go_sem, ↓reduceIte, Nat.reduceEqDiff, List.forall_mem_cons, List.not_mem_nil, false_implies, implies_true, and_self, List.all_cons, List.all_nil, Nat.reduceLT, labsInL, AV.labsIn]
def st37 (s : Ms) (k : Int) (i : Nat) : St := ⟨ofL [(1, .p (.int .i64 k)), (2, .ptr 0 0 0), (4, .ptr 1 0 0), (9, .p (.slice (s.fields.map encFd))), (10, .p (.int .i64 (s.fields.length : Int))), (11, .p (.int .i64 (i : Int)))], ofH [(0, .row 3 [cellsMs s]), (1, .row 5 [[.p (.str []), .p (.int .i64 0), .p (.int .i64 0), .p (.int .i64 0), .p (.str [])]])], 2⟩
set_option maxRecDepth 100000 in
theorem check_Field (s : Ms) (k : Int) (hl : s.fields.length ≤ 1000000) : PFn Tryd.prog 67 [.agg (encMs s), .int .i64 k] (.tuple [.agg (encFd (firstP (fun x => x.tag == k) zFd s.fields).1), .bool (firstP (fun x => x.tag == k) zFd s.fields).2]) := by
 refine PFn.of Tryd.func67 rfl (by decide) Tryd.ntmps67 Tryd.results67 (Nat.le_of_ble_eq_true rfl) ?_
 simp only [argsT, encMs]
 refine AW.rT (by rfl) fun K hK => ?_
 simp -implicitDefEqProofs only [go_sem, Nat.reduceAdd]
 refine hK _ ?_; clear hK K
 refine AW.seq ?_
 refine AW.rT (by rfl) fun K hK => ?_
 simp -implicitDefEqProofs only [go_sem, ↓reduceIte, Nat.reduceAdd, Nat.reduceEqDiff, reduceCtorEq, List.length_map]
 refine hK _ ?_; clear hK K
 refine AW.block ?_
 refine AW.loop (st37 s k) (fun i => i ≤ s.fields.length ∧ (s.fields.take i).all (fun x => !(x.tag == k)) = true) (fun i => s.fields.length - i) 0 ?_ (by simp) fun i hi => ?_
 ·simp only [st37, cellsMs]
  refine Ghost.sub ?_ ?_ <;> simp -implicitDefEqProofs only [go_sem, ↓reduceIte, Nat.reduceEqDiff, reduceCtorEq, List.forall_mem_cons, List.not_mem_nil, false_implies, implies_true, and_self, List.all_cons, List.all_nil, Nat.reduceLT, labsInL, AV.labsIn]
  rfl
 obtain ⟨g1, g2⟩ := hi
 simp only [st37, cellsMs]
 by_cases hil : i < s.fields.length
 case neg =>
  have hc1 : ((i : Int) < (s.fields.length : Int)) = False := by simp; omega
  rw [List.take_of_length_le (by omega)] at g2
  have FF := first_not (z := zFd) g2
  refine AW.rT (by rfl) fun K hK => ?_
  simp -implicitDefEqProofs only [go_sem, ↓reduceIte, Nat.reduceAdd, Nat.reduceEqDiff, hc1]
  refine hK _ ?_; clear hK K
  refine AW.seq ?_
  refine AW.cond _ (by simp -implicitDefEqProofs only [go_sem]; rfl) (fun hc => ?_) (fun hc => ?_)
  ·simp at hc
  refine AW.exit ?_
  simp only [andThen, inBlk, ↓reduceIte]
  refine AW.rT (by rfl) fun K hK => ?_
  simp -implicitDefEqProofs only [go_sem, ↓reduceIte, Nat.reduceAdd, Nat.reduceEqDiff, Nat.reduceLeDiff]
  refine hK _ ?_; clear hK K
  refine AW.ret ?_
  simp -implicitDefEqProofs only [go_sem, ↓reduceIte, Nat.reduceAdd, Nat.reduceEqDiff, Nat.reduceLeDiff, FF]
  rfl
 obtain ⟨e, he⟩ : ∃ e, s.fields[i]? = some e := ⟨_, List.getElem?_eq_getElem hil⟩
 have ⟨he1, he2, he3⟩ := at_map' encFd he
 have hc1 : ((i : Int) < (s.fields.length : Int)) = True := by simp; omega
 refine AW.rT (by rfl) fun K hK => ?_
 simp -implicitDefEqProofs only [go_sem, ↓reduceIte, Nat.reduceAdd, Nat.reduceEqDiff, hc1]
 refine hK _ ?_; clear hK K
 refine AW.seq ?_
 refine AW.cond _ (by simp -implicitDefEqProofs only [go_sem]; rfl) (fun hc => ?_) (fun hc => ?_)
 rotate_left
 ·simp at hc
 refine AW.skip ?_
 simp only [andThen]
 refine AW.seq ?_
 refine AW.block ?_
 refine AW.rT (by rfl) fun K hK => ?_
 simp -implicitDefEqProofs only [go_sem, ↓reduceIte, Nat.reduceAdd, Nat.reduceEqDiff, Nat.reduceLeDiff, he1, he3, hc1, encFd, List.length_map]
 refine hK _ ?_; clear hK K
 cases hk : (e.tag == k) with
 | true =>
  have FF := first_at (z := zFd) he g2 hk
  refine AW.rT (by rfl) fun K hK => ?_
  simp -implicitDefEqProofs only [go_sem, ↓reduceIte, Nat.reduceAdd, Nat.reduceEqDiff, hk]
  refine hK _ ?_; clear hK K
  refine AW.cond _ (by simp -implicitDefEqProofs only [go_sem]; rfl) (fun hc => ?_) (fun hc => ?_)
  rotate_left
  ·simp at hc
  refine AW.rT (by rfl) fun K hK => ?_
  simp -implicitDefEqProofs only [go_sem, ↓reduceIte, Nat.reduceAdd, Nat.reduceEqDiff, Nat.reduceLeDiff]
  refine hK _ ?_; clear hK K
  refine AW.ret ?_
  simp -implicitDefEqProofs only [go_sem, ↓reduceIte, Nat.reduceAdd, Nat.reduceEqDiff, Nat.reduceLeDiff, FF, encFd]
 | false =>
  refine AW.rT (by rfl) fun K hK => ?_
  simp -implicitDefEqProofs only [go_sem, ↓reduceIte, Nat.reduceAdd, Nat.reduceEqDiff, hk]
  refine hK _ ?_; clear hK K
  refine AW.cond _ (by simp -implicitDefEqProofs only [go_sem]; rfl) (fun hc => ?_) (fun hc => ?_)
  ·simp at hc
  refine AW.skip ?_
  simp only [andThen, inBlk]
  have w1 : IntKind.wrap .i64 ((i : Int) + 1) = ((i + 1 : Nat) : Int) := by rw [w64] <;> omega
  refine AW.rE (by rfl) fun K hK => ?_
  simp -implicitDefEqProofs only [go_sem, ↓reduceIte, Nat.reduceAdd, Nat.reduceEqDiff, w1]
  refine hK _ ?_; clear hK K
  refine ⟨i + 1, ⟨by omega, all_next he g2 (by rw [hk]; rfl)⟩, by omega, ?_⟩
  refine Ghost.sub ?_ ?_ <;> simp -implicitDefEqProofs only [go_sem, ↓reduceIte, Nat.reduceEqDiff, reduceCtorEq, List.forall_mem_cons, List.not_mem_nil, false_implies, implies_true, and_self, List.all_cons, List.all_nil, Nat.reduceLT, labsInL, AV.labsIn]
def st38 (s : Ms) (k : Int) (i : Nat) : St := ⟨ofL [(1, .p (.int .i64 k)), (2, .ptr 0 0 0), (4, .ptr 1 0 0), (6, .p (.int .i64 (i : Int)))], ofH [(0, .row 3 [cellsMs s]), (1, .row 5 [[.p (.str []), .p (.int .i64 0), .p (.int .i64 0), .p (.int .i64 0), .p (.str [])]])], 2⟩
set_option maxRecDepth 100000 in
theorem ref07_Field (s : Ms) (k : Int) (hl : s.fields.length ≤ 1000000) : PFn Tryd.prog 27 [.agg (encMs s), .int .i64 k] (.tuple [.agg (encFd (firstP (fun x => x.tag == k) zFd s.fields).1), .bool (firstP (fun x => x.tag == k) zFd s.fields).2]) := by
 refine PFn.of Tryd.func27 rfl (by decide) Tryd.ntmps27 Tryd.results27 (Nat.le_of_ble_eq_true rfl) ?_
 simp only [argsT, encMs]
 refine AW.rT (by rfl) fun K hK => ?_
 simp -implicitDefEqProofs only [go_sem, Nat.reduceAdd]
 refine hK _ ?_; clear hK K
 refine AW.seq ?_
 refine AW.rT (by rfl) fun K hK => ?_
 simp -implicitDefEqProofs only [go_sem, Nat.reduceAdd]
 refine hK _ ?_; clear hK K
 refine AW.block ?_
 refine AW.loop (st38 s k) (fun i => i ≤ s.fields.length ∧ (s.fields.take i).all (fun x => !(x.tag == k)) = true) (fun i => s.fields.length - i) 0 ?_ (by simp) fun i hi => ?_
 ·simp only [st38, cellsMs]
  refine Ghost.sub ?_ ?_ <;> simp -implicitDefEqProofs only [go_sem, ↓reduceIte, Nat.reduceEqDiff, reduceCtorEq, List.forall_mem_cons, List.not_mem_nil, false_implies, implies_true, and_self, List.all_cons, List.all_nil, Nat.reduceLT, labsInL, AV.labsIn]
  rfl
 obtain ⟨g1, g2⟩ := hi
 simp only [st38, cellsMs]
 refine AW.seq ?_
 by_cases hil : i < s.fields.length
 case neg =>
  have hc1 : ((i : Int) < (s.fields.length : Int)) = False := by simp; omega
  rw [List.take_of_length_le (by omega)] at g2
  have FF := first_not (z := zFd) g2
  refine AW.rT (by rfl) fun K hK => ?_
  simp -implicitDefEqProofs only [go_sem, ↓reduceIte, Nat.reduceAdd, Nat.reduceEqDiff, hc1, List.length_map]
  refine hK _ ?_; clear hK K
  refine AW.cond _ (by simp -implicitDefEqProofs only [go_sem]; rfl) (fun hc => ?_) (fun hc => ?_)
  ·simp at hc
  refine AW.exit ?_
  simp only [andThen, inBlk, ↓reduceIte]
  refine AW.rT (by rfl) fun K hK => ?_
  simp -implicitDefEqProofs only [go_sem, ↓reduceIte, Nat.reduceAdd, Nat.reduceEqDiff, Nat.reduceLeDiff]
  refine hK _ ?_; clear hK K
  refine AW.ret ?_
  simp -implicitDefEqProofs only [go_sem, ↓reduceIte, Nat.reduceAdd, Nat.reduceEqDiff, Nat.reduceLeDiff, FF]
  rfl
 obtain ⟨e, he⟩ : ∃ e, s.fields[i]? = some e := ⟨_, List.getElem?_eq_getElem hil⟩
 have ⟨he1, he2, he3⟩ := at_map' encFd he
 have hc1 : ((i : Int) < (s.fields.length : Int)) = True := by simp; omega
 refine AW.rT (by rfl) fun K hK => ?_
 simp -implicitDefEqProofs only [go_sem, ↓reduceIte, Nat.reduceAdd, Nat.reduceEqDiff, hc1, List.length_map]
 refine hK _ ?_; clear hK K
 refine AW.cond _ (by simp -implicitDefEqProofs only [go_sem]; rfl) (fun hc => ?_) (fun hc => ?_)
 rotate_left
 ·simp at hc
 refine AW.skip ?_
 simp only [andThen]
 refine AW.seq ?_
 refine AW.block ?_
 cases hk : (e.tag == k) with
 | true =>
  have FF := first_at (z := zFd) he g2 hk
  refine AW.rT (by rfl) fun K hK => ?_
  simp -implicitDefEqProofs only [go_sem, ↓reduceIte, Nat.reduceAdd, Nat.reduceEqDiff, he1, he3, hc1, encFd, List.length_map, hk]
  refine hK _ ?_; clear hK K
  refine AW.cond _ (by simp -implicitDefEqProofs only [go_sem]; rfl) (fun hc => ?_) (fun hc => ?_)
  rotate_left
  ·simp at hc
  refine AW.rT (by rfl) fun K hK => ?_
  simp -implicitDefEqProofs only [go_sem, ↓reduceIte, Nat.reduceAdd, Nat.reduceEqDiff, Nat.reduceLeDiff, he1, he3, hc1, encFd, List.length_map]
  refine hK _ ?_; clear hK K
  refine AW.ret ?_
  simp -implicitDefEqProofs only [go_sem, ↓reduceIte, Nat.reduceAdd, Nat.reduceEqDiff, Nat.reduceLeDiff, FF, encFd]
 | false =>
  refine AW.rT (by rfl) fun K hK => ?_
  simp -implicitDefEqProofs only [go_sem, ↓reduceIte, Nat.reduceAdd, Nat.reduceEqDiff, he1, he3, hc1, encFd, List.length_map, hk]
  refine hK _ ?_; clear hK K
  refine AW.cond _ (by simp -implicitDefEqProofs only [go_sem]; rfl) (fun hc => ?_) (fun hc => ?_)
  ·simp at hc
  refine AW.skip ?_
  simp only [andThen, inBlk]
  have w1 : IntKind.wrap .i64 ((i : Int) + 1) = ((i + 1 : Nat) : Int) := by rw [w64] <;> omega
  refine AW.rE (by rfl) fun K hK => ?_
  simp -implicitDefEqProofs only [go_sem, ↓reduceIte, Nat.reduceAdd, Nat.reduceEqDiff, w1]
  refine hK _ ?_; clear hK K
  refine ⟨i + 1, ⟨by omega, all_next he g2 (by rw [hk]; rfl)⟩, by omega, ?_⟩
  refine Ghost.sub ?_ ?_ <;> simp -implicitDefEqProofs only [go_sem, ↓reduceIte, Nat.reduceEqDiff, List.forall_mem_cons, List.not_mem_nil, false_implies, implies_true, and_self, List.all_cons, List.all_nil, Nat.reduceLT, labsInL, AV.labsIn]
end Go.Aw
namespace Go.Aw
open Go.Lib
set_option linter.unusedSimpArgs false
set_option linter.unusedVariables false
theorem sget (s : List UInt8) (i : Nat) : (⟨⟨s⟩⟩ : ByteArray).get! i = s.getD i 0 := by
 show (⟨s⟩ : Array UInt8)[i]! = _
 simp [getElem!_def, List.getD]
 cases s[i]? <;> rfl
def bk (s : List UInt8) (i : Nat) : Nat := (s.getD i 0).toNat
theorem bk_lt (s : List UInt8) (i : Nat) : bk s i < 256 := (s.getD i 0).toNat_lt
theorem runeAt_eq (s : List UInt8) (p : Nat) : runeAt s p = decodeN (s.length - p) (bk s p) (bk s (p + 1)) (bk s (p + 2)) (bk s (p + 3)) := by
 unfold runeAt bk
 rw [decode_at, sget, sget, sget, sget]
 rfl
theorem bk_drop (s : List UInt8) (p i : Nat) : bk (s.drop p) i = bk s (p + i) := by
 unfold bk
 simp [List.getD, List.getElem?_drop]
theorem runeAt_drop (s : List UInt8) (p : Nat) : runeAt (s.drop p) 0 = runeAt s p := by
 rw [runeAt_eq, runeAt_eq, bk_drop, bk_drop, bk_drop, bk_drop, List.length_drop]
 rfl
theorem runeAt_wid (s : List UInt8) (p : Nat) : 1 ≤ (runeAt s p).2 ∧ (runeAt s p).2 ≤ 4 ∧ (runeAt s p).1 ≤ 1114111 := by
 rw [runeAt_eq]
 unfold decodeN
 repeat' split
 all_goals simp
 all_goals omega
theorem runeAt_in (s : List UInt8) (p : Nat) (h : p < s.length) : p + (runeAt s p).2 ≤ s.length := by
 rw [runeAt_eq]
 unfold decodeN
 repeat' split
 all_goals simp only
 all_goals omega
def good (s : List UInt8) (q : Nat) : Prop := q < s.length ∧ 128 ≤ bk s q ∧ bk s q ≤ 191
instance (s : List UInt8) (q : Nat) : Decidable (good s q) := by unfold good; infer_instance
def resN (r : Nat × Nat) : Int × Int × Bool := if r.1 = 65533 ∧ r.2 < 2 then (0, 0, false) else (r.1, r.2, true)
def vN (s : List UInt8) (p : Nat) (v : Int) : Nat → Int
 | 0 => v
 | k + 1 => 64 * vN s p v k + ((bk s (p + (k + 1)) : Int) - 128)
theorem vN_bound {s : List UInt8} {p : Nat} {v : Int} (h0 : 0 ≤ v) (h1 : v < 32) : ∀ k, (∀ j, 1 ≤ j → j ≤ k → good s (p + j)) → 0 ≤ vN s p v k ∧ vN s p v k < 32 * 64 ^ k
 | 0, _ => by simp [vN]; omega
 | k + 1, h => by
  have ih := vN_bound h0 h1 k fun j a b => h j a (by omega)
  have g := h (k + 1) (by omega) (Nat.le_refl _)
  unfold good at g
  rw [vN, Int.pow_succ]
  omega
theorem next_ascii {s : List UInt8} {p : Nat} (h : bk s p < 128) : resN (runeAt s p) = ((bk s p : Int), 1, true) := by
 rw [runeAt_eq]
 unfold decodeN
 rw [if_pos h]
 unfold resN
 rw [if_neg (by simp; omega)]
 rfl
theorem next_none {s : List UInt8} {p : Nat} (h : 128 ≤ bk s p) (h' : bk s p < 192 ∨ 248 ≤ bk s p) : resN (runeAt s p) = (0, 0, false) := by
 have hl := bk_lt s p
 rw [runeAt_eq]
 unfold decodeN
 rw [if_neg (by omega), if_neg (by omega), if_neg (by omega), if_neg (by omega)]
 rfl
theorem next_two {s : List UInt8} {p : Nat} (h : 192 ≤ bk s p) (h' : bk s p < 224) : resN (runeAt s p) = if good s (p + 1) then (if vN s p ((bk s p : Int) - 192) 1 < 128 then (0, 0, false) else (vN s p ((bk s p : Int) - 192) 1, 2, true)) else (0, 0, false) := by
 have e : vN s p ((bk s p : Int) - 192) 1 = 64 * ((bk s p : Int) - 192) + ((bk s (p + 1) : Int) - 128) := rfl
 have hl := bk_lt s (p + 1)
 rw [e, runeAt_eq]
 unfold decodeN
 rw [if_neg (by omega)]
 by_cases g : good s (p + 1)
 ·have g' : p + 1 < s.length ∧ 128 ≤ bk s (p + 1) ∧ bk s (p + 1) ≤ 191 := g
  rw [if_pos g, if_pos (by omega)]
  by_cases c : 64 * ((bk s p : Int) - 192) + ((bk s (p + 1) : Int) - 128) < 128
  ·rw [if_pos c, if_neg (by omega)]
   rfl
  ·rw [if_neg c, if_pos (by omega)]
   unfold resN
   rw [if_neg (by simp)]
   simp
   omega
 ·have g' : ¬ (p + 1 < s.length ∧ 128 ≤ bk s (p + 1) ∧ bk s (p + 1) ≤ 191) := g
  rw [if_neg g, if_neg (by omega), if_neg (by omega), if_neg (by omega)]
  rfl
theorem next_three {s : List UInt8} {p : Nat} (h : 224 ≤ bk s p) (h' : bk s p < 240) : resN (runeAt s p) = if good s (p + 1) ∧ good s (p + 2) then
  (if vN s p ((bk s p : Int) - 224) 2 < 2048 ∨ (55296 ≤ vN s p ((bk s p : Int) - 224) 2 ∧ vN s p ((bk s p : Int) - 224) 2 ≤ 57343) then (0, 0, false) else (vN s p ((bk s p : Int) - 224) 2, 3, true)) else (0, 0, false) := by
 have e : vN s p ((bk s p : Int) - 224) 2 = 64 * (64 * ((bk s p : Int) - 224) + ((bk s (p + 1) : Int) - 128)) + ((bk s (p + 2) : Int) - 128) := rfl
 have hl := bk_lt s (p + 1)
 have hl2 := bk_lt s (p + 2)
 rw [e, runeAt_eq]
 unfold decodeN
 rw [if_neg (by omega), if_neg (by omega)]
 by_cases g : good s (p + 1) ∧ good s (p + 2)
 ·have g' : (p + 1 < s.length ∧ 128 ≤ bk s (p + 1) ∧ bk s (p + 1) ≤ 191) ∧ (p + 2 < s.length ∧ 128 ≤ bk s (p + 2) ∧ bk s (p + 2) ≤ 191) := g
  rw [if_pos g, if_pos (by omega)]
  split
  ·rename_i c
   rw [if_neg (by omega)]
   unfold resN
   rw [if_neg (by simp)]
   simp
   omega
  ·rename_i c
   rw [if_pos (by omega)]
   rfl
 ·have g' : ¬ ((p + 1 < s.length ∧ 128 ≤ bk s (p + 1) ∧ bk s (p + 1) ≤ 191) ∧ (p + 2 < s.length ∧ 128 ≤ bk s (p + 2) ∧ bk s (p + 2) ≤ 191)) := g
  rw [if_neg g, if_neg (by omega), if_neg (by omega)]
  rfl
theorem next_four {s : List UInt8} {p : Nat} (h : 240 ≤ bk s p) (h' : bk s p < 248) : resN (runeAt s p) = if good s (p + 1) ∧ good s (p + 2) ∧ good s (p + 3) then
  (if vN s p ((bk s p : Int) - 240) 3 < 65536 ∨ 1114111 < vN s p ((bk s p : Int) - 240) 3 then (0, 0, false) else (vN s p ((bk s p : Int) - 240) 3, 4, true)) else (0, 0, false) := by
 have e : vN s p ((bk s p : Int) - 240) 3 = 64 * (64 * (64 * ((bk s p : Int) - 240) + ((bk s (p + 1) : Int) - 128)) + ((bk s (p + 2) : Int) - 128)) + ((bk s (p + 3) : Int) - 128) := rfl
 have hl := bk_lt s (p + 1)
 have hl2 := bk_lt s (p + 2)
 have hl3 := bk_lt s (p + 3)
 rw [e, runeAt_eq]
 unfold decodeN
 rw [if_neg (by omega), if_neg (by omega), if_neg (by omega)]
 by_cases g : good s (p + 1) ∧ good s (p + 2) ∧ good s (p + 3)
 ·have g' : (p + 1 < s.length ∧ 128 ≤ bk s (p + 1) ∧ bk s (p + 1) ≤ 191) ∧ (p + 2 < s.length ∧ 128 ≤ bk s (p + 2) ∧ bk s (p + 2) ≤ 191) ∧ (p + 3 < s.length ∧ 128 ≤ bk s (p + 3) ∧ bk s (p + 3) ≤ 191) := g
  rw [if_pos g, if_pos (by omega)]
  split
  ·rename_i c
   rw [if_neg (by omega)]
   unfold resN
   rw [if_neg (by simp)]
   simp
   omega
  ·rename_i c
   rw [if_pos (by omega)]
   rfl
 ·have g' : ¬ ((p + 1 < s.length ∧ 128 ≤ bk s (p + 1) ∧ bk s (p + 1) ≤ 191) ∧ (p + 2 < s.length ∧ 128 ≤ bk s (p + 2) ∧ bk s (p + 2) ≤ 191) ∧ (p + 3 < s.length ∧ 128 ≤ bk s (p + 3) ∧ bk s (p + 3) ≤ 191)) := g
  rw [if_neg g, if_neg (by omega)]
  rfl
def leadN (b : Nat) : Nat × Int × Int := if b < 224 then (2, (b : Int) - 192, 128) else if b < 240 then (3, (b : Int) - 224, 2048) else (4, (b : Int) - 240, 65536)
theorem next_end {s : List UInt8} {p : Nat} (h : 192 ≤ bk s p) (h' : bk s p < 248) (hg : ∀ j, 1 ≤ j → j < (leadN (bk s p)).1 → good s (p + j)) :
  resN (runeAt s p) = if vN s p (leadN (bk s p)).2.1 ((leadN (bk s p)).1 - 1) < (leadN (bk s p)).2.2 ∨ vN s p (leadN (bk s p)).2.1 ((leadN (bk s p)).1 - 1) > 1114111 ∨ (vN s p (leadN (bk s p)).2.1 ((leadN (bk s p)).1 - 1) ≥ 55296 ∧ vN s p (leadN (bk s p)).2.1 ((leadN (bk s p)).1 - 1) ≤ 57343) then (0, 0, false)
   else (vN s p (leadN (bk s p)).2.1 ((leadN (bk s p)).1 - 1), ((leadN (bk s p)).1 : Int), true) := by
 have bnd := fun v h0 h1 k => vN_bound (s := s) (p := p) (v := v) h0 h1 k
 revert hg
 unfold leadN
 by_cases c1 : bk s p < 224
 ·simp only [if_pos c1]
  intro hg
  have g1 := hg 1 (by omega) (by omega)
  rw [next_two h c1, if_pos g1]
  have b := bnd ((bk s p : Int) - 192) (by omega) (by omega) 1 fun j a b => hg j a (by omega)
  generalize vN s p ((bk s p : Int) - 192) 1 = v at b
  show _ = if v < 128 ∨ v > 1114111 ∨ (v ≥ 55296 ∧ v ≤ 57343) then _ else _
  by_cases c : v < 128
  ·rw [if_pos c, if_pos (.inl c)]
  ·rw [if_neg c, if_neg (by omega)]
   rfl
 simp only [if_neg c1]
 by_cases c2 : bk s p < 240
 ·simp only [if_pos c2]
  intro hg
  rw [next_three (by omega) c2, if_pos ⟨hg 1 (by omega) (by omega), hg 2 (by omega) (by omega)⟩]
  have b := bnd ((bk s p : Int) - 224) (by omega) (by omega) 2 fun j a b => hg j a (by omega)
  have b' : vN s p ((bk s p : Int) - 224) 2 < 65536 := by
   have g1 := hg 1 (by omega) (by omega)
   have g2 := hg 2 (by omega) (by omega)
   unfold good at g1 g2
   show 64 * (64 * ((bk s p : Int) - 224) + ((bk s (p + 1) : Int) - 128)) + ((bk s (p + 2) : Int) - 128) < 65536
   omega
  show _ = if vN s p ((bk s p : Int) - 224) 2 < 2048 ∨ vN s p ((bk s p : Int) - 224) 2 > 1114111 ∨ (vN s p ((bk s p : Int) - 224) 2 ≥ 55296 ∧ vN s p ((bk s p : Int) - 224) 2 ≤ 57343) then _ else _
  generalize vN s p ((bk s p : Int) - 224) 2 = v at b b'
  by_cases c : v < 2048 ∨ (55296 ≤ v ∧ v ≤ 57343)
  ·rw [if_pos c, if_pos (by omega)]
  ·rw [if_neg c, if_neg (by omega)]
   rfl
 ·simp only [if_neg c2]
  intro hg
  rw [next_four (by omega) h', if_pos ⟨hg 1 (by omega) (by omega), hg 2 (by omega) (by omega), hg 3 (by omega) (by omega)⟩]
  show _ = if vN s p ((bk s p : Int) - 240) 3 < 65536 ∨ vN s p ((bk s p : Int) - 240) 3 > 1114111 ∨ (vN s p ((bk s p : Int) - 240) 3 ≥ 55296 ∧ vN s p ((bk s p : Int) - 240) 3 ≤ 57343) then _ else _
  generalize vN s p ((bk s p : Int) - 240) 3 = v
  by_cases c : v < 65536 ∨ 1114111 < v
  ·rw [if_pos c, if_pos (by omega)]
  ·rw [if_neg c, if_neg (by omega)]
   rfl
theorem next_bad {s : List UInt8} {p j : Nat} (h : 192 ≤ bk s p) (h' : bk s p < 248) (h1 : 1 ≤ j) (h2 : j < (leadN (bk s p)).1) (hg : ¬ good s (p + j)) : resN (runeAt s p) = (0, 0, false) := by
 unfold leadN at h2
 by_cases c1 : bk s p < 224
 ·simp only [if_pos c1] at h2
  have : j = 1 := by omega
  subst this
  rw [next_two h c1, if_neg hg]
 simp only [if_neg c1] at h2
 by_cases c2 : bk s p < 240
 ·simp only [if_pos c2] at h2
  have : j = 1 ∨ j = 2 := by omega
  rw [next_three (by omega) c2, if_neg]
  rintro ⟨g1, g2⟩
  rcases this with rfl | rfl
  ·exact hg g1
  ·exact hg g2
 ·simp only [if_neg c2] at h2
  have : j = 1 ∨ j = 2 ∨ j = 3 := by omega
  rw [next_four (by omega) h', if_neg]
  rintro ⟨g1, g2, g3⟩
  rcases this with rfl | rfl | rfl
  ·exact hg g1
  ·exact hg g2
  ·exact hg g3
def runesF (s : List UInt8) : Nat → Nat → Option (List Int)
 | 0, _ => some []
 | n + 1, p => if p < s.length then (if (resN (runeAt s p)).2.2 = true then (match runesF s n (p + (runeAt s p).2) with | some l => some (((runeAt s p).1 : Int) :: l) | none => none) else none) else some []
def runesO (s : List UInt8) (p : Nat) : Option (List Int) := runesF s (s.length - p) p
theorem runesF_fuel (s : List UInt8) : ∀ (n m p : Nat), s.length - p ≤ n → s.length - p ≤ m → runesF s n p = runesF s m p
 | 0, 0, p, _, _ => rfl
 | 0, m + 1, p, h, _ => by rw [runesF, runesF, if_neg (by omega)]
 | n + 1, 0, p, _, h => by rw [runesF, runesF, if_neg (by omega)]
 | n + 1, m + 1, p, h1, h2 => by
  rw [runesF, runesF]
  have := runeAt_wid s p
  by_cases h : p < s.length
  ·rw [if_pos h, if_pos h, runesF_fuel s n m (p + (runeAt s p).2) (by omega) (by omega)]
  ·rw [if_neg h, if_neg h]
theorem runesO_step (s : List UInt8) (p : Nat) : runesO s p = if p < s.length then (if (resN (runeAt s p)).2.2 = true then (match runesO s (p + (runeAt s p).2) with | some l => some (((runeAt s p).1 : Int) :: l) | none => none) else none) else some [] := by
 unfold runesO
 by_cases h : p < s.length
 ·have := runeAt_wid s p
  rw [if_pos h, show s.length - p = (s.length - p - 1) + 1 by omega, runesF, if_pos h, runesF_fuel s (s.length - p - 1) (s.length - (p + (runeAt s p).2)) (p + (runeAt s p).2) (by omega) (by omega)]
 ·rw [if_neg h, show s.length - p = 0 by omega, runesF]
def letterB (r : Int) : Bool := decide (97 ≤ r ∧ r ≤ 122 ∨ 65 ≤ r ∧ r ≤ 90 ∨ r = 95 ∨ 192 ≤ r ∧ r ≤ 591 ∧ r ≠ 215 ∧ r ≠ 247 ∨ 913 ≤ r ∧ r ≤ 969 ∧ r ≠ 930)
def digitB (r : Int) : Bool := decide (48 ≤ r ∧ r ≤ 57)
def keyWords : List (List UInt8) := [[115, 99, 104, 101, 109, 97], [109, 101, 115, 115, 97, 103, 101], [101, 110, 117, 109], [99, 97, 108, 108], [114, 101, 116, 117, 114, 110, 115], [114, 101, 115, 101, 114, 118, 101, 100], [111, 112, 116, 105, 111, 110, 97, 108], [114, 101, 112, 101, 97, 116, 101, 100], [105, 110, 116, 51, 50], [105, 110, 116, 54, 52], [98, 111, 111, 108], [116, 101, 120, 116], [98, 121, 116, 101, 115]]
def keyB (s : List UInt8) : Bool := keyWords.contains s
def wordB : List Int → Bool
 | [] => false
 | r :: l => letterB r && l.all fun x => letterB x || digitB x
def nameB (s : List UInt8) : Bool := match runesO s 0 with
 | none => false
 | some l => decide (l.length ≤ 20) && !keyB s && wordB l
end Go.Aw
namespace Go.Aw
open Go.Proofs
set_option linter.unusedSimpArgs false
set_option linter.unusedVariables false
theorem runes_in (r a b : Int) : PFn Tryd.prog 146 [.int .i32 r, .int .i32 a, .int .i32 b] (.bool (decide (a ≤ r ∧ r ≤ b))) := by
 refine PFn.of Tryd.func146 rfl (by decide) Tryd.ntmps146 Tryd.results146 (Nat.le_of_ble_eq_true rfl) ?_
 simp only [argsT]
 refine AW.rT (by rfl) fun K hK => ?_
 simp -implicitDefEqProofs only [go_sem, Nat.reduceAdd]
 refine hK _ ?_; clear hK K
 by_cases h1 : r ≥ a
 ·have f1 : (r ≥ a) = True := eq_true h1
  by_cases h2 : r ≤ b
  ·have f2 : (r ≤ b) = True := eq_true h2
   have e : decide (a ≤ r ∧ r ≤ b) = true := decide_eq_true ⟨h1, h2⟩
   refine AW.rT (by rfl) fun K hK => ?_
   simp -implicitDefEqProofs only [go_sem, ↓reduceIte, Nat.reduceAdd, Nat.reduceEqDiff, reduceCtorEq, f1, f2]
   refine hK _ ?_; clear hK K
   refine AW.ret ?_
   simp -implicitDefEqProofs only [go_sem, e]
  ·have f2 : (r ≤ b) = False := eq_false h2
   have e : decide (a ≤ r ∧ r ≤ b) = false := decide_eq_false (fun h => h2 h.2)
   refine AW.rT (by rfl) fun K hK => ?_
   simp -implicitDefEqProofs only [go_sem, ↓reduceIte, Nat.reduceAdd, Nat.reduceEqDiff, reduceCtorEq, f1, f2]
   refine hK _ ?_; clear hK K
   refine AW.ret ?_
   simp -implicitDefEqProofs only [go_sem, e]
 ·have f1 : (r ≥ a) = False := eq_false h1
  have e : decide (a ≤ r ∧ r ≤ b) = false := decide_eq_false (fun h => h1 h.1)
  refine AW.rT (by rfl) fun K hK => ?_
  simp -implicitDefEqProofs only [go_sem, ↓reduceIte, Nat.reduceAdd, Nat.reduceEqDiff, reduceCtorEq, f1]
  refine hK _ ?_; clear hK K
  refine AW.ret ?_
  simp -implicitDefEqProofs only [go_sem, e]
theorem runes_Digit (r : Int) : PFn Tryd.prog 125 [.int .i32 r] (.bool (digitB r)) := by
 refine PFn.of Tryd.func125 rfl (by decide) Tryd.ntmps125 Tryd.results125 (Nat.le_of_ble_eq_true rfl) ?_
 simp only [argsT]
 refine AW.rT (by rfl) fun K hK => ?_
 simp -implicitDefEqProofs only [go_sem]
 refine hK _ ?_; clear hK K
 refine AW.rT (by rfl) fun K hK => ?_
 simp -implicitDefEqProofs only [go_sem, ↓reduceIte, Nat.reduceAdd, reduceCtorEq]
 refine ⟨.pure _, runes_in r 48 57, ?_⟩
 try simp -implicitDefEqProofs only [go_sem, Nat.reduceAdd]
 refine hK _ ?_; clear hK K
 refine AW.ret ?_
 simp -implicitDefEqProofs only [go_sem, digitB]
theorem ref01_Digit (r : Int) : PFn Tryd.prog 87 [.int .i32 r] (.bool (digitB r)) := by
 refine PFn.of Tryd.func87 rfl (by decide) Tryd.ntmps87 Tryd.results87 (Nat.le_of_ble_eq_true rfl) ?_
 simp only [argsT]
 refine AW.rT (by rfl) fun K hK => ?_
 simp -implicitDefEqProofs only [go_sem]
 refine hK _ ?_; clear hK K
 by_cases h1 : r ≥ 48
 ·have f1 : (r ≥ 48) = True := eq_true h1
  by_cases h2 : r ≤ 57
  ·have f2 : (r ≤ 57) = True := eq_true h2
   have e : digitB r = true := decide_eq_true ⟨h1, h2⟩
   refine AW.rT (by rfl) fun K hK => ?_
   simp -implicitDefEqProofs only [go_sem, ↓reduceIte, Nat.reduceAdd, Nat.reduceEqDiff, reduceCtorEq, f1, f2]
   refine hK _ ?_; clear hK K
   refine AW.ret ?_
   simp -implicitDefEqProofs only [go_sem, e]
  ·have f2 : (r ≤ 57) = False := eq_false h2
   have e : digitB r = false := decide_eq_false (fun h => h2 h.2)
   refine AW.rT (by rfl) fun K hK => ?_
   simp -implicitDefEqProofs only [go_sem, ↓reduceIte, Nat.reduceAdd, Nat.reduceEqDiff, reduceCtorEq, f1, f2]
   refine hK _ ?_; clear hK K
   refine AW.ret ?_
   simp -implicitDefEqProofs only [go_sem, e]
 ·have f1 : (r ≥ 48) = False := eq_false h1
  have e : digitB r = false := decide_eq_false (fun h => h1 h.1)
  refine AW.rT (by rfl) fun K hK => ?_
  simp -implicitDefEqProofs only [go_sem, ↓reduceIte, Nat.reduceAdd, Nat.reduceEqDiff, reduceCtorEq, f1]
  refine hK _ ?_; clear hK K
  refine AW.ret ?_
  simp -implicitDefEqProofs only [go_sem, e]
theorem rune_cases (r : Int) : (r < 65) ∨ (65 ≤ r ∧ r ≤ 90) ∨ (90 < r ∧ r < 95) ∨ (r = 95) ∨ (r = 96) ∨ (97 ≤ r ∧ r ≤ 122) ∨ (122 < r ∧ r < 192) ∨ (192 ≤ r ∧ r < 215) ∨ (r = 215) ∨ (215 < r ∧ r < 247) ∨ (r = 247) ∨ (247 < r ∧ r ≤ 591) ∨ (591 < r ∧ r < 913) ∨ (913 ≤ r ∧ r < 930) ∨ (r = 930) ∨ (930 < r ∧ r ≤ 969) ∨ (969 < r) := by omega
set_option maxRecDepth 100000 in
theorem ref01_Letter (r : Int) : PFn Tryd.prog 85 [.int .i32 r] (.bool (letterB r)) := by
 refine PFn.of Tryd.func85 rfl (by decide) Tryd.ntmps85 Tryd.results85 (Nat.le_of_ble_eq_true rfl) ?_
 simp only [argsT]
 refine AW.rT (by rfl) fun K hK => ?_
 simp -implicitDefEqProofs only [go_sem]
 refine hK _ ?_; clear hK K
 rcases rune_cases r with h | h | h | h | h | h | h | h | h | h | h | h | h | h | h | h | h
 ·skip
  have f0 : (r ≥ 97) = False := eq_false (by omega)
  have f1 : (r ≤ 122) = True := eq_true (by omega)
  have f2 : (r ≥ 65) = False := eq_false (by omega)
  have f3 : (r ≤ 90) = True := eq_true (by omega)
  have f4 : (r == 95) = false := by simp; omega
  have f5 : (r ≥ 192) = False := eq_false (by omega)
  have f6 : (r ≤ 591) = True := eq_true (by omega)
  have f7 : (r != 215) = true := by simp; omega
  have f8 : (r != 247) = true := by simp; omega
  have f9 : (r ≥ 913) = False := eq_false (by omega)
  have f10 : (r ≤ 969) = True := eq_true (by omega)
  have f11 : (r != 930) = true := by simp; omega
  have e : letterB r = false := decide_eq_false (by omega)
  refine AW.rT (by rfl) fun K hK => ?_
  simp -implicitDefEqProofs only [go_sem, ↓reduceIte, Nat.reduceAdd, Nat.reduceEqDiff, reduceCtorEq, f0, f2, f4, f5, f9]
  refine hK _ ?_; clear hK K
  refine AW.ret ?_
  simp -implicitDefEqProofs only [go_sem, e]
 ·skip
  have f0 : (r ≥ 97) = False := eq_false (by omega)
  have f1 : (r ≤ 122) = True := eq_true (by omega)
  have f2 : (r ≥ 65) = True := eq_true (by omega)
  have f3 : (r ≤ 90) = True := eq_true (by omega)
  have f4 : (r == 95) = false := by simp; omega
  have f5 : (r ≥ 192) = False := eq_false (by omega)
  have f6 : (r ≤ 591) = True := eq_true (by omega)
  have f7 : (r != 215) = true := by simp; omega
  have f8 : (r != 247) = true := by simp; omega
  have f9 : (r ≥ 913) = False := eq_false (by omega)
  have f10 : (r ≤ 969) = True := eq_true (by omega)
  have f11 : (r != 930) = true := by simp; omega
  have e : letterB r = true := decide_eq_true (by omega)
  refine AW.rT (by rfl) fun K hK => ?_
  simp -implicitDefEqProofs only [go_sem, ↓reduceIte, Nat.reduceAdd, Nat.reduceEqDiff, reduceCtorEq, f0, f2, f3]
  refine hK _ ?_; clear hK K
  refine AW.ret ?_
  simp -implicitDefEqProofs only [go_sem, e]
 ·skip
  have f0 : (r ≥ 97) = False := eq_false (by omega)
  have f1 : (r ≤ 122) = True := eq_true (by omega)
  have f2 : (r ≥ 65) = True := eq_true (by omega)
  have f3 : (r ≤ 90) = False := eq_false (by omega)
  have f4 : (r == 95) = false := by simp; omega
  have f5 : (r ≥ 192) = False := eq_false (by omega)
  have f6 : (r ≤ 591) = True := eq_true (by omega)
  have f7 : (r != 215) = true := by simp; omega
  have f8 : (r != 247) = true := by simp; omega
  have f9 : (r ≥ 913) = False := eq_false (by omega)
  have f10 : (r ≤ 969) = True := eq_true (by omega)
  have f11 : (r != 930) = true := by simp; omega
  have e : letterB r = false := decide_eq_false (by omega)
  refine AW.rT (by rfl) fun K hK => ?_
  simp -implicitDefEqProofs only [go_sem, ↓reduceIte, Nat.reduceAdd, Nat.reduceEqDiff, reduceCtorEq, f0, f2, f3, f4, f5, f9]
  refine hK _ ?_; clear hK K
  refine AW.ret ?_
  simp -implicitDefEqProofs only [go_sem, e]
 ·skip
  have f0 : (r ≥ 97) = False := eq_false (by omega)
  have f1 : (r ≤ 122) = True := eq_true (by omega)
  have f2 : (r ≥ 65) = True := eq_true (by omega)
  have f3 : (r ≤ 90) = False := eq_false (by omega)
  have f4 : (r == 95) = true := by simp; omega
  have f5 : (r ≥ 192) = False := eq_false (by omega)
  have f6 : (r ≤ 591) = True := eq_true (by omega)
  have f7 : (r != 215) = true := by simp; omega
  have f8 : (r != 247) = true := by simp; omega
  have f9 : (r ≥ 913) = False := eq_false (by omega)
  have f10 : (r ≤ 969) = True := eq_true (by omega)
  have f11 : (r != 930) = true := by simp; omega
  have e : letterB r = true := decide_eq_true (by omega)
  refine AW.rT (by rfl) fun K hK => ?_
  simp -implicitDefEqProofs only [go_sem, ↓reduceIte, Nat.reduceAdd, Nat.reduceEqDiff, reduceCtorEq, f0, f2, f3, f4]
  refine hK _ ?_; clear hK K
  refine AW.ret ?_
  simp -implicitDefEqProofs only [go_sem, e]
 ·skip
  have f0 : (r ≥ 97) = False := eq_false (by omega)
  have f1 : (r ≤ 122) = True := eq_true (by omega)
  have f2 : (r ≥ 65) = True := eq_true (by omega)
  have f3 : (r ≤ 90) = False := eq_false (by omega)
  have f4 : (r == 95) = false := by simp; omega
  have f5 : (r ≥ 192) = False := eq_false (by omega)
  have f6 : (r ≤ 591) = True := eq_true (by omega)
  have f7 : (r != 215) = true := by simp; omega
  have f8 : (r != 247) = true := by simp; omega
  have f9 : (r ≥ 913) = False := eq_false (by omega)
  have f10 : (r ≤ 969) = True := eq_true (by omega)
  have f11 : (r != 930) = true := by simp; omega
  have e : letterB r = false := decide_eq_false (by omega)
  refine AW.rT (by rfl) fun K hK => ?_
  simp -implicitDefEqProofs only [go_sem, ↓reduceIte, Nat.reduceAdd, Nat.reduceEqDiff, reduceCtorEq, f0, f2, f3, f4, f5, f9]
  refine hK _ ?_; clear hK K
  refine AW.ret ?_
  simp -implicitDefEqProofs only [go_sem, e]
 ·skip
  have f0 : (r ≥ 97) = True := eq_true (by omega)
  have f1 : (r ≤ 122) = True := eq_true (by omega)
  have f2 : (r ≥ 65) = True := eq_true (by omega)
  have f3 : (r ≤ 90) = False := eq_false (by omega)
  have f4 : (r == 95) = false := by simp; omega
  have f5 : (r ≥ 192) = False := eq_false (by omega)
  have f6 : (r ≤ 591) = True := eq_true (by omega)
  have f7 : (r != 215) = true := by simp; omega
  have f8 : (r != 247) = true := by simp; omega
  have f9 : (r ≥ 913) = False := eq_false (by omega)
  have f10 : (r ≤ 969) = True := eq_true (by omega)
  have f11 : (r != 930) = true := by simp; omega
  have e : letterB r = true := decide_eq_true (by omega)
  refine AW.rT (by rfl) fun K hK => ?_
  simp -implicitDefEqProofs only [go_sem, ↓reduceIte, Nat.reduceAdd, Nat.reduceEqDiff, reduceCtorEq, f0, f1]
  refine hK _ ?_; clear hK K
  refine AW.ret ?_
  simp -implicitDefEqProofs only [go_sem, e]
 ·skip
  have f0 : (r ≥ 97) = True := eq_true (by omega)
  have f1 : (r ≤ 122) = False := eq_false (by omega)
  have f2 : (r ≥ 65) = True := eq_true (by omega)
  have f3 : (r ≤ 90) = False := eq_false (by omega)
  have f4 : (r == 95) = false := by simp; omega
  have f5 : (r ≥ 192) = False := eq_false (by omega)
  have f6 : (r ≤ 591) = True := eq_true (by omega)
  have f7 : (r != 215) = true := by simp; omega
  have f8 : (r != 247) = true := by simp; omega
  have f9 : (r ≥ 913) = False := eq_false (by omega)
  have f10 : (r ≤ 969) = True := eq_true (by omega)
  have f11 : (r != 930) = true := by simp; omega
  have e : letterB r = false := decide_eq_false (by omega)
  refine AW.rT (by rfl) fun K hK => ?_
  simp -implicitDefEqProofs only [go_sem, ↓reduceIte, Nat.reduceAdd, Nat.reduceEqDiff, reduceCtorEq, f0, f1, f2, f3, f4, f5, f9]
  refine hK _ ?_; clear hK K
  refine AW.ret ?_
  simp -implicitDefEqProofs only [go_sem, e]
 ·skip
  have f0 : (r ≥ 97) = True := eq_true (by omega)
  have f1 : (r ≤ 122) = False := eq_false (by omega)
  have f2 : (r ≥ 65) = True := eq_true (by omega)
  have f3 : (r ≤ 90) = False := eq_false (by omega)
  have f4 : (r == 95) = false := by simp; omega
  have f5 : (r ≥ 192) = True := eq_true (by omega)
  have f6 : (r ≤ 591) = True := eq_true (by omega)
  have f7 : (r != 215) = true := by simp; omega
  have f8 : (r != 247) = true := by simp; omega
  have f9 : (r ≥ 913) = False := eq_false (by omega)
  have f10 : (r ≤ 969) = True := eq_true (by omega)
  have f11 : (r != 930) = true := by simp; omega
  have e : letterB r = true := decide_eq_true (by omega)
  refine AW.rT (by rfl) fun K hK => ?_
  simp -implicitDefEqProofs only [go_sem, ↓reduceIte, Nat.reduceAdd, Nat.reduceEqDiff, reduceCtorEq, f0, f1, f2, f3, f4, f5, f6, f7, f8]
  refine hK _ ?_; clear hK K
  refine AW.ret ?_
  simp -implicitDefEqProofs only [go_sem, e]
 ·skip
  have f0 : (r ≥ 97) = True := eq_true (by omega)
  have f1 : (r ≤ 122) = False := eq_false (by omega)
  have f2 : (r ≥ 65) = True := eq_true (by omega)
  have f3 : (r ≤ 90) = False := eq_false (by omega)
  have f4 : (r == 95) = false := by simp; omega
  have f5 : (r ≥ 192) = True := eq_true (by omega)
  have f6 : (r ≤ 591) = True := eq_true (by omega)
  have f7 : (r != 215) = false := by simp; omega
  have f8 : (r != 247) = true := by simp; omega
  have f9 : (r ≥ 913) = False := eq_false (by omega)
  have f10 : (r ≤ 969) = True := eq_true (by omega)
  have f11 : (r != 930) = true := by simp; omega
  have e : letterB r = false := decide_eq_false (by omega)
  refine AW.rT (by rfl) fun K hK => ?_
  simp -implicitDefEqProofs only [go_sem, ↓reduceIte, Nat.reduceAdd, Nat.reduceEqDiff, reduceCtorEq, f0, f1, f2, f3, f4, f5, f6, f7, f9]
  refine hK _ ?_; clear hK K
  refine AW.ret ?_
  simp -implicitDefEqProofs only [go_sem, e]
 ·skip
  have f0 : (r ≥ 97) = True := eq_true (by omega)
  have f1 : (r ≤ 122) = False := eq_false (by omega)
  have f2 : (r ≥ 65) = True := eq_true (by omega)
  have f3 : (r ≤ 90) = False := eq_false (by omega)
  have f4 : (r == 95) = false := by simp; omega
  have f5 : (r ≥ 192) = True := eq_true (by omega)
  have f6 : (r ≤ 591) = True := eq_true (by omega)
  have f7 : (r != 215) = true := by simp; omega
  have f8 : (r != 247) = true := by simp; omega
  have f9 : (r ≥ 913) = False := eq_false (by omega)
  have f10 : (r ≤ 969) = True := eq_true (by omega)
  have f11 : (r != 930) = true := by simp; omega
  have e : letterB r = true := decide_eq_true (by omega)
  refine AW.rT (by rfl) fun K hK => ?_
  simp -implicitDefEqProofs only [go_sem, ↓reduceIte, Nat.reduceAdd, Nat.reduceEqDiff, reduceCtorEq, f0, f1, f2, f3, f4, f5, f6, f7, f8]
  refine hK _ ?_; clear hK K
  refine AW.ret ?_
  simp -implicitDefEqProofs only [go_sem, e]
 ·skip
  have f0 : (r ≥ 97) = True := eq_true (by omega)
  have f1 : (r ≤ 122) = False := eq_false (by omega)
  have f2 : (r ≥ 65) = True := eq_true (by omega)
  have f3 : (r ≤ 90) = False := eq_false (by omega)
  have f4 : (r == 95) = false := by simp; omega
  have f5 : (r ≥ 192) = True := eq_true (by omega)
  have f6 : (r ≤ 591) = True := eq_true (by omega)
  have f7 : (r != 215) = true := by simp; omega
  have f8 : (r != 247) = false := by simp; omega
  have f9 : (r ≥ 913) = False := eq_false (by omega)
  have f10 : (r ≤ 969) = True := eq_true (by omega)
  have f11 : (r != 930) = true := by simp; omega
  have e : letterB r = false := decide_eq_false (by omega)
  refine AW.rT (by rfl) fun K hK => ?_
  simp -implicitDefEqProofs only [go_sem, ↓reduceIte, Nat.reduceAdd, Nat.reduceEqDiff, reduceCtorEq, f0, f1, f2, f3, f4, f5, f6, f7, f8, f9]
  refine hK _ ?_; clear hK K
  refine AW.ret ?_
  simp -implicitDefEqProofs only [go_sem, e]
 ·skip
  have f0 : (r ≥ 97) = True := eq_true (by omega)
  have f1 : (r ≤ 122) = False := eq_false (by omega)
  have f2 : (r ≥ 65) = True := eq_true (by omega)
  have f3 : (r ≤ 90) = False := eq_false (by omega)
  have f4 : (r == 95) = false := by simp; omega
  have f5 : (r ≥ 192) = True := eq_true (by omega)
  have f6 : (r ≤ 591) = True := eq_true (by omega)
  have f7 : (r != 215) = true := by simp; omega
  have f8 : (r != 247) = true := by simp; omega
  have f9 : (r ≥ 913) = False := eq_false (by omega)
  have f10 : (r ≤ 969) = True := eq_true (by omega)
  have f11 : (r != 930) = true := by simp; omega
  have e : letterB r = true := decide_eq_true (by omega)
  refine AW.rT (by rfl) fun K hK => ?_
  simp -implicitDefEqProofs only [go_sem, ↓reduceIte, Nat.reduceAdd, Nat.reduceEqDiff, reduceCtorEq, f0, f1, f2, f3, f4, f5, f6, f7, f8]
  refine hK _ ?_; clear hK K
  refine AW.ret ?_
  simp -implicitDefEqProofs only [go_sem, e]
 ·skip
  have f0 : (r ≥ 97) = True := eq_true (by omega)
  have f1 : (r ≤ 122) = False := eq_false (by omega)
  have f2 : (r ≥ 65) = True := eq_true (by omega)
  have f3 : (r ≤ 90) = False := eq_false (by omega)
  have f4 : (r == 95) = false := by simp; omega
  have f5 : (r ≥ 192) = True := eq_true (by omega)
  have f6 : (r ≤ 591) = False := eq_false (by omega)
  have f7 : (r != 215) = true := by simp; omega
  have f8 : (r != 247) = true := by simp; omega
  have f9 : (r ≥ 913) = False := eq_false (by omega)
  have f10 : (r ≤ 969) = True := eq_true (by omega)
  have f11 : (r != 930) = true := by simp; omega
  have e : letterB r = false := decide_eq_false (by omega)
  refine AW.rT (by rfl) fun K hK => ?_
  simp -implicitDefEqProofs only [go_sem, ↓reduceIte, Nat.reduceAdd, Nat.reduceEqDiff, reduceCtorEq, f0, f1, f2, f3, f4, f5, f6, f9]
  refine hK _ ?_; clear hK K
  refine AW.ret ?_
  simp -implicitDefEqProofs only [go_sem, e]
 ·skip
  have f0 : (r ≥ 97) = True := eq_true (by omega)
  have f1 : (r ≤ 122) = False := eq_false (by omega)
  have f2 : (r ≥ 65) = True := eq_true (by omega)
  have f3 : (r ≤ 90) = False := eq_false (by omega)
  have f4 : (r == 95) = false := by simp; omega
  have f5 : (r ≥ 192) = True := eq_true (by omega)
  have f6 : (r ≤ 591) = False := eq_false (by omega)
  have f7 : (r != 215) = true := by simp; omega
  have f8 : (r != 247) = true := by simp; omega
  have f9 : (r ≥ 913) = True := eq_true (by omega)
  have f10 : (r ≤ 969) = True := eq_true (by omega)
  have f11 : (r != 930) = true := by simp; omega
  have e : letterB r = true := decide_eq_true (by omega)
  refine AW.rT (by rfl) fun K hK => ?_
  simp -implicitDefEqProofs only [go_sem, ↓reduceIte, Nat.reduceAdd, Nat.reduceEqDiff, reduceCtorEq, f0, f1, f2, f3, f4, f5, f6, f9, f10, f11]
  refine hK _ ?_; clear hK K
  refine AW.ret ?_
  simp -implicitDefEqProofs only [go_sem, e]
 ·skip
  have f0 : (r ≥ 97) = True := eq_true (by omega)
  have f1 : (r ≤ 122) = False := eq_false (by omega)
  have f2 : (r ≥ 65) = True := eq_true (by omega)
  have f3 : (r ≤ 90) = False := eq_false (by omega)
  have f4 : (r == 95) = false := by simp; omega
  have f5 : (r ≥ 192) = True := eq_true (by omega)
  have f6 : (r ≤ 591) = False := eq_false (by omega)
  have f7 : (r != 215) = true := by simp; omega
  have f8 : (r != 247) = true := by simp; omega
  have f9 : (r ≥ 913) = True := eq_true (by omega)
  have f10 : (r ≤ 969) = True := eq_true (by omega)
  have f11 : (r != 930) = false := by simp; omega
  have e : letterB r = false := decide_eq_false (by omega)
  refine AW.rT (by rfl) fun K hK => ?_
  simp -implicitDefEqProofs only [go_sem, ↓reduceIte, Nat.reduceAdd, Nat.reduceEqDiff, reduceCtorEq, f0, f1, f2, f3, f4, f5, f6, f9, f10, f11]
  refine hK _ ?_; clear hK K
  refine AW.ret ?_
  simp -implicitDefEqProofs only [go_sem, e]
 ·skip
  have f0 : (r ≥ 97) = True := eq_true (by omega)
  have f1 : (r ≤ 122) = False := eq_false (by omega)
  have f2 : (r ≥ 65) = True := eq_true (by omega)
  have f3 : (r ≤ 90) = False := eq_false (by omega)
  have f4 : (r == 95) = false := by simp; omega
  have f5 : (r ≥ 192) = True := eq_true (by omega)
  have f6 : (r ≤ 591) = False := eq_false (by omega)
  have f7 : (r != 215) = true := by simp; omega
  have f8 : (r != 247) = true := by simp; omega
  have f9 : (r ≥ 913) = True := eq_true (by omega)
  have f10 : (r ≤ 969) = True := eq_true (by omega)
  have f11 : (r != 930) = true := by simp; omega
  have e : letterB r = true := decide_eq_true (by omega)
  refine AW.rT (by rfl) fun K hK => ?_
  simp -implicitDefEqProofs only [go_sem, ↓reduceIte, Nat.reduceAdd, Nat.reduceEqDiff, reduceCtorEq, f0, f1, f2, f3, f4, f5, f6, f9, f10, f11]
  refine hK _ ?_; clear hK K
  refine AW.ret ?_
  simp -implicitDefEqProofs only [go_sem, e]
 ·skip
  have f0 : (r ≥ 97) = True := eq_true (by omega)
  have f1 : (r ≤ 122) = False := eq_false (by omega)
  have f2 : (r ≥ 65) = True := eq_true (by omega)
  have f3 : (r ≤ 90) = False := eq_false (by omega)
  have f4 : (r == 95) = false := by simp; omega
  have f5 : (r ≥ 192) = True := eq_true (by omega)
  have f6 : (r ≤ 591) = False := eq_false (by omega)
  have f7 : (r != 215) = true := by simp; omega
  have f8 : (r != 247) = true := by simp; omega
  have f9 : (r ≥ 913) = True := eq_true (by omega)
  have f10 : (r ≤ 969) = False := eq_false (by omega)
  have f11 : (r != 930) = true := by simp; omega
  have e : letterB r = false := decide_eq_false (by omega)
  refine AW.rT (by rfl) fun K hK => ?_
  simp -implicitDefEqProofs only [go_sem, ↓reduceIte, Nat.reduceAdd, Nat.reduceEqDiff, reduceCtorEq, f0, f1, f2, f3, f4, f5, f6, f9, f10]
  refine hK _ ?_; clear hK K
  refine AW.ret ?_
  simp -implicitDefEqProofs only [go_sem, e]
set_option maxRecDepth 100000 in
theorem runes_Letter (r : Int) : PFn Tryd.prog 124 [.int .i32 r] (.bool (letterB r)) := by
 refine PFn.of Tryd.func124 rfl (by decide) Tryd.ntmps124 Tryd.results124 (Nat.le_of_ble_eq_true rfl) ?_
 simp only [argsT]
 refine AW.rT (by rfl) fun K hK => ?_
 simp -implicitDefEqProofs only [go_sem]
 refine hK _ ?_; clear hK K
 refine AW.seq ?_
 refine AW.rT (by rfl) fun K hK => ?_
 simp -implicitDefEqProofs only [go_sem, ↓reduceIte, Nat.reduceAdd, reduceCtorEq]
 refine hK _ ?_; clear hK K
 refine AW.block ?_
 rcases rune_cases r with h | h | h | h | h | h | h | h | h | h | h | h | h | h | h | h | h
 ·skip
  have f0 : (r == 95) = false := by simp; omega
  have f1 : (r == 215) = false := by simp; omega
  have f2 : (r == 247) = false := by simp; omega
  have f3 : (r == 930) = false := by simp; omega
  have f4 : decide (97 ≤ r ∧ r ≤ 122) = false := decide_eq_false (by omega)
  have f5 : decide (65 ≤ r ∧ r ≤ 90) = false := decide_eq_false (by omega)
  have f6 : decide (192 ≤ r ∧ r ≤ 591) = false := decide_eq_false (by omega)
  have f7 : decide (913 ≤ r ∧ r ≤ 969) = false := decide_eq_false (by omega)
  have e : letterB r = false := decide_eq_false (by omega)
  refine AW.rT (by rfl) fun K hK => ?_
  simp -implicitDefEqProofs only [go_sem, ↓reduceIte, Nat.reduceAdd, f0]
  refine hK _ ?_; clear hK K
  refine AW.cond _ (by simp -implicitDefEqProofs only [go_sem]; rfl) (fun hc => ?_) (fun hc => ?_)
  ·simp at hc
  refine AW.seq ?_
  refine AW.rT (by rfl) fun K hK => ?_
  simp -implicitDefEqProofs only [go_sem, ↓reduceIte, Nat.reduceAdd, Nat.reduceEqDiff, f1]
  refine hK _ ?_; clear hK K
  refine AW.cond _ (by simp -implicitDefEqProofs only [go_sem]; rfl) (fun hc => ?_) (fun hc => ?_)
  ·simp at hc
  refine AW.rT (by rfl) fun K hK => ?_
  simp -implicitDefEqProofs only [go_sem, ↓reduceIte, Nat.reduceAdd, Nat.reduceEqDiff, f2]
  refine hK _ ?_; clear hK K
  refine AW.cond _ (by simp -implicitDefEqProofs only [go_sem]; rfl) (fun hc => ?_) (fun hc => ?_)
  ·simp at hc
  refine AW.rE (by rfl) fun K hK => ?_
  simp -implicitDefEqProofs only [go_sem, ↓reduceIte, Nat.reduceAdd, Nat.reduceEqDiff, f3]
  refine hK _ ?_; clear hK K
  simp only [andThen]
  refine AW.cond _ (by simp -implicitDefEqProofs only [go_sem]; rfl) (fun hc => ?_) (fun hc => ?_)
  ·simp at hc
  refine AW.skip ?_
  simp only [andThen, inBlk]
  refine AW.rT (by rfl) fun K hK => ?_
  simp -implicitDefEqProofs only [go_sem, ↓reduceIte, Nat.reduceAdd, reduceCtorEq]
  refine ⟨.pure _, runes_in r 97 122, ?_⟩
  try simp -implicitDefEqProofs only [go_sem, ↓reduceIte, Nat.reduceAdd, Nat.reduceEqDiff, reduceCtorEq, f4]
  refine ⟨.pure _, runes_in r 65 90, ?_⟩
  try simp -implicitDefEqProofs only [go_sem, ↓reduceIte, Nat.reduceAdd, Nat.reduceEqDiff, reduceCtorEq, f5]
  refine ⟨.pure _, runes_in r 192 591, ?_⟩
  try simp -implicitDefEqProofs only [go_sem, ↓reduceIte, Nat.reduceAdd, Nat.reduceEqDiff, reduceCtorEq, f6]
  refine ⟨.pure _, runes_in r 913 969, ?_⟩
  try simp -implicitDefEqProofs only [go_sem, ↓reduceIte, Nat.reduceAdd, Nat.reduceEqDiff, f7]
  refine hK _ ?_; clear hK K
  refine AW.ret ?_
  simp -implicitDefEqProofs only [go_sem, e]
 ·skip
  have f0 : (r == 95) = false := by simp; omega
  have f1 : (r == 215) = false := by simp; omega
  have f2 : (r == 247) = false := by simp; omega
  have f3 : (r == 930) = false := by simp; omega
  have f4 : decide (97 ≤ r ∧ r ≤ 122) = false := decide_eq_false (by omega)
  have f5 : decide (65 ≤ r ∧ r ≤ 90) = true := decide_eq_true (by omega)
  have f6 : decide (192 ≤ r ∧ r ≤ 591) = false := decide_eq_false (by omega)
  have f7 : decide (913 ≤ r ∧ r ≤ 969) = false := decide_eq_false (by omega)
  have e : letterB r = true := decide_eq_true (by omega)
  refine AW.rT (by rfl) fun K hK => ?_
  simp -implicitDefEqProofs only [go_sem, ↓reduceIte, Nat.reduceAdd, f0]
  refine hK _ ?_; clear hK K
  refine AW.cond _ (by simp -implicitDefEqProofs only [go_sem]; rfl) (fun hc => ?_) (fun hc => ?_)
  ·simp at hc
  refine AW.seq ?_
  refine AW.rT (by rfl) fun K hK => ?_
  simp -implicitDefEqProofs only [go_sem, ↓reduceIte, Nat.reduceAdd, Nat.reduceEqDiff, f1]
  refine hK _ ?_; clear hK K
  refine AW.cond _ (by simp -implicitDefEqProofs only [go_sem]; rfl) (fun hc => ?_) (fun hc => ?_)
  ·simp at hc
  refine AW.rT (by rfl) fun K hK => ?_
  simp -implicitDefEqProofs only [go_sem, ↓reduceIte, Nat.reduceAdd, Nat.reduceEqDiff, f2]
  refine hK _ ?_; clear hK K
  refine AW.cond _ (by simp -implicitDefEqProofs only [go_sem]; rfl) (fun hc => ?_) (fun hc => ?_)
  ·simp at hc
  refine AW.rE (by rfl) fun K hK => ?_
  simp -implicitDefEqProofs only [go_sem, ↓reduceIte, Nat.reduceAdd, Nat.reduceEqDiff, f3]
  refine hK _ ?_; clear hK K
  simp only [andThen]
  refine AW.cond _ (by simp -implicitDefEqProofs only [go_sem]; rfl) (fun hc => ?_) (fun hc => ?_)
  ·simp at hc
  refine AW.skip ?_
  simp only [andThen, inBlk]
  refine AW.rT (by rfl) fun K hK => ?_
  simp -implicitDefEqProofs only [go_sem, ↓reduceIte, Nat.reduceAdd, reduceCtorEq]
  refine ⟨.pure _, runes_in r 97 122, ?_⟩
  try simp -implicitDefEqProofs only [go_sem, ↓reduceIte, Nat.reduceAdd, Nat.reduceEqDiff, reduceCtorEq, f4]
  refine ⟨.pure _, runes_in r 65 90, ?_⟩
  try simp -implicitDefEqProofs only [go_sem, ↓reduceIte, Nat.reduceAdd, Nat.reduceEqDiff, f5]
  refine hK _ ?_; clear hK K
  refine AW.ret ?_
  simp -implicitDefEqProofs only [go_sem, e]
 ·skip
  have f0 : (r == 95) = false := by simp; omega
  have f1 : (r == 215) = false := by simp; omega
  have f2 : (r == 247) = false := by simp; omega
  have f3 : (r == 930) = false := by simp; omega
  have f4 : decide (97 ≤ r ∧ r ≤ 122) = false := decide_eq_false (by omega)
  have f5 : decide (65 ≤ r ∧ r ≤ 90) = false := decide_eq_false (by omega)
  have f6 : decide (192 ≤ r ∧ r ≤ 591) = false := decide_eq_false (by omega)
  have f7 : decide (913 ≤ r ∧ r ≤ 969) = false := decide_eq_false (by omega)
  have e : letterB r = false := decide_eq_false (by omega)
  refine AW.rT (by rfl) fun K hK => ?_
  simp -implicitDefEqProofs only [go_sem, ↓reduceIte, Nat.reduceAdd, f0]
  refine hK _ ?_; clear hK K
  refine AW.cond _ (by simp -implicitDefEqProofs only [go_sem]; rfl) (fun hc => ?_) (fun hc => ?_)
  ·simp at hc
  refine AW.seq ?_
  refine AW.rT (by rfl) fun K hK => ?_
  simp -implicitDefEqProofs only [go_sem, ↓reduceIte, Nat.reduceAdd, Nat.reduceEqDiff, f1]
  refine hK _ ?_; clear hK K
  refine AW.cond _ (by simp -implicitDefEqProofs only [go_sem]; rfl) (fun hc => ?_) (fun hc => ?_)
  ·simp at hc
  refine AW.rT (by rfl) fun K hK => ?_
  simp -implicitDefEqProofs only [go_sem, ↓reduceIte, Nat.reduceAdd, Nat.reduceEqDiff, f2]
  refine hK _ ?_; clear hK K
  refine AW.cond _ (by simp -implicitDefEqProofs only [go_sem]; rfl) (fun hc => ?_) (fun hc => ?_)
  ·simp at hc
  refine AW.rE (by rfl) fun K hK => ?_
  simp -implicitDefEqProofs only [go_sem, ↓reduceIte, Nat.reduceAdd, Nat.reduceEqDiff, f3]
  refine hK _ ?_; clear hK K
  simp only [andThen]
  refine AW.cond _ (by simp -implicitDefEqProofs only [go_sem]; rfl) (fun hc => ?_) (fun hc => ?_)
  ·simp at hc
  refine AW.skip ?_
  simp only [andThen, inBlk]
  refine AW.rT (by rfl) fun K hK => ?_
  simp -implicitDefEqProofs only [go_sem, ↓reduceIte, Nat.reduceAdd, reduceCtorEq]
  refine ⟨.pure _, runes_in r 97 122, ?_⟩
  try simp -implicitDefEqProofs only [go_sem, ↓reduceIte, Nat.reduceAdd, Nat.reduceEqDiff, reduceCtorEq, f4]
  refine ⟨.pure _, runes_in r 65 90, ?_⟩
  try simp -implicitDefEqProofs only [go_sem, ↓reduceIte, Nat.reduceAdd, Nat.reduceEqDiff, reduceCtorEq, f5]
  refine ⟨.pure _, runes_in r 192 591, ?_⟩
  try simp -implicitDefEqProofs only [go_sem, ↓reduceIte, Nat.reduceAdd, Nat.reduceEqDiff, reduceCtorEq, f6]
  refine ⟨.pure _, runes_in r 913 969, ?_⟩
  try simp -implicitDefEqProofs only [go_sem, ↓reduceIte, Nat.reduceAdd, Nat.reduceEqDiff, f7]
  refine hK _ ?_; clear hK K
  refine AW.ret ?_
  simp -implicitDefEqProofs only [go_sem, e]
 ·skip
  have f0 : (r == 95) = true := by simp; omega
  have f1 : (r == 215) = false := by simp; omega
  have f2 : (r == 247) = false := by simp; omega
  have f3 : (r == 930) = false := by simp; omega
  have f4 : decide (97 ≤ r ∧ r ≤ 122) = false := decide_eq_false (by omega)
  have f5 : decide (65 ≤ r ∧ r ≤ 90) = false := decide_eq_false (by omega)
  have f6 : decide (192 ≤ r ∧ r ≤ 591) = false := decide_eq_false (by omega)
  have f7 : decide (913 ≤ r ∧ r ≤ 969) = false := decide_eq_false (by omega)
  have e : letterB r = true := decide_eq_true (by omega)
  refine AW.rT (by rfl) fun K hK => ?_
  simp -implicitDefEqProofs only [go_sem, ↓reduceIte, Nat.reduceAdd, f0]
  refine hK _ ?_; clear hK K
  refine AW.cond _ (by simp -implicitDefEqProofs only [go_sem]; rfl) (fun hc => ?_) (fun hc => ?_)
  rotate_left
  ·simp at hc
  refine AW.rT (by rfl) fun K hK => ?_
  simp -implicitDefEqProofs only [go_sem, Nat.reduceAdd]
  refine hK _ ?_; clear hK K
  refine AW.ret ?_
  simp -implicitDefEqProofs only [go_sem, e]
 ·skip
  have f0 : (r == 95) = false := by simp; omega
  have f1 : (r == 215) = false := by simp; omega
  have f2 : (r == 247) = false := by simp; omega
  have f3 : (r == 930) = false := by simp; omega
  have f4 : decide (97 ≤ r ∧ r ≤ 122) = false := decide_eq_false (by omega)
  have f5 : decide (65 ≤ r ∧ r ≤ 90) = false := decide_eq_false (by omega)
  have f6 : decide (192 ≤ r ∧ r ≤ 591) = false := decide_eq_false (by omega)
  have f7 : decide (913 ≤ r ∧ r ≤ 969) = false := decide_eq_false (by omega)
  have e : letterB r = false := decide_eq_false (by omega)
  refine AW.rT (by rfl) fun K hK => ?_
  simp -implicitDefEqProofs only [go_sem, ↓reduceIte, Nat.reduceAdd, f0]
  refine hK _ ?_; clear hK K
  refine AW.cond _ (by simp -implicitDefEqProofs only [go_sem]; rfl) (fun hc => ?_) (fun hc => ?_)
  ·simp at hc
  refine AW.seq ?_
  refine AW.rT (by rfl) fun K hK => ?_
  simp -implicitDefEqProofs only [go_sem, ↓reduceIte, Nat.reduceAdd, Nat.reduceEqDiff, f1]
  refine hK _ ?_; clear hK K
  refine AW.cond _ (by simp -implicitDefEqProofs only [go_sem]; rfl) (fun hc => ?_) (fun hc => ?_)
  ·simp at hc
  refine AW.rT (by rfl) fun K hK => ?_
  simp -implicitDefEqProofs only [go_sem, ↓reduceIte, Nat.reduceAdd, Nat.reduceEqDiff, f2]
  refine hK _ ?_; clear hK K
  refine AW.cond _ (by simp -implicitDefEqProofs only [go_sem]; rfl) (fun hc => ?_) (fun hc => ?_)
  ·simp at hc
  refine AW.rE (by rfl) fun K hK => ?_
  simp -implicitDefEqProofs only [go_sem, ↓reduceIte, Nat.reduceAdd, Nat.reduceEqDiff, f3]
  refine hK _ ?_; clear hK K
  simp only [andThen]
  refine AW.cond _ (by simp -implicitDefEqProofs only [go_sem]; rfl) (fun hc => ?_) (fun hc => ?_)
  ·simp at hc
  refine AW.skip ?_
  simp only [andThen, inBlk]
  refine AW.rT (by rfl) fun K hK => ?_
  simp -implicitDefEqProofs only [go_sem, ↓reduceIte, Nat.reduceAdd, reduceCtorEq]
  refine ⟨.pure _, runes_in r 97 122, ?_⟩
  try simp -implicitDefEqProofs only [go_sem, ↓reduceIte, Nat.reduceAdd, Nat.reduceEqDiff, reduceCtorEq, f4]
  refine ⟨.pure _, runes_in r 65 90, ?_⟩
  try simp -implicitDefEqProofs only [go_sem, ↓reduceIte, Nat.reduceAdd, Nat.reduceEqDiff, reduceCtorEq, f5]
  refine ⟨.pure _, runes_in r 192 591, ?_⟩
  try simp -implicitDefEqProofs only [go_sem, ↓reduceIte, Nat.reduceAdd, Nat.reduceEqDiff, reduceCtorEq, f6]
  refine ⟨.pure _, runes_in r 913 969, ?_⟩
  try simp -implicitDefEqProofs only [go_sem, ↓reduceIte, Nat.reduceAdd, Nat.reduceEqDiff, f7]
  refine hK _ ?_; clear hK K
  refine AW.ret ?_
  simp -implicitDefEqProofs only [go_sem, e]
 ·skip
  have f0 : (r == 95) = false := by simp; omega
  have f1 : (r == 215) = false := by simp; omega
  have f2 : (r == 247) = false := by simp; omega
  have f3 : (r == 930) = false := by simp; omega
  have f4 : decide (97 ≤ r ∧ r ≤ 122) = true := decide_eq_true (by omega)
  have f5 : decide (65 ≤ r ∧ r ≤ 90) = false := decide_eq_false (by omega)
  have f6 : decide (192 ≤ r ∧ r ≤ 591) = false := decide_eq_false (by omega)
  have f7 : decide (913 ≤ r ∧ r ≤ 969) = false := decide_eq_false (by omega)
  have e : letterB r = true := decide_eq_true (by omega)
  refine AW.rT (by rfl) fun K hK => ?_
  simp -implicitDefEqProofs only [go_sem, ↓reduceIte, Nat.reduceAdd, f0]
  refine hK _ ?_; clear hK K
  refine AW.cond _ (by simp -implicitDefEqProofs only [go_sem]; rfl) (fun hc => ?_) (fun hc => ?_)
  ·simp at hc
  refine AW.seq ?_
  refine AW.rT (by rfl) fun K hK => ?_
  simp -implicitDefEqProofs only [go_sem, ↓reduceIte, Nat.reduceAdd, Nat.reduceEqDiff, f1]
  refine hK _ ?_; clear hK K
  refine AW.cond _ (by simp -implicitDefEqProofs only [go_sem]; rfl) (fun hc => ?_) (fun hc => ?_)
  ·simp at hc
  refine AW.rT (by rfl) fun K hK => ?_
  simp -implicitDefEqProofs only [go_sem, ↓reduceIte, Nat.reduceAdd, Nat.reduceEqDiff, f2]
  refine hK _ ?_; clear hK K
  refine AW.cond _ (by simp -implicitDefEqProofs only [go_sem]; rfl) (fun hc => ?_) (fun hc => ?_)
  ·simp at hc
  refine AW.rE (by rfl) fun K hK => ?_
  simp -implicitDefEqProofs only [go_sem, ↓reduceIte, Nat.reduceAdd, Nat.reduceEqDiff, f3]
  refine hK _ ?_; clear hK K
  simp only [andThen]
  refine AW.cond _ (by simp -implicitDefEqProofs only [go_sem]; rfl) (fun hc => ?_) (fun hc => ?_)
  ·simp at hc
  refine AW.skip ?_
  simp only [andThen, inBlk]
  refine AW.rT (by rfl) fun K hK => ?_
  simp -implicitDefEqProofs only [go_sem, ↓reduceIte, Nat.reduceAdd, reduceCtorEq]
  refine ⟨.pure _, runes_in r 97 122, ?_⟩
  try simp -implicitDefEqProofs only [go_sem, ↓reduceIte, Nat.reduceAdd, Nat.reduceEqDiff, f4]
  refine hK _ ?_; clear hK K
  refine AW.ret ?_
  simp -implicitDefEqProofs only [go_sem, e]
 ·skip
  have f0 : (r == 95) = false := by simp; omega
  have f1 : (r == 215) = false := by simp; omega
  have f2 : (r == 247) = false := by simp; omega
  have f3 : (r == 930) = false := by simp; omega
  have f4 : decide (97 ≤ r ∧ r ≤ 122) = false := decide_eq_false (by omega)
  have f5 : decide (65 ≤ r ∧ r ≤ 90) = false := decide_eq_false (by omega)
  have f6 : decide (192 ≤ r ∧ r ≤ 591) = false := decide_eq_false (by omega)
  have f7 : decide (913 ≤ r ∧ r ≤ 969) = false := decide_eq_false (by omega)
  have e : letterB r = false := decide_eq_false (by omega)
  refine AW.rT (by rfl) fun K hK => ?_
  simp -implicitDefEqProofs only [go_sem, ↓reduceIte, Nat.reduceAdd, f0]
  refine hK _ ?_; clear hK K
  refine AW.cond _ (by simp -implicitDefEqProofs only [go_sem]; rfl) (fun hc => ?_) (fun hc => ?_)
  ·simp at hc
  refine AW.seq ?_
  refine AW.rT (by rfl) fun K hK => ?_
  simp -implicitDefEqProofs only [go_sem, ↓reduceIte, Nat.reduceAdd, Nat.reduceEqDiff, f1]
  refine hK _ ?_; clear hK K
  refine AW.cond _ (by simp -implicitDefEqProofs only [go_sem]; rfl) (fun hc => ?_) (fun hc => ?_)
  ·simp at hc
  refine AW.rT (by rfl) fun K hK => ?_
  simp -implicitDefEqProofs only [go_sem, ↓reduceIte, Nat.reduceAdd, Nat.reduceEqDiff, f2]
  refine hK _ ?_; clear hK K
  refine AW.cond _ (by simp -implicitDefEqProofs only [go_sem]; rfl) (fun hc => ?_) (fun hc => ?_)
  ·simp at hc
  refine AW.rE (by rfl) fun K hK => ?_
  simp -implicitDefEqProofs only [go_sem, ↓reduceIte, Nat.reduceAdd, Nat.reduceEqDiff, f3]
  refine hK _ ?_; clear hK K
  simp only [andThen]
  refine AW.cond _ (by simp -implicitDefEqProofs only [go_sem]; rfl) (fun hc => ?_) (fun hc => ?_)
  ·simp at hc
  refine AW.skip ?_
  simp only [andThen, inBlk]
  refine AW.rT (by rfl) fun K hK => ?_
  simp -implicitDefEqProofs only [go_sem, ↓reduceIte, Nat.reduceAdd, reduceCtorEq]
  refine ⟨.pure _, runes_in r 97 122, ?_⟩
  try simp -implicitDefEqProofs only [go_sem, ↓reduceIte, Nat.reduceAdd, Nat.reduceEqDiff, reduceCtorEq, f4]
  refine ⟨.pure _, runes_in r 65 90, ?_⟩
  try simp -implicitDefEqProofs only [go_sem, ↓reduceIte, Nat.reduceAdd, Nat.reduceEqDiff, reduceCtorEq, f5]
  refine ⟨.pure _, runes_in r 192 591, ?_⟩
  try simp -implicitDefEqProofs only [go_sem, ↓reduceIte, Nat.reduceAdd, Nat.reduceEqDiff, reduceCtorEq, f6]
  refine ⟨.pure _, runes_in r 913 969, ?_⟩
  try simp -implicitDefEqProofs only [go_sem, ↓reduceIte, Nat.reduceAdd, Nat.reduceEqDiff, f7]
  refine hK _ ?_; clear hK K
  refine AW.ret ?_
  simp -implicitDefEqProofs only [go_sem, e]
 ·skip
  have f0 : (r == 95) = false := by simp; omega
  have f1 : (r == 215) = false := by simp; omega
  have f2 : (r == 247) = false := by simp; omega
  have f3 : (r == 930) = false := by simp; omega
  have f4 : decide (97 ≤ r ∧ r ≤ 122) = false := decide_eq_false (by omega)
  have f5 : decide (65 ≤ r ∧ r ≤ 90) = false := decide_eq_false (by omega)
  have f6 : decide (192 ≤ r ∧ r ≤ 591) = true := decide_eq_true (by omega)
  have f7 : decide (913 ≤ r ∧ r ≤ 969) = false := decide_eq_false (by omega)
  have e : letterB r = true := decide_eq_true (by omega)
  refine AW.rT (by rfl) fun K hK => ?_
  simp -implicitDefEqProofs only [go_sem, ↓reduceIte, Nat.reduceAdd, f0]
  refine hK _ ?_; clear hK K
  refine AW.cond _ (by simp -implicitDefEqProofs only [go_sem]; rfl) (fun hc => ?_) (fun hc => ?_)
  ·simp at hc
  refine AW.seq ?_
  refine AW.rT (by rfl) fun K hK => ?_
  simp -implicitDefEqProofs only [go_sem, ↓reduceIte, Nat.reduceAdd, Nat.reduceEqDiff, f1]
  refine hK _ ?_; clear hK K
  refine AW.cond _ (by simp -implicitDefEqProofs only [go_sem]; rfl) (fun hc => ?_) (fun hc => ?_)
  ·simp at hc
  refine AW.rT (by rfl) fun K hK => ?_
  simp -implicitDefEqProofs only [go_sem, ↓reduceIte, Nat.reduceAdd, Nat.reduceEqDiff, f2]
  refine hK _ ?_; clear hK K
  refine AW.cond _ (by simp -implicitDefEqProofs only [go_sem]; rfl) (fun hc => ?_) (fun hc => ?_)
  ·simp at hc
  refine AW.rE (by rfl) fun K hK => ?_
  simp -implicitDefEqProofs only [go_sem, ↓reduceIte, Nat.reduceAdd, Nat.reduceEqDiff, f3]
  refine hK _ ?_; clear hK K
  simp only [andThen]
  refine AW.cond _ (by simp -implicitDefEqProofs only [go_sem]; rfl) (fun hc => ?_) (fun hc => ?_)
  ·simp at hc
  refine AW.skip ?_
  simp only [andThen, inBlk]
  refine AW.rT (by rfl) fun K hK => ?_
  simp -implicitDefEqProofs only [go_sem, ↓reduceIte, Nat.reduceAdd, reduceCtorEq]
  refine ⟨.pure _, runes_in r 97 122, ?_⟩
  try simp -implicitDefEqProofs only [go_sem, ↓reduceIte, Nat.reduceAdd, Nat.reduceEqDiff, reduceCtorEq, f4]
  refine ⟨.pure _, runes_in r 65 90, ?_⟩
  try simp -implicitDefEqProofs only [go_sem, ↓reduceIte, Nat.reduceAdd, Nat.reduceEqDiff, reduceCtorEq, f5]
  refine ⟨.pure _, runes_in r 192 591, ?_⟩
  try simp -implicitDefEqProofs only [go_sem, ↓reduceIte, Nat.reduceAdd, Nat.reduceEqDiff, f6]
  refine hK _ ?_; clear hK K
  refine AW.ret ?_
  simp -implicitDefEqProofs only [go_sem, e]
 ·skip
  have f0 : (r == 95) = false := by simp; omega
  have f1 : (r == 215) = true := by simp; omega
  have f2 : (r == 247) = false := by simp; omega
  have f3 : (r == 930) = false := by simp; omega
  have f4 : decide (97 ≤ r ∧ r ≤ 122) = false := decide_eq_false (by omega)
  have f5 : decide (65 ≤ r ∧ r ≤ 90) = false := decide_eq_false (by omega)
  have f6 : decide (192 ≤ r ∧ r ≤ 591) = true := decide_eq_true (by omega)
  have f7 : decide (913 ≤ r ∧ r ≤ 969) = false := decide_eq_false (by omega)
  have e : letterB r = false := decide_eq_false (by omega)
  refine AW.rT (by rfl) fun K hK => ?_
  simp -implicitDefEqProofs only [go_sem, ↓reduceIte, Nat.reduceAdd, f0]
  refine hK _ ?_; clear hK K
  refine AW.cond _ (by simp -implicitDefEqProofs only [go_sem]; rfl) (fun hc => ?_) (fun hc => ?_)
  ·simp at hc
  refine AW.seq ?_
  refine AW.rT (by rfl) fun K hK => ?_
  simp -implicitDefEqProofs only [go_sem, ↓reduceIte, Nat.reduceAdd, Nat.reduceEqDiff, f1]
  refine hK _ ?_; clear hK K
  refine AW.cond _ (by simp -implicitDefEqProofs only [go_sem]; rfl) (fun hc => ?_) (fun hc => ?_)
  rotate_left
  ·simp at hc
  refine AW.skip ?_
  simp only [andThen]
  refine AW.cond _ (by simp -implicitDefEqProofs only [go_sem]; rfl) (fun hc => ?_) (fun hc => ?_)
  rotate_left
  ·simp at hc
  refine AW.rT (by rfl) fun K hK => ?_
  simp -implicitDefEqProofs only [go_sem, Nat.reduceAdd]
  refine hK _ ?_; clear hK K
  refine AW.ret ?_
  simp -implicitDefEqProofs only [go_sem, e]
 ·skip
  have f0 : (r == 95) = false := by simp; omega
  have f1 : (r == 215) = false := by simp; omega
  have f2 : (r == 247) = false := by simp; omega
  have f3 : (r == 930) = false := by simp; omega
  have f4 : decide (97 ≤ r ∧ r ≤ 122) = false := decide_eq_false (by omega)
  have f5 : decide (65 ≤ r ∧ r ≤ 90) = false := decide_eq_false (by omega)
  have f6 : decide (192 ≤ r ∧ r ≤ 591) = true := decide_eq_true (by omega)
  have f7 : decide (913 ≤ r ∧ r ≤ 969) = false := decide_eq_false (by omega)
  have e : letterB r = true := decide_eq_true (by omega)
  refine AW.rT (by rfl) fun K hK => ?_
  simp -implicitDefEqProofs only [go_sem, ↓reduceIte, Nat.reduceAdd, f0]
  refine hK _ ?_; clear hK K
  refine AW.cond _ (by simp -implicitDefEqProofs only [go_sem]; rfl) (fun hc => ?_) (fun hc => ?_)
  ·simp at hc
  refine AW.seq ?_
  refine AW.rT (by rfl) fun K hK => ?_
  simp -implicitDefEqProofs only [go_sem, ↓reduceIte, Nat.reduceAdd, Nat.reduceEqDiff, f1]
  refine hK _ ?_; clear hK K
  refine AW.cond _ (by simp -implicitDefEqProofs only [go_sem]; rfl) (fun hc => ?_) (fun hc => ?_)
  ·simp at hc
  refine AW.rT (by rfl) fun K hK => ?_
  simp -implicitDefEqProofs only [go_sem, ↓reduceIte, Nat.reduceAdd, Nat.reduceEqDiff, f2]
  refine hK _ ?_; clear hK K
  refine AW.cond _ (by simp -implicitDefEqProofs only [go_sem]; rfl) (fun hc => ?_) (fun hc => ?_)
  ·simp at hc
  refine AW.rE (by rfl) fun K hK => ?_
  simp -implicitDefEqProofs only [go_sem, ↓reduceIte, Nat.reduceAdd, Nat.reduceEqDiff, f3]
  refine hK _ ?_; clear hK K
  simp only [andThen]
  refine AW.cond _ (by simp -implicitDefEqProofs only [go_sem]; rfl) (fun hc => ?_) (fun hc => ?_)
  ·simp at hc
  refine AW.skip ?_
  simp only [andThen, inBlk]
  refine AW.rT (by rfl) fun K hK => ?_
  simp -implicitDefEqProofs only [go_sem, ↓reduceIte, Nat.reduceAdd, reduceCtorEq]
  refine ⟨.pure _, runes_in r 97 122, ?_⟩
  try simp -implicitDefEqProofs only [go_sem, ↓reduceIte, Nat.reduceAdd, Nat.reduceEqDiff, reduceCtorEq, f4]
  refine ⟨.pure _, runes_in r 65 90, ?_⟩
  try simp -implicitDefEqProofs only [go_sem, ↓reduceIte, Nat.reduceAdd, Nat.reduceEqDiff, reduceCtorEq, f5]
  refine ⟨.pure _, runes_in r 192 591, ?_⟩
  try simp -implicitDefEqProofs only [go_sem, ↓reduceIte, Nat.reduceAdd, Nat.reduceEqDiff, f6]
  refine hK _ ?_; clear hK K
  refine AW.ret ?_
  simp -implicitDefEqProofs only [go_sem, e]
 ·skip
  have f0 : (r == 95) = false := by simp; omega
  have f1 : (r == 215) = false := by simp; omega
  have f2 : (r == 247) = true := by simp; omega
  have f3 : (r == 930) = false := by simp; omega
  have f4 : decide (97 ≤ r ∧ r ≤ 122) = false := decide_eq_false (by omega)
  have f5 : decide (65 ≤ r ∧ r ≤ 90) = false := decide_eq_false (by omega)
  have f6 : decide (192 ≤ r ∧ r ≤ 591) = true := decide_eq_true (by omega)
  have f7 : decide (913 ≤ r ∧ r ≤ 969) = false := decide_eq_false (by omega)
  have e : letterB r = false := decide_eq_false (by omega)
  refine AW.rT (by rfl) fun K hK => ?_
  simp -implicitDefEqProofs only [go_sem, ↓reduceIte, Nat.reduceAdd, f0]
  refine hK _ ?_; clear hK K
  refine AW.cond _ (by simp -implicitDefEqProofs only [go_sem]; rfl) (fun hc => ?_) (fun hc => ?_)
  ·simp at hc
  refine AW.seq ?_
  refine AW.rT (by rfl) fun K hK => ?_
  simp -implicitDefEqProofs only [go_sem, ↓reduceIte, Nat.reduceAdd, Nat.reduceEqDiff, f1]
  refine hK _ ?_; clear hK K
  refine AW.cond _ (by simp -implicitDefEqProofs only [go_sem]; rfl) (fun hc => ?_) (fun hc => ?_)
  ·simp at hc
  refine AW.rT (by rfl) fun K hK => ?_
  simp -implicitDefEqProofs only [go_sem, ↓reduceIte, Nat.reduceAdd, Nat.reduceEqDiff, f2]
  refine hK _ ?_; clear hK K
  refine AW.cond _ (by simp -implicitDefEqProofs only [go_sem]; rfl) (fun hc => ?_) (fun hc => ?_)
  rotate_left
  ·simp at hc
  refine AW.skip ?_
  simp only [andThen]
  refine AW.cond _ (by simp -implicitDefEqProofs only [go_sem]; rfl) (fun hc => ?_) (fun hc => ?_)
  rotate_left
  ·simp at hc
  refine AW.rT (by rfl) fun K hK => ?_
  simp -implicitDefEqProofs only [go_sem, Nat.reduceAdd]
  refine hK _ ?_; clear hK K
  refine AW.ret ?_
  simp -implicitDefEqProofs only [go_sem, e]
 ·skip
  have f0 : (r == 95) = false := by simp; omega
  have f1 : (r == 215) = false := by simp; omega
  have f2 : (r == 247) = false := by simp; omega
  have f3 : (r == 930) = false := by simp; omega
  have f4 : decide (97 ≤ r ∧ r ≤ 122) = false := decide_eq_false (by omega)
  have f5 : decide (65 ≤ r ∧ r ≤ 90) = false := decide_eq_false (by omega)
  have f6 : decide (192 ≤ r ∧ r ≤ 591) = true := decide_eq_true (by omega)
  have f7 : decide (913 ≤ r ∧ r ≤ 969) = false := decide_eq_false (by omega)
  have e : letterB r = true := decide_eq_true (by omega)
  refine AW.rT (by rfl) fun K hK => ?_
  simp -implicitDefEqProofs only [go_sem, ↓reduceIte, Nat.reduceAdd, f0]
  refine hK _ ?_; clear hK K
  refine AW.cond _ (by simp -implicitDefEqProofs only [go_sem]; rfl) (fun hc => ?_) (fun hc => ?_)
  ·simp at hc
  refine AW.seq ?_
  refine AW.rT (by rfl) fun K hK => ?_
  simp -implicitDefEqProofs only [go_sem, ↓reduceIte, Nat.reduceAdd, Nat.reduceEqDiff, f1]
  refine hK _ ?_; clear hK K
  refine AW.cond _ (by simp -implicitDefEqProofs only [go_sem]; rfl) (fun hc => ?_) (fun hc => ?_)
  ·simp at hc
  refine AW.rT (by rfl) fun K hK => ?_
  simp -implicitDefEqProofs only [go_sem, ↓reduceIte, Nat.reduceAdd, Nat.reduceEqDiff, f2]
  refine hK _ ?_; clear hK K
  refine AW.cond _ (by simp -implicitDefEqProofs only [go_sem]; rfl) (fun hc => ?_) (fun hc => ?_)
  ·simp at hc
  refine AW.rE (by rfl) fun K hK => ?_
  simp -implicitDefEqProofs only [go_sem, ↓reduceIte, Nat.reduceAdd, Nat.reduceEqDiff, f3]
  refine hK _ ?_; clear hK K
  simp only [andThen]
  refine AW.cond _ (by simp -implicitDefEqProofs only [go_sem]; rfl) (fun hc => ?_) (fun hc => ?_)
  ·simp at hc
  refine AW.skip ?_
  simp only [andThen, inBlk]
  refine AW.rT (by rfl) fun K hK => ?_
  simp -implicitDefEqProofs only [go_sem, ↓reduceIte, Nat.reduceAdd, reduceCtorEq]
  refine ⟨.pure _, runes_in r 97 122, ?_⟩
  try simp -implicitDefEqProofs only [go_sem, ↓reduceIte, Nat.reduceAdd, Nat.reduceEqDiff, reduceCtorEq, f4]
  refine ⟨.pure _, runes_in r 65 90, ?_⟩
  try simp -implicitDefEqProofs only [go_sem, ↓reduceIte, Nat.reduceAdd, Nat.reduceEqDiff, reduceCtorEq, f5]
  refine ⟨.pure _, runes_in r 192 591, ?_⟩
  try simp -implicitDefEqProofs only [go_sem, ↓reduceIte, Nat.reduceAdd, Nat.reduceEqDiff, f6]
  refine hK _ ?_; clear hK K
  refine AW.ret ?_
  simp -implicitDefEqProofs only [go_sem, e]
 ·skip
  have f0 : (r == 95) = false := by simp; omega
  have f1 : (r == 215) = false := by simp; omega
  have f2 : (r == 247) = false := by simp; omega
  have f3 : (r == 930) = false := by simp; omega
  have f4 : decide (97 ≤ r ∧ r ≤ 122) = false := decide_eq_false (by omega)
  have f5 : decide (65 ≤ r ∧ r ≤ 90) = false := decide_eq_false (by omega)
  have f6 : decide (192 ≤ r ∧ r ≤ 591) = false := decide_eq_false (by omega)
  have f7 : decide (913 ≤ r ∧ r ≤ 969) = false := decide_eq_false (by omega)
  have e : letterB r = false := decide_eq_false (by omega)
  refine AW.rT (by rfl) fun K hK => ?_
  simp -implicitDefEqProofs only [go_sem, ↓reduceIte, Nat.reduceAdd, f0]
  refine hK _ ?_; clear hK K
  refine AW.cond _ (by simp -implicitDefEqProofs only [go_sem]; rfl) (fun hc => ?_) (fun hc => ?_)
  ·simp at hc
  refine AW.seq ?_
  refine AW.rT (by rfl) fun K hK => ?_
  simp -implicitDefEqProofs only [go_sem, ↓reduceIte, Nat.reduceAdd, Nat.reduceEqDiff, f1]
  refine hK _ ?_; clear hK K
  refine AW.cond _ (by simp -implicitDefEqProofs only [go_sem]; rfl) (fun hc => ?_) (fun hc => ?_)
  ·simp at hc
  refine AW.rT (by rfl) fun K hK => ?_
  simp -implicitDefEqProofs only [go_sem, ↓reduceIte, Nat.reduceAdd, Nat.reduceEqDiff, f2]
  refine hK _ ?_; clear hK K
  refine AW.cond _ (by simp -implicitDefEqProofs only [go_sem]; rfl) (fun hc => ?_) (fun hc => ?_)
  ·simp at hc
  refine AW.rE (by rfl) fun K hK => ?_
  simp -implicitDefEqProofs only [go_sem, ↓reduceIte, Nat.reduceAdd, Nat.reduceEqDiff, f3]
  refine hK _ ?_; clear hK K
  simp only [andThen]
  refine AW.cond _ (by simp -implicitDefEqProofs only [go_sem]; rfl) (fun hc => ?_) (fun hc => ?_)
  ·simp at hc
  refine AW.skip ?_
  simp only [andThen, inBlk]
  refine AW.rT (by rfl) fun K hK => ?_
  simp -implicitDefEqProofs only [go_sem, ↓reduceIte, Nat.reduceAdd, reduceCtorEq]
  refine ⟨.pure _, runes_in r 97 122, ?_⟩
  try simp -implicitDefEqProofs only [go_sem, ↓reduceIte, Nat.reduceAdd, Nat.reduceEqDiff, reduceCtorEq, f4]
  refine ⟨.pure _, runes_in r 65 90, ?_⟩
  try simp -implicitDefEqProofs only [go_sem, ↓reduceIte, Nat.reduceAdd, Nat.reduceEqDiff, reduceCtorEq, f5]
  refine ⟨.pure _, runes_in r 192 591, ?_⟩
  try simp -implicitDefEqProofs only [go_sem, ↓reduceIte, Nat.reduceAdd, Nat.reduceEqDiff, reduceCtorEq, f6]
  refine ⟨.pure _, runes_in r 913 969, ?_⟩
  try simp -implicitDefEqProofs only [go_sem, ↓reduceIte, Nat.reduceAdd, Nat.reduceEqDiff, f7]
  refine hK _ ?_; clear hK K
  refine AW.ret ?_
  simp -implicitDefEqProofs only [go_sem, e]
 ·skip
  have f0 : (r == 95) = false := by simp; omega
  have f1 : (r == 215) = false := by simp; omega
  have f2 : (r == 247) = false := by simp; omega
  have f3 : (r == 930) = false := by simp; omega
  have f4 : decide (97 ≤ r ∧ r ≤ 122) = false := decide_eq_false (by omega)
  have f5 : decide (65 ≤ r ∧ r ≤ 90) = false := decide_eq_false (by omega)
  have f6 : decide (192 ≤ r ∧ r ≤ 591) = false := decide_eq_false (by omega)
  have f7 : decide (913 ≤ r ∧ r ≤ 969) = true := decide_eq_true (by omega)
  have e : letterB r = true := decide_eq_true (by omega)
  refine AW.rT (by rfl) fun K hK => ?_
  simp -implicitDefEqProofs only [go_sem, ↓reduceIte, Nat.reduceAdd, f0]
  refine hK _ ?_; clear hK K
  refine AW.cond _ (by simp -implicitDefEqProofs only [go_sem]; rfl) (fun hc => ?_) (fun hc => ?_)
  ·simp at hc
  refine AW.seq ?_
  refine AW.rT (by rfl) fun K hK => ?_
  simp -implicitDefEqProofs only [go_sem, ↓reduceIte, Nat.reduceAdd, Nat.reduceEqDiff, f1]
  refine hK _ ?_; clear hK K
  refine AW.cond _ (by simp -implicitDefEqProofs only [go_sem]; rfl) (fun hc => ?_) (fun hc => ?_)
  ·simp at hc
  refine AW.rT (by rfl) fun K hK => ?_
  simp -implicitDefEqProofs only [go_sem, ↓reduceIte, Nat.reduceAdd, Nat.reduceEqDiff, f2]
  refine hK _ ?_; clear hK K
  refine AW.cond _ (by simp -implicitDefEqProofs only [go_sem]; rfl) (fun hc => ?_) (fun hc => ?_)
  ·simp at hc
  refine AW.rE (by rfl) fun K hK => ?_
  simp -implicitDefEqProofs only [go_sem, ↓reduceIte, Nat.reduceAdd, Nat.reduceEqDiff, f3]
  refine hK _ ?_; clear hK K
  simp only [andThen]
  refine AW.cond _ (by simp -implicitDefEqProofs only [go_sem]; rfl) (fun hc => ?_) (fun hc => ?_)
  ·simp at hc
  refine AW.skip ?_
  simp only [andThen, inBlk]
  refine AW.rT (by rfl) fun K hK => ?_
  simp -implicitDefEqProofs only [go_sem, ↓reduceIte, Nat.reduceAdd, reduceCtorEq]
  refine ⟨.pure _, runes_in r 97 122, ?_⟩
  try simp -implicitDefEqProofs only [go_sem, ↓reduceIte, Nat.reduceAdd, Nat.reduceEqDiff, reduceCtorEq, f4]
  refine ⟨.pure _, runes_in r 65 90, ?_⟩
  try simp -implicitDefEqProofs only [go_sem, ↓reduceIte, Nat.reduceAdd, Nat.reduceEqDiff, reduceCtorEq, f5]
  refine ⟨.pure _, runes_in r 192 591, ?_⟩
  try simp -implicitDefEqProofs only [go_sem, ↓reduceIte, Nat.reduceAdd, Nat.reduceEqDiff, reduceCtorEq, f6]
  refine ⟨.pure _, runes_in r 913 969, ?_⟩
  try simp -implicitDefEqProofs only [go_sem, ↓reduceIte, Nat.reduceAdd, Nat.reduceEqDiff, f7]
  refine hK _ ?_; clear hK K
  refine AW.ret ?_
  simp -implicitDefEqProofs only [go_sem, e]
 ·skip
  have f0 : (r == 95) = false := by simp; omega
  have f1 : (r == 215) = false := by simp; omega
  have f2 : (r == 247) = false := by simp; omega
  have f3 : (r == 930) = true := by simp; omega
  have f4 : decide (97 ≤ r ∧ r ≤ 122) = false := decide_eq_false (by omega)
  have f5 : decide (65 ≤ r ∧ r ≤ 90) = false := decide_eq_false (by omega)
  have f6 : decide (192 ≤ r ∧ r ≤ 591) = false := decide_eq_false (by omega)
  have f7 : decide (913 ≤ r ∧ r ≤ 969) = true := decide_eq_true (by omega)
  have e : letterB r = false := decide_eq_false (by omega)
  refine AW.rT (by rfl) fun K hK => ?_
  simp -implicitDefEqProofs only [go_sem, ↓reduceIte, Nat.reduceAdd, f0]
  refine hK _ ?_; clear hK K
  refine AW.cond _ (by simp -implicitDefEqProofs only [go_sem]; rfl) (fun hc => ?_) (fun hc => ?_)
  ·simp at hc
  refine AW.seq ?_
  refine AW.rT (by rfl) fun K hK => ?_
  simp -implicitDefEqProofs only [go_sem, ↓reduceIte, Nat.reduceAdd, Nat.reduceEqDiff, f1]
  refine hK _ ?_; clear hK K
  refine AW.cond _ (by simp -implicitDefEqProofs only [go_sem]; rfl) (fun hc => ?_) (fun hc => ?_)
  ·simp at hc
  refine AW.rT (by rfl) fun K hK => ?_
  simp -implicitDefEqProofs only [go_sem, ↓reduceIte, Nat.reduceAdd, Nat.reduceEqDiff, f2]
  refine hK _ ?_; clear hK K
  refine AW.cond _ (by simp -implicitDefEqProofs only [go_sem]; rfl) (fun hc => ?_) (fun hc => ?_)
  ·simp at hc
  refine AW.rE (by rfl) fun K hK => ?_
  simp -implicitDefEqProofs only [go_sem, ↓reduceIte, Nat.reduceAdd, Nat.reduceEqDiff, f3]
  refine hK _ ?_; clear hK K
  simp only [andThen]
  refine AW.cond _ (by simp -implicitDefEqProofs only [go_sem]; rfl) (fun hc => ?_) (fun hc => ?_)
  rotate_left
  ·simp at hc
  refine AW.rT (by rfl) fun K hK => ?_
  simp -implicitDefEqProofs only [go_sem, Nat.reduceAdd]
  refine hK _ ?_; clear hK K
  refine AW.ret ?_
  simp -implicitDefEqProofs only [go_sem, e]
 ·skip
  have f0 : (r == 95) = false := by simp; omega
  have f1 : (r == 215) = false := by simp; omega
  have f2 : (r == 247) = false := by simp; omega
  have f3 : (r == 930) = false := by simp; omega
  have f4 : decide (97 ≤ r ∧ r ≤ 122) = false := decide_eq_false (by omega)
  have f5 : decide (65 ≤ r ∧ r ≤ 90) = false := decide_eq_false (by omega)
  have f6 : decide (192 ≤ r ∧ r ≤ 591) = false := decide_eq_false (by omega)
  have f7 : decide (913 ≤ r ∧ r ≤ 969) = true := decide_eq_true (by omega)
  have e : letterB r = true := decide_eq_true (by omega)
  refine AW.rT (by rfl) fun K hK => ?_
  simp -implicitDefEqProofs only [go_sem, ↓reduceIte, Nat.reduceAdd, f0]
  refine hK _ ?_; clear hK K
  refine AW.cond _ (by simp -implicitDefEqProofs only [go_sem]; rfl) (fun hc => ?_) (fun hc => ?_)
  ·simp at hc
  refine AW.seq ?_
  refine AW.rT (by rfl) fun K hK => ?_
  simp -implicitDefEqProofs only [go_sem, ↓reduceIte, Nat.reduceAdd, Nat.reduceEqDiff, f1]
  refine hK _ ?_; clear hK K
  refine AW.cond _ (by simp -implicitDefEqProofs only [go_sem]; rfl) (fun hc => ?_) (fun hc => ?_)
  ·simp at hc
  refine AW.rT (by rfl) fun K hK => ?_
  simp -implicitDefEqProofs only [go_sem, ↓reduceIte, Nat.reduceAdd, Nat.reduceEqDiff, f2]
  refine hK _ ?_; clear hK K
  refine AW.cond _ (by simp -implicitDefEqProofs only [go_sem]; rfl) (fun hc => ?_) (fun hc => ?_)
  ·simp at hc
  refine AW.rE (by rfl) fun K hK => ?_
  simp -implicitDefEqProofs only [go_sem, ↓reduceIte, Nat.reduceAdd, Nat.reduceEqDiff, f3]
  refine hK _ ?_; clear hK K
  simp only [andThen]
  refine AW.cond _ (by simp -implicitDefEqProofs only [go_sem]; rfl) (fun hc => ?_) (fun hc => ?_)
  ·simp at hc
  refine AW.skip ?_
  simp only [andThen, inBlk]
  refine AW.rT (by rfl) fun K hK => ?_
  simp -implicitDefEqProofs only [go_sem, ↓reduceIte, Nat.reduceAdd, reduceCtorEq]
  refine ⟨.pure _, runes_in r 97 122, ?_⟩
  try simp -implicitDefEqProofs only [go_sem, ↓reduceIte, Nat.reduceAdd, Nat.reduceEqDiff, reduceCtorEq, f4]
  refine ⟨.pure _, runes_in r 65 90, ?_⟩
  try simp -implicitDefEqProofs only [go_sem, ↓reduceIte, Nat.reduceAdd, Nat.reduceEqDiff, reduceCtorEq, f5]
  refine ⟨.pure _, runes_in r 192 591, ?_⟩
  try simp -implicitDefEqProofs only [go_sem, ↓reduceIte, Nat.reduceAdd, Nat.reduceEqDiff, reduceCtorEq, f6]
  refine ⟨.pure _, runes_in r 913 969, ?_⟩
  try simp -implicitDefEqProofs only [go_sem, ↓reduceIte, Nat.reduceAdd, Nat.reduceEqDiff, f7]
  refine hK _ ?_; clear hK K
  refine AW.ret ?_
  simp -implicitDefEqProofs only [go_sem, e]
 ·skip
  have f0 : (r == 95) = false := by simp; omega
  have f1 : (r == 215) = false := by simp; omega
  have f2 : (r == 247) = false := by simp; omega
  have f3 : (r == 930) = false := by simp; omega
  have f4 : decide (97 ≤ r ∧ r ≤ 122) = false := decide_eq_false (by omega)
  have f5 : decide (65 ≤ r ∧ r ≤ 90) = false := decide_eq_false (by omega)
  have f6 : decide (192 ≤ r ∧ r ≤ 591) = false := decide_eq_false (by omega)
  have f7 : decide (913 ≤ r ∧ r ≤ 969) = false := decide_eq_false (by omega)
  have e : letterB r = false := decide_eq_false (by omega)
  refine AW.rT (by rfl) fun K hK => ?_
  simp -implicitDefEqProofs only [go_sem, ↓reduceIte, Nat.reduceAdd, f0]
  refine hK _ ?_; clear hK K
  refine AW.cond _ (by simp -implicitDefEqProofs only [go_sem]; rfl) (fun hc => ?_) (fun hc => ?_)
  ·simp at hc
  refine AW.seq ?_
  refine AW.rT (by rfl) fun K hK => ?_
  simp -implicitDefEqProofs only [go_sem, ↓reduceIte, Nat.reduceAdd, Nat.reduceEqDiff, f1]
  refine hK _ ?_; clear hK K
  refine AW.cond _ (by simp -implicitDefEqProofs only [go_sem]; rfl) (fun hc => ?_) (fun hc => ?_)
  ·simp at hc
  refine AW.rT (by rfl) fun K hK => ?_
  simp -implicitDefEqProofs only [go_sem, ↓reduceIte, Nat.reduceAdd, Nat.reduceEqDiff, f2]
  refine hK _ ?_; clear hK K
  refine AW.cond _ (by simp -implicitDefEqProofs only [go_sem]; rfl) (fun hc => ?_) (fun hc => ?_)
  ·simp at hc
  refine AW.rE (by rfl) fun K hK => ?_
  simp -implicitDefEqProofs only [go_sem, ↓reduceIte, Nat.reduceAdd, Nat.reduceEqDiff, f3]
  refine hK _ ?_; clear hK K
  simp only [andThen]
  refine AW.cond _ (by simp -implicitDefEqProofs only [go_sem]; rfl) (fun hc => ?_) (fun hc => ?_)
  ·simp at hc
  refine AW.skip ?_
  simp only [andThen, inBlk]
  refine AW.rT (by rfl) fun K hK => ?_
  simp -implicitDefEqProofs only [go_sem, ↓reduceIte, Nat.reduceAdd, reduceCtorEq]
  refine ⟨.pure _, runes_in r 97 122, ?_⟩
  try simp -implicitDefEqProofs only [go_sem, ↓reduceIte, Nat.reduceAdd, Nat.reduceEqDiff, reduceCtorEq, f4]
  refine ⟨.pure _, runes_in r 65 90, ?_⟩
  try simp -implicitDefEqProofs only [go_sem, ↓reduceIte, Nat.reduceAdd, Nat.reduceEqDiff, reduceCtorEq, f5]
  refine ⟨.pure _, runes_in r 192 591, ?_⟩
  try simp -implicitDefEqProofs only [go_sem, ↓reduceIte, Nat.reduceAdd, Nat.reduceEqDiff, reduceCtorEq, f6]
  refine ⟨.pure _, runes_in r 913 969, ?_⟩
  try simp -implicitDefEqProofs only [go_sem, ↓reduceIte, Nat.reduceAdd, Nat.reduceEqDiff, f7]
  refine hK _ ?_; clear hK K
  refine AW.ret ?_
  simp -implicitDefEqProofs only [go_sem, e]
def kS80 (s : List UInt8) : St := ⟨ofL [(4, .p (.bool (keyB s)))], ofH [], 0⟩
set_option maxRecDepth 100000 in
theorem runes_Key (s : List UInt8) : PFn Tryd.prog 123 [.str s] (.bool (keyB s)) := by
 refine PFn.of Tryd.func123 rfl (by decide) Tryd.ntmps123 Tryd.results123 (Nat.le_of_ble_eq_true rfl) ?_
 simp only [argsT]
 refine AW.rT (by rfl) fun K hK => ?_
 simp -implicitDefEqProofs only [go_sem]
 refine hK _ ?_; clear hK K
 refine AW.seq ?_
 refine AW.rT (by rfl) fun K hK => ?_
 simp -implicitDefEqProofs only [go_sem, ↓reduceIte, Nat.reduceAdd, reduceCtorEq]
 refine hK _ ?_; clear hK K
 refine AW.block ?_
 refine AW.cut (fun _ : Unit => kS80 s) (fun _ => True) ?_ fun _ _ => ?_
 ·refine AW.rT (by rfl) fun K hK => ?_
  simp -implicitDefEqProofs only [go_sem, ↓reduceIte, Nat.reduceAdd]
  refine hK _ ?_; clear hK K
  refine AW.cond _ (by simp -implicitDefEqProofs only [go_sem]; rfl) (fun hc => ?_) (fun hc => ?_)
  ·have e : keyB s = true := by simp only [keyB, keyWords, List.contains_cons, List.contains_nil, Bool.true_or, Bool.or_false, hc]
   refine AW.skip ?_
   simp only [andThen]
   refine ⟨(), trivial, ?_⟩
   simp only [kS80]
   refine Ghost.sub ?_ ?_ <;> simp -implicitDefEqProofs only [go_sem, ↓reduceIte, reduceCtorEq, e, hc, List.forall_mem_cons, List.not_mem_nil, false_implies, implies_true, and_self, AV.labsIn]
  have h0 : (s == ([115, 99, 104, 101, 109, 97] : List UInt8)) = false := hc
  clear hc
  refine AW.rT (by rfl) fun K hK => ?_
  simp -implicitDefEqProofs only [go_sem, ↓reduceIte, Nat.reduceAdd, Nat.reduceEqDiff]
  refine hK _ ?_; clear hK K
  refine AW.cond _ (by simp -implicitDefEqProofs only [go_sem]; rfl) (fun hc => ?_) (fun hc => ?_)
  ·have e : keyB s = true := by simp only [keyB, keyWords, List.contains_cons, List.contains_nil, Bool.true_or, Bool.or_false, Bool.or_true, h0, hc]
   refine AW.skip ?_
   simp only [andThen]
   refine ⟨(), trivial, ?_⟩
   simp only [kS80]
   refine Ghost.sub ?_ ?_ <;> simp -implicitDefEqProofs only [go_sem, ↓reduceIte, reduceCtorEq, e, hc, List.forall_mem_cons, List.not_mem_nil, false_implies, implies_true, and_self, AV.labsIn]
  have h1 : (s == ([109, 101, 115, 115, 97, 103, 101] : List UInt8)) = false := hc
  clear hc
  refine AW.rT (by rfl) fun K hK => ?_
  simp -implicitDefEqProofs only [go_sem, ↓reduceIte, Nat.reduceAdd, Nat.reduceEqDiff]
  refine hK _ ?_; clear hK K
  refine AW.cond _ (by simp -implicitDefEqProofs only [go_sem]; rfl) (fun hc => ?_) (fun hc => ?_)
  ·have e : keyB s = true := by simp only [keyB, keyWords, List.contains_cons, List.contains_nil, Bool.true_or, Bool.or_false, Bool.or_true, h0, h1, hc]
   refine AW.skip ?_
   simp only [andThen]
   refine ⟨(), trivial, ?_⟩
   simp only [kS80]
   refine Ghost.sub ?_ ?_ <;> simp -implicitDefEqProofs only [go_sem, ↓reduceIte, reduceCtorEq, e, hc, List.forall_mem_cons, List.not_mem_nil, false_implies, implies_true, and_self, AV.labsIn]
  have h2 : (s == ([101, 110, 117, 109] : List UInt8)) = false := hc
  clear hc
  refine AW.rT (by rfl) fun K hK => ?_
  simp -implicitDefEqProofs only [go_sem, ↓reduceIte, Nat.reduceAdd, Nat.reduceEqDiff]
  refine hK _ ?_; clear hK K
  refine AW.cond _ (by simp -implicitDefEqProofs only [go_sem]; rfl) (fun hc => ?_) (fun hc => ?_)
  ·have e : keyB s = true := by simp only [keyB, keyWords, List.contains_cons, List.contains_nil, Bool.true_or, Bool.or_false, Bool.or_true, h0, h1, h2, hc]
   refine AW.skip ?_
   simp only [andThen]
   refine ⟨(), trivial, ?_⟩
   simp only [kS80]
   refine Ghost.sub ?_ ?_ <;> simp -implicitDefEqProofs only [go_sem, ↓reduceIte, reduceCtorEq, e, hc, List.forall_mem_cons, List.not_mem_nil, false_implies, implies_true, and_self, AV.labsIn]
  have h3 : (s == ([99, 97, 108, 108] : List UInt8)) = false := hc
  clear hc
  refine AW.rT (by rfl) fun K hK => ?_
  simp -implicitDefEqProofs only [go_sem, ↓reduceIte, Nat.reduceAdd, Nat.reduceEqDiff]
  refine hK _ ?_; clear hK K
  refine AW.cond _ (by simp -implicitDefEqProofs only [go_sem]; rfl) (fun hc => ?_) (fun hc => ?_)
  ·have e : keyB s = true := by simp only [keyB, keyWords, List.contains_cons, List.contains_nil, Bool.true_or, Bool.or_false, Bool.or_true, h0, h1, h2, h3, hc]
   refine AW.skip ?_
   simp only [andThen]
   refine ⟨(), trivial, ?_⟩
   simp only [kS80]
   refine Ghost.sub ?_ ?_ <;> simp -implicitDefEqProofs only [go_sem, ↓reduceIte, reduceCtorEq, e, hc, List.forall_mem_cons, List.not_mem_nil, false_implies, implies_true, and_self, AV.labsIn]
  have h4 : (s == ([114, 101, 116, 117, 114, 110, 115] : List UInt8)) = false := hc
  clear hc
  refine AW.rT (by rfl) fun K hK => ?_
  simp -implicitDefEqProofs only [go_sem, ↓reduceIte, Nat.reduceAdd, Nat.reduceEqDiff]
  refine hK _ ?_; clear hK K
  refine AW.cond _ (by simp -implicitDefEqProofs only [go_sem]; rfl) (fun hc => ?_) (fun hc => ?_)
  ·have e : keyB s = true := by simp only [keyB, keyWords, List.contains_cons, List.contains_nil, Bool.true_or, Bool.or_false, Bool.or_true, h0, h1, h2, h3, h4, hc]
   refine AW.skip ?_
   simp only [andThen]
   refine ⟨(), trivial, ?_⟩
   simp only [kS80]
   refine Ghost.sub ?_ ?_ <;> simp -implicitDefEqProofs only [go_sem, ↓reduceIte, reduceCtorEq, e, hc, List.forall_mem_cons, List.not_mem_nil, false_implies, implies_true, and_self, AV.labsIn]
  have h5 : (s == ([114, 101, 115, 101, 114, 118, 101, 100] : List UInt8)) = false := hc
  clear hc
  refine AW.rT (by rfl) fun K hK => ?_
  simp -implicitDefEqProofs only [go_sem, ↓reduceIte, Nat.reduceAdd, Nat.reduceEqDiff]
  refine hK _ ?_; clear hK K
  refine AW.cond _ (by simp -implicitDefEqProofs only [go_sem]; rfl) (fun hc => ?_) (fun hc => ?_)
  ·have e : keyB s = true := by simp only [keyB, keyWords, List.contains_cons, List.contains_nil, Bool.true_or, Bool.or_false, Bool.or_true, h0, h1, h2, h3, h4, h5, hc]
   refine AW.skip ?_
   simp only [andThen]
   refine ⟨(), trivial, ?_⟩
   simp only [kS80]
   refine Ghost.sub ?_ ?_ <;> simp -implicitDefEqProofs only [go_sem, ↓reduceIte, reduceCtorEq, e, hc, List.forall_mem_cons, List.not_mem_nil, false_implies, implies_true, and_self, AV.labsIn]
  have h6 : (s == ([111, 112, 116, 105, 111, 110, 97, 108] : List UInt8)) = false := hc
  clear hc
  refine AW.rT (by rfl) fun K hK => ?_
  simp -implicitDefEqProofs only [go_sem, ↓reduceIte, Nat.reduceAdd, Nat.reduceEqDiff]
  refine hK _ ?_; clear hK K
  refine AW.cond _ (by simp -implicitDefEqProofs only [go_sem]; rfl) (fun hc => ?_) (fun hc => ?_)
  ·have e : keyB s = true := by simp only [keyB, keyWords, List.contains_cons, List.contains_nil, Bool.true_or, Bool.or_false, Bool.or_true, h0, h1, h2, h3, h4, h5, h6, hc]
   refine AW.skip ?_
   simp only [andThen]
   refine ⟨(), trivial, ?_⟩
   simp only [kS80]
   refine Ghost.sub ?_ ?_ <;> simp -implicitDefEqProofs only [go_sem, ↓reduceIte, reduceCtorEq, e, hc, List.forall_mem_cons, List.not_mem_nil, false_implies, implies_true, and_self, AV.labsIn]
  have h7 : (s == ([114, 101, 112, 101, 97, 116, 101, 100] : List UInt8)) = false := hc
  clear hc
  refine AW.rT (by rfl) fun K hK => ?_
  simp -implicitDefEqProofs only [go_sem, ↓reduceIte, Nat.reduceAdd, Nat.reduceEqDiff]
  refine hK _ ?_; clear hK K
  refine AW.cond _ (by simp -implicitDefEqProofs only [go_sem]; rfl) (fun hc => ?_) (fun hc => ?_)
  ·have e : keyB s = true := by simp only [keyB, keyWords, List.contains_cons, List.contains_nil, Bool.true_or, Bool.or_false, Bool.or_true, h0, h1, h2, h3, h4, h5, h6, h7, hc]
   refine AW.skip ?_
   simp only [andThen]
   refine ⟨(), trivial, ?_⟩
   simp only [kS80]
   refine Ghost.sub ?_ ?_ <;> simp -implicitDefEqProofs only [go_sem, ↓reduceIte, reduceCtorEq, e, hc, List.forall_mem_cons, List.not_mem_nil, false_implies, implies_true, and_self, AV.labsIn]
  have h8 : (s == ([105, 110, 116, 51, 50] : List UInt8)) = false := hc
  clear hc
  refine AW.rT (by rfl) fun K hK => ?_
  simp -implicitDefEqProofs only [go_sem, ↓reduceIte, Nat.reduceAdd, Nat.reduceEqDiff]
  refine hK _ ?_; clear hK K
  refine AW.cond _ (by simp -implicitDefEqProofs only [go_sem]; rfl) (fun hc => ?_) (fun hc => ?_)
  ·have e : keyB s = true := by simp only [keyB, keyWords, List.contains_cons, List.contains_nil, Bool.true_or, Bool.or_false, Bool.or_true, h0, h1, h2, h3, h4, h5, h6, h7, h8, hc]
   refine AW.skip ?_
   simp only [andThen]
   refine ⟨(), trivial, ?_⟩
   simp only [kS80]
   refine Ghost.sub ?_ ?_ <;> simp -implicitDefEqProofs only [go_sem, ↓reduceIte, reduceCtorEq, e, hc, List.forall_mem_cons, List.not_mem_nil, false_implies, implies_true, and_self, AV.labsIn]
  have h9 : (s == ([105, 110, 116, 54, 52] : List UInt8)) = false := hc
  clear hc
  refine AW.rT (by rfl) fun K hK => ?_
  simp -implicitDefEqProofs only [go_sem, ↓reduceIte, Nat.reduceAdd, Nat.reduceEqDiff]
  refine hK _ ?_; clear hK K
  refine AW.cond _ (by simp -implicitDefEqProofs only [go_sem]; rfl) (fun hc => ?_) (fun hc => ?_)
  ·have e : keyB s = true := by simp only [keyB, keyWords, List.contains_cons, List.contains_nil, Bool.true_or, Bool.or_false, Bool.or_true, h0, h1, h2, h3, h4, h5, h6, h7, h8, h9, hc]
   refine AW.skip ?_
   simp only [andThen]
   refine ⟨(), trivial, ?_⟩
   simp only [kS80]
   refine Ghost.sub ?_ ?_ <;> simp -implicitDefEqProofs only [go_sem, ↓reduceIte, reduceCtorEq, e, hc, List.forall_mem_cons, List.not_mem_nil, false_implies, implies_true, and_self, AV.labsIn]
  have h10 : (s == ([98, 111, 111, 108] : List UInt8)) = false := hc
  clear hc
  refine AW.rT (by rfl) fun K hK => ?_
  simp -implicitDefEqProofs only [go_sem, ↓reduceIte, Nat.reduceAdd, Nat.reduceEqDiff]
  refine hK _ ?_; clear hK K
  refine AW.cond _ (by simp -implicitDefEqProofs only [go_sem]; rfl) (fun hc => ?_) (fun hc => ?_)
  ·have e : keyB s = true := by simp only [keyB, keyWords, List.contains_cons, List.contains_nil, Bool.true_or, Bool.or_false, Bool.or_true, h0, h1, h2, h3, h4, h5, h6, h7, h8, h9, h10, hc]
   refine AW.skip ?_
   simp only [andThen]
   refine ⟨(), trivial, ?_⟩
   simp only [kS80]
   refine Ghost.sub ?_ ?_ <;> simp -implicitDefEqProofs only [go_sem, ↓reduceIte, reduceCtorEq, e, hc, List.forall_mem_cons, List.not_mem_nil, false_implies, implies_true, and_self, AV.labsIn]
  have h11 : (s == ([116, 101, 120, 116] : List UInt8)) = false := hc
  clear hc
  have e : keyB s = (s == ([98, 121, 116, 101, 115] : List UInt8)) := by simp only [keyB, keyWords, List.contains_cons, List.contains_nil, Bool.false_or, Bool.or_false, h0, h1, h2, h3, h4, h5, h6, h7, h8, h9, h10, h11]
  refine AW.rE (by rfl) fun K hK => ?_
  simp -implicitDefEqProofs only [go_sem, ↓reduceIte, Nat.reduceAdd, Nat.reduceEqDiff]
  refine hK _ ?_; clear hK K
  simp only [andThen]
  refine ⟨(), trivial, ?_⟩
  simp only [kS80]
  refine Ghost.sub ?_ ?_ <;> simp -implicitDefEqProofs only [go_sem, ↓reduceIte, reduceCtorEq, e, List.forall_mem_cons, List.not_mem_nil, false_implies, implies_true, and_self, AV.labsIn]
 simp only [kS80]
 refine AW.cond _ (by simp -implicitDefEqProofs only [go_sem, ↓reduceIte]; rfl) (fun hc => ?_) (fun hc => ?_)
 ·refine AW.rT (by rfl) fun K hK => ?_
  simp -implicitDefEqProofs only [go_sem]
  refine hK _ ?_; clear hK K
  refine AW.ret ?_
  simp -implicitDefEqProofs only [go_sem, hc]
 ·refine AW.skip ?_
  simp only [andThen, inBlk]
  refine AW.rT (by rfl) fun K hK => ?_
  simp -implicitDefEqProofs only [go_sem]
  refine hK _ ?_; clear hK K
  refine AW.ret ?_
  simp -implicitDefEqProofs only [go_sem, hc]
def kS87 (s : List UInt8) : St := ⟨ofL [(4, .p (.bool (keyB s)))], ofH [], 0⟩
set_option maxRecDepth 100000 in
theorem ref01_Key (s : List UInt8) : PFn Tryd.prog 86 [.str s] (.bool (keyB s)) := by
 refine PFn.of Tryd.func86 rfl (by decide) Tryd.ntmps86 Tryd.results86 (Nat.le_of_ble_eq_true rfl) ?_
 simp only [argsT]
 refine AW.rT (by rfl) fun K hK => ?_
 simp -implicitDefEqProofs only [go_sem]
 refine hK _ ?_; clear hK K
 refine AW.seq ?_
 refine AW.rT (by rfl) fun K hK => ?_
 simp -implicitDefEqProofs only [go_sem, ↓reduceIte, Nat.reduceAdd, reduceCtorEq]
 refine hK _ ?_; clear hK K
 refine AW.block ?_
 refine AW.cut (fun _ : Unit => kS87 s) (fun _ => True) ?_ fun _ _ => ?_
 ·refine AW.rT (by rfl) fun K hK => ?_
  simp -implicitDefEqProofs only [go_sem, ↓reduceIte, Nat.reduceAdd]
  refine hK _ ?_; clear hK K
  refine AW.cond _ (by simp -implicitDefEqProofs only [go_sem]; rfl) (fun hc => ?_) (fun hc => ?_)
  ·have e : keyB s = true := by simp only [keyB, keyWords, List.contains_cons, List.contains_nil, Bool.true_or, Bool.or_false, hc]
   refine AW.skip ?_
   simp only [andThen]
   refine ⟨(), trivial, ?_⟩
   simp only [kS87]
   refine Ghost.sub ?_ ?_ <;> simp -implicitDefEqProofs only [go_sem, ↓reduceIte, reduceCtorEq, e, hc, List.forall_mem_cons, List.not_mem_nil, false_implies, implies_true, and_self, AV.labsIn]
  have h0 : (s == ([115, 99, 104, 101, 109, 97] : List UInt8)) = false := hc
  clear hc
  refine AW.rT (by rfl) fun K hK => ?_
  simp -implicitDefEqProofs only [go_sem, ↓reduceIte, Nat.reduceAdd, Nat.reduceEqDiff]
  refine hK _ ?_; clear hK K
  refine AW.cond _ (by simp -implicitDefEqProofs only [go_sem]; rfl) (fun hc => ?_) (fun hc => ?_)
  ·have e : keyB s = true := by simp only [keyB, keyWords, List.contains_cons, List.contains_nil, Bool.true_or, Bool.or_false, Bool.or_true, h0, hc]
   refine AW.skip ?_
   simp only [andThen]
   refine ⟨(), trivial, ?_⟩
   simp only [kS87]
   refine Ghost.sub ?_ ?_ <;> simp -implicitDefEqProofs only [go_sem, ↓reduceIte, reduceCtorEq, e, hc, List.forall_mem_cons, List.not_mem_nil, false_implies, implies_true, and_self, AV.labsIn]
  have h1 : (s == ([109, 101, 115, 115, 97, 103, 101] : List UInt8)) = false := hc
  clear hc
  refine AW.rT (by rfl) fun K hK => ?_
  simp -implicitDefEqProofs only [go_sem, ↓reduceIte, Nat.reduceAdd, Nat.reduceEqDiff]
  refine hK _ ?_; clear hK K
  refine AW.cond _ (by simp -implicitDefEqProofs only [go_sem]; rfl) (fun hc => ?_) (fun hc => ?_)
  ·have e : keyB s = true := by simp only [keyB, keyWords, List.contains_cons, List.contains_nil, Bool.true_or, Bool.or_false, Bool.or_true, h0, h1, hc]
   refine AW.skip ?_
   simp only [andThen]
   refine ⟨(), trivial, ?_⟩
   simp only [kS87]
   refine Ghost.sub ?_ ?_ <;> simp -implicitDefEqProofs only [go_sem, ↓reduceIte, reduceCtorEq, e, hc, List.forall_mem_cons, List.not_mem_nil, false_implies, implies_true, and_self, AV.labsIn]
  have h2 : (s == ([101, 110, 117, 109] : List UInt8)) = false := hc
  clear hc
  refine AW.rT (by rfl) fun K hK => ?_
  simp -implicitDefEqProofs only [go_sem, ↓reduceIte, Nat.reduceAdd, Nat.reduceEqDiff]
  refine hK _ ?_; clear hK K
  refine AW.cond _ (by simp -implicitDefEqProofs only [go_sem]; rfl) (fun hc => ?_) (fun hc => ?_)
  ·have e : keyB s = true := by simp only [keyB, keyWords, List.contains_cons, List.contains_nil, Bool.true_or, Bool.or_false, Bool.or_true, h0, h1, h2, hc]
   refine AW.skip ?_
   simp only [andThen]
   refine ⟨(), trivial, ?_⟩
   simp only [kS87]
   refine Ghost.sub ?_ ?_ <;> simp -implicitDefEqProofs only [go_sem, ↓reduceIte, reduceCtorEq, e, hc, List.forall_mem_cons, List.not_mem_nil, false_implies, implies_true, and_self, AV.labsIn]
  have h3 : (s == ([99, 97, 108, 108] : List UInt8)) = false := hc
  clear hc
  refine AW.rT (by rfl) fun K hK => ?_
  simp -implicitDefEqProofs only [go_sem, ↓reduceIte, Nat.reduceAdd, Nat.reduceEqDiff]
  refine hK _ ?_; clear hK K
  refine AW.cond _ (by simp -implicitDefEqProofs only [go_sem]; rfl) (fun hc => ?_) (fun hc => ?_)
  ·have e : keyB s = true := by simp only [keyB, keyWords, List.contains_cons, List.contains_nil, Bool.true_or, Bool.or_false, Bool.or_true, h0, h1, h2, h3, hc]
   refine AW.skip ?_
   simp only [andThen]
   refine ⟨(), trivial, ?_⟩
   simp only [kS87]
   refine Ghost.sub ?_ ?_ <;> simp -implicitDefEqProofs only [go_sem, ↓reduceIte, reduceCtorEq, e, hc, List.forall_mem_cons, List.not_mem_nil, false_implies, implies_true, and_self, AV.labsIn]
  have h4 : (s == ([114, 101, 116, 117, 114, 110, 115] : List UInt8)) = false := hc
  clear hc
  refine AW.rT (by rfl) fun K hK => ?_
  simp -implicitDefEqProofs only [go_sem, ↓reduceIte, Nat.reduceAdd, Nat.reduceEqDiff]
  refine hK _ ?_; clear hK K
  refine AW.cond _ (by simp -implicitDefEqProofs only [go_sem]; rfl) (fun hc => ?_) (fun hc => ?_)
  ·have e : keyB s = true := by simp only [keyB, keyWords, List.contains_cons, List.contains_nil, Bool.true_or, Bool.or_false, Bool.or_true, h0, h1, h2, h3, h4, hc]
   refine AW.skip ?_
   simp only [andThen]
   refine ⟨(), trivial, ?_⟩
   simp only [kS87]
   refine Ghost.sub ?_ ?_ <;> simp -implicitDefEqProofs only [go_sem, ↓reduceIte, reduceCtorEq, e, hc, List.forall_mem_cons, List.not_mem_nil, false_implies, implies_true, and_self, AV.labsIn]
  have h5 : (s == ([114, 101, 115, 101, 114, 118, 101, 100] : List UInt8)) = false := hc
  clear hc
  refine AW.rT (by rfl) fun K hK => ?_
  simp -implicitDefEqProofs only [go_sem, ↓reduceIte, Nat.reduceAdd, Nat.reduceEqDiff]
  refine hK _ ?_; clear hK K
  refine AW.cond _ (by simp -implicitDefEqProofs only [go_sem]; rfl) (fun hc => ?_) (fun hc => ?_)
  ·have e : keyB s = true := by simp only [keyB, keyWords, List.contains_cons, List.contains_nil, Bool.true_or, Bool.or_false, Bool.or_true, h0, h1, h2, h3, h4, h5, hc]
   refine AW.skip ?_
   simp only [andThen]
   refine ⟨(), trivial, ?_⟩
   simp only [kS87]
   refine Ghost.sub ?_ ?_ <;> simp -implicitDefEqProofs only [go_sem, ↓reduceIte, reduceCtorEq, e, hc, List.forall_mem_cons, List.not_mem_nil, false_implies, implies_true, and_self, AV.labsIn]
  have h6 : (s == ([111, 112, 116, 105, 111, 110, 97, 108] : List UInt8)) = false := hc
  clear hc
  refine AW.rT (by rfl) fun K hK => ?_
  simp -implicitDefEqProofs only [go_sem, ↓reduceIte, Nat.reduceAdd, Nat.reduceEqDiff]
  refine hK _ ?_; clear hK K
  refine AW.cond _ (by simp -implicitDefEqProofs only [go_sem]; rfl) (fun hc => ?_) (fun hc => ?_)
  ·have e : keyB s = true := by simp only [keyB, keyWords, List.contains_cons, List.contains_nil, Bool.true_or, Bool.or_false, Bool.or_true, h0, h1, h2, h3, h4, h5, h6, hc]
   refine AW.skip ?_
   simp only [andThen]
   refine ⟨(), trivial, ?_⟩
   simp only [kS87]
   refine Ghost.sub ?_ ?_ <;> simp -implicitDefEqProofs only [go_sem, ↓reduceIte, reduceCtorEq, e, hc, List.forall_mem_cons, List.not_mem_nil, false_implies, implies_true, and_self, AV.labsIn]
  have h7 : (s == ([114, 101, 112, 101, 97, 116, 101, 100] : List UInt8)) = false := hc
  clear hc
  refine AW.rT (by rfl) fun K hK => ?_
  simp -implicitDefEqProofs only [go_sem, ↓reduceIte, Nat.reduceAdd, Nat.reduceEqDiff]
  refine hK _ ?_; clear hK K
  refine AW.cond _ (by simp -implicitDefEqProofs only [go_sem]; rfl) (fun hc => ?_) (fun hc => ?_)
  ·have e : keyB s = true := by simp only [keyB, keyWords, List.contains_cons, List.contains_nil, Bool.true_or, Bool.or_false, Bool.or_true, h0, h1, h2, h3, h4, h5, h6, h7, hc]
   refine AW.skip ?_
   simp only [andThen]
   refine ⟨(), trivial, ?_⟩
   simp only [kS87]
   refine Ghost.sub ?_ ?_ <;> simp -implicitDefEqProofs only [go_sem, ↓reduceIte, reduceCtorEq, e, hc, List.forall_mem_cons, List.not_mem_nil, false_implies, implies_true, and_self, AV.labsIn]
  have h8 : (s == ([105, 110, 116, 51, 50] : List UInt8)) = false := hc
  clear hc
  refine AW.rT (by rfl) fun K hK => ?_
  simp -implicitDefEqProofs only [go_sem, ↓reduceIte, Nat.reduceAdd, Nat.reduceEqDiff]
  refine hK _ ?_; clear hK K
  refine AW.cond _ (by simp -implicitDefEqProofs only [go_sem]; rfl) (fun hc => ?_) (fun hc => ?_)
  ·have e : keyB s = true := by simp only [keyB, keyWords, List.contains_cons, List.contains_nil, Bool.true_or, Bool.or_false, Bool.or_true, h0, h1, h2, h3, h4, h5, h6, h7, h8, hc]
   refine AW.skip ?_
   simp only [andThen]
   refine ⟨(), trivial, ?_⟩
   simp only [kS87]
   refine Ghost.sub ?_ ?_ <;> simp -implicitDefEqProofs only [go_sem, ↓reduceIte, reduceCtorEq, e, hc, List.forall_mem_cons, List.not_mem_nil, false_implies, implies_true, and_self, AV.labsIn]
  have h9 : (s == ([105, 110, 116, 54, 52] : List UInt8)) = false := hc
  clear hc
  refine AW.rT (by rfl) fun K hK => ?_
  simp -implicitDefEqProofs only [go_sem, ↓reduceIte, Nat.reduceAdd, Nat.reduceEqDiff]
  refine hK _ ?_; clear hK K
  refine AW.cond _ (by simp -implicitDefEqProofs only [go_sem]; rfl) (fun hc => ?_) (fun hc => ?_)
  ·have e : keyB s = true := by simp only [keyB, keyWords, List.contains_cons, List.contains_nil, Bool.true_or, Bool.or_false, Bool.or_true, h0, h1, h2, h3, h4, h5, h6, h7, h8, h9, hc]
   refine AW.skip ?_
   simp only [andThen]
   refine ⟨(), trivial, ?_⟩
   simp only [kS87]
   refine Ghost.sub ?_ ?_ <;> simp -implicitDefEqProofs only [go_sem, ↓reduceIte, reduceCtorEq, e, hc, List.forall_mem_cons, List.not_mem_nil, false_implies, implies_true, and_self, AV.labsIn]
  have h10 : (s == ([98, 111, 111, 108] : List UInt8)) = false := hc
  clear hc
  refine AW.rT (by rfl) fun K hK => ?_
  simp -implicitDefEqProofs only [go_sem, ↓reduceIte, Nat.reduceAdd, Nat.reduceEqDiff]
  refine hK _ ?_; clear hK K
  refine AW.cond _ (by simp -implicitDefEqProofs only [go_sem]; rfl) (fun hc => ?_) (fun hc => ?_)
  ·have e : keyB s = true := by simp only [keyB, keyWords, List.contains_cons, List.contains_nil, Bool.true_or, Bool.or_false, Bool.or_true, h0, h1, h2, h3, h4, h5, h6, h7, h8, h9, h10, hc]
   refine AW.skip ?_
   simp only [andThen]
   refine ⟨(), trivial, ?_⟩
   simp only [kS87]
   refine Ghost.sub ?_ ?_ <;> simp -implicitDefEqProofs only [go_sem, ↓reduceIte, reduceCtorEq, e, hc, List.forall_mem_cons, List.not_mem_nil, false_implies, implies_true, and_self, AV.labsIn]
  have h11 : (s == ([116, 101, 120, 116] : List UInt8)) = false := hc
  clear hc
  have e : keyB s = (s == ([98, 121, 116, 101, 115] : List UInt8)) := by simp only [keyB, keyWords, List.contains_cons, List.contains_nil, Bool.false_or, Bool.or_false, h0, h1, h2, h3, h4, h5, h6, h7, h8, h9, h10, h11]
  refine AW.rE (by rfl) fun K hK => ?_
  simp -implicitDefEqProofs only [go_sem, ↓reduceIte, Nat.reduceAdd, Nat.reduceEqDiff]
  refine hK _ ?_; clear hK K
  simp only [andThen]
  refine ⟨(), trivial, ?_⟩
  simp only [kS87]
  refine Ghost.sub ?_ ?_ <;> simp -implicitDefEqProofs only [go_sem, ↓reduceIte, reduceCtorEq, e, List.forall_mem_cons, List.not_mem_nil, false_implies, implies_true, and_self, AV.labsIn]
 simp only [kS87]
 refine AW.cond _ (by simp -implicitDefEqProofs only [go_sem, ↓reduceIte]; rfl) (fun hc => ?_) (fun hc => ?_)
 ·refine AW.rT (by rfl) fun K hK => ?_
  simp -implicitDefEqProofs only [go_sem]
  refine hK _ ?_; clear hK K
  refine AW.ret ?_
  simp -implicitDefEqProofs only [go_sem, hc]
 ·refine AW.skip ?_
  simp only [andThen, inBlk]
  refine AW.rT (by rfl) fun K hK => ?_
  simp -implicitDefEqProofs only [go_sem]
  refine hK _ ?_; clear hK K
  refine AW.ret ?_
  simp -implicitDefEqProofs only [go_sem, hc]
end Go.Aw
namespace Go.Aw
open Go.Proofs
set_option linter.unusedSimpArgs false
set_option linter.unusedVariables false
theorem w32 {n : Int} (h : -2147483648 ≤ n) (h' : n < 2147483648) : IntKind.wrap .i32 n = n := by
 have e : (2 : Int) ^ 32 = 4294967296 := by decide
 have e' : (2 : Int) ^ (32 - 1) = 2147483648 := by decide
 simp only [IntKind.wrap, IntKind.bits, IntKind.signed, e, e', Bool.true_and, decide_eq_true_eq]
 split <;> omega
theorem bkI (s : List UInt8) (p : Nat) : (((s.getD p 0).toNat : Nat) : Int) = (bk s p : Int) := rfl
def tailN (s : List UInt8) (q : Nat) : Int := if good s q then (bk s q : Int) - 128 else -1
theorem ref01_tail (s : List UInt8) (q : Nat) : PFn Tryd.prog 144 [.str s, .int .i64 (q : Int)] (.int .i64 (tailN s q)) := by
 refine PFn.of Tryd.func144 rfl (by decide) Tryd.ntmps144 Tryd.results144 (Nat.le_of_ble_eq_true rfl) ?_
 simp only [argsT]
 refine AW.rT (by rfl) fun K hK => ?_
 simp -implicitDefEqProofs only [go_sem]
 refine hK _ ?_; clear hK K
 refine AW.seq ?_
 have hlt := bk_lt s q
 by_cases h1 : q < s.length
 case neg =>
  have f1 : ((q : Int) ≥ (s.length : Int)) = True := eq_true (by omega)
  have e : tailN s q = -1 := if_neg (fun h => h1 h.1)
  refine AW.rT (by rfl) fun K hK => ?_
  simp -implicitDefEqProofs only [go_sem, ↓reduceIte, Nat.reduceAdd, Nat.reduceEqDiff, reduceCtorEq, f1]
  refine hK _ ?_; clear hK K
  refine AW.cond _ (by simp -implicitDefEqProofs only [go_sem]; rfl) (fun hc => ?_) (fun hc => ?_)
  rotate_left
  ·simp at hc
  refine AW.rT (by rfl) fun K hK => ?_
  simp -implicitDefEqProofs only [go_sem, Nat.reduceAdd]
  refine hK _ ?_; clear hK K
  refine AW.ret ?_
  simp -implicitDefEqProofs only [go_sem, e]
 have f1 : ((q : Int) ≥ (s.length : Int)) = False := eq_false (by omega)
 have g1 : 0 ≤ (q : Int) := by omega
 have g2 : (q : Int) < (s.length : Int) := by omega
 by_cases h2 : bk s q < 128
 ·have f2 : ((bk s q : Int) < 128) = True := eq_true (by omega)
  have e : tailN s q = -1 := if_neg (fun h => by have := h.2.1; omega)
  refine AW.rT (by rfl) fun K hK => ?_
  simp -implicitDefEqProofs only [go_sem, ↓reduceIte, Nat.reduceAdd, Nat.reduceEqDiff, reduceCtorEq, f1, f2, g1, g2, bkI]
  refine hK _ ?_; clear hK K
  refine AW.cond _ (by simp -implicitDefEqProofs only [go_sem]; rfl) (fun hc => ?_) (fun hc => ?_)
  rotate_left
  ·simp at hc
  refine AW.rT (by rfl) fun K hK => ?_
  simp -implicitDefEqProofs only [go_sem, Nat.reduceAdd]
  refine hK _ ?_; clear hK K
  refine AW.ret ?_
  simp -implicitDefEqProofs only [go_sem, e]
 have f2 : ((bk s q : Int) < 128) = False := eq_false (by omega)
 by_cases h3 : bk s q > 191
 ·have f3 : ((bk s q : Int) > 191) = True := eq_true (by omega)
  have e : tailN s q = -1 := if_neg (fun h => by have := h.2.2; omega)
  refine AW.rT (by rfl) fun K hK => ?_
  simp -implicitDefEqProofs only [go_sem, ↓reduceIte, Nat.reduceAdd, Nat.reduceEqDiff, reduceCtorEq, f1, f2, f3, g1, g2, bkI]
  refine hK _ ?_; clear hK K
  refine AW.cond _ (by simp -implicitDefEqProofs only [go_sem]; rfl) (fun hc => ?_) (fun hc => ?_)
  rotate_left
  ·simp at hc
  refine AW.rT (by rfl) fun K hK => ?_
  simp -implicitDefEqProofs only [go_sem, Nat.reduceAdd]
  refine hK _ ?_; clear hK K
  refine AW.ret ?_
  simp -implicitDefEqProofs only [go_sem, e]
 have f3 : ((bk s q : Int) > 191) = False := eq_false (by omega)
 have e : tailN s q = (bk s q : Int) - 128 := if_pos ⟨h1, by omega, by omega⟩
 refine AW.rT (by rfl) fun K hK => ?_
 simp -implicitDefEqProofs only [go_sem, ↓reduceIte, Nat.reduceAdd, Nat.reduceEqDiff, reduceCtorEq, f1, f2, f3, g1, g2, bkI]
 refine hK _ ?_; clear hK K
 refine AW.cond _ (by simp -implicitDefEqProofs only [go_sem]; rfl) (fun hc => ?_) (fun hc => ?_)
 ·simp at hc
 refine AW.skip ?_
 simp only [andThen]
 have v1 : IntKind.wrap .i64 (bk s q : Int) = (bk s q : Int) := by rw [w64] <;> omega
 have v2 : IntKind.wrap .i64 ((bk s q : Int) - 128) = (bk s q : Int) - 128 := by rw [w64] <;> omega
 refine AW.rT (by rfl) fun K hK => ?_
 simp -implicitDefEqProofs only [go_sem, ↓reduceIte, Nat.reduceAdd, Nat.reduceEqDiff, reduceCtorEq, g1, g2, bkI, v1, v2]
 refine hK _ ?_; clear hK K
 refine AW.ret ?_
 simp -implicitDefEqProofs only [go_sem, e]
theorem vN_small {s : List UInt8} {p : Nat} {v : Int} (h0 : 0 ≤ v) (h1 : v < 32) {k : Nat} (hk : k ≤ 3) (h : ∀ j, 1 ≤ j → j ≤ k → good s (p + j)) : 0 ≤ vN s p v k ∧ vN s p v k < 8388608 := by
 have b := vN_bound h0 h1 k h
 have : (64 : Int) ^ k ≤ 64 ^ 3 := by
  match k, hk with
  | 0, _ => decide
  | 1, _ => decide
  | 2, _ => decide
  | 3, _ => decide
 have e : (64 : Int) ^ 3 = 262144 := by decide
 omega
theorem lead_bounds {b : Nat} (h : 192 ≤ b) (h' : b < 248) : 2 ≤ (leadN b).1 ∧ (leadN b).1 ≤ 4 ∧ 0 ≤ (leadN b).2.1 ∧ (leadN b).2.1 < 32 ∧ 0 ≤ (leadN b).2.2 ∧ (leadN b).2.2 ≤ 65536 := by
 unfold leadN
 repeat' split
 all_goals simp only
 all_goals omega
def nxS (s : List UInt8) (p : Nat) : St := ⟨ofL [(0, .p (.str s)), (1, .p (.int .i64 (p : Int))), (8, .p (.int .i64 ((leadN (bk s p)).1 : Int))), (9, .p (.int .i64 (leadN (bk s p)).2.1)), (10, .p (.int .i64 (leadN (bk s p)).2.2))], ofH [], 0⟩
def nxL (s : List UInt8) (p k : Nat) : St := ⟨ofL [(0, .p (.str s)), (1, .p (.int .i64 (p : Int))), (8, .p (.int .i64 ((leadN (bk s p)).1 : Int))), (9, .p (.int .i64 (vN s p (leadN (bk s p)).2.1 k))), (10, .p (.int .i64 (leadN (bk s p)).2.2)), (11, .p (.int .i64 ((k + 1 : Nat) : Int)))], ofH [], 0⟩
def nextT (s : List UInt8) (p : Nat) : PV := .tuple [.int .i32 (resN (runeAt s p)).1, .int .i64 (resN (runeAt s p)).2.1, .bool (resN (runeAt s p)).2.2]
set_option maxRecDepth 100000 in
theorem ref01_Next (s : List UInt8) (p : Nat) (hp : p < s.length) (hl : s.length ≤ 1000000000) : PFn Tryd.prog 119 [.str s, .int .i64 (p : Int)] (nextT s p) := by
 refine PFn.of Tryd.func119 rfl (by decide) Tryd.ntmps119 Tryd.results119 (Nat.le_of_ble_eq_true rfl) ?_
 simp only [argsT, nextT]
 have hlt := bk_lt s p
 have g0 : ((p : Int) < 0) = False := eq_false (by omega)
 have g1 : 0 ≤ (p : Int) := by omega
 have g2 : (p : Int) < (s.length : Int) := by omega
 have g3 : ((p : Int) ≥ (s.length : Int)) = False := eq_false (by omega)
 have v1 : IntKind.wrap .i64 (bk s p : Int) = (bk s p : Int) := by rw [w64] <;> omega
 have v2 : IntKind.wrap .i32 (bk s p : Int) = (bk s p : Int) := by rw [w32] <;> omega
 refine AW.rT (by rfl) fun K hK => ?_
 simp -implicitDefEqProofs only [go_sem, Nat.reduceAdd]
 refine hK _ ?_; clear hK K
 refine AW.seq ?_
 refine AW.rT (by rfl) fun K hK => ?_
 simp -implicitDefEqProofs only [go_sem, ↓reduceIte, Nat.reduceAdd, Nat.reduceEqDiff, reduceCtorEq, g0, g3]
 refine hK _ ?_; clear hK K
 refine AW.cond _ (by simp -implicitDefEqProofs only [go_sem]; rfl) (fun hc => ?_) (fun hc => ?_)
 ·simp at hc
 refine AW.skip ?_
 simp only [andThen]
 refine AW.rT (by rfl) fun K hK => ?_
 simp -implicitDefEqProofs only [go_sem, ↓reduceIte, Nat.reduceAdd, Nat.reduceEqDiff, reduceCtorEq, g1, g2, bkI, v1]
 refine hK _ ?_; clear hK K
 refine AW.rT (by rfl) fun K hK => ?_
 simp -implicitDefEqProofs only [go_sem, ↓reduceIte, Nat.reduceAdd, Nat.reduceEqDiff]
 refine hK _ ?_; clear hK K
 refine AW.cut (fun _ : Unit => nxS s p) (fun _ => 192 ≤ bk s p ∧ bk s p < 248) ?_ fun _ hb => ?_
 ·refine AW.block ?_
  by_cases h1 : bk s p < 128
  ·have f1 : ((bk s p : Int) < 128) = True := eq_true (by omega)
   have e := next_ascii h1
   refine AW.rT (by rfl) fun K hK => ?_
   simp -implicitDefEqProofs only [go_sem, ↓reduceIte, Nat.reduceAdd, Nat.reduceEqDiff, f1]
   refine hK _ ?_; clear hK K
   refine AW.cond _ (by simp -implicitDefEqProofs only [go_sem]; rfl) (fun hc => ?_) (fun hc => ?_)
   rotate_left
   ·simp at hc
   refine AW.rT (by rfl) fun K hK => ?_
   simp -implicitDefEqProofs only [go_sem, ↓reduceIte, Nat.reduceAdd, Nat.reduceEqDiff, v2]
   refine hK _ ?_; clear hK K
   refine AW.ret ?_
   simp -implicitDefEqProofs only [go_sem, ↓reduceIte, Nat.reduceEqDiff, e]
  have f1 : ((bk s p : Int) < 128) = False := eq_false (by omega)
  refine AW.rT (by rfl) fun K hK => ?_
  simp -implicitDefEqProofs only [go_sem, ↓reduceIte, Nat.reduceAdd, Nat.reduceEqDiff, f1]
  refine hK _ ?_; clear hK K
  refine AW.cond _ (by simp -implicitDefEqProofs only [go_sem]; rfl) (fun hc => ?_) (fun hc => ?_)
  ·simp at hc
  by_cases h2 : bk s p ≥ 192
  case neg =>
   have f2 : ((bk s p : Int) ≥ 192) = False := eq_false (by omega)
   have f3 : ((bk s p : Int) ≥ 224) = False := eq_false (by omega)
   have f4 : ((bk s p : Int) ≥ 240) = False := eq_false (by omega)
   have e := next_none (s := s) (p := p) (by omega) (.inl (by omega))
   refine AW.rT (by rfl) fun K hK => ?_
   simp -implicitDefEqProofs only [go_sem, ↓reduceIte, Nat.reduceAdd, Nat.reduceEqDiff, f2]
   refine hK _ ?_; clear hK K
   refine AW.cond _ (by simp -implicitDefEqProofs only [go_sem]; rfl) (fun hc => ?_) (fun hc => ?_)
   ·simp at hc
   refine AW.rT (by rfl) fun K hK => ?_
   simp -implicitDefEqProofs only [go_sem, ↓reduceIte, Nat.reduceAdd, Nat.reduceEqDiff, f3]
   refine hK _ ?_; clear hK K
   refine AW.cond _ (by simp -implicitDefEqProofs only [go_sem]; rfl) (fun hc => ?_) (fun hc => ?_)
   ·simp at hc
   refine AW.rT (by rfl) fun K hK => ?_
   simp -implicitDefEqProofs only [go_sem, ↓reduceIte, Nat.reduceAdd, Nat.reduceEqDiff, f4]
   refine hK _ ?_; clear hK K
   refine AW.cond _ (by simp -implicitDefEqProofs only [go_sem]; rfl) (fun hc => ?_) (fun hc => ?_)
   ·simp at hc
   refine AW.rT (by rfl) fun K hK => ?_
   simp -implicitDefEqProofs only [go_sem, Nat.reduceAdd]
   refine hK _ ?_; clear hK K
   refine AW.ret ?_
   simp -implicitDefEqProofs only [go_sem, ↓reduceIte, Nat.reduceEqDiff, e]
  have f2 : ((bk s p : Int) ≥ 192) = True := eq_true (by omega)
  by_cases h3 : bk s p < 224
  ·have f3 : ((bk s p : Int) < 224) = True := eq_true (by omega)
   have v3 : IntKind.wrap .i64 ((bk s p : Int) - 192) = (bk s p : Int) - 192 := by rw [w64] <;> omega
   have eL : leadN (bk s p) = (2, (bk s p : Int) - 192, 128) := by unfold leadN; rw [if_pos h3]
   refine AW.rT (by rfl) fun K hK => ?_
   simp -implicitDefEqProofs only [go_sem, ↓reduceIte, Nat.reduceAdd, Nat.reduceEqDiff, f2, f3]
   refine hK _ ?_; clear hK K
   refine AW.cond _ (by simp -implicitDefEqProofs only [go_sem]; rfl) (fun hc => ?_) (fun hc => ?_)
   rotate_left
   ·simp at hc
   refine AW.rE (by rfl) fun K hK => ?_
   simp -implicitDefEqProofs only [go_sem, ↓reduceIte, Nat.reduceAdd, Nat.reduceEqDiff, v3]
   refine hK _ ?_; clear hK K
   simp only [andThen, inBlk]
   refine ⟨(), ⟨by omega, by omega⟩, ?_⟩
   simp only [nxS]
   refine Ghost.sub ?_ ?_ <;> simp -implicitDefEqProofs only [go_sem, ↓reduceIte, Nat.reduceEqDiff, reduceCtorEq, eL, List.forall_mem_cons, List.not_mem_nil, false_implies, implies_true, and_self, AV.labsIn]
   rfl
  have f3 : ((bk s p : Int) < 224) = False := eq_false (by omega)
  have f4 : ((bk s p : Int) ≥ 224) = True := eq_true (by omega)
  refine AW.rT (by rfl) fun K hK => ?_
  simp -implicitDefEqProofs only [go_sem, ↓reduceIte, Nat.reduceAdd, Nat.reduceEqDiff, f2, f3]
  refine hK _ ?_; clear hK K
  refine AW.cond _ (by simp -implicitDefEqProofs only [go_sem]; rfl) (fun hc => ?_) (fun hc => ?_)
  ·simp at hc
  by_cases h4 : bk s p < 240
  ·have f5 : ((bk s p : Int) < 240) = True := eq_true (by omega)
   have v3 : IntKind.wrap .i64 ((bk s p : Int) - 224) = (bk s p : Int) - 224 := by rw [w64] <;> omega
   have eL : leadN (bk s p) = (3, (bk s p : Int) - 224, 2048) := by unfold leadN; rw [if_neg h3, if_pos h4]
   refine AW.rT (by rfl) fun K hK => ?_
   simp -implicitDefEqProofs only [go_sem, ↓reduceIte, Nat.reduceAdd, Nat.reduceEqDiff, f4, f5]
   refine hK _ ?_; clear hK K
   refine AW.cond _ (by simp -implicitDefEqProofs only [go_sem]; rfl) (fun hc => ?_) (fun hc => ?_)
   rotate_left
   ·simp at hc
   refine AW.rE (by rfl) fun K hK => ?_
   simp -implicitDefEqProofs only [go_sem, ↓reduceIte, Nat.reduceAdd, Nat.reduceEqDiff, v3]
   refine hK _ ?_; clear hK K
   simp only [andThen, inBlk]
   refine ⟨(), ⟨by omega, by omega⟩, ?_⟩
   simp only [nxS]
   refine Ghost.sub ?_ ?_ <;> simp -implicitDefEqProofs only [go_sem, ↓reduceIte, Nat.reduceEqDiff, reduceCtorEq, eL, List.forall_mem_cons, List.not_mem_nil, false_implies, implies_true, and_self, AV.labsIn]
   rfl
  have f5 : ((bk s p : Int) < 240) = False := eq_false (by omega)
  have f6 : ((bk s p : Int) ≥ 240) = True := eq_true (by omega)
  refine AW.rT (by rfl) fun K hK => ?_
  simp -implicitDefEqProofs only [go_sem, ↓reduceIte, Nat.reduceAdd, Nat.reduceEqDiff, f4, f5]
  refine hK _ ?_; clear hK K
  refine AW.cond _ (by simp -implicitDefEqProofs only [go_sem]; rfl) (fun hc => ?_) (fun hc => ?_)
  ·simp at hc
  by_cases h5 : bk s p < 248
  ·have f7 : ((bk s p : Int) < 248) = True := eq_true (by omega)
   have v3 : IntKind.wrap .i64 ((bk s p : Int) - 240) = (bk s p : Int) - 240 := by rw [w64] <;> omega
   have eL : leadN (bk s p) = (4, (bk s p : Int) - 240, 65536) := by unfold leadN; rw [if_neg h3, if_neg h4]
   refine AW.rT (by rfl) fun K hK => ?_
   simp -implicitDefEqProofs only [go_sem, ↓reduceIte, Nat.reduceAdd, Nat.reduceEqDiff, f6, f7]
   refine hK _ ?_; clear hK K
   refine AW.cond _ (by simp -implicitDefEqProofs only [go_sem]; rfl) (fun hc => ?_) (fun hc => ?_)
   rotate_left
   ·simp at hc
   refine AW.rE (by rfl) fun K hK => ?_
   simp -implicitDefEqProofs only [go_sem, ↓reduceIte, Nat.reduceAdd, Nat.reduceEqDiff, v3]
   refine hK _ ?_; clear hK K
   simp only [andThen, inBlk]
   refine ⟨(), ⟨by omega, by omega⟩, ?_⟩
   simp only [nxS]
   refine Ghost.sub ?_ ?_ <;> simp -implicitDefEqProofs only [go_sem, ↓reduceIte, Nat.reduceEqDiff, reduceCtorEq, eL, List.forall_mem_cons, List.not_mem_nil, false_implies, implies_true, and_self, AV.labsIn]
   rfl
  ·have f7 : ((bk s p : Int) < 248) = False := eq_false (by omega)
   have e := next_none (s := s) (p := p) (by omega) (.inr (by omega))
   refine AW.rT (by rfl) fun K hK => ?_
   simp -implicitDefEqProofs only [go_sem, ↓reduceIte, Nat.reduceAdd, Nat.reduceEqDiff, f6, f7]
   refine hK _ ?_; clear hK K
   refine AW.cond _ (by simp -implicitDefEqProofs only [go_sem]; rfl) (fun hc => ?_) (fun hc => ?_)
   ·simp at hc
   refine AW.rT (by rfl) fun K hK => ?_
   simp -implicitDefEqProofs only [go_sem, Nat.reduceAdd]
   refine hK _ ?_; clear hK K
   refine AW.ret ?_
   simp -implicitDefEqProofs only [go_sem, ↓reduceIte, Nat.reduceEqDiff, e]
 simp only [nxS]
 obtain ⟨hb1, hb2⟩ := hb
 obtain ⟨n1, n2, n3, n4, n5, n6⟩ := lead_bounds hb1 hb2
 refine AW.seq ?_
 refine AW.rT (by rfl) fun K hK => ?_
 simp -implicitDefEqProofs only [go_sem]
 refine hK _ ?_; clear hK K
 refine AW.block ?_
 refine AW.loop (nxL s p) (fun k => k + 1 ≤ (leadN (bk s p)).1 ∧ ∀ j, 1 ≤ j → j ≤ k → good s (p + j)) (fun k => (leadN (bk s p)).1 - k) 0 ?_ ⟨by omega, fun j a b => by omega⟩ fun k hk => ?_
 ·simp only [nxL, vN]
  refine Ghost.sub ?_ ?_ <;> simp -implicitDefEqProofs only [go_sem, ↓reduceIte, Nat.reduceEqDiff, reduceCtorEq, List.forall_mem_cons, List.not_mem_nil, false_implies, implies_true, and_self, AV.labsIn]
  rfl
 obtain ⟨k1, k2⟩ := hk
 have vb := vN_small (v := (leadN (bk s p)).2.1) n3 n4 (k := k) (by omega) k2
 simp only [nxL]
 refine AW.seq ?_
 by_cases hk : k + 1 < (leadN (bk s p)).1
 ·have c1 : (((k + 1 : Nat) : Int) < ((leadN (bk s p)).1 : Int)) = True := eq_true (by omega)
  refine AW.rT (by rfl) fun K hK => ?_
  simp -implicitDefEqProofs only [go_sem, ↓reduceIte, Nat.reduceAdd, Nat.reduceEqDiff, reduceCtorEq, c1]
  refine hK _ ?_; clear hK K
  refine AW.cond _ (by simp -implicitDefEqProofs only [go_sem]; rfl) (fun hc => ?_) (fun hc => ?_)
  rotate_left
  ·simp at hc
  refine AW.skip ?_
  simp only [andThen]
  refine AW.seq ?_
  refine AW.block ?_
  have v4 : IntKind.wrap .i64 ((p : Int) + ((k + 1 : Nat) : Int)) = ((p + (k + 1) : Nat) : Int) := by rw [w64] <;> omega
  refine AW.rT (by rfl) fun K hK => ?_
  simp -implicitDefEqProofs only [go_sem, ↓reduceIte, Nat.reduceAdd, Nat.reduceEqDiff, reduceCtorEq, v4]
  refine ⟨.pure _, ref01_tail s (p + (k + 1)), ?_⟩
  try simp -implicitDefEqProofs only [go_sem, Nat.reduceAdd]
  refine hK _ ?_; clear hK K
  refine AW.seq ?_
  by_cases hg : good s (p + (k + 1))
  case neg =>
   have e : tailN s (p + (k + 1)) = -1 := if_neg hg
   have en := next_bad hb1 hb2 (j := k + 1) (by omega) hk hg
   have c2 : ((-1 : Int) < 0) = True := by simp
   refine AW.rT (by rfl) fun K hK => ?_
   simp -implicitDefEqProofs only [go_sem, ↓reduceIte, Nat.reduceAdd, e, c2]
   refine hK _ ?_; clear hK K
   refine AW.cond _ (by simp -implicitDefEqProofs only [go_sem]; rfl) (fun hc => ?_) (fun hc => ?_)
   rotate_left
   ·simp at hc
   refine AW.rT (by rfl) fun K hK => ?_
   simp -implicitDefEqProofs only [go_sem, Nat.reduceAdd]
   refine hK _ ?_; clear hK K
   refine AW.ret ?_
   simp -implicitDefEqProofs only [go_sem, ↓reduceIte, Nat.reduceEqDiff, en]
  have e : tailN s (p + (k + 1)) = (bk s (p + (k + 1)) : Int) - 128 := if_pos hg
  have hg' : p + (k + 1) < s.length ∧ 128 ≤ bk s (p + (k + 1)) ∧ bk s (p + (k + 1)) ≤ 191 := hg
  have c2 : ((bk s (p + (k + 1)) : Int) - 128 < 0) = False := eq_false (by omega)
  have vb' := vN_small (v := (leadN (bk s p)).2.1) n3 n4 (k := k + 1) (by omega) (fun j a b => by rcases Nat.lt_or_ge k j with h | h; (have : j = k + 1 := by omega); (subst this; exact hg); exact k2 j a h)
  have v5 : IntKind.wrap .i64 (64 * vN s p (leadN (bk s p)).2.1 k) = 64 * vN s p (leadN (bk s p)).2.1 k := by rw [w64] <;> omega
  have v6 : IntKind.wrap .i64 (64 * vN s p (leadN (bk s p)).2.1 k + ((bk s (p + (k + 1)) : Int) - 128)) = vN s p (leadN (bk s p)).2.1 (k + 1) := by
   rw [w64] <;> simp only [vN] at vb' ⊢ <;> omega
  have v7 : IntKind.wrap .i64 (((k + 1 : Nat) : Int) + 1) = ((k + 1 + 1 : Nat) : Int) := by rw [w64] <;> omega
  refine AW.rT (by rfl) fun K hK => ?_
  simp -implicitDefEqProofs only [go_sem, ↓reduceIte, Nat.reduceAdd, e, c2]
  refine hK _ ?_; clear hK K
  refine AW.cond _ (by simp -implicitDefEqProofs only [go_sem]; rfl) (fun hc => ?_) (fun hc => ?_)
  ·simp at hc
  refine AW.skip ?_
  simp only [andThen]
  refine AW.rE (by rfl) fun K hK => ?_
  simp -implicitDefEqProofs only [go_sem, ↓reduceIte, Nat.reduceAdd, Nat.reduceEqDiff, reduceCtorEq, v5, v6]
  refine hK _ ?_; clear hK K
  simp only [andThen, inBlk]
  refine AW.rE (by rfl) fun K hK => ?_
  simp -implicitDefEqProofs only [go_sem, ↓reduceIte, Nat.reduceAdd, Nat.reduceEqDiff, reduceCtorEq, v7]
  refine hK _ ?_; clear hK K
  refine ⟨k + 1, ⟨by omega, fun j a b => by rcases Nat.lt_or_ge k j with h | h; (have : j = k + 1 := by omega); (subst this; exact hg); exact k2 j a h⟩, by omega, ?_⟩
  refine Ghost.sub ?_ ?_ <;> simp -implicitDefEqProofs only [go_sem, ↓reduceIte, Nat.reduceEqDiff, reduceCtorEq, List.forall_mem_cons, List.not_mem_nil, false_implies, implies_true, and_self, AV.labsIn]
 ·have c1 : (((k + 1 : Nat) : Int) < ((leadN (bk s p)).1 : Int)) = False := eq_false (by omega)
  refine AW.rT (by rfl) fun K hK => ?_
  simp -implicitDefEqProofs only [go_sem, ↓reduceIte, Nat.reduceAdd, Nat.reduceEqDiff, reduceCtorEq, c1]
  refine hK _ ?_; clear hK K
  refine AW.cond _ (by simp -implicitDefEqProofs only [go_sem]; rfl) (fun hc => ?_) (fun hc => ?_)
  ·simp at hc
  refine AW.exit ?_
  simp only [andThen, inBlk, ↓reduceIte]
  have ek : (leadN (bk s p)).1 - 1 = k := by omega
  have en := next_end hb1 hb2 (fun j a b => k2 j a (by omega))
  rw [ek] at en
  refine AW.seq ?_
  generalize vN s p (leadN (bk s p)).2.1 k = v at *
  generalize (leadN (bk s p)).2.2 = lo at *
  by_cases d1 : v < lo
  ·rw [if_pos (.inl d1)] at en
   have f1 : (v < lo) = True := eq_true d1
   refine AW.rT (by rfl) fun K hK => ?_
   simp -implicitDefEqProofs only [go_sem, ↓reduceIte, Nat.reduceAdd, Nat.reduceEqDiff, reduceCtorEq, f1]
   refine hK _ ?_; clear hK K
   refine AW.cond _ (by simp -implicitDefEqProofs only [go_sem]; rfl) (fun hc => ?_) (fun hc => ?_)
   rotate_left
   ·simp at hc
   refine AW.rT (by rfl) fun K hK => ?_
   simp -implicitDefEqProofs only [go_sem, Nat.reduceAdd]
   refine hK _ ?_; clear hK K
   refine AW.ret ?_
   simp -implicitDefEqProofs only [go_sem, ↓reduceIte, Nat.reduceEqDiff, en]
  have f1 : (v < lo) = False := eq_false d1
  by_cases d2 : v > 1114111
  ·rw [if_pos (.inr (.inl d2))] at en
   have f2 : (v > 1114111) = True := eq_true d2
   refine AW.rT (by rfl) fun K hK => ?_
   simp -implicitDefEqProofs only [go_sem, ↓reduceIte, Nat.reduceAdd, Nat.reduceEqDiff, reduceCtorEq, f1, f2]
   refine hK _ ?_; clear hK K
   refine AW.cond _ (by simp -implicitDefEqProofs only [go_sem]; rfl) (fun hc => ?_) (fun hc => ?_)
   rotate_left
   ·simp at hc
   refine AW.rT (by rfl) fun K hK => ?_
   simp -implicitDefEqProofs only [go_sem, Nat.reduceAdd]
   refine hK _ ?_; clear hK K
   refine AW.ret ?_
   simp -implicitDefEqProofs only [go_sem, ↓reduceIte, Nat.reduceEqDiff, en]
  have f2 : (v > 1114111) = False := eq_false d2
  have v8 : IntKind.wrap .i32 v = v := by rw [w32] <;> omega
  by_cases d3 : v ≥ 55296
  ·have f3 : (v ≥ 55296) = True := eq_true d3
   by_cases d4 : v ≤ 57343
   ·rw [if_pos (.inr (.inr ⟨d3, d4⟩))] at en
    have f4 : (v ≤ 57343) = True := eq_true d4
    refine AW.rT (by rfl) fun K hK => ?_
    simp -implicitDefEqProofs only [go_sem, ↓reduceIte, Nat.reduceAdd, Nat.reduceEqDiff, reduceCtorEq, f1, f2, f3, f4]
    refine hK _ ?_; clear hK K
    refine AW.cond _ (by simp -implicitDefEqProofs only [go_sem]; rfl) (fun hc => ?_) (fun hc => ?_)
    rotate_left
    ·simp at hc
    refine AW.rT (by rfl) fun K hK => ?_
    simp -implicitDefEqProofs only [go_sem, Nat.reduceAdd]
    refine hK _ ?_; clear hK K
    refine AW.ret ?_
    simp -implicitDefEqProofs only [go_sem, ↓reduceIte, Nat.reduceEqDiff, en]
   ·rw [if_neg (by omega)] at en
    have f4 : (v ≤ 57343) = False := eq_false d4
    refine AW.rT (by rfl) fun K hK => ?_
    simp -implicitDefEqProofs only [go_sem, ↓reduceIte, Nat.reduceAdd, Nat.reduceEqDiff, reduceCtorEq, f1, f2, f3, f4]
    refine hK _ ?_; clear hK K
    refine AW.cond _ (by simp -implicitDefEqProofs only [go_sem]; rfl) (fun hc => ?_) (fun hc => ?_)
    ·simp at hc
    refine AW.skip ?_
    simp only [andThen]
    refine AW.rT (by rfl) fun K hK => ?_
    simp -implicitDefEqProofs only [go_sem, ↓reduceIte, Nat.reduceAdd, Nat.reduceEqDiff, reduceCtorEq, v8]
    refine hK _ ?_; clear hK K
    refine AW.ret ?_
    simp -implicitDefEqProofs only [go_sem, ↓reduceIte, Nat.reduceEqDiff, en]
  ·rw [if_neg (by omega)] at en
   have f3 : (v ≥ 55296) = False := eq_false d3
   refine AW.rT (by rfl) fun K hK => ?_
   simp -implicitDefEqProofs only [go_sem, ↓reduceIte, Nat.reduceAdd, Nat.reduceEqDiff, reduceCtorEq, f1, f2, f3]
   refine hK _ ?_; clear hK K
   refine AW.cond _ (by simp -implicitDefEqProofs only [go_sem]; rfl) (fun hc => ?_) (fun hc => ?_)
   ·simp at hc
   refine AW.skip ?_
   simp only [andThen]
   refine AW.rT (by rfl) fun K hK => ?_
   simp -implicitDefEqProofs only [go_sem, ↓reduceIte, Nat.reduceAdd, Nat.reduceEqDiff, reduceCtorEq, v8]
   refine hK _ ?_; clear hK K
   refine AW.ret ?_
   simp -implicitDefEqProofs only [go_sem, ↓reduceIte, Nat.reduceEqDiff, en]
end Go.Aw
namespace Go.Aw
open Go.Proofs Go.RowKit
set_option linter.unusedSimpArgs false
set_option linter.unusedVariables false
theorem Fr.ofBelow {w w' : World} (h : Below w.heap.size w w') : Fr w (fun _ => False) w' :=
 ⟨h.os, h.tape, h.output, h.size, fun b hb _ => h.block b hb, fun b cur et p hb => ⟨cur, et, p, by
  rw [h.block b (Array.getElem?_eq_some_iff.1 hb).1]; exact hb, rfl⟩⟩
theorem utf8_decode (s : List UInt8) (h : s ≠ []) : PFn Tryd.prog 158 [.str s] (.tuple [.int .i32 ((runeAt s 0).1 : Int), .int .i64 ((runeAt s 0).2 : Int)]) := by
 refine ⟨by kernel_rfl, fun w I vals hs hr hI ht => ?_⟩
 have hs1 : vals.size = 1 := by rw [hs]; rfl
 have h0 := hr 0 _ _ (Array.getElem?_eq_getElem (by omega)) rfl
 have hv : vals = #[.string ⟨⟨s⟩⟩] := by
  generalize e1 : vals[0] = v1 at h0
  cases h0
  apply Array.ext
  ·rw [hs1]; rfl
  ·intro i hi hi'
   have : i < 1 := by omega
   match i, this with
   | 0, _ => exact e1
 subst hv
 have hne : (⟨⟨s⟩⟩ : ByteArray).size ≠ 0 := by
  show s.length ≠ 0
  intro e
  exact h (List.length_eq_zero_iff.1 e)
 have e : Lib.decodeGo ⟨⟨s⟩⟩ = runeAt s 0 := by
  unfold Lib.decodeGo runeAt
  rw [if_neg hne]
 refine (Tryd.utf8_DecodeRuneInString ⟨⟨s⟩⟩ w ht.1).mono fun x w' ⟨he, hb⟩ => ⟨_, he, Fr.ofBelow hb, ?_⟩
 rw [e]
 refine .tuple rfl fun j u' q h1 h2 => ?_
 match j, h1, h2 with
 | 0, h1, h2 => simp at h1 h2; subst h1; subst h2; exact .int _ _
 | 1, h1, h2 => simp at h1 h2; subst h1; subst h2; exact .int _ _
 | n + 2, h1, _ => simp at h1
theorem resN_cases (x : Nat × Nat) : (resN x = (0, 0, false) ∧ x.1 = 65533 ∧ x.2 < 2) ∨ (resN x = ((x.1 : Int), (x.2 : Int), true) ∧ ¬ (x.1 = 65533 ∧ x.2 < 2)) := by
 unfold resN
 split
 ·rename_i h; exact .inl ⟨rfl, h⟩
 ·rename_i h; exact .inr ⟨rfl, h⟩
set_option maxRecDepth 100000 in
theorem runes_Next (s : List UInt8) (p : Nat) (hp : p < s.length) (hl : s.length ≤ 1000000000) : PFn Tryd.prog 149 [.str s, .int .i64 (p : Int)] (nextT s p) := by
 refine PFn.of Tryd.func149 rfl (by decide) Tryd.ntmps149 Tryd.results149 (Nat.le_of_ble_eq_true rfl) ?_
 simp only [argsT, nextT]
 have g0 : ((p : Int) < 0) = False := eq_false (by omega)
 have g1 : 0 ≤ (p : Int) := by omega
 have g2 : (p : Int) ≤ (s.length : Int) := by omega
 have g3 : ((p : Int) ≥ (s.length : Int)) = False := eq_false (by omega)
 have U := utf8_decode (s.drop p) (by rw [Ne, List.drop_eq_nil_iff]; omega)
 rw [runeAt_drop] at U
 refine AW.rT (by rfl) fun K hK => ?_
 simp -implicitDefEqProofs only [go_sem, Nat.reduceAdd]
 refine hK _ ?_; clear hK K
 refine AW.seq ?_
 refine AW.rT (by rfl) fun K hK => ?_
 simp -implicitDefEqProofs only [go_sem, ↓reduceIte, Nat.reduceAdd, Nat.reduceEqDiff, reduceCtorEq, g0, g3]
 refine hK _ ?_; clear hK K
 refine AW.cond _ (by simp -implicitDefEqProofs only [go_sem]; rfl) (fun hc => ?_) (fun hc => ?_)
 ·simp at hc
 refine AW.skip ?_
 simp only [andThen]
 refine AW.rT (by rfl) fun K hK => ?_
 simp -implicitDefEqProofs only [go_sem, ↓reduceIte, Nat.reduceAdd, Nat.reduceEqDiff, reduceCtorEq, g1, g2, List.take_length, Int.le_refl]
 refine ⟨.pure _, U, ?_⟩
 try simp -implicitDefEqProofs only [go_sem, ↓reduceIte, Nat.reduceAdd, Nat.reduceEqDiff]
 refine hK _ ?_; clear hK K
 refine AW.seq ?_
 generalize runeAt s p = x
 rcases resN_cases x with ⟨e, e1, e2⟩ | ⟨e, en⟩
 ·have f1 : ((x.1 : Int) == 65533) = true := by simp; omega
  have f2 : ((x.2 : Int) < 2) = True := eq_true (by omega)
  refine AW.rT (by rfl) fun K hK => ?_
  simp -implicitDefEqProofs only [go_sem, ↓reduceIte, Nat.reduceAdd, Nat.reduceEqDiff, f1, f2]
  refine hK _ ?_; clear hK K
  refine AW.cond _ (by simp -implicitDefEqProofs only [go_sem]; rfl) (fun hc => ?_) (fun hc => ?_)
  rotate_left
  ·simp at hc
  refine AW.rT (by rfl) fun K hK => ?_
  simp -implicitDefEqProofs only [go_sem, Nat.reduceAdd]
  refine hK _ ?_; clear hK K
  refine AW.ret ?_
  simp -implicitDefEqProofs only [go_sem, ↓reduceIte, Nat.reduceEqDiff, e]
 ·by_cases e1 : x.1 = 65533
  ·have f1 : ((x.1 : Int) == 65533) = true := by simp; omega
   have f2 : ((x.2 : Int) < 2) = False := eq_false (by omega)
   refine AW.rT (by rfl) fun K hK => ?_
   simp -implicitDefEqProofs only [go_sem, ↓reduceIte, Nat.reduceAdd, Nat.reduceEqDiff, f1, f2]
   refine hK _ ?_; clear hK K
   refine AW.cond _ (by simp -implicitDefEqProofs only [go_sem]; rfl) (fun hc => ?_) (fun hc => ?_)
   ·simp at hc
   refine AW.skip ?_
   simp only [andThen]
   refine AW.rT (by rfl) fun K hK => ?_
   simp -implicitDefEqProofs only [go_sem, ↓reduceIte, Nat.reduceAdd, Nat.reduceEqDiff]
   refine hK _ ?_; clear hK K
   refine AW.ret ?_
   simp -implicitDefEqProofs only [go_sem, ↓reduceIte, Nat.reduceEqDiff, e]
  ·have f1 : ((x.1 : Int) == 65533) = false := by simp; omega
   refine AW.rT (by rfl) fun K hK => ?_
   simp -implicitDefEqProofs only [go_sem, ↓reduceIte, Nat.reduceAdd, Nat.reduceEqDiff, f1]
   refine hK _ ?_; clear hK K
   refine AW.cond _ (by simp -implicitDefEqProofs only [go_sem]; rfl) (fun hc => ?_) (fun hc => ?_)
   ·simp at hc
   refine AW.skip ?_
   simp only [andThen]
   refine AW.rT (by rfl) fun K hK => ?_
   simp -implicitDefEqProofs only [go_sem, ↓reduceIte, Nat.reduceAdd, Nat.reduceEqDiff]
   refine hK _ ?_; clear hK K
   refine AW.ret ?_
   simp -implicitDefEqProofs only [go_sem, ↓reduceIte, Nat.reduceEqDiff, e]
def vaS (s : List UInt8) (p : Nat) : St := ⟨ofL [(0, .p (.str s)), (9, .it 0)], ofH [(0, .iter s p)], 1⟩
theorem runes_end {s : List UInt8} {p : Nat} (h : ¬ p < s.length) : runesO s p = some [] := by rw [runesO_step, if_neg h]
theorem runes_bad {s : List UInt8} {p : Nat} (h : p < s.length) (hr : (resN (runeAt s p)).2.2 = false) : runesO s p = none := by rw [runesO_step, if_pos h, if_neg (by rw [hr]; simp)]
theorem runes_ok {s : List UInt8} {p : Nat} (h : p < s.length) (hr : (resN (runeAt s p)).2.2 = true) : runesO s p = (runesO s (p + (runeAt s p).2)).map (((runeAt s p).1 : Int) :: ·) := by
 rw [runesO_step, if_pos h, if_pos hr]
 cases runesO s (p + (runeAt s p).2) <;> rfl
set_option maxRecDepth 100000 in
theorem runes_Valid (s : List UInt8) (hl : s.length ≤ 1000000000) : PFn Tryd.prog 131 [.str s] (.bool (runesO s 0).isSome) := by
 refine PFn.of Tryd.func131 rfl (by decide) Tryd.ntmps131 Tryd.results131 (Nat.le_of_ble_eq_true rfl) ?_
 simp only [argsT]
 refine AW.rT (by rfl) fun K hK => ?_
 simp -implicitDefEqProofs only [go_sem]
 refine hK _ ?_; clear hK K
 refine AW.seq ?_
 refine AW.rT (by rfl) fun K hK => ?_
 simp -implicitDefEqProofs only [go_sem, ↓reduceIte, Nat.reduceAdd, reduceCtorEq]
 refine hK _ ?_; clear hK K
 refine AW.block ?_
 refine AW.loop (vaS s) (fun p => p ≤ s.length ∧ (runesO s 0).isSome = (runesO s p).isSome) (fun p => s.length - p) 0 ?_ ⟨by omega, rfl⟩ fun p hp => ?_
 ·simp only [vaS]
  refine Ghost.ent (fun _ => 2) ?_ ?_ ?_ <;> simp -implicitDefEqProofs only [go_sem, ↓reduceIte, reduceCtorEq, List.forall_mem_cons, List.not_mem_nil, false_implies, implies_true, and_self, Nat.reduceLT, AV.labsIn]
 obtain ⟨p1, p2⟩ := hp
 simp only [vaS]
 have wid := runeAt_wid s p
 by_cases hp : p < s.length
 case neg =>
  have e : (runesO s 0).isSome = true := by rw [p2, runes_end hp]; rfl
  refine AW.rT (by rfl) fun K hK => ?_
  simp -implicitDefEqProofs only [go_sem, ↓reduceIte, Nat.reduceAdd, reduceCtorEq, hp]
  refine hK _ ?_; clear hK K
  refine AW.seq ?_
  refine AW.cond _ (by simp -implicitDefEqProofs only [go_sem]; rfl) (fun hc => ?_) (fun hc => ?_)
  ·simp at hc
  refine AW.exit ?_
  simp only [andThen, inBlk, ↓reduceIte]
  refine AW.rT (by rfl) fun K hK => ?_
  simp -implicitDefEqProofs only [go_sem, Nat.reduceAdd]
  refine hK _ ?_; clear hK K
  refine AW.ret ?_
  simp -implicitDefEqProofs only [go_sem, e]
 have hin := runeAt_in s p hp
 refine AW.rT (by rfl) fun K hK => ?_
 simp -implicitDefEqProofs only [go_sem, ↓reduceIte, Nat.reduceAdd, reduceCtorEq, hp]
 refine hK _ ?_; clear hK K
 refine AW.seq ?_
 refine AW.cond _ (by simp -implicitDefEqProofs only [go_sem]; rfl) (fun hc => ?_) (fun hc => ?_)
 rotate_left
 ·simp at hc
 refine AW.skip ?_
 simp only [andThen]
 refine AW.block ?_
 refine AW.rT (by rfl) fun K hK => ?_
 simp -implicitDefEqProofs only [go_sem, ↓reduceIte, Nat.reduceAdd, Nat.reduceEqDiff]
 refine hK _ ?_; clear hK K
 refine AW.seq ?_
 have next : (resN (runeAt s p)).2.2 = true → (runesO s 0).isSome = (runesO s (p + (runeAt s p).2)).isSome := fun h => by rw [p2, runes_ok hp h, Option.isSome_map]
 by_cases h1 : (runeAt s p).1 = 65533
 case neg =>
  have f1 : (((runeAt s p).1 : Int) != 65533) = true := by simp; omega
  have ok : (resN (runeAt s p)).2.2 = true := by
   rcases resN_cases (runeAt s p) with ⟨e, e1, e2⟩ | ⟨e, en⟩
   ·exact absurd e1 h1
   ·rw [e]
  refine AW.rT (by rfl) fun K hK => ?_
  simp -implicitDefEqProofs only [go_sem, ↓reduceIte, Nat.reduceAdd, f1]
  refine hK _ ?_; clear hK K
  refine AW.cond _ (by simp -implicitDefEqProofs only [go_sem]; rfl) (fun hc => ?_) (fun hc => ?_)
  rotate_left
  ·simp at hc
  refine AW.exit ?_
  simp only [andThen, inBlk, ↓reduceIte]
  refine ⟨p + (runeAt s p).2, ⟨hin, next ok⟩, by omega, ?_⟩
  refine Ghost.sub ?_ ?_ <;> simp -implicitDefEqProofs only [go_sem, ↓reduceIte, Nat.reduceEqDiff, reduceCtorEq, List.forall_mem_cons, List.not_mem_nil, false_implies, implies_true, and_self, Nat.reduceLT, AV.labsIn]
 have f1 : (((runeAt s p).1 : Int) != 65533) = false := by simp; omega
 refine AW.rT (by rfl) fun K hK => ?_
 simp -implicitDefEqProofs only [go_sem, ↓reduceIte, Nat.reduceAdd, f1]
 refine hK _ ?_; clear hK K
 refine AW.cond _ (by simp -implicitDefEqProofs only [go_sem]; rfl) (fun hc => ?_) (fun hc => ?_)
 ·simp at hc
 refine AW.skip ?_
 simp only [andThen]
 have N := runes_Next s p hp hl
 unfold nextT at N
 refine AW.rT (by rfl) fun K hK => ?_
 simp -implicitDefEqProofs only [go_sem, ↓reduceIte, Nat.reduceAdd, Nat.reduceEqDiff, reduceCtorEq]
 refine ⟨.pure _, N, ?_⟩
 try simp -implicitDefEqProofs only [go_sem, ↓reduceIte, Nat.reduceAdd, Nat.reduceEqDiff]
 refine hK _ ?_; clear hK K
 cases hb : (resN (runeAt s p)).2.2 with
 | true =>
  refine AW.rT (by rfl) fun K hK => ?_
  simp -implicitDefEqProofs only [go_sem, Nat.reduceAdd]
  refine hK _ ?_; clear hK K
  refine AW.cond _ (by simp -implicitDefEqProofs only [go_sem]; rfl) (fun hc => ?_) (fun hc => ?_)
  ·simp at hc
  refine AW.skip ?_
  simp only [andThen, inBlk]
  refine ⟨p + (runeAt s p).2, ⟨hin, next hb⟩, by omega, ?_⟩
  refine Ghost.sub ?_ ?_ <;> simp -implicitDefEqProofs only [go_sem, ↓reduceIte, Nat.reduceEqDiff, reduceCtorEq, List.forall_mem_cons, List.not_mem_nil, false_implies, implies_true, and_self, Nat.reduceLT, AV.labsIn]
 | false =>
  have e : (runesO s 0).isSome = false := by rw [p2, runes_bad hp hb]; rfl
  refine AW.rT (by rfl) fun K hK => ?_
  simp -implicitDefEqProofs only [go_sem, Nat.reduceAdd]
  refine hK _ ?_; clear hK K
  refine AW.cond _ (by simp -implicitDefEqProofs only [go_sem]; rfl) (fun hc => ?_) (fun hc => ?_)
  rotate_left
  ·simp at hc
  refine AW.rT (by rfl) fun K hK => ?_
  simp -implicitDefEqProofs only [go_sem, Nat.reduceAdd]
  refine hK _ ?_; clear hK K
  refine AW.ret ?_
  simp -implicitDefEqProofs only [go_sem, e]
def coS (s : List UInt8) (x : Nat × Nat) : St := ⟨ofL [(0, .p (.str s)), (8, .it 0), (3, .p (.int .i64 (x.2 : Int)))], ofH [(0, .iter s x.1)], 1⟩
def countN (s : List UInt8) : Nat := match runesO s 0 with | none => 0 | some l => l.length
theorem runes_len (s : List UInt8) : ∀ (n p : Nat) (l : List Int), runesF s n p = some l → l.length ≤ n
 | 0, p, l, h => by simp [runesF] at h; simp [h]
 | n + 1, p, l, h => by
  rw [runesF] at h
  split at h
  ·split at h
   ·split at h
    ·rename_i l' hl
     injection h with h
     subst h
     have := runes_len s n _ _ hl
     simp; omega
    ·cases h
   ·cases h
  ·injection h with h; subst h; simp
set_option maxRecDepth 100000 in
theorem runes_Count (s : List UInt8) (hl : s.length ≤ 1000000000) : PFn Tryd.prog 122 [.str s] (.int .i64 (countN s : Int)) := by
 refine PFn.of Tryd.func122 rfl (by decide) Tryd.ntmps122 Tryd.results122 (Nat.le_of_ble_eq_true rfl) ?_
 simp only [argsT]
 refine AW.rT (by rfl) fun K hK => ?_
 simp -implicitDefEqProofs only [go_sem]
 refine hK _ ?_; clear hK K
 refine AW.seq ?_
 refine AW.rT (by rfl) fun K hK => ?_
 simp -implicitDefEqProofs only [go_sem, ↓reduceIte, Nat.reduceAdd, reduceCtorEq]
 refine ⟨.pure _, runes_Valid s hl, ?_⟩
 try simp -implicitDefEqProofs only [go_sem, Nat.reduceAdd]
 refine hK _ ?_; clear hK K
 cases hr : runesO s 0 with
 | none =>
  have e : countN s = 0 := by unfold countN; rw [hr]
  have ei : (none : Option (List Int)).isSome = false := rfl
  simp only [ei]
  refine AW.cond _ (by simp -implicitDefEqProofs only [go_sem]; rfl) (fun hc => ?_) (fun hc => ?_)
  rotate_left
  ·simp at hc
  refine AW.rT (by rfl) fun K hK => ?_
  simp -implicitDefEqProofs only [go_sem, Nat.reduceAdd]
  refine hK _ ?_; clear hK K
  refine AW.ret ?_
  simp -implicitDefEqProofs only [go_sem, e]
  rfl
 | some L =>
  have e : countN s = L.length := by unfold countN; rw [hr]
  have hLl : L.length ≤ s.length := by unfold runesO at hr; exact runes_len s _ _ _ hr
  have ei : (some L : Option (List Int)).isSome = true := rfl
  simp only [ei]
  refine AW.cond _ (by simp -implicitDefEqProofs only [go_sem]; rfl) (fun hc => ?_) (fun hc => ?_)
  ·simp at hc
  refine AW.skip ?_
  simp only [andThen]
  refine AW.rT (by rfl) fun K hK => ?_
  simp -implicitDefEqProofs only [go_sem, Nat.reduceAdd]
  refine hK _ ?_; clear hK K
  refine AW.seq ?_
  refine AW.rT (by rfl) fun K hK => ?_
  simp -implicitDefEqProofs only [go_sem, ↓reduceIte, Nat.reduceAdd, reduceCtorEq]
  refine hK _ ?_; clear hK K
  refine AW.block ?_
  refine AW.loop (coS s) (fun x => x.1 ≤ s.length ∧ ∃ l, runesO s x.1 = some l ∧ x.2 + l.length = L.length) (fun x => s.length - x.1) (0, 0) ?_ ⟨by simp, L, hr, by simp⟩ fun x hx => ?_
  ·simp only [coS]
   refine Ghost.ent (fun _ => 6) ?_ ?_ ?_ <;> simp -implicitDefEqProofs only [go_sem, ↓reduceIte, Nat.reduceEqDiff, reduceCtorEq, List.forall_mem_cons, List.not_mem_nil, false_implies, implies_true, and_self, Nat.reduceLT, AV.labsIn]
   rfl
  obtain ⟨p, c⟩ := x
  obtain ⟨p1, l, p2, p3⟩ := hx
  dsimp only at p1 p2 p3
  simp only [coS]
  have wid := runeAt_wid s p
  by_cases hp : p < s.length
  case neg =>
   rw [runes_end hp] at p2
   injection p2 with p2
   subst p2
   have e' : countN s = c := by rw [e, ← p3]; simp
   refine AW.rT (by rfl) fun K hK => ?_
   simp -implicitDefEqProofs only [go_sem, ↓reduceIte, Nat.reduceAdd, reduceCtorEq, hp]
   refine hK _ ?_; clear hK K
   refine AW.seq ?_
   refine AW.cond _ (by simp -implicitDefEqProofs only [go_sem]; rfl) (fun hc => ?_) (fun hc => ?_)
   ·simp at hc
   refine AW.exit ?_
   simp only [andThen, inBlk, ↓reduceIte]
   refine AW.rT (by rfl) fun K hK => ?_
   simp -implicitDefEqProofs only [go_sem, ↓reduceIte, Nat.reduceAdd, Nat.reduceEqDiff, reduceCtorEq]
   refine hK _ ?_; clear hK K
   refine AW.ret ?_
   simp -implicitDefEqProofs only [go_sem, e']
  have hin := runeAt_in s p hp
  refine AW.rT (by rfl) fun K hK => ?_
  simp -implicitDefEqProofs only [go_sem, ↓reduceIte, Nat.reduceAdd, reduceCtorEq, hp]
  refine hK _ ?_; clear hK K
  refine AW.seq ?_
  refine AW.cond _ (by simp -implicitDefEqProofs only [go_sem]; rfl) (fun hc => ?_) (fun hc => ?_)
  rotate_left
  ·simp at hc
  refine AW.skip ?_
  simp only [andThen]
  refine AW.block ?_
  cases hb : (resN (runeAt s p)).2.2 with
  | false => rw [runes_bad hp hb] at p2; cases p2
  | true =>
   rw [runes_ok hp hb, Option.map_eq_some_iff] at p2
   obtain ⟨l', q1, rfl⟩ := p2
   rw [List.length_cons] at p3
   have w1 : IntKind.wrap .i64 ((c : Int) + 1) = ((c + 1 : Nat) : Int) := by rw [w64] <;> omega
   refine AW.rE (by rfl) fun K hK => ?_
   simp -implicitDefEqProofs only [go_sem, ↓reduceIte, Nat.reduceAdd, Nat.reduceEqDiff, reduceCtorEq, w1]
   refine hK _ ?_; clear hK K
   simp only [andThen, inBlk]
   refine ⟨(p + (runeAt s p).2, c + 1), ⟨hin, l', q1, by show c + 1 + l'.length = L.length; omega⟩, by show s.length - (p + (runeAt s p).2) < s.length - p; omega, ?_⟩
   refine Ghost.sub ?_ ?_ <;> simp -implicitDefEqProofs only [go_sem, ↓reduceIte, Nat.reduceEqDiff, reduceCtorEq, List.forall_mem_cons, List.not_mem_nil, false_implies, implies_true, and_self, Nat.reduceLT, AV.labsIn]
end Go.Aw
namespace Go.Aw
open Go.Proofs
set_option linter.unusedSimpArgs false
set_option linter.unusedVariables false
theorem word_app (a : Int) (pre l : List Int) : wordB ((a :: pre) ++ l) = (wordB (a :: pre) && l.all fun x => letterB x || digitB x) := by
 simp [wordB, List.all_append, Bool.and_assoc]
theorem word_next {pre : List Int} {r : Int} (h : pre = [] ∨ wordB pre = true) (hr : letterB r = true ∨ (pre ≠ [] ∧ digitB r = true)) : wordB (pre ++ [r]) = true := by
 cases pre with
 | nil =>
  rcases hr with hr | ⟨hr, _⟩
  ·simp [wordB, hr]
  ·exact absurd rfl hr
 | cons a pre =>
  have h' : wordB (a :: pre) = true := by
   rcases h with h | h
   ·cases h
   ·exact h
  rw [word_app, h']
  rcases hr with hr | ⟨_, hr⟩ <;> simp [hr]
theorem word_bad {pre l : List Int} {r : Int} (hr : letterB r = false) (hd : pre = [] ∨ digitB r = false) : wordB (pre ++ r :: l) = false := by
 cases pre with
 | nil => simp [wordB, hr]
 | cons a pre =>
  rw [word_app]
  rcases hd with hd | hd
  ·cases hd
  ·simp [hr, hd]
def naS (s : List UInt8) (p : Nat) : St := ⟨ofL [(0, .p (.str s)), (19, .it 0)], ofH [(0, .iter s p)], 1⟩
set_option maxRecDepth 100000 in
theorem runes_Name (s : List UInt8) (hl : s.length ≤ 1000000000) : PFn Tryd.prog 92 [.str s] (.bool (nameB s)) := by
 refine PFn.of Tryd.func92 rfl (by decide) Tryd.ntmps92 Tryd.results92 (Nat.le_of_ble_eq_true rfl) ?_
 simp only [argsT]
 refine AW.rT (by rfl) fun K hK => ?_
 simp -implicitDefEqProofs only [go_sem]
 refine hK _ ?_; clear hK K
 refine AW.rT (by rfl) fun K hK => ?_
 simp -implicitDefEqProofs only [go_sem, ↓reduceIte, Nat.reduceAdd, reduceCtorEq]
 refine ⟨.pure _, runes_Count s hl, ?_⟩
 try simp -implicitDefEqProofs only [go_sem, Nat.reduceAdd]
 refine hK _ ?_; clear hK K
 refine AW.seq ?_
 by_cases h1 : countN s < 1
 ·have f1 : ((countN s : Int) < 1) = True := eq_true (by omega)
  have e : nameB s = false := by
   unfold countN at h1
   unfold nameB
   cases hr : runesO s 0 with
   | none => rfl
   | some l =>
    rw [hr] at h1
    have : l = [] := List.length_eq_zero_iff.1 (by simpa using h1)
    subst this
    simp [wordB]
  refine AW.rT (by rfl) fun K hK => ?_
  simp -implicitDefEqProofs only [go_sem, ↓reduceIte, Nat.reduceAdd, Nat.reduceEqDiff, f1]
  refine hK _ ?_; clear hK K
  refine AW.cond _ (by simp -implicitDefEqProofs only [go_sem]; rfl) (fun hc => ?_) (fun hc => ?_)
  rotate_left
  ·simp at hc
  refine AW.rT (by rfl) fun K hK => ?_
  simp -implicitDefEqProofs only [go_sem, Nat.reduceAdd]
  refine hK _ ?_; clear hK K
  refine AW.ret ?_
  simp -implicitDefEqProofs only [go_sem, e]
 obtain ⟨L, hL⟩ : ∃ L, runesO s 0 = some L := by
  unfold countN at h1
  cases hr : runesO s 0 with
  | none => rw [hr] at h1; simp at h1
  | some l => exact ⟨l, rfl⟩
 have hc0 : countN s = L.length := by unfold countN; rw [hL]
 have eN : nameB s = (decide (L.length ≤ 20) && !keyB s && wordB L) := by unfold nameB; rw [hL]
 rw [hc0] at h1
 rw [hc0]
 have f1 : ((L.length : Int) < 1) = False := eq_false (by omega)
 by_cases h2 : L.length > 20
 ·have f2 : ((L.length : Int) > 20) = True := eq_true (by omega)
  have e : nameB s = false := by rw [eN, decide_eq_false (by omega)]; rfl
  refine AW.rT (by rfl) fun K hK => ?_
  simp -implicitDefEqProofs only [go_sem, ↓reduceIte, Nat.reduceAdd, Nat.reduceEqDiff, f1, f2]
  refine hK _ ?_; clear hK K
  refine AW.cond _ (by simp -implicitDefEqProofs only [go_sem]; rfl) (fun hc => ?_) (fun hc => ?_)
  rotate_left
  ·simp at hc
  refine AW.rT (by rfl) fun K hK => ?_
  simp -implicitDefEqProofs only [go_sem, Nat.reduceAdd]
  refine hK _ ?_; clear hK K
  refine AW.ret ?_
  simp -implicitDefEqProofs only [go_sem, e]
 have f2 : ((L.length : Int) > 20) = False := eq_false (by omega)
 rw [decide_eq_true (by omega), Bool.true_and] at eN
 refine AW.rT (by rfl) fun K hK => ?_
 simp -implicitDefEqProofs only [go_sem, ↓reduceIte, Nat.reduceAdd, Nat.reduceEqDiff, reduceCtorEq, f1, f2]
 refine ⟨.pure _, runes_Key s, ?_⟩
 try simp -implicitDefEqProofs only [go_sem, ↓reduceIte, Nat.reduceAdd, Nat.reduceEqDiff]
 refine hK _ ?_; clear hK K
 cases hk : keyB s with
 | true =>
  rw [hk] at eN
  have e : nameB s = false := eN
  refine AW.cond _ (by simp -implicitDefEqProofs only [go_sem]; rfl) (fun hc => ?_) (fun hc => ?_)
  rotate_left
  ·simp at hc
  refine AW.rT (by rfl) fun K hK => ?_
  simp -implicitDefEqProofs only [go_sem, Nat.reduceAdd]
  refine hK _ ?_; clear hK K
  refine AW.ret ?_
  simp -implicitDefEqProofs only [go_sem, e]
 | false =>
  rw [hk] at eN
  have eN : nameB s = wordB L := eN
  refine AW.cond _ (by simp -implicitDefEqProofs only [go_sem]; rfl) (fun hc => ?_) (fun hc => ?_)
  ·simp at hc
  refine AW.skip ?_
  simp only [andThen]
  refine AW.seq ?_
  refine AW.rT (by rfl) fun K hK => ?_
  simp -implicitDefEqProofs only [go_sem, ↓reduceIte, Nat.reduceAdd, reduceCtorEq]
  refine hK _ ?_; clear hK K
  refine AW.block ?_
  refine AW.loop (naS s) (fun p => p ≤ s.length ∧ ∃ pre l, L = pre ++ l ∧ runesO s p = some l ∧ (p = 0 ↔ pre = []) ∧ (pre = [] ∨ wordB pre = true)) (fun p => s.length - p) 0 ?_ ⟨by omega, [], L, rfl, hL, by simp, .inl rfl⟩ fun p hp => ?_
  ·simp only [naS]
   refine Ghost.ent (fun _ => 15) ?_ ?_ ?_ <;> simp -implicitDefEqProofs only [go_sem, ↓reduceIte, reduceCtorEq, List.forall_mem_cons, List.not_mem_nil, false_implies, implies_true, and_self, Nat.reduceLT, AV.labsIn]
  obtain ⟨p1, pre, l, p2, p3, p4, p5⟩ := hp
  simp only [naS]
  have wid := runeAt_wid s p
  by_cases hp : p < s.length
  case neg =>
   rw [runes_end hp] at p3
   injection p3 with p3
   subst p3
   have e : nameB s = true := by
    rw [eN, p2]
    rcases p5 with rfl | h
    ·rw [p2] at h1; simp at h1
    ·simpa using h
   refine AW.rT (by rfl) fun K hK => ?_
   simp -implicitDefEqProofs only [go_sem, ↓reduceIte, Nat.reduceAdd, reduceCtorEq, hp]
   refine hK _ ?_; clear hK K
   refine AW.seq ?_
   refine AW.cond _ (by simp -implicitDefEqProofs only [go_sem]; rfl) (fun hc => ?_) (fun hc => ?_)
   ·simp at hc
   refine AW.exit ?_
   simp only [andThen, inBlk, ↓reduceIte]
   refine AW.rT (by rfl) fun K hK => ?_
   simp -implicitDefEqProofs only [go_sem, Nat.reduceAdd]
   refine hK _ ?_; clear hK K
   refine AW.ret ?_
   simp -implicitDefEqProofs only [go_sem, e]
  have hin := runeAt_in s p hp
  obtain ⟨l', q1, rfl⟩ : ∃ l', runesO s (p + (runeAt s p).2) = some l' ∧ ((runeAt s p).1 : Int) :: l' = l := by
   cases hb : (resN (runeAt s p)).2.2 with
   | false => rw [runes_bad hp hb] at p3; cases p3
   | true => rwa [runes_ok hp hb, Option.map_eq_some_iff] at p3
  have again : letterB ((runeAt s p).1 : Int) = true ∨ (pre ≠ [] ∧ digitB ((runeAt s p).1 : Int) = true) → (p + (runeAt s p).2 ≤ s.length ∧ ∃ pre l, L = pre ++ l ∧ runesO s (p + (runeAt s p).2) = some l ∧ (p + (runeAt s p).2 = 0 ↔ pre = []) ∧ (pre = [] ∨ wordB pre = true)) :=
   fun h => ⟨hin, pre ++ [((runeAt s p).1 : Int)], l', by rw [p2]; simp, q1, ⟨fun h => by omega, fun h => by simp at h⟩, .inr (word_next p5 h)⟩
  refine AW.rT (by rfl) fun K hK => ?_
  simp -implicitDefEqProofs only [go_sem, ↓reduceIte, Nat.reduceAdd, reduceCtorEq, hp]
  refine hK _ ?_; clear hK K
  refine AW.seq ?_
  refine AW.cond _ (by simp -implicitDefEqProofs only [go_sem]; rfl) (fun hc => ?_) (fun hc => ?_)
  rotate_left
  ·simp at hc
  refine AW.skip ?_
  simp only [andThen]
  refine AW.block ?_
  refine AW.rT (by rfl) fun K hK => ?_
  simp -implicitDefEqProofs only [go_sem, ↓reduceIte, Nat.reduceAdd, Nat.reduceEqDiff]
  refine hK _ ?_; clear hK K
  cases h3 : letterB ((runeAt s p).1 : Int) with
  | true =>
   refine AW.rT (by rfl) fun K hK => ?_
   simp -implicitDefEqProofs only [go_sem, Nat.reduceAdd]
   refine ⟨.pure _, runes_Letter ((runeAt s p).1 : Int), ?_⟩
   try simp -implicitDefEqProofs only [go_sem, ↓reduceIte, Nat.reduceAdd, Nat.reduceEqDiff, h3]
   refine hK _ ?_; clear hK K
   refine AW.cond _ (by simp -implicitDefEqProofs only [go_sem]; rfl) (fun hc => ?_) (fun hc => ?_)
   ·simp at hc
   refine AW.skip ?_
   simp only [andThen, inBlk]
   refine ⟨p + (runeAt s p).2, again (.inl h3), by omega, ?_⟩
   refine Ghost.sub ?_ ?_ <;> simp -implicitDefEqProofs only [go_sem, ↓reduceIte, Nat.reduceEqDiff, reduceCtorEq, List.forall_mem_cons, List.not_mem_nil, false_implies, implies_true, and_self, Nat.reduceLT, AV.labsIn]
  | false =>
   by_cases h4 : p = 0
   ·have f4 : ((p : Int) == 0) = true := by simp; omega
    have e : nameB s = false := by rw [eN, p2]; exact word_bad h3 (.inl (p4.1 h4))
    refine AW.rT (by rfl) fun K hK => ?_
    simp -implicitDefEqProofs only [go_sem, Nat.reduceAdd]
    refine ⟨.pure _, runes_Letter ((runeAt s p).1 : Int), ?_⟩
    try simp -implicitDefEqProofs only [go_sem, ↓reduceIte, Nat.reduceAdd, Nat.reduceEqDiff, h3, f4]
    refine hK _ ?_; clear hK K
    refine AW.cond _ (by simp -implicitDefEqProofs only [go_sem]; rfl) (fun hc => ?_) (fun hc => ?_)
    rotate_left
    ·simp at hc
    refine AW.rT (by rfl) fun K hK => ?_
    simp -implicitDefEqProofs only [go_sem, Nat.reduceAdd]
    refine hK _ ?_; clear hK K
    refine AW.ret ?_
    simp -implicitDefEqProofs only [go_sem, e]
   ·have f4 : ((p : Int) == 0) = false := by simp; omega
    cases h5 : digitB ((runeAt s p).1 : Int) with
    | true =>
     refine AW.rT (by rfl) fun K hK => ?_
     simp -implicitDefEqProofs only [go_sem, Nat.reduceAdd]
     refine ⟨.pure _, runes_Letter ((runeAt s p).1 : Int), ?_⟩
     try simp -implicitDefEqProofs only [go_sem, ↓reduceIte, Nat.reduceAdd, Nat.reduceEqDiff, h3, f4]
     refine ⟨.pure _, runes_Digit ((runeAt s p).1 : Int), ?_⟩
     try simp -implicitDefEqProofs only [go_sem, ↓reduceIte, Nat.reduceAdd, Nat.reduceEqDiff, h5]
     refine hK _ ?_; clear hK K
     refine AW.cond _ (by simp -implicitDefEqProofs only [go_sem]; rfl) (fun hc => ?_) (fun hc => ?_)
     ·simp at hc
     refine AW.skip ?_
     simp only [andThen, inBlk]
     refine ⟨p + (runeAt s p).2, again (.inr ⟨fun h => h4 (p4.2 h), h5⟩), by omega, ?_⟩
     refine Ghost.sub ?_ ?_ <;> simp -implicitDefEqProofs only [go_sem, ↓reduceIte, Nat.reduceEqDiff, reduceCtorEq, List.forall_mem_cons, List.not_mem_nil, false_implies, implies_true, and_self, Nat.reduceLT, AV.labsIn]
    | false =>
     have e : nameB s = false := by rw [eN, p2]; exact word_bad h3 (.inr h5)
     refine AW.rT (by rfl) fun K hK => ?_
     simp -implicitDefEqProofs only [go_sem, Nat.reduceAdd]
     refine ⟨.pure _, runes_Letter ((runeAt s p).1 : Int), ?_⟩
     try simp -implicitDefEqProofs only [go_sem, ↓reduceIte, Nat.reduceAdd, Nat.reduceEqDiff, h3, f4]
     refine ⟨.pure _, runes_Digit ((runeAt s p).1 : Int), ?_⟩
     try simp -implicitDefEqProofs only [go_sem, ↓reduceIte, Nat.reduceAdd, Nat.reduceEqDiff, h5]
     refine hK _ ?_; clear hK K
     refine AW.cond _ (by simp -implicitDefEqProofs only [go_sem]; rfl) (fun hc => ?_) (fun hc => ?_)
     rotate_left
     ·simp at hc
     refine AW.rT (by rfl) fun K hK => ?_
     simp -implicitDefEqProofs only [go_sem, Nat.reduceAdd]
     refine hK _ ?_; clear hK K
     refine AW.ret ?_
     simp -implicitDefEqProofs only [go_sem, e]
def encR (r : Int) : List PV := [.int .i32 r]
def allR (s : List UInt8) : List Int × Bool := match runesO s 0 with | none => ([], false) | some l => (l, true)
def alS (s : List UInt8) (x : List Int × Nat) : St := ⟨ofL [(0, .p (.str s)), (4, .own 0), (5, .p (.int .i64 (x.2 : Int)))], ofH [(0, .row 1 (liftE (x.1.map encR)))], 1⟩
set_option maxRecDepth 100000 in
theorem ref01_All (s : List UInt8) (hl : s.length ≤ 1000000000) : PFn Tryd.prog 84 [.str s] (.tuple [.slice ((allR s).1.map encR), .bool (allR s).2]) := by
 refine PFn.of Tryd.func84 rfl (by decide) Tryd.ntmps84 Tryd.results84 (Nat.le_of_ble_eq_true rfl) ?_
 simp only [argsT]
 refine AW.rT (by rfl) fun K hK => ?_
 simp -implicitDefEqProofs only [go_sem, Nat.reduceAdd]
 refine hK _ ?_; clear hK K
 refine AW.rT (by rfl) fun K hK => ?_
 simp -implicitDefEqProofs only [go_sem, Nat.reduceAdd]
 refine hK _ ?_; clear hK K
 refine AW.seq ?_
 refine AW.rT (by rfl) fun K hK => ?_
 simp -implicitDefEqProofs only [go_sem, Nat.reduceAdd]
 refine hK _ ?_; clear hK K
 refine AW.block ?_
 refine AW.loop (alS s) (fun x => x.2 ≤ s.length ∧ x.1.length ≤ x.2 ∧ runesO s 0 = (runesO s x.2).map (x.1 ++ ·)) (fun x => s.length - x.2) ([], 0) ?_ ⟨by simp, by simp, by cases runesO s 0 <;> rfl⟩ fun x hx => ?_
 ·refine Ghost.trans (Ghost.nil (t := 4) (sz := 1) rfl) ?_
  simp only [alS]
  refine Ghost.ent (fun _ => 4) ?_ ?_ ?_ <;> simp -implicitDefEqProofs only [go_sem, ↓reduceIte, reduceCtorEq, liftE, List.forall_mem_cons, List.not_mem_nil, false_implies, implies_true, and_self, List.all_nil, Nat.reduceLT, AV.labsIn]
  rfl
 obtain ⟨out, p⟩ := x
 obtain ⟨p1, p2, p3⟩ := hx
 dsimp only at p1 p2 p3
 simp only [alS]
 have wid := runeAt_wid s p
 refine AW.seq ?_
 by_cases hp : p < s.length
 case neg =>
  have c1 : ((p : Int) < (s.length : Int)) = False := eq_false (by omega)
  rw [runes_end hp] at p3
  have e : allR s = (out, true) := by unfold allR; rw [p3]; simp
  refine AW.rT (by rfl) fun K hK => ?_
  simp -implicitDefEqProofs only [go_sem, ↓reduceIte, Nat.reduceAdd, Nat.reduceEqDiff, reduceCtorEq, c1]
  refine hK _ ?_; clear hK K
  refine AW.cond _ (by simp -implicitDefEqProofs only [go_sem]; rfl) (fun hc => ?_) (fun hc => ?_)
  ·simp at hc
  refine AW.exit ?_
  simp only [andThen, inBlk, ↓reduceIte]
  refine AW.rT (by rfl) fun K hK => ?_
  simp -implicitDefEqProofs only [go_sem, ↓reduceIte, Nat.reduceAdd, Nat.reduceEqDiff, reduceCtorEq]
  refine hK _ ?_; clear hK K
  refine AW.ret ?_
  simp -implicitDefEqProofs only [go_sem, ↓reduceIte, Nat.reduceEqDiff, e]
 have c1 : ((p : Int) < (s.length : Int)) = True := eq_true (by omega)
 have hin := runeAt_in s p hp
 refine AW.rT (by rfl) fun K hK => ?_
 simp -implicitDefEqProofs only [go_sem, ↓reduceIte, Nat.reduceAdd, Nat.reduceEqDiff, reduceCtorEq, c1]
 refine hK _ ?_; clear hK K
 refine AW.cond _ (by simp -implicitDefEqProofs only [go_sem]; rfl) (fun hc => ?_) (fun hc => ?_)
 rotate_left
 ·simp at hc
 refine AW.skip ?_
 simp only [andThen]
 refine AW.block ?_
 have N := ref01_Next s p hp hl
 unfold nextT at N
 refine AW.rT (by rfl) fun K hK => ?_
 simp -implicitDefEqProofs only [go_sem, ↓reduceIte, Nat.reduceAdd, Nat.reduceEqDiff, reduceCtorEq]
 refine ⟨.pure _, N, ?_⟩
 try simp -implicitDefEqProofs only [go_sem, ↓reduceIte, Nat.reduceAdd, Nat.reduceEqDiff]
 refine hK _ ?_; clear hK K
 refine AW.seq ?_
 rcases resN_cases (runeAt s p) with ⟨er, _, _⟩ | ⟨er, _⟩
 ·rw [runes_bad hp (by rw [er])] at p3
  have e : allR s = ([], false) := by unfold allR; rw [p3]; rfl
  refine AW.rT (by rfl) fun K hK => ?_
  simp -implicitDefEqProofs only [go_sem, Nat.reduceAdd, er]
  refine hK _ ?_; clear hK K
  refine AW.cond _ (by simp -implicitDefEqProofs only [go_sem]; rfl) (fun hc => ?_) (fun hc => ?_)
  rotate_left
  ·simp at hc
  refine AW.rT (by rfl) fun K hK => ?_
  simp -implicitDefEqProofs only [go_sem, Nat.reduceAdd]
  refine hK _ ?_; clear hK K
  refine AW.ret ?_
  simp -implicitDefEqProofs only [go_sem, ↓reduceIte, Nat.reduceEqDiff, e]
 ·rw [runes_ok hp (by rw [er])] at p3
  refine AW.rT (by rfl) fun K hK => ?_
  simp -implicitDefEqProofs only [go_sem, Nat.reduceAdd, er]
  refine hK _ ?_; clear hK K
  refine AW.cond _ (by simp -implicitDefEqProofs only [go_sem]; rfl) (fun hc => ?_) (fun hc => ?_)
  ·simp at hc
  refine AW.skip ?_
  simp only [andThen]
  refine AW.rT (by rfl) fun K hK => ?_
  simp -implicitDefEqProofs only [go_sem, ↓reduceIte, Nat.reduceAdd, Nat.reduceMul, Nat.reduceEqDiff, Nat.reduceLeDiff, reduceCtorEq]
  refine ⟨⟨by simp, by simp [oneAll, AV.one, PV.one], by simp⟩, by simp [liftE_length]; omega, ?_⟩
  refine hK _ ?_; clear hK K
  have w1 : IntKind.wrap .i64 ((p : Int) + ((runeAt s p).2 : Int)) = ((p + (runeAt s p).2 : Nat) : Int) := by rw [w64] <;> omega
  refine AW.rE (by rfl) fun K hK => ?_
  simp -implicitDefEqProofs only [go_sem, ↓reduceIte, Nat.reduceAdd, Nat.reduceEqDiff, reduceCtorEq, w1]
  refine hK _ ?_; clear hK K
  simp only [andThen, inBlk]
  refine ⟨(out ++ [((runeAt s p).1 : Int)], p + (runeAt s p).2), ⟨hin, by simp; omega, ?_⟩, by show s.length - (p + (runeAt s p).2) < s.length - p; omega, ?_⟩
  ·rw [p3]
   cases runesO s (p + (runeAt s p).2) <;> simp
  ·simp only []
   refine Ghost.ent (fun _ => 20) ?_ ?_ ?_ <;> simp -implicitDefEqProofs only [go_sem, ↓reduceIte, Nat.reduceEqDiff, reduceCtorEq, encR, List.map_append, liftE_append, liftE_cons, liftE_nil, List.forall_mem_cons, List.not_mem_nil, false_implies, implies_true, and_self, map_renL_lift, labsIn_lift, List.all_append, List.all_cons, List.all_nil, List.map_append, Nat.reduceLT, labsInL, AV.labsIn]
def rnS (s : List UInt8) (l : List Int) (i : Nat) : St := ⟨ofL [(0, .p (.str s)), (3, .p (.slice (l.map encR))), (5, .p (.int .i64 (i : Int)))], ofH [], 0⟩
set_option maxRecDepth 100000 in
theorem ref01_Name (s : List UInt8) (hl : s.length ≤ 1000000000) : PFn Tryd.prog 57 [.str s] (.bool (nameB s)) := by
 refine PFn.of Tryd.func57 rfl (by decide) Tryd.ntmps57 Tryd.results57 (Nat.le_of_ble_eq_true rfl) ?_
 simp only [argsT]
 have i0 : ((0 : Int) ≤ 0) = True := by simp
 refine AW.rT (by rfl) fun K hK => ?_
 simp -implicitDefEqProofs only [go_sem]
 refine hK _ ?_; clear hK K
 refine AW.rT (by rfl) fun K hK => ?_
 simp -implicitDefEqProofs only [go_sem, ↓reduceIte, Nat.reduceAdd, reduceCtorEq]
 refine ⟨.pure _, ref01_All s hl, ?_⟩
 try simp -implicitDefEqProofs only [go_sem, ↓reduceIte, Nat.reduceAdd, Nat.reduceEqDiff]
 refine hK _ ?_; clear hK K
 refine AW.seq ?_
 cases hr : runesO s 0 with
 | none =>
  have e : nameB s = false := by unfold nameB; rw [hr]
  have ea : allR s = ([], false) := by unfold allR; rw [hr]
  refine AW.rT (by rfl) fun K hK => ?_
  simp -implicitDefEqProofs only [go_sem, ↓reduceIte, Nat.reduceAdd, Nat.reduceEqDiff, ea]
  refine hK _ ?_; clear hK K
  refine AW.cond _ (by simp -implicitDefEqProofs only [go_sem]; rfl) (fun hc => ?_) (fun hc => ?_)
  rotate_left
  ·simp at hc
  refine AW.rT (by rfl) fun K hK => ?_
  simp -implicitDefEqProofs only [go_sem, Nat.reduceAdd]
  refine hK _ ?_; clear hK K
  refine AW.ret ?_
  simp -implicitDefEqProofs only [go_sem, e]
 | some L =>
  have eN : nameB s = (decide (L.length ≤ 20) && !keyB s && wordB L) := by unfold nameB; rw [hr]
  have ea : allR s = (L, true) := by unfold allR; rw [hr]
  rw [ea]
  cases L with
  | nil =>
   have e : nameB s = false := by rw [eN]; simp [wordB]
   have f1 : ((0 : Int) < 1) = True := by simp
   refine AW.rT (by rfl) fun K hK => ?_
   simp -implicitDefEqProofs only [go_sem, ↓reduceIte, Nat.reduceAdd, Nat.reduceEqDiff, f1, List.map_nil, List.length_nil, Int.cast_ofNat_Int]
   refine hK _ ?_; clear hK K
   refine AW.cond _ (by simp -implicitDefEqProofs only [go_sem]; rfl) (fun hc => ?_) (fun hc => ?_)
   rotate_left
   ·simp at hc
   refine AW.rT (by rfl) fun K hK => ?_
   simp -implicitDefEqProofs only [go_sem, Nat.reduceAdd]
   refine hK _ ?_; clear hK K
   refine AW.ret ?_
   simp -implicitDefEqProofs only [go_sem, e]
  | cons a L' =>
   generalize hLe : a :: L' = L at *
   have ha : L[0]? = some a := by rw [← hLe]; rfl
   have hln : 1 ≤ L.length := by rw [← hLe]; simp
   have ⟨x1, x2, x3⟩ := at_map' encR ha
   have x2' : (0 : Int) < (L.length : Int) := by omega
   have f1 : ((L.length : Int) < 1) = False := eq_false (by omega)
   by_cases h2 : L.length > 20
   ·have f2 : ((L.length : Int) > 20) = True := eq_true (by omega)
    have e : nameB s = false := by rw [eN, decide_eq_false (by omega)]; rfl
    refine AW.rT (by rfl) fun K hK => ?_
    simp -implicitDefEqProofs only [go_sem, ↓reduceIte, Nat.reduceAdd, Nat.reduceEqDiff, f1, f2, List.length_map]
    refine hK _ ?_; clear hK K
    refine AW.cond _ (by simp -implicitDefEqProofs only [go_sem]; rfl) (fun hc => ?_) (fun hc => ?_)
    rotate_left
    ·simp at hc
    refine AW.rT (by rfl) fun K hK => ?_
    simp -implicitDefEqProofs only [go_sem, Nat.reduceAdd]
    refine hK _ ?_; clear hK K
    refine AW.ret ?_
    simp -implicitDefEqProofs only [go_sem, e]
   have f2 : ((L.length : Int) > 20) = False := eq_false (by omega)
   rw [decide_eq_true (by omega), Bool.true_and] at eN
   have hw : wordB L = (letterB a && L'.all fun x => letterB x || digitB x) := by rw [← hLe]; rfl
   have x3' : (L.map encR).getD 0 [] = [.int .i32 a] := x3
   cases h3 : letterB a with
   | false =>
    have e : nameB s = false := by rw [eN, hw, h3]; simp
    refine AW.rT (by rfl) fun K hK => ?_
    simp -implicitDefEqProofs only [go_sem, ↓reduceIte, Nat.reduceAdd, Nat.reduceEqDiff, Int.reduceToNat, f1, f2, List.length_map, i0, x2', x3']
    refine ⟨.pure _, ref01_Letter a, ?_⟩
    try simp -implicitDefEqProofs only [go_sem, ↓reduceIte, Nat.reduceAdd, Nat.reduceEqDiff, h3]
    refine hK _ ?_; clear hK K
    refine AW.cond _ (by simp -implicitDefEqProofs only [go_sem]; rfl) (fun hc => ?_) (fun hc => ?_)
    rotate_left
    ·simp at hc
    refine AW.rT (by rfl) fun K hK => ?_
    simp -implicitDefEqProofs only [go_sem, Nat.reduceAdd]
    refine hK _ ?_; clear hK K
    refine AW.ret ?_
    simp -implicitDefEqProofs only [go_sem, e]
   | true =>
   cases hk : keyB s with
   | true =>
    have e : nameB s = false := by rw [eN, hk]; simp
    refine AW.rT (by rfl) fun K hK => ?_
    simp -implicitDefEqProofs only [go_sem, ↓reduceIte, Nat.reduceAdd, Nat.reduceEqDiff, Int.reduceToNat, f1, f2, List.length_map, i0, x2', x3']
    refine ⟨.pure _, ref01_Letter a, ?_⟩
    try simp -implicitDefEqProofs only [go_sem, ↓reduceIte, Nat.reduceAdd, Nat.reduceEqDiff, reduceCtorEq, h3]
    refine ⟨.pure _, ref01_Key s, ?_⟩
    try simp -implicitDefEqProofs only [go_sem, ↓reduceIte, Nat.reduceAdd, Nat.reduceEqDiff, hk]
    refine hK _ ?_; clear hK K
    refine AW.cond _ (by simp -implicitDefEqProofs only [go_sem]; rfl) (fun hc => ?_) (fun hc => ?_)
    rotate_left
    ·simp at hc
    refine AW.rT (by rfl) fun K hK => ?_
    simp -implicitDefEqProofs only [go_sem, Nat.reduceAdd]
    refine hK _ ?_; clear hK K
    refine AW.ret ?_
    simp -implicitDefEqProofs only [go_sem, e]
   | false =>
    have eN : nameB s = L.all fun x => letterB x || digitB x := by rw [eN, hk, hw, h3, ← hLe]; simp [h3]
    refine AW.rT (by rfl) fun K hK => ?_
    simp -implicitDefEqProofs only [go_sem, ↓reduceIte, Nat.reduceAdd, Nat.reduceEqDiff, Int.reduceToNat, f1, f2, List.length_map, i0, x2', x3']
    refine ⟨.pure _, ref01_Letter a, ?_⟩
    try simp -implicitDefEqProofs only [go_sem, ↓reduceIte, Nat.reduceAdd, Nat.reduceEqDiff, reduceCtorEq, h3]
    refine ⟨.pure _, ref01_Key s, ?_⟩
    try simp -implicitDefEqProofs only [go_sem, ↓reduceIte, Nat.reduceAdd, Nat.reduceEqDiff, hk]
    refine hK _ ?_; clear hK K
    refine AW.cond _ (by simp -implicitDefEqProofs only [go_sem]; rfl) (fun hc => ?_) (fun hc => ?_)
    ·simp at hc
    refine AW.skip ?_
    simp only [andThen]
    refine AW.seq ?_
    refine AW.rT (by rfl) fun K hK => ?_
    simp -implicitDefEqProofs only [go_sem, Nat.reduceAdd]
    refine hK _ ?_; clear hK K
    refine AW.block ?_
    refine AW.loop (rnS s L) (fun i => i ≤ L.length ∧ (L.take i).all (fun x => letterB x || digitB x) = true) (fun i => L.length - i) 1 ?_ ⟨hln, by rw [← hLe]; simp [h3]⟩ fun i hi => ?_
    ·simp only [rnS]
     refine Ghost.sub ?_ ?_ <;> simp -implicitDefEqProofs only [go_sem, ↓reduceIte, Nat.reduceEqDiff, reduceCtorEq, List.forall_mem_cons, List.not_mem_nil, false_implies, implies_true, and_self, AV.labsIn]
     rfl
    obtain ⟨i1, i2⟩ := hi
    simp only [rnS]
    refine AW.seq ?_
    by_cases hil : i < L.length
    case neg =>
     rw [List.take_of_length_le (by omega)] at i2
     have e : nameB s = true := by rw [eN]; exact i2
     have c1 : ((i : Int) < (L.length : Int)) = False := eq_false (by omega)
     refine AW.rT (by rfl) fun K hK => ?_
     simp -implicitDefEqProofs only [go_sem, ↓reduceIte, Nat.reduceAdd, Nat.reduceEqDiff, reduceCtorEq, c1, List.length_map]
     refine hK _ ?_; clear hK K
     refine AW.cond _ (by simp -implicitDefEqProofs only [go_sem]; rfl) (fun hc => ?_) (fun hc => ?_)
     ·simp at hc
     refine AW.exit ?_
     simp only [andThen, inBlk, ↓reduceIte]
     refine AW.rT (by rfl) fun K hK => ?_
     simp -implicitDefEqProofs only [go_sem, Nat.reduceAdd]
     refine hK _ ?_; clear hK K
     refine AW.ret ?_
     simp -implicitDefEqProofs only [go_sem, e]
    obtain ⟨r, hr⟩ : ∃ r, L[i]? = some r := ⟨_, List.getElem?_eq_getElem hil⟩
    have ⟨y1, y2, y3⟩ := at_map' encR hr
    have y3' : (L.map encR).getD i [] = [.int .i32 r] := y3
    have c1 : ((i : Int) < (L.length : Int)) = True := eq_true (by omega)
    have w1 : IntKind.wrap .i64 ((i : Int) + 1) = ((i + 1 : Nat) : Int) := by rw [w64] <;> omega
    refine AW.rT (by rfl) fun K hK => ?_
    simp -implicitDefEqProofs only [go_sem, ↓reduceIte, Nat.reduceAdd, Nat.reduceEqDiff, reduceCtorEq, c1, List.length_map]
    refine hK _ ?_; clear hK K
    refine AW.cond _ (by simp -implicitDefEqProofs only [go_sem]; rfl) (fun hc => ?_) (fun hc => ?_)
    rotate_left
    ·simp at hc
    refine AW.skip ?_
    simp only [andThen]
    refine AW.seq ?_
    refine AW.block ?_
    cases h4 : letterB r with
    | true =>
     refine AW.rT (by rfl) fun K hK => ?_
     simp -implicitDefEqProofs only [go_sem, ↓reduceIte, Nat.reduceAdd, Nat.reduceEqDiff, reduceCtorEq, y1, y3', c1, List.length_map]
     refine ⟨.pure _, ref01_Letter r, ?_⟩
     try simp -implicitDefEqProofs only [go_sem, ↓reduceIte, Nat.reduceAdd, Nat.reduceEqDiff, h4]
     refine hK _ ?_; clear hK K
     refine AW.cond _ (by simp -implicitDefEqProofs only [go_sem]; rfl) (fun hc => ?_) (fun hc => ?_)
     ·simp at hc
     refine AW.skip ?_
     simp only [andThen, inBlk]
     refine AW.rE (by rfl) fun K hK => ?_
     simp -implicitDefEqProofs only [go_sem, ↓reduceIte, Nat.reduceAdd, Nat.reduceEqDiff, reduceCtorEq, w1]
     refine hK _ ?_; clear hK K
     refine ⟨i + 1, ⟨by omega, all_next hr i2 (by rw [h4]; rfl)⟩, by omega, ?_⟩
     refine Ghost.sub ?_ ?_ <;> simp -implicitDefEqProofs only [go_sem, ↓reduceIte, Nat.reduceEqDiff, reduceCtorEq, List.forall_mem_cons, List.not_mem_nil, false_implies, implies_true, and_self, AV.labsIn]
    | false =>
    cases h5 : digitB r with
    | true =>
     refine AW.rT (by rfl) fun K hK => ?_
     simp -implicitDefEqProofs only [go_sem, ↓reduceIte, Nat.reduceAdd, Nat.reduceEqDiff, reduceCtorEq, y1, y3', c1, List.length_map]
     refine ⟨.pure _, ref01_Letter r, ?_⟩
     try simp -implicitDefEqProofs only [go_sem, ↓reduceIte, Nat.reduceAdd, Nat.reduceEqDiff, reduceCtorEq, h4, y1, y3', c1, List.length_map]
     refine ⟨.pure _, ref01_Digit r, ?_⟩
     try simp -implicitDefEqProofs only [go_sem, ↓reduceIte, Nat.reduceAdd, Nat.reduceEqDiff, h5]
     refine hK _ ?_; clear hK K
     refine AW.cond _ (by simp -implicitDefEqProofs only [go_sem]; rfl) (fun hc => ?_) (fun hc => ?_)
     ·simp at hc
     refine AW.skip ?_
     simp only [andThen, inBlk]
     refine AW.rE (by rfl) fun K hK => ?_
     simp -implicitDefEqProofs only [go_sem, ↓reduceIte, Nat.reduceAdd, Nat.reduceEqDiff, reduceCtorEq, w1]
     refine hK _ ?_; clear hK K
     refine ⟨i + 1, ⟨by omega, all_next hr i2 (by rw [h4, h5]; rfl)⟩, by omega, ?_⟩
     refine Ghost.sub ?_ ?_ <;> simp -implicitDefEqProofs only [go_sem, ↓reduceIte, Nat.reduceEqDiff, reduceCtorEq, List.forall_mem_cons, List.not_mem_nil, false_implies, implies_true, and_self, AV.labsIn]
    | false =>
     have e : nameB s = false := by rw [eN]; exact all_not hr (by rw [h4, h5]; rfl)
     refine AW.rT (by rfl) fun K hK => ?_
     simp -implicitDefEqProofs only [go_sem, ↓reduceIte, Nat.reduceAdd, Nat.reduceEqDiff, reduceCtorEq, y1, y3', c1, List.length_map]
     refine ⟨.pure _, ref01_Letter r, ?_⟩
     try simp -implicitDefEqProofs only [go_sem, ↓reduceIte, Nat.reduceAdd, Nat.reduceEqDiff, reduceCtorEq, h4, y1, y3', c1, List.length_map]
     refine ⟨.pure _, ref01_Digit r, ?_⟩
     try simp -implicitDefEqProofs only [go_sem, ↓reduceIte, Nat.reduceAdd, Nat.reduceEqDiff, h5]
     refine hK _ ?_; clear hK K
     refine AW.cond _ (by simp -implicitDefEqProofs only [go_sem]; rfl) (fun hc => ?_) (fun hc => ?_)
     rotate_left
     ·simp at hc
     refine AW.rT (by rfl) fun K hK => ?_
     simp -implicitDefEqProofs only [go_sem, Nat.reduceAdd]
     refine hK _ ?_; clear hK K
     refine AW.ret ?_
     simp -implicitDefEqProofs only [go_sem, e]
end Go.Aw
namespace Go.Aw
open Go.Proofs Go.RowKit
set_option linter.unusedSimpArgs false
set_option linter.unusedVariables false
theorem first_of {α : Type} {q : α → Bool} : ∀ {l : List α}, l.any q = true → ∃ i a, l[i]? = some a ∧ q a = true ∧ ∀ (j : Nat) b, j < i → l[j]? = some b → q b = false
 | [], h => by simp at h
 | a :: l, h => by
  cases hq : q a with
  | true => exact ⟨0, a, rfl, hq, fun j b hj => by omega⟩
  | false =>
   rw [List.any_cons, hq, Bool.false_or] at h
   obtain ⟨i, x, h1, h2, h3⟩ := first_of h
   refine ⟨i + 1, x, by simpa using h1, h2, fun j b hj hb => ?_⟩
   cases j with
   | zero => simp at hb; subst hb; exact hq
   | succ j => exact h3 j b (by omega) (by simpa using hb)
theorem mapAt_none {α : Type} {f : α → PV × AV} {l : List α} {p : PV} {q : α → Bool} (hq : ∀ a, keyEq p (f a).1 = some (q a)) (h : l.any q = false) : MapAt (l.map f) p none := by
 intro e he
 obtain ⟨a, ha, rfl⟩ := List.mem_map.1 he
 rw [hq]
 have := List.any_eq_false.1 h a ha
 simpa using this
theorem mapAt_some {α : Type} {f : α → PV × AV} {l : List α} {p : PV} {q : α → Bool} (hq : ∀ a, keyEq p (f a).1 = some (q a)) {i : Nat} {a : α} (h1 : l[i]? = some a) (h2 : q a = true) (h3 : ∀ (j : Nat) b, j < i → l[j]? = some b → q b = false) : MapAt (l.map f) p (some (i, (f a).2)) := by
 refine ⟨f a, by simp [h1], rfl, by rw [hq, h2], fun j e' hj he => ?_⟩
 rw [List.getElem?_map, Option.map_eq_some_iff] at he
 obtain ⟨b, hb, rfl⟩ := he
 rw [hq, h3 j b hj hb]
def setM (ns : List (List UInt8)) : List (PV × PV) := ns.map fun k => (.str k, .bool true)
def mS (ns : List (List UInt8)) : List (PV × AV) := ns.map fun k => (.str k, .p (.bool true))
theorem lift_setM (ns : List (List UInt8)) : liftM (setM ns) = mS ns := by simp [liftM, setM, mS]
theorem contains_any {α : Type} [BEq α] (l : List α) (k : α) : l.contains k = l.any (k == ·) := by
 induction l with
 | nil => rfl
 | cons a l ih => rw [List.contains_cons, List.any_cons, ih]
theorem mS_no {ns : List (List UInt8)} {k : List UInt8} (h : ns.contains k = false) : MapAt (mS ns) (.str k) none :=
 mapAt_none (q := fun a => k == a) (fun a => rfl) (by rw [← contains_any]; exact h)
theorem mS_yes {ns : List (List UInt8)} {k : List UInt8} (h : ns.contains k = true) : ∃ i : Nat, MapAt (mS ns) (.str k) (some (i, .p (.bool true))) := by
 rw [contains_any] at h
 obtain ⟨i, a, h1, h2, h3⟩ := first_of h
 exact ⟨i, mapAt_some (q := fun a => k == a) (fun a => rfl) h1 h2 h3⟩
theorem mS_add (ns : List (List UInt8)) (k : List UInt8) : mS ns ++ [(.str k, .p (.bool true))] = mS (ns ++ [k]) := by simp [mS]
theorem mS_nil : mS [] = [] := rfl
theorem mS_ren (ns : List (List UInt8)) (ρ : Nat → Nat) : (mS ns).map (fun e => (e.1, AV.ren ρ e.2)) = mS ns := by
 simp [mS, AV.ren]
theorem mS_labs (ns : List (List UInt8)) (n : Nat) : (mS ns).all (fun e => AV.labsIn n e.2) = true := by
 simp [mS, AV.labsIn]
def mI (ts : List Int) : List (PV × AV) := ts.map fun k => (.int .i64 k, .p (.bool true))
theorem mI_no {ts : List Int} {k : Int} (h : ts.contains k = false) : MapAt (mI ts) (.int .i64 k) none :=
 mapAt_none (q := fun a => k == a) (fun a => by simp [keyEq]) (by rw [← contains_any]; exact h)
theorem mI_yes {ts : List Int} {k : Int} (h : ts.contains k = true) : ∃ i : Nat, MapAt (mI ts) (.int .i64 k) (some (i, .p (.bool true))) := by
 rw [contains_any] at h
 obtain ⟨i, a, h1, h2, h3⟩ := first_of h
 exact ⟨i, mapAt_some (q := fun a => k == a) (fun a => by simp [keyEq]) h1 h2 h3⟩
theorem mI_add (ts : List Int) (k : Int) : mI ts ++ [(.int .i64 k, .p (.bool true))] = mI (ts ++ [k]) := by simp [mI]
theorem mI_nil : mI [] = [] := rfl
theorem mI_ren (ts : List Int) (ρ : Nat → Nat) : (mI ts).map (fun e => (e.1, AV.ren ρ e.2)) = mI ts := by
 simp [mI, AV.ren]
theorem mI_labs (ts : List Int) (n : Nat) : (mI ts).all (fun e => AV.labsIn n e.2) = true := by
 simp [mI, AV.labsIn]
attribute [go_sem] mS_ren mS_labs mI_ren mI_labs
theorem keyS (k : List UInt8) : KeyT Tryd.prog 9 (.str k) := key_str Tryd.underlying9 k
theorem keyI (k : Int) : KeyT Tryd.prog 3 (.int .i64 k) := key_int Tryd.underlying3 k
def takesB (ns : List (List UInt8)) (k : List UInt8) : Bool := nameB k && !ns.contains k
def tagB (t : Int) : Bool := decide (1 ≤ t ∧ t ≤ 500)
theorem check_tag (t : Int) : PFn Tryd.prog 126 [.int .i64 t] (.bool (tagB t)) := by
 refine PFn.of Tryd.func126 rfl (by decide) Tryd.ntmps126 Tryd.results126 (Nat.le_of_ble_eq_true rfl) ?_
 simp only [argsT]
 refine AW.rT (by rfl) fun K hK => ?_
 simp -implicitDefEqProofs only [go_sem]
 refine hK _ ?_; clear hK K
 by_cases h1 : t ≥ 1
 ·have f1 : (t ≥ 1) = True := eq_true h1
  by_cases h2 : t ≤ 500
  ·have f2 : (t ≤ 500) = True := eq_true h2
   have e : tagB t = true := decide_eq_true ⟨h1, h2⟩
   refine AW.rT (by rfl) fun K hK => ?_
   simp -implicitDefEqProofs only [go_sem, ↓reduceIte, Nat.reduceAdd, Nat.reduceEqDiff, reduceCtorEq, f1, f2]
   refine hK _ ?_; clear hK K
   refine AW.ret ?_
   simp -implicitDefEqProofs only [go_sem, e]
  ·have f2 : (t ≤ 500) = False := eq_false h2
   have e : tagB t = false := decide_eq_false (fun h => h2 h.2)
   refine AW.rT (by rfl) fun K hK => ?_
   simp -implicitDefEqProofs only [go_sem, ↓reduceIte, Nat.reduceAdd, Nat.reduceEqDiff, reduceCtorEq, f1, f2]
   refine hK _ ?_; clear hK K
   refine AW.ret ?_
   simp -implicitDefEqProofs only [go_sem, e]
 ·have f1 : (t ≥ 1) = False := eq_false h1
  have e : tagB t = false := decide_eq_false (fun h => h1 h.1)
  refine AW.rT (by rfl) fun K hK => ?_
  simp -implicitDefEqProofs only [go_sem, ↓reduceIte, Nat.reduceAdd, Nat.reduceEqDiff, reduceCtorEq, f1]
  refine hK _ ?_; clear hK K
  refine AW.ret ?_
  simp -implicitDefEqProofs only [go_sem, e]
def takeN (ns : List (List UInt8)) (k : List UInt8) : List (List UInt8) := if takesB ns k = true then ns ++ [k] else ns
set_option maxRecDepth 100000 in
theorem check_takes (ns : List (List UInt8)) (k : List UInt8) (hl : k.length ≤ 1000000000) :
  LFn Tryd.prog 95 [.map (setM ns), .v (.str k)] [some (.map (setM (takeN ns k))), none] (.bool (takesB ns k)) := by
 refine LFn.of Tryd.func95 rfl (by decide) Tryd.ntmps95 Tryd.results95 (Nat.le_of_ble_eq_true rfl) rfl fun val => ?_
 simp only [laT, laH, laPins, LA.av, List.length_cons, List.length_nil, lift_setM]
 refine AW.rT (by rfl) fun K hK => ?_
 simp -implicitDefEqProofs only [go_sem, Nat.reduceAdd]
 refine hK _ ?_; clear hK K
 refine AW.seq ?_
 cases hk : nameB k with
 | false =>
  have e : takesB ns k = false := by unfold takesB; rw [hk]; rfl
  have e2 : takeN ns k = ns := by unfold takeN; rw [e]; rfl
  refine AW.rT (by rfl) fun K hK => ?_
  simp -implicitDefEqProofs only [go_sem, ↓reduceIte, Nat.reduceAdd, Nat.reduceEqDiff]
  refine ⟨.pure _, runes_Name k hl, ?_⟩
  try simp -implicitDefEqProofs only [go_sem, ↓reduceIte, Nat.reduceAdd, Nat.reduceEqDiff, hk]
  refine hK _ ?_; clear hK K
  refine AW.cond _ (by simp -implicitDefEqProofs only [go_sem]; rfl) (fun hc => ?_) (fun hc => ?_)
  rotate_left
  ·simp at hc
  refine AW.rT (by rfl) fun K hK => ?_
  simp -implicitDefEqProofs only [go_sem, Nat.reduceAdd]
  refine hK _ ?_; clear hK K
  refine AW.ret (show _ ∧ ((∃ l, _ ∧ _) ∧ True) from ⟨?_, ⟨0, ?_, ?_⟩, trivial⟩) <;> simp -implicitDefEqProofs only [go_sem, ↓reduceIte, reduceCtorEq, e, e2, lift_setM]
 | true =>
 cases hn : ns.contains k with
 | true =>
  have e : takesB ns k = false := by unfold takesB; rw [hk, hn]; rfl
  have e2 : takeN ns k = ns := by unfold takeN; rw [e]; rfl
  obtain ⟨i, hm⟩ := mS_yes hn
  refine AW.rT (by rfl) fun K hK => ?_
  simp -implicitDefEqProofs only [go_sem, ↓reduceIte, Nat.reduceAdd, Nat.reduceEqDiff]
  refine ⟨.pure _, runes_Name k hl, ?_⟩
  try simp -implicitDefEqProofs only [go_sem, ↓reduceIte, Nat.reduceAdd, Nat.reduceEqDiff, reduceCtorEq, hk]
  refine ⟨keyS k, _, hm, _, rfl, ?_⟩
  try simp -implicitDefEqProofs only [go_sem, ↓reduceIte, Nat.reduceAdd, Nat.reduceMul, Nat.reduceEqDiff, Nat.reduceLeDiff, reduceCtorEq, Int.reduceToNat]
  refine hK _ ?_; clear hK K
  refine AW.cond _ (by simp -implicitDefEqProofs only [go_sem]; rfl) (fun hc => ?_) (fun hc => ?_)
  rotate_left
  ·simp at hc
  refine AW.rT (by rfl) fun K hK => ?_
  simp -implicitDefEqProofs only [go_sem, Nat.reduceAdd]
  refine hK _ ?_; clear hK K
  refine AW.ret (show _ ∧ ((∃ l, _ ∧ _) ∧ True) from ⟨?_, ⟨0, ?_, ?_⟩, trivial⟩) <;> simp -implicitDefEqProofs only [go_sem, ↓reduceIte, reduceCtorEq, e, e2, lift_setM]
 | false =>
  have e : takesB ns k = true := by unfold takesB; rw [hk, hn]; rfl
  have e2 : takeN ns k = ns ++ [k] := by unfold takeN; rw [e]; rfl
  have hm := mS_no hn
  refine AW.rT (by rfl) fun K hK => ?_
  simp -implicitDefEqProofs only [go_sem, ↓reduceIte, Nat.reduceAdd, Nat.reduceEqDiff]
  refine ⟨.pure _, runes_Name k hl, ?_⟩
  try simp -implicitDefEqProofs only [go_sem, ↓reduceIte, Nat.reduceAdd, Nat.reduceEqDiff, reduceCtorEq, hk]
  refine ⟨keyS k, _, hm, _, rfl, ?_⟩
  try simp -implicitDefEqProofs only [go_sem, ↓reduceIte, Nat.reduceAdd, Nat.reduceMul, Nat.reduceEqDiff, Nat.reduceLeDiff, reduceCtorEq, Int.reduceToNat]
  refine hK _ ?_; clear hK K
  refine AW.cond _ (by simp -implicitDefEqProofs only [go_sem]; rfl) (fun hc => ?_) (fun hc => ?_)
  ·simp at hc
  refine AW.skip ?_
  simp only [andThen]
  refine AW.rT (by rfl) fun K hK => ?_
  simp -implicitDefEqProofs only [go_sem, ↓reduceIte, Nat.reduceAdd, Nat.reduceEqDiff, reduceCtorEq]
  refine ⟨keyS k, _, hm, ?_⟩
  try simp -implicitDefEqProofs only [go_sem]
  refine hK _ ?_; clear hK K
  refine AW.rT (by rfl) fun K hK => ?_
  simp -implicitDefEqProofs only [go_sem, Nat.reduceAdd]
  refine hK _ ?_; clear hK K
  refine AW.ret (show _ ∧ ((∃ l, _ ∧ _) ∧ True) from ⟨?_, ⟨0, ?_, ?_⟩, trivial⟩) <;> simp -implicitDefEqProofs only [go_sem, ↓reduceIte, reduceCtorEq, e, e2, lift_setM, mS_add]
theorem frS_eq {ns : List (List UInt8)} {k : List UInt8} (h : ns.all (fun n => !(n == k)) = true) : ns.contains k = false := by
 rw [contains_any, List.any_eq_false]
 intro x hx
 have := List.all_eq_true.1 h x hx
 simp at this ⊢
 intro e
 exact this e.symm
def frS (ns : List (List UInt8)) (k : List UInt8) (i : Nat) : St := ⟨ofL [(0, .p (.str k)), (1, .p (.slice (ns.map encS))), (5, .p (.int .i64 (i : Int)))], ofH [], 0⟩
set_option maxRecDepth 100000 in
theorem ref07_fresh (ns : List (List UInt8)) (k : List UInt8) (hn : ns.length ≤ 2000000) (hl : k.length ≤ 1000000000) : PFn Tryd.prog 59 [.str k, .slice (ns.map encS)] (.bool (takesB ns k)) := by
 refine PFn.of Tryd.func59 rfl (by decide) Tryd.ntmps59 Tryd.results59 (Nat.le_of_ble_eq_true rfl) ?_
 simp only [argsT]
 refine AW.rT (by rfl) fun K hK => ?_
 simp -implicitDefEqProofs only [go_sem]
 refine hK _ ?_; clear hK K
 refine AW.seq ?_
 refine AW.rT (by rfl) fun K hK => ?_
 simp -implicitDefEqProofs only [go_sem, Nat.reduceAdd]
 refine hK _ ?_; clear hK K
 refine AW.block ?_
 refine AW.loop (frS ns k) (fun i => i ≤ ns.length ∧ (ns.take i).all (fun n => !(n == k)) = true) (fun i => ns.length - i) 0 ?_ (by simp) fun i hi => ?_
 ·simp only [frS]
  refine Ghost.sub ?_ ?_ <;> simp -implicitDefEqProofs only [go_sem, ↓reduceIte, Nat.reduceEqDiff, reduceCtorEq, List.forall_mem_cons, List.not_mem_nil, false_implies, implies_true, and_self, AV.labsIn]
  rfl
 obtain ⟨g1, g2⟩ := hi
 simp only [frS]
 refine AW.seq ?_
 by_cases hil : i < ns.length
 case neg =>
  have hc1 : ((i : Int) < (ns.length : Int)) = False := eq_false (by omega)
  rw [List.take_of_length_le (by omega)] at g2
  have e : takesB ns k = nameB k := by unfold takesB; rw [frS_eq g2]; simp
  refine AW.rT (by rfl) fun K hK => ?_
  simp -implicitDefEqProofs only [go_sem, ↓reduceIte, Nat.reduceAdd, Nat.reduceEqDiff, reduceCtorEq, hc1, List.length_map]
  refine hK _ ?_; clear hK K
  refine AW.cond _ (by simp -implicitDefEqProofs only [go_sem]; rfl) (fun hc => ?_) (fun hc => ?_)
  ·simp at hc
  refine AW.exit ?_
  simp only [andThen, inBlk, ↓reduceIte]
  refine AW.rT (by rfl) fun K hK => ?_
  simp -implicitDefEqProofs only [go_sem, ↓reduceIte, Nat.reduceAdd, reduceCtorEq]
  refine ⟨.pure _, ref01_Name k hl, ?_⟩
  try simp -implicitDefEqProofs only [go_sem, Nat.reduceAdd]
  refine hK _ ?_; clear hK K
  refine AW.ret ?_
  simp -implicitDefEqProofs only [go_sem, e]
 obtain ⟨e, he⟩ : ∃ e, ns[i]? = some e := ⟨_, List.getElem?_eq_getElem hil⟩
 have ⟨he1, he2, he3⟩ := at_map' encS he
 have he3' : (ns.map encS).getD i [] = [.str e] := he3
 have hc1 : ((i : Int) < (ns.length : Int)) = True := eq_true (by omega)
 refine AW.rT (by rfl) fun K hK => ?_
 simp -implicitDefEqProofs only [go_sem, ↓reduceIte, Nat.reduceAdd, Nat.reduceEqDiff, reduceCtorEq, hc1, List.length_map]
 refine hK _ ?_; clear hK K
 refine AW.cond _ (by simp -implicitDefEqProofs only [go_sem]; rfl) (fun hc => ?_) (fun hc => ?_)
 rotate_left
 ·simp at hc
 refine AW.skip ?_
 simp only [andThen]
 refine AW.seq ?_
 refine AW.block ?_
 cases hk : (e == k) with
 | true =>
  have hck : ns.contains k = true := by
   have : e = k := by simpa using hk
   subst this
   rw [List.contains_iff_mem]
   exact List.mem_of_getElem? he
  have ek : takesB ns k = false := by unfold takesB; rw [hck]; simp
  refine AW.rT (by rfl) fun K hK => ?_
  simp -implicitDefEqProofs only [go_sem, ↓reduceIte, Nat.reduceAdd, Nat.reduceEqDiff, reduceCtorEq, he1, he3', hc1, List.length_map, hk]
  refine hK _ ?_; clear hK K
  refine AW.cond _ (by simp -implicitDefEqProofs only [go_sem]; rfl) (fun hc => ?_) (fun hc => ?_)
  rotate_left
  ·simp at hc
  refine AW.rT (by rfl) fun K hK => ?_
  simp -implicitDefEqProofs only [go_sem, Nat.reduceAdd]
  refine hK _ ?_; clear hK K
  refine AW.ret ?_
  simp -implicitDefEqProofs only [go_sem, ek]
 | false =>
  refine AW.rT (by rfl) fun K hK => ?_
  simp -implicitDefEqProofs only [go_sem, ↓reduceIte, Nat.reduceAdd, Nat.reduceEqDiff, reduceCtorEq, he1, he3', hc1, List.length_map, hk]
  refine hK _ ?_; clear hK K
  refine AW.cond _ (by simp -implicitDefEqProofs only [go_sem]; rfl) (fun hc => ?_) (fun hc => ?_)
  ·simp at hc
  refine AW.skip ?_
  simp only [andThen, inBlk]
  have w1 : IntKind.wrap .i64 ((i : Int) + 1) = ((i + 1 : Nat) : Int) := by rw [w64] <;> omega
  refine AW.rE (by rfl) fun K hK => ?_
  simp -implicitDefEqProofs only [go_sem, ↓reduceIte, Nat.reduceAdd, Nat.reduceEqDiff, reduceCtorEq, w1]
  refine hK _ ?_; clear hK K
  refine ⟨i + 1, ⟨by omega, all_next he g2 (by rw [hk]; rfl)⟩, by omega, ?_⟩
  refine Ghost.sub ?_ ?_ <;> simp -implicitDefEqProofs only [go_sem, ↓reduceIte, Nat.reduceEqDiff, reduceCtorEq, List.forall_mem_cons, List.not_mem_nil, false_implies, implies_true, and_self, AV.labsIn]
end Go.Aw
namespace Go.Aw
open Go.Proofs Go.RowKit
set_option linter.unusedSimpArgs false
set_option linter.unusedVariables false
theorem res_no {l : List Int} {k : Int} (h : l.all (fun n => !(n == k)) = true) : l.contains k = false := by
 rw [contains_any, List.any_eq_false]
 intro x hx
 have := List.all_eq_true.1 h x hx
 simp at this ⊢
 intro e
 exact this e.symm
def st40 (m : Ms) (k : Int) (i : Nat) : St := ⟨ofL [(1, .p (.int .i64 k)), (2, .ptr 0 0 0), (5, .p (.int .i64 (i : Int)))], ofH [(0, .row 3 [cellsMs m])], 1⟩
set_option maxRecDepth 100000 in
theorem ref07_Reserved (m : Ms) (k : Int) (hl : m.res.length ≤ 1000000) : PFn Tryd.prog 120 [.agg (encMs m), .int .i64 k] (.bool (m.res.contains k)) := by
 refine PFn.of Tryd.func120 rfl (by decide) Tryd.ntmps120 Tryd.results120 (Nat.le_of_ble_eq_true rfl) ?_
 simp only [argsT, encMs]
 refine AW.rT (by rfl) fun K hK => ?_
 simp -implicitDefEqProofs only [go_sem, Nat.reduceAdd]
 refine hK _ ?_; clear hK K
 refine AW.seq ?_
 refine AW.rT (by rfl) fun K hK => ?_
 simp -implicitDefEqProofs only [go_sem, Nat.reduceAdd]
 refine hK _ ?_; clear hK K
 refine AW.block ?_
 refine AW.loop (st40 m k) (fun i => i ≤ m.res.length ∧ (m.res.take i).all (fun n => !(n == k)) = true) (fun i => m.res.length - i) 0 ?_ (by simp) fun i hi => ?_
 ·simp only [st40, cellsMs]
  refine Ghost.sub ?_ ?_ <;> simp -implicitDefEqProofs only [go_sem, ↓reduceIte, Nat.reduceEqDiff, List.forall_mem_cons, List.not_mem_nil, false_implies, implies_true, and_self, List.all_cons, List.all_nil, Nat.reduceLT, labsInL, AV.labsIn]
  rfl
 obtain ⟨g1, g2⟩ := hi
 simp only [st40, cellsMs]
 refine AW.seq ?_
 by_cases hil : i < m.res.length
 case neg =>
  have hc1 : ((i : Int) < (m.res.length : Int)) = False := eq_false (by omega)
  rw [List.take_of_length_le (by omega)] at g2
  have e := res_no g2
  refine AW.rT (by rfl) fun K hK => ?_
  simp -implicitDefEqProofs only [go_sem, ↓reduceIte, Nat.reduceAdd, Nat.reduceEqDiff, hc1, List.length_map]
  refine hK _ ?_; clear hK K
  refine AW.cond _ (by simp -implicitDefEqProofs only [go_sem]; rfl) (fun hc => ?_) (fun hc => ?_)
  ·simp at hc
  refine AW.exit ?_
  simp only [andThen, inBlk, ↓reduceIte]
  refine AW.rT (by rfl) fun K hK => ?_
  simp -implicitDefEqProofs only [go_sem, Nat.reduceAdd]
  refine hK _ ?_; clear hK K
  refine AW.ret ?_
  simp -implicitDefEqProofs only [go_sem, e]
 obtain ⟨e, he⟩ : ∃ e, m.res[i]? = some e := ⟨_, List.getElem?_eq_getElem hil⟩
 have ⟨he1, he2, he3⟩ := at_map' encI he
 have he3' : (m.res.map encI).getD i [] = [.int .i64 e] := he3
 have hc1 : ((i : Int) < (m.res.length : Int)) = True := eq_true (by omega)
 refine AW.rT (by rfl) fun K hK => ?_
 simp -implicitDefEqProofs only [go_sem, ↓reduceIte, Nat.reduceAdd, Nat.reduceEqDiff, hc1, List.length_map]
 refine hK _ ?_; clear hK K
 refine AW.cond _ (by simp -implicitDefEqProofs only [go_sem]; rfl) (fun hc => ?_) (fun hc => ?_)
 rotate_left
 ·simp at hc
 refine AW.skip ?_
 simp only [andThen]
 refine AW.seq ?_
 refine AW.block ?_
 cases hk : (e == k) with
 | true =>
  have ek : m.res.contains k = true := by
   have : e = k := by simpa using hk
   subst this
   rw [List.contains_iff_mem]
   exact List.mem_of_getElem? he
  refine AW.rT (by rfl) fun K hK => ?_
  simp -implicitDefEqProofs only [go_sem, ↓reduceIte, Nat.reduceAdd, Nat.reduceEqDiff, he1, he3', hc1, List.length_map, hk]
  refine hK _ ?_; clear hK K
  refine AW.cond _ (by simp -implicitDefEqProofs only [go_sem]; rfl) (fun hc => ?_) (fun hc => ?_)
  rotate_left
  ·simp at hc
  refine AW.rT (by rfl) fun K hK => ?_
  simp -implicitDefEqProofs only [go_sem, Nat.reduceAdd]
  refine hK _ ?_; clear hK K
  refine AW.ret ?_
  simp -implicitDefEqProofs only [go_sem, ek]
 | false =>
  refine AW.rT (by rfl) fun K hK => ?_
  simp -implicitDefEqProofs only [go_sem, ↓reduceIte, Nat.reduceAdd, Nat.reduceEqDiff, he1, he3', hc1, List.length_map, hk]
  refine hK _ ?_; clear hK K
  refine AW.cond _ (by simp -implicitDefEqProofs only [go_sem]; rfl) (fun hc => ?_) (fun hc => ?_)
  ·simp at hc
  refine AW.skip ?_
  simp only [andThen, inBlk]
  have w1 : IntKind.wrap .i64 ((i : Int) + 1) = ((i + 1 : Nat) : Int) := by rw [w64] <;> omega
  refine AW.rE (by rfl) fun K hK => ?_
  simp -implicitDefEqProofs only [go_sem, ↓reduceIte, Nat.reduceAdd, Nat.reduceEqDiff, w1]
  refine hK _ ?_; clear hK K
  refine ⟨i + 1, ⟨by omega, all_next he g2 (by rw [hk]; rfl)⟩, by omega, ?_⟩
  refine Ghost.sub ?_ ?_ <;> simp -implicitDefEqProofs only [go_sem, ↓reduceIte, Nat.reduceEqDiff, List.forall_mem_cons, List.not_mem_nil, false_implies, implies_true, and_self, List.all_cons, List.all_nil, Nat.reduceLT, labsInL, AV.labsIn]
theorem rep_ty {w : World} {I : Nat → Prop} {u : Value} {r : Ty} (h : rep w I u (.agg (encTy r))) : u = .agg #[.int .i64 r.kind, .string ⟨⟨r.name⟩⟩] := by
 cases h with
 | agg hs hr =>
 rename_i vs
 have hsz : vs.size = 2 := by rw [hs]; rfl
 have h0 := hr 0 _ _ (Array.getElem?_eq_getElem (by omega)) rfl
 have h1 := hr 1 _ _ (Array.getElem?_eq_getElem (by omega)) rfl
 generalize e0 : vs[0] = v0 at h0
 generalize e1 : vs[1] = v1 at h1
 cases h0; cases h1
 congr 1
 apply Array.ext
 ·rw [hsz]; rfl
 ·intro i hi hi'
  have : i < 2 := by simpa using hi'
  match i, this with
  | 0, _ => exact e0
  | 1, _ => exact e1
theorem eq46 (x y : Ty) (w : World) : (Op.equalIn 10000 45 (.agg #[.int .i64 x.kind, .string ⟨⟨x.name⟩⟩]) (.agg #[.int .i64 y.kind, .string ⟨⟨y.name⟩⟩])).run Tryd.prog w = .ok (decide (x = y)) w := by
 have u3 := Tryd.underlying3
 have u9 := Tryd.underlying9
 have a3 := Tryd.isAgg3
 have a9 := Tryd.isAgg9
 have z3 := Tryd.sizeOf3
 have z9 := Tryd.sizeOf9
 have hS : Tryd.prog.underlying 45 = some (.struct (Tryd.prog.fieldsOf 45)) := by kernel_rfl
 have hp : Tryd.prog.stoodInHeld 45 = false := by kernel_rfl
 rw [show (10000 : Nat) = 9999 + 1 from rfl, run_equalIn_agg w 9999 45 _ _ hS hp]
 simp only [Program.fieldsOf, Tryd.underlying45]
 go_simp
 obtain ⟨a0, a1⟩ := x
 obtain ⟨b0, b1⟩ := y
 simp only [Ty.mk.injEq]
 by_cases h0 : a0 = b0 <;> by_cases h1 : a1 = b1 <;> simp [h0, h1]
theorem eqP_ty (x y : Ty) : EqP Tryd.prog 45 (.agg (encTy x)) (.agg (encTy y)) (decide (x = y)) := by
 intro w I u v hu hv
 rw [rep_ty hu, rep_ty hv]
 refine ⟨?_, ?_, fun op a b => run_eqGuard_agg _ op 45 a b _ _ (by kernel_rfl)⟩
 ·rw [run_eql_struct, eq46]; rfl
 ·rw [run_neq_struct, eq46]; rfl
def labelB (n : Int) : Bool := decide (1 ≤ n ∧ n ≤ 3)
def kindB (S : Sc) (y : Ty) : Bool := if y.kind = 6 then (firstP (fun x => x.name == y.name) zEn S.enums).2 else if y.kind = 7 then (firstP (fun x => x.name == y.name) zMs S.msgs).2 else decide (1 ≤ y.kind ∧ y.kind ≤ 5) && (y.name == [])
def fieldB (S : Sc) (f : Fd) : Bool := labelB f.label && kindB S f.ty
theorem kind_cases (k : Int) : k < 1 ∨ k = 1 ∨ k = 2 ∨ k = 3 ∨ k = 4 ∨ k = 5 ∨ k = 6 ∨ k = 7 ∨ 7 < k := by omega
theorem label_cases (k : Int) : k < 1 ∨ (1 ≤ k ∧ k ≤ 3) ∨ 3 < k := by omega
def kdS (S : Sc) (y : Ty) (b : Bool) : St := ⟨ofL [(2, .ptr 0 0 0), (3, .ptr 1 0 0), (10, .p (.int .i64 y.kind)), (11, .p (.bool b))], ofH [(0, .row 4 [cellsSc S]), (1, .row 2 [[.p (.int .i64 y.kind), .p (.str y.name)]])], 2⟩
set_option maxRecDepth 100000 in
theorem ref07_kind (S : Sc) (y : Ty) (h1 : S.msgs.length ≤ 1000000) (h2 : S.enums.length ≤ 1000000) : PFn Tryd.prog 121 [.agg (encSc S), .agg (encTy y)] (.bool (kindB S y)) := by
 refine PFn.of Tryd.func121 rfl (by decide) Tryd.ntmps121 Tryd.results121 (Nat.le_of_ble_eq_true rfl) ?_
 simp only [argsT, encSc, encTy]
 refine AW.rT (by rfl) fun K hK => ?_
 simp -implicitDefEqProofs only [go_sem, ↓reduceIte, Nat.reduceAdd, Nat.reduceEqDiff]
 refine hK _ ?_; clear hK K
 refine AW.seq ?_
 refine AW.rT (by rfl) fun K hK => ?_
 simp -implicitDefEqProofs only [go_sem, ↓reduceIte, Nat.reduceAdd, Nat.reduceEqDiff]
 refine hK _ ?_; clear hK K
 refine AW.block ?_
 refine AW.cut (fun _ : Unit => kdS S y (decide (1 ≤ y.kind ∧ y.kind ≤ 5))) (fun _ => True) ?_ fun _ _ => ?_
 ·rcases kind_cases y.kind with hk | hk | hk | hk | hk | hk | hk | hk | hk
  ·skip
   have k1 : (y.kind == 1) = false := by simp; omega
   have k2 : (y.kind == 2) = false := by simp; omega
   have k3 : (y.kind == 3) = false := by simp; omega
   have k4 : (y.kind == 4) = false := by simp; omega
   have k5 : (y.kind == 5) = false := by simp; omega
   have e : decide (1 ≤ y.kind ∧ y.kind ≤ 5) = false := decide_eq_false (by omega)
   refine AW.rT (by rfl) fun K hK => ?_
   simp -implicitDefEqProofs only [go_sem, ↓reduceIte, Nat.reduceAdd, k1]
   refine hK _ ?_; clear hK K
   refine AW.cond _ (by simp -implicitDefEqProofs only [go_sem]; rfl) (fun hc => ?_) (fun hc => ?_)
   ·simp at hc
   refine AW.rT (by rfl) fun K hK => ?_
   simp -implicitDefEqProofs only [go_sem, ↓reduceIte, Nat.reduceAdd, Nat.reduceEqDiff, k2]
   refine hK _ ?_; clear hK K
   refine AW.cond _ (by simp -implicitDefEqProofs only [go_sem]; rfl) (fun hc => ?_) (fun hc => ?_)
   ·simp at hc
   refine AW.rT (by rfl) fun K hK => ?_
   simp -implicitDefEqProofs only [go_sem, ↓reduceIte, Nat.reduceAdd, Nat.reduceEqDiff, k3]
   refine hK _ ?_; clear hK K
   refine AW.cond _ (by simp -implicitDefEqProofs only [go_sem]; rfl) (fun hc => ?_) (fun hc => ?_)
   ·simp at hc
   refine AW.rT (by rfl) fun K hK => ?_
   simp -implicitDefEqProofs only [go_sem, ↓reduceIte, Nat.reduceAdd, Nat.reduceEqDiff, k4]
   refine hK _ ?_; clear hK K
   refine AW.cond _ (by simp -implicitDefEqProofs only [go_sem]; rfl) (fun hc => ?_) (fun hc => ?_)
   ·simp at hc
   refine AW.rE (by rfl) fun K hK => ?_
   simp -implicitDefEqProofs only [go_sem, ↓reduceIte, Nat.reduceAdd, Nat.reduceEqDiff, k5]
   refine hK _ ?_; clear hK K
   simp only [andThen]
   refine ⟨(), trivial, ?_⟩
   simp only [kdS, cellsSc]
   refine Ghost.sub ?_ ?_ <;> simp -implicitDefEqProofs only [go_sem, ↓reduceIte, Nat.reduceEqDiff, reduceCtorEq, e, List.forall_mem_cons, List.not_mem_nil, false_implies, implies_true, and_self, List.all_cons, List.all_nil, Nat.reduceLT, labsInL, AV.labsIn]
  ·skip
   have k1 : (y.kind == 1) = true := by simp; omega
   have k2 : (y.kind == 2) = false := by simp; omega
   have k3 : (y.kind == 3) = false := by simp; omega
   have k4 : (y.kind == 4) = false := by simp; omega
   have k5 : (y.kind == 5) = false := by simp; omega
   have e : decide (1 ≤ y.kind ∧ y.kind ≤ 5) = true := decide_eq_true (by omega)
   refine AW.rT (by rfl) fun K hK => ?_
   simp -implicitDefEqProofs only [go_sem, ↓reduceIte, Nat.reduceAdd, k1]
   refine hK _ ?_; clear hK K
   refine AW.cond _ (by simp -implicitDefEqProofs only [go_sem]; rfl) (fun hc => ?_) (fun hc => ?_)
   rotate_left
   ·simp at hc
   refine AW.skip ?_
   simp only [andThen]
   refine ⟨(), trivial, ?_⟩
   simp only [kdS, cellsSc]
   refine Ghost.sub ?_ ?_ <;> simp -implicitDefEqProofs only [go_sem, ↓reduceIte, Nat.reduceEqDiff, reduceCtorEq, e, List.forall_mem_cons, List.not_mem_nil, false_implies, implies_true, and_self, List.all_cons, List.all_nil, Nat.reduceLT, labsInL, AV.labsIn]
  ·skip
   have k1 : (y.kind == 1) = false := by simp; omega
   have k2 : (y.kind == 2) = true := by simp; omega
   have k3 : (y.kind == 3) = false := by simp; omega
   have k4 : (y.kind == 4) = false := by simp; omega
   have k5 : (y.kind == 5) = false := by simp; omega
   have e : decide (1 ≤ y.kind ∧ y.kind ≤ 5) = true := decide_eq_true (by omega)
   refine AW.rT (by rfl) fun K hK => ?_
   simp -implicitDefEqProofs only [go_sem, ↓reduceIte, Nat.reduceAdd, k1]
   refine hK _ ?_; clear hK K
   refine AW.cond _ (by simp -implicitDefEqProofs only [go_sem]; rfl) (fun hc => ?_) (fun hc => ?_)
   ·simp at hc
   refine AW.rT (by rfl) fun K hK => ?_
   simp -implicitDefEqProofs only [go_sem, ↓reduceIte, Nat.reduceAdd, Nat.reduceEqDiff, k2]
   refine hK _ ?_; clear hK K
   refine AW.cond _ (by simp -implicitDefEqProofs only [go_sem]; rfl) (fun hc => ?_) (fun hc => ?_)
   rotate_left
   ·simp at hc
   refine AW.skip ?_
   simp only [andThen]
   refine ⟨(), trivial, ?_⟩
   simp only [kdS, cellsSc]
   refine Ghost.sub ?_ ?_ <;> simp -implicitDefEqProofs only [go_sem, ↓reduceIte, Nat.reduceEqDiff, reduceCtorEq, e, List.forall_mem_cons, List.not_mem_nil, false_implies, implies_true, and_self, List.all_cons, List.all_nil, Nat.reduceLT, labsInL, AV.labsIn]
  ·skip
   have k1 : (y.kind == 1) = false := by simp; omega
   have k2 : (y.kind == 2) = false := by simp; omega
   have k3 : (y.kind == 3) = true := by simp; omega
   have k4 : (y.kind == 4) = false := by simp; omega
   have k5 : (y.kind == 5) = false := by simp; omega
   have e : decide (1 ≤ y.kind ∧ y.kind ≤ 5) = true := decide_eq_true (by omega)
   refine AW.rT (by rfl) fun K hK => ?_
   simp -implicitDefEqProofs only [go_sem, ↓reduceIte, Nat.reduceAdd, k1]
   refine hK _ ?_; clear hK K
   refine AW.cond _ (by simp -implicitDefEqProofs only [go_sem]; rfl) (fun hc => ?_) (fun hc => ?_)
   ·simp at hc
   refine AW.rT (by rfl) fun K hK => ?_
   simp -implicitDefEqProofs only [go_sem, ↓reduceIte, Nat.reduceAdd, Nat.reduceEqDiff, k2]
   refine hK _ ?_; clear hK K
   refine AW.cond _ (by simp -implicitDefEqProofs only [go_sem]; rfl) (fun hc => ?_) (fun hc => ?_)
   ·simp at hc
   refine AW.rT (by rfl) fun K hK => ?_
   simp -implicitDefEqProofs only [go_sem, ↓reduceIte, Nat.reduceAdd, Nat.reduceEqDiff, k3]
   refine hK _ ?_; clear hK K
   refine AW.cond _ (by simp -implicitDefEqProofs only [go_sem]; rfl) (fun hc => ?_) (fun hc => ?_)
   rotate_left
   ·simp at hc
   refine AW.skip ?_
   simp only [andThen]
   refine ⟨(), trivial, ?_⟩
   simp only [kdS, cellsSc]
   refine Ghost.sub ?_ ?_ <;> simp -implicitDefEqProofs only [go_sem, ↓reduceIte, Nat.reduceEqDiff, reduceCtorEq, e, List.forall_mem_cons, List.not_mem_nil, false_implies, implies_true, and_self, List.all_cons, List.all_nil, Nat.reduceLT, labsInL, AV.labsIn]
  ·skip
   have k1 : (y.kind == 1) = false := by simp; omega
   have k2 : (y.kind == 2) = false := by simp; omega
   have k3 : (y.kind == 3) = false := by simp; omega
   have k4 : (y.kind == 4) = true := by simp; omega
   have k5 : (y.kind == 5) = false := by simp; omega
   have e : decide (1 ≤ y.kind ∧ y.kind ≤ 5) = true := decide_eq_true (by omega)
   refine AW.rT (by rfl) fun K hK => ?_
   simp -implicitDefEqProofs only [go_sem, ↓reduceIte, Nat.reduceAdd, k1]
   refine hK _ ?_; clear hK K
   refine AW.cond _ (by simp -implicitDefEqProofs only [go_sem]; rfl) (fun hc => ?_) (fun hc => ?_)
   ·simp at hc
   refine AW.rT (by rfl) fun K hK => ?_
   simp -implicitDefEqProofs only [go_sem, ↓reduceIte, Nat.reduceAdd, Nat.reduceEqDiff, k2]
   refine hK _ ?_; clear hK K
   refine AW.cond _ (by simp -implicitDefEqProofs only [go_sem]; rfl) (fun hc => ?_) (fun hc => ?_)
   ·simp at hc
   refine AW.rT (by rfl) fun K hK => ?_
   simp -implicitDefEqProofs only [go_sem, ↓reduceIte, Nat.reduceAdd, Nat.reduceEqDiff, k3]
   refine hK _ ?_; clear hK K
   refine AW.cond _ (by simp -implicitDefEqProofs only [go_sem]; rfl) (fun hc => ?_) (fun hc => ?_)
   ·simp at hc
   refine AW.rT (by rfl) fun K hK => ?_
   simp -implicitDefEqProofs only [go_sem, ↓reduceIte, Nat.reduceAdd, Nat.reduceEqDiff, k4]
   refine hK _ ?_; clear hK K
   refine AW.cond _ (by simp -implicitDefEqProofs only [go_sem]; rfl) (fun hc => ?_) (fun hc => ?_)
   rotate_left
   ·simp at hc
   refine AW.skip ?_
   simp only [andThen]
   refine ⟨(), trivial, ?_⟩
   simp only [kdS, cellsSc]
   refine Ghost.sub ?_ ?_ <;> simp -implicitDefEqProofs only [go_sem, ↓reduceIte, Nat.reduceEqDiff, reduceCtorEq, e, List.forall_mem_cons, List.not_mem_nil, false_implies, implies_true, and_self, List.all_cons, List.all_nil, Nat.reduceLT, labsInL, AV.labsIn]
  ·skip
   have k1 : (y.kind == 1) = false := by simp; omega
   have k2 : (y.kind == 2) = false := by simp; omega
   have k3 : (y.kind == 3) = false := by simp; omega
   have k4 : (y.kind == 4) = false := by simp; omega
   have k5 : (y.kind == 5) = true := by simp; omega
   have e : decide (1 ≤ y.kind ∧ y.kind ≤ 5) = true := decide_eq_true (by omega)
   refine AW.rT (by rfl) fun K hK => ?_
   simp -implicitDefEqProofs only [go_sem, ↓reduceIte, Nat.reduceAdd, k1]
   refine hK _ ?_; clear hK K
   refine AW.cond _ (by simp -implicitDefEqProofs only [go_sem]; rfl) (fun hc => ?_) (fun hc => ?_)
   ·simp at hc
   refine AW.rT (by rfl) fun K hK => ?_
   simp -implicitDefEqProofs only [go_sem, ↓reduceIte, Nat.reduceAdd, Nat.reduceEqDiff, k2]
   refine hK _ ?_; clear hK K
   refine AW.cond _ (by simp -implicitDefEqProofs only [go_sem]; rfl) (fun hc => ?_) (fun hc => ?_)
   ·simp at hc
   refine AW.rT (by rfl) fun K hK => ?_
   simp -implicitDefEqProofs only [go_sem, ↓reduceIte, Nat.reduceAdd, Nat.reduceEqDiff, k3]
   refine hK _ ?_; clear hK K
   refine AW.cond _ (by simp -implicitDefEqProofs only [go_sem]; rfl) (fun hc => ?_) (fun hc => ?_)
   ·simp at hc
   refine AW.rT (by rfl) fun K hK => ?_
   simp -implicitDefEqProofs only [go_sem, ↓reduceIte, Nat.reduceAdd, Nat.reduceEqDiff, k4]
   refine hK _ ?_; clear hK K
   refine AW.cond _ (by simp -implicitDefEqProofs only [go_sem]; rfl) (fun hc => ?_) (fun hc => ?_)
   ·simp at hc
   refine AW.rE (by rfl) fun K hK => ?_
   simp -implicitDefEqProofs only [go_sem, ↓reduceIte, Nat.reduceAdd, Nat.reduceEqDiff, k5]
   refine hK _ ?_; clear hK K
   simp only [andThen]
   refine ⟨(), trivial, ?_⟩
   simp only [kdS, cellsSc]
   refine Ghost.sub ?_ ?_ <;> simp -implicitDefEqProofs only [go_sem, ↓reduceIte, Nat.reduceEqDiff, reduceCtorEq, e, List.forall_mem_cons, List.not_mem_nil, false_implies, implies_true, and_self, List.all_cons, List.all_nil, Nat.reduceLT, labsInL, AV.labsIn]
  ·skip
   have k1 : (y.kind == 1) = false := by simp; omega
   have k2 : (y.kind == 2) = false := by simp; omega
   have k3 : (y.kind == 3) = false := by simp; omega
   have k4 : (y.kind == 4) = false := by simp; omega
   have k5 : (y.kind == 5) = false := by simp; omega
   have e : decide (1 ≤ y.kind ∧ y.kind ≤ 5) = false := decide_eq_false (by omega)
   refine AW.rT (by rfl) fun K hK => ?_
   simp -implicitDefEqProofs only [go_sem, ↓reduceIte, Nat.reduceAdd, k1]
   refine hK _ ?_; clear hK K
   refine AW.cond _ (by simp -implicitDefEqProofs only [go_sem]; rfl) (fun hc => ?_) (fun hc => ?_)
   ·simp at hc
   refine AW.rT (by rfl) fun K hK => ?_
   simp -implicitDefEqProofs only [go_sem, ↓reduceIte, Nat.reduceAdd, Nat.reduceEqDiff, k2]
   refine hK _ ?_; clear hK K
   refine AW.cond _ (by simp -implicitDefEqProofs only [go_sem]; rfl) (fun hc => ?_) (fun hc => ?_)
   ·simp at hc
   refine AW.rT (by rfl) fun K hK => ?_
   simp -implicitDefEqProofs only [go_sem, ↓reduceIte, Nat.reduceAdd, Nat.reduceEqDiff, k3]
   refine hK _ ?_; clear hK K
   refine AW.cond _ (by simp -implicitDefEqProofs only [go_sem]; rfl) (fun hc => ?_) (fun hc => ?_)
   ·simp at hc
   refine AW.rT (by rfl) fun K hK => ?_
   simp -implicitDefEqProofs only [go_sem, ↓reduceIte, Nat.reduceAdd, Nat.reduceEqDiff, k4]
   refine hK _ ?_; clear hK K
   refine AW.cond _ (by simp -implicitDefEqProofs only [go_sem]; rfl) (fun hc => ?_) (fun hc => ?_)
   ·simp at hc
   refine AW.rE (by rfl) fun K hK => ?_
   simp -implicitDefEqProofs only [go_sem, ↓reduceIte, Nat.reduceAdd, Nat.reduceEqDiff, k5]
   refine hK _ ?_; clear hK K
   simp only [andThen]
   refine ⟨(), trivial, ?_⟩
   simp only [kdS, cellsSc]
   refine Ghost.sub ?_ ?_ <;> simp -implicitDefEqProofs only [go_sem, ↓reduceIte, Nat.reduceEqDiff, reduceCtorEq, e, List.forall_mem_cons, List.not_mem_nil, false_implies, implies_true, and_self, List.all_cons, List.all_nil, Nat.reduceLT, labsInL, AV.labsIn]
  ·skip
   have k1 : (y.kind == 1) = false := by simp; omega
   have k2 : (y.kind == 2) = false := by simp; omega
   have k3 : (y.kind == 3) = false := by simp; omega
   have k4 : (y.kind == 4) = false := by simp; omega
   have k5 : (y.kind == 5) = false := by simp; omega
   have e : decide (1 ≤ y.kind ∧ y.kind ≤ 5) = false := decide_eq_false (by omega)
   refine AW.rT (by rfl) fun K hK => ?_
   simp -implicitDefEqProofs only [go_sem, ↓reduceIte, Nat.reduceAdd, k1]
   refine hK _ ?_; clear hK K
   refine AW.cond _ (by simp -implicitDefEqProofs only [go_sem]; rfl) (fun hc => ?_) (fun hc => ?_)
   ·simp at hc
   refine AW.rT (by rfl) fun K hK => ?_
   simp -implicitDefEqProofs only [go_sem, ↓reduceIte, Nat.reduceAdd, Nat.reduceEqDiff, k2]
   refine hK _ ?_; clear hK K
   refine AW.cond _ (by simp -implicitDefEqProofs only [go_sem]; rfl) (fun hc => ?_) (fun hc => ?_)
   ·simp at hc
   refine AW.rT (by rfl) fun K hK => ?_
   simp -implicitDefEqProofs only [go_sem, ↓reduceIte, Nat.reduceAdd, Nat.reduceEqDiff, k3]
   refine hK _ ?_; clear hK K
   refine AW.cond _ (by simp -implicitDefEqProofs only [go_sem]; rfl) (fun hc => ?_) (fun hc => ?_)
   ·simp at hc
   refine AW.rT (by rfl) fun K hK => ?_
   simp -implicitDefEqProofs only [go_sem, ↓reduceIte, Nat.reduceAdd, Nat.reduceEqDiff, k4]
   refine hK _ ?_; clear hK K
   refine AW.cond _ (by simp -implicitDefEqProofs only [go_sem]; rfl) (fun hc => ?_) (fun hc => ?_)
   ·simp at hc
   refine AW.rE (by rfl) fun K hK => ?_
   simp -implicitDefEqProofs only [go_sem, ↓reduceIte, Nat.reduceAdd, Nat.reduceEqDiff, k5]
   refine hK _ ?_; clear hK K
   simp only [andThen]
   refine ⟨(), trivial, ?_⟩
   simp only [kdS, cellsSc]
   refine Ghost.sub ?_ ?_ <;> simp -implicitDefEqProofs only [go_sem, ↓reduceIte, Nat.reduceEqDiff, reduceCtorEq, e, List.forall_mem_cons, List.not_mem_nil, false_implies, implies_true, and_self, List.all_cons, List.all_nil, Nat.reduceLT, labsInL, AV.labsIn]
  ·skip
   have k1 : (y.kind == 1) = false := by simp; omega
   have k2 : (y.kind == 2) = false := by simp; omega
   have k3 : (y.kind == 3) = false := by simp; omega
   have k4 : (y.kind == 4) = false := by simp; omega
   have k5 : (y.kind == 5) = false := by simp; omega
   have e : decide (1 ≤ y.kind ∧ y.kind ≤ 5) = false := decide_eq_false (by omega)
   refine AW.rT (by rfl) fun K hK => ?_
   simp -implicitDefEqProofs only [go_sem, ↓reduceIte, Nat.reduceAdd, k1]
   refine hK _ ?_; clear hK K
   refine AW.cond _ (by simp -implicitDefEqProofs only [go_sem]; rfl) (fun hc => ?_) (fun hc => ?_)
   ·simp at hc
   refine AW.rT (by rfl) fun K hK => ?_
   simp -implicitDefEqProofs only [go_sem, ↓reduceIte, Nat.reduceAdd, Nat.reduceEqDiff, k2]
   refine hK _ ?_; clear hK K
   refine AW.cond _ (by simp -implicitDefEqProofs only [go_sem]; rfl) (fun hc => ?_) (fun hc => ?_)
   ·simp at hc
   refine AW.rT (by rfl) fun K hK => ?_
   simp -implicitDefEqProofs only [go_sem, ↓reduceIte, Nat.reduceAdd, Nat.reduceEqDiff, k3]
   refine hK _ ?_; clear hK K
   refine AW.cond _ (by simp -implicitDefEqProofs only [go_sem]; rfl) (fun hc => ?_) (fun hc => ?_)
   ·simp at hc
   refine AW.rT (by rfl) fun K hK => ?_
   simp -implicitDefEqProofs only [go_sem, ↓reduceIte, Nat.reduceAdd, Nat.reduceEqDiff, k4]
   refine hK _ ?_; clear hK K
   refine AW.cond _ (by simp -implicitDefEqProofs only [go_sem]; rfl) (fun hc => ?_) (fun hc => ?_)
   ·simp at hc
   refine AW.rE (by rfl) fun K hK => ?_
   simp -implicitDefEqProofs only [go_sem, ↓reduceIte, Nat.reduceAdd, Nat.reduceEqDiff, k5]
   refine hK _ ?_; clear hK K
   simp only [andThen]
   refine ⟨(), trivial, ?_⟩
   simp only [kdS, cellsSc]
   refine Ghost.sub ?_ ?_ <;> simp -implicitDefEqProofs only [go_sem, ↓reduceIte, Nat.reduceEqDiff, reduceCtorEq, e, List.forall_mem_cons, List.not_mem_nil, false_implies, implies_true, and_self, List.all_cons, List.all_nil, Nat.reduceLT, labsInL, AV.labsIn]
 simp only [kdS, cellsSc]
 by_cases hin : 1 ≤ y.kind ∧ y.kind ≤ 5
 ·have e : kindB S y = (y.name == []) := by
   unfold kindB
   rw [if_neg (by omega), if_neg (by omega), decide_eq_true hin, Bool.true_and]
  rw [decide_eq_true hin]
  refine AW.cond _ (by simp -implicitDefEqProofs only [go_sem, ↓reduceIte, Nat.reduceEqDiff]; rfl) (fun hc => ?_) (fun hc => ?_)
  rotate_left
  ·simp at hc
  refine AW.rT (by rfl) fun K hK => ?_
  simp -implicitDefEqProofs only [go_sem, ↓reduceIte, Nat.reduceAdd]
  refine hK _ ?_; clear hK K
  refine AW.ret ?_
  simp -implicitDefEqProofs only [go_sem, e]
 rw [decide_eq_false hin]
 refine AW.cond _ (by simp -implicitDefEqProofs only [go_sem, ↓reduceIte, Nat.reduceEqDiff]; rfl) (fun hc => ?_) (fun hc => ?_)
 ·simp at hc
 by_cases h6 : y.kind = 6
 ·have k6 : (y.kind == 6) = true := by simp; omega
  have e : kindB S y = (firstP (fun x => x.name == y.name) zEn S.enums).2 := by unfold kindB; rw [if_pos h6]
  have C := ref07_Enum S y.name h2
  simp only [encSc, encEn] at C
  refine AW.rT (by rfl) fun K hK => ?_
  simp -implicitDefEqProofs only [go_sem, ↓reduceIte, Nat.reduceAdd, Nat.reduceEqDiff, k6]
  refine hK _ ?_; clear hK K
  refine AW.cond _ (by simp -implicitDefEqProofs only [go_sem]; rfl) (fun hc => ?_) (fun hc => ?_)
  rotate_left
  ·simp at hc
  refine AW.rT (by rfl) fun K hK => ?_
  simp -implicitDefEqProofs only [go_sem, ↓reduceIte, Nat.reduceAdd, Nat.reduceEqDiff, Nat.reduceLeDiff]
  refine ⟨.pure _, C, ?_⟩
  try simp -implicitDefEqProofs only [go_sem, ↓reduceIte, Nat.reduceAdd, Nat.reduceEqDiff, Nat.reduceLeDiff]
  refine hK _ ?_; clear hK K
  refine AW.rT (by rfl) fun K hK => ?_
  simp -implicitDefEqProofs only [go_sem, Nat.reduceAdd]
  refine hK _ ?_; clear hK K
  refine AW.ret ?_
  simp -implicitDefEqProofs only [go_sem, e]
 have k6 : (y.kind == 6) = false := by simp; omega
 refine AW.rT (by rfl) fun K hK => ?_
 simp -implicitDefEqProofs only [go_sem, ↓reduceIte, Nat.reduceAdd, Nat.reduceEqDiff, k6]
 refine hK _ ?_; clear hK K
 refine AW.cond _ (by simp -implicitDefEqProofs only [go_sem]; rfl) (fun hc => ?_) (fun hc => ?_)
 ·simp at hc
 by_cases h7 : y.kind = 7
 ·have k7 : (y.kind == 7) = true := by simp; omega
  have e : kindB S y = (firstP (fun x => x.name == y.name) zMs S.msgs).2 := by unfold kindB; rw [if_neg h6, if_pos h7]
  have C := ref07_Message S y.name h1
  simp only [encSc, encMs] at C
  refine AW.rT (by rfl) fun K hK => ?_
  simp -implicitDefEqProofs only [go_sem, ↓reduceIte, Nat.reduceAdd, Nat.reduceEqDiff, k7]
  refine hK _ ?_; clear hK K
  refine AW.cond _ (by simp -implicitDefEqProofs only [go_sem]; rfl) (fun hc => ?_) (fun hc => ?_)
  rotate_left
  ·simp at hc
  refine AW.rT (by rfl) fun K hK => ?_
  simp -implicitDefEqProofs only [go_sem, ↓reduceIte, Nat.reduceAdd, Nat.reduceEqDiff, Nat.reduceLeDiff]
  refine ⟨.pure _, C, ?_⟩
  try simp -implicitDefEqProofs only [go_sem, ↓reduceIte, Nat.reduceAdd, Nat.reduceEqDiff, Nat.reduceLeDiff]
  refine hK _ ?_; clear hK K
  refine AW.rT (by rfl) fun K hK => ?_
  simp -implicitDefEqProofs only [go_sem, Nat.reduceAdd]
  refine hK _ ?_; clear hK K
  refine AW.ret ?_
  simp -implicitDefEqProofs only [go_sem, e]
 have k7 : (y.kind == 7) = false := by simp; omega
 have e : kindB S y = false := by unfold kindB; rw [if_neg h6, if_neg h7, decide_eq_false hin]; rfl
 refine AW.rT (by rfl) fun K hK => ?_
 simp -implicitDefEqProofs only [go_sem, ↓reduceIte, Nat.reduceAdd, Nat.reduceEqDiff, k7]
 refine hK _ ?_; clear hK K
 refine AW.cond _ (by simp -implicitDefEqProofs only [go_sem]; rfl) (fun hc => ?_) (fun hc => ?_)
 ·simp at hc
 refine AW.skip ?_
 simp only [andThen, inBlk]
 refine AW.rT (by rfl) fun K hK => ?_
 simp -implicitDefEqProofs only [go_sem, Nat.reduceAdd]
 refine hK _ ?_; clear hK K
 refine AW.ret ?_
 simp -implicitDefEqProofs only [go_sem, e]
def fiS (S : Sc) (f : Fd) : St := ⟨ofL [(2, .ptr 0 0 0), (3, .ptr 1 0 0), (5, .p (.bool (labelB f.label)))], ofH [(0, .row 4 [cellsSc S]), (1, .row 5 [[.p (.str f.name), .p (.int .i64 f.tag), .p (.int .i64 f.label), .p (.int .i64 f.ty.kind), .p (.str f.ty.name)]])], 2⟩
set_option maxRecDepth 100000 in
theorem check_field (S : Sc) (f : Fd) (h1 : S.msgs.length ≤ 1000000) (h2 : S.enums.length ≤ 1000000) : PFn Tryd.prog 127 [.agg (encSc S), .agg (encFd f)] (.bool (fieldB S f)) := by
 refine PFn.of Tryd.func127 rfl (by decide) Tryd.ntmps127 Tryd.results127 (Nat.le_of_ble_eq_true rfl) ?_
 simp only [argsT, encSc, encFd]
 refine AW.rT (by rfl) fun K hK => ?_
 simp -implicitDefEqProofs only [go_sem, ↓reduceIte, Nat.reduceAdd, Nat.reduceEqDiff]
 refine hK _ ?_; clear hK K
 refine AW.cut (fun _ : Unit => fiS S f) (fun _ => True) ?_ fun _ _ => ?_
 ·rcases label_cases f.label with hl | hl | hl
  ·have f1 : (f.label ≥ 1) = False := eq_false (by omega)
   have e : labelB f.label = false := decide_eq_false (by omega)
   refine AW.rE (by rfl) fun K hK => ?_
   simp -implicitDefEqProofs only [go_sem, ↓reduceIte, Nat.reduceAdd, Nat.reduceEqDiff, f1]
   refine hK _ ?_; clear hK K
   simp only [andThen]
   refine ⟨(), trivial, ?_⟩
   simp only [fiS, cellsSc]
   refine Ghost.sub ?_ ?_ <;> simp -implicitDefEqProofs only [go_sem, ↓reduceIte, Nat.reduceEqDiff, reduceCtorEq, e, List.forall_mem_cons, List.not_mem_nil, false_implies, implies_true, and_self, List.all_cons, List.all_nil, Nat.reduceLT, labsInL, AV.labsIn]
  ·have f1 : (f.label ≥ 1) = True := eq_true (by omega)
   have f2 : (f.label ≤ 3) = True := eq_true (by omega)
   have e : labelB f.label = true := decide_eq_true (by omega)
   refine AW.rE (by rfl) fun K hK => ?_
   simp -implicitDefEqProofs only [go_sem, ↓reduceIte, Nat.reduceAdd, Nat.reduceEqDiff, f1, f2]
   refine hK _ ?_; clear hK K
   simp only [andThen]
   refine ⟨(), trivial, ?_⟩
   simp only [fiS, cellsSc]
   refine Ghost.sub ?_ ?_ <;> simp -implicitDefEqProofs only [go_sem, ↓reduceIte, Nat.reduceEqDiff, reduceCtorEq, e, List.forall_mem_cons, List.not_mem_nil, false_implies, implies_true, and_self, List.all_cons, List.all_nil, Nat.reduceLT, labsInL, AV.labsIn]
  ·have f1 : (f.label ≥ 1) = True := eq_true (by omega)
   have f2 : (f.label ≤ 3) = False := eq_false (by omega)
   have e : labelB f.label = false := decide_eq_false (by omega)
   refine AW.rE (by rfl) fun K hK => ?_
   simp -implicitDefEqProofs only [go_sem, ↓reduceIte, Nat.reduceAdd, Nat.reduceEqDiff, f1, f2]
   refine hK _ ?_; clear hK K
   simp only [andThen]
   refine ⟨(), trivial, ?_⟩
   simp only [fiS, cellsSc]
   refine Ghost.sub ?_ ?_ <;> simp -implicitDefEqProofs only [go_sem, ↓reduceIte, Nat.reduceEqDiff, reduceCtorEq, e, List.forall_mem_cons, List.not_mem_nil, false_implies, implies_true, and_self, List.all_cons, List.all_nil, Nat.reduceLT, labsInL, AV.labsIn]
 simp only [fiS, cellsSc]
 refine AW.seq ?_
 refine AW.rT (by rfl) fun K hK => ?_
 simp -implicitDefEqProofs only [go_sem, ↓reduceIte, Nat.reduceAdd]
 refine hK _ ?_; clear hK K
 refine AW.block ?_
 by_cases h6 : f.ty.kind = 6
 ·have k6 : (f.ty.kind == 6) = true := by simp; omega
  have e : fieldB S f = (labelB f.label && (firstP (fun x => x.name == f.ty.name) zEn S.enums).2) := by unfold fieldB kindB; rw [if_pos h6]
  have C := check_Enum S f.ty.name h2
  simp only [encSc, encEn] at C
  refine AW.rT (by rfl) fun K hK => ?_
  simp -implicitDefEqProofs only [go_sem, ↓reduceIte, Nat.reduceAdd, k6]
  refine hK _ ?_; clear hK K
  refine AW.cond _ (by simp -implicitDefEqProofs only [go_sem]; rfl) (fun hc => ?_) (fun hc => ?_)
  rotate_left
  ·simp at hc
  refine AW.rT (by rfl) fun K hK => ?_
  simp -implicitDefEqProofs only [go_sem, ↓reduceIte, Nat.reduceAdd, Nat.reduceEqDiff, Nat.reduceLeDiff]
  refine ⟨.pure _, C, ?_⟩
  try simp -implicitDefEqProofs only [go_sem, ↓reduceIte, Nat.reduceAdd, Nat.reduceEqDiff, Nat.reduceLeDiff]
  refine hK _ ?_; clear hK K
  cases hb : labelB f.label with
  | true =>
   rw [hb, Bool.true_and] at e
   refine AW.rT (by rfl) fun K hK => ?_
   simp -implicitDefEqProofs only [go_sem, ↓reduceIte, Nat.reduceAdd, Nat.reduceEqDiff]
   refine hK _ ?_; clear hK K
   refine AW.ret ?_
   simp -implicitDefEqProofs only [go_sem, e]
  | false =>
   rw [hb, Bool.false_and] at e
   refine AW.rT (by rfl) fun K hK => ?_
   simp -implicitDefEqProofs only [go_sem, ↓reduceIte, Nat.reduceAdd, Nat.reduceEqDiff]
   refine hK _ ?_; clear hK K
   refine AW.ret ?_
   simp -implicitDefEqProofs only [go_sem, e]
 have k6 : (f.ty.kind == 6) = false := by simp; omega
 refine AW.rT (by rfl) fun K hK => ?_
 simp -implicitDefEqProofs only [go_sem, ↓reduceIte, Nat.reduceAdd, k6]
 refine hK _ ?_; clear hK K
 refine AW.cond _ (by simp -implicitDefEqProofs only [go_sem]; rfl) (fun hc => ?_) (fun hc => ?_)
 ·simp at hc
 by_cases h7 : f.ty.kind = 7
 ·have k7 : (f.ty.kind == 7) = true := by simp; omega
  have e : fieldB S f = (labelB f.label && (firstP (fun x => x.name == f.ty.name) zMs S.msgs).2) := by unfold fieldB kindB; rw [if_neg h6, if_pos h7]
  have C := check_Message S f.ty.name h1
  simp only [encSc, encMs] at C
  refine AW.rT (by rfl) fun K hK => ?_
  simp -implicitDefEqProofs only [go_sem, ↓reduceIte, Nat.reduceAdd, Nat.reduceEqDiff, k7]
  refine hK _ ?_; clear hK K
  refine AW.cond _ (by simp -implicitDefEqProofs only [go_sem]; rfl) (fun hc => ?_) (fun hc => ?_)
  rotate_left
  ·simp at hc
  refine AW.rT (by rfl) fun K hK => ?_
  simp -implicitDefEqProofs only [go_sem, ↓reduceIte, Nat.reduceAdd, Nat.reduceEqDiff, Nat.reduceLeDiff]
  refine ⟨.pure _, C, ?_⟩
  try simp -implicitDefEqProofs only [go_sem, ↓reduceIte, Nat.reduceAdd, Nat.reduceEqDiff, Nat.reduceLeDiff]
  refine hK _ ?_; clear hK K
  cases hb : labelB f.label with
  | true =>
   rw [hb, Bool.true_and] at e
   refine AW.rT (by rfl) fun K hK => ?_
   simp -implicitDefEqProofs only [go_sem, ↓reduceIte, Nat.reduceAdd, Nat.reduceEqDiff]
   refine hK _ ?_; clear hK K
   refine AW.ret ?_
   simp -implicitDefEqProofs only [go_sem, e]
  | false =>
   rw [hb, Bool.false_and] at e
   refine AW.rT (by rfl) fun K hK => ?_
   simp -implicitDefEqProofs only [go_sem, ↓reduceIte, Nat.reduceAdd, Nat.reduceEqDiff]
   refine hK _ ?_; clear hK K
   refine AW.ret ?_
   simp -implicitDefEqProofs only [go_sem, e]
 have k7 : (f.ty.kind == 7) = false := by simp; omega
 have e : fieldB S f = (labelB f.label && (decide (1 ≤ f.ty.kind ∧ f.ty.kind ≤ 5) && (f.ty.name == []))) := by unfold fieldB kindB; rw [if_neg h6, if_neg h7]
 refine AW.rT (by rfl) fun K hK => ?_
 simp -implicitDefEqProofs only [go_sem, ↓reduceIte, Nat.reduceAdd, Nat.reduceEqDiff, k7]
 refine hK _ ?_; clear hK K
 refine AW.cond _ (by simp -implicitDefEqProofs only [go_sem]; rfl) (fun hc => ?_) (fun hc => ?_)
 ·simp at hc
 refine AW.skip ?_
 simp only [andThen, inBlk]
 cases hb : labelB f.label with
 | false =>
  rw [hb, Bool.false_and] at e
  refine AW.rT (by rfl) fun K hK => ?_
  simp -implicitDefEqProofs only [go_sem, ↓reduceIte, Nat.reduceAdd, Nat.reduceEqDiff]
  refine hK _ ?_; clear hK K
  refine AW.ret ?_
  simp -implicitDefEqProofs only [go_sem, e]
 | true =>
 rw [hb, Bool.true_and] at e
 by_cases h3 : f.ty.kind ≥ 1
 case neg =>
  have f1 : (f.ty.kind ≥ 1) = False := eq_false h3
  rw [decide_eq_false (by omega), Bool.false_and] at e
  refine AW.rT (by rfl) fun K hK => ?_
  simp -implicitDefEqProofs only [go_sem, ↓reduceIte, Nat.reduceAdd, Nat.reduceEqDiff, f1]
  refine hK _ ?_; clear hK K
  refine AW.ret ?_
  simp -implicitDefEqProofs only [go_sem, e]
 have f1 : (f.ty.kind ≥ 1) = True := eq_true h3
 have E := eqP_ty f.ty ⟨f.ty.kind, []⟩
 simp only [encTy] at E
 have ee : decide (f.ty = ⟨f.ty.kind, []⟩) = (f.ty.name == []) := by
  rw [Bool.eq_iff_iff]
  cases f with
  | mk a b c d => cases d; simp
 rw [ee] at E
 cases hn : (f.ty.name == ([] : List UInt8)) with
 | false =>
  rw [hn] at E
  rw [hn, Bool.and_false] at e
  refine AW.rT (by rfl) fun K hK => ?_
  simp -implicitDefEqProofs only [go_sem, ↓reduceIte, Nat.reduceAdd, Nat.reduceEqDiff, Nat.reduceLeDiff, f1]
  refine ⟨_, E, ?_⟩
  try simp -implicitDefEqProofs only [go_sem, ↓reduceIte, Nat.reduceAdd, Nat.reduceEqDiff]
  refine hK _ ?_; clear hK K
  refine AW.ret ?_
  simp -implicitDefEqProofs only [go_sem, e]
 | true =>
  rw [hn] at E
  rw [hn, Bool.and_true] at e
  by_cases h4 : f.ty.kind < 6
  ·have f2 : (f.ty.kind < 6) = True := eq_true h4
   rw [decide_eq_true (by omega)] at e
   refine AW.rT (by rfl) fun K hK => ?_
   simp -implicitDefEqProofs only [go_sem, ↓reduceIte, Nat.reduceAdd, Nat.reduceEqDiff, Nat.reduceLeDiff, f1]
   refine ⟨_, E, ?_⟩
   try simp -implicitDefEqProofs only [go_sem, ↓reduceIte, Nat.reduceAdd, Nat.reduceEqDiff, f2]
   refine hK _ ?_; clear hK K
   refine AW.ret ?_
   simp -implicitDefEqProofs only [go_sem, e]
  ·have f2 : (f.ty.kind < 6) = False := eq_false h4
   rw [decide_eq_false (by omega)] at e
   refine AW.rT (by rfl) fun K hK => ?_
   simp -implicitDefEqProofs only [go_sem, ↓reduceIte, Nat.reduceAdd, Nat.reduceEqDiff, Nat.reduceLeDiff, f1]
   refine ⟨_, E, ?_⟩
   try simp -implicitDefEqProofs only [go_sem, ↓reduceIte, Nat.reduceAdd, Nat.reduceEqDiff, f2]
   refine hK _ ?_; clear hK K
   refine AW.ret ?_
   simp -implicitDefEqProofs only [go_sem, e]
end Go.Aw
namespace Go.Aw
open Go.Proofs Go.RowKit
set_option linter.unusedSimpArgs false
set_option linter.unusedVariables false
def resBad (us : List Int) : List Int → Bool
 | [] => false
 | t :: l => if (tagB t && !us.contains t) = true then resBad (us ++ [t]) l else true
theorem resBad_at {l : List Int} {i : Nat} {t : Int} {us : List Int} (h : l[i]? = some t) : resBad us (l.drop i) = if (tagB t && !us.contains t) = true then resBad (us ++ [t]) (l.drop (i + 1)) else true := by
 rw [List.drop_eq_getElem_cons (List.getElem?_eq_some_iff.1 h).1, (List.getElem?_eq_some_iff.1 h).2, resBad]
def fldsC (S : Sc) (ns : List (List UInt8)) (us : List Int) : List Fd → Int
 | [] => 0
 | f :: l => if takesB ns f.name = true then (if (tagB f.tag && !us.contains f.tag) = true then (if fieldB S f = true then fldsC S (ns ++ [f.name]) (us ++ [f.tag]) l else 8) else 7) else 6
theorem fldsC_at {S : Sc} {l : List Fd} {i : Nat} {f : Fd} {ns : List (List UInt8)} {us : List Int} (h : l[i]? = some f) :
  fldsC S ns us (l.drop i) = if takesB ns f.name = true then (if (tagB f.tag && !us.contains f.tag) = true then (if fieldB S f = true then fldsC S (ns ++ [f.name]) (us ++ [f.tag]) (l.drop (i + 1)) else 8) else 7) else 6 := by
 rw [List.drop_eq_getElem_cons (List.getElem?_eq_some_iff.1 h).1, (List.getElem?_eq_some_iff.1 h).2, fldsC]
def bodyC (S : Sc) (m : Ms) : Int := if m.fields.length > 16 ∨ m.res.length > 32 then 4 else if resBad [] m.res = true then 7 else fldsC S [] m.res m.fields
def msgC (S : Sc) (ns : List (List UInt8)) (m : Ms) : Int := if takesB ns m.name = true then bodyC S m else 6
def cellsFd (f : Fd) : List AV := [.p (.str f.name), .p (.int .i64 f.tag), .p (.int .i64 f.label), .p (.int .i64 f.ty.kind), .p (.str f.ty.name)]
theorem take_map_next {α β : Type} (g : α → β) {l : List α} {i : Nat} {a : α} (h : l[i]? = some a) : (l.take (i + 1)).map g = (l.take i).map g ++ [g a] := by
 rw [List.take_add_one, h]; simp
def me1 (S : Sc) (m : Ms) (ns : List (List UInt8)) (i : Nat) : St := ⟨ofL [(1, .map 1), (3, .ptr 0 0 0), (5, .ptr 2 0 0), (7, .map 3), (32, .p (.slice (m.res.map encI))), (33, .p (.int .i64 (m.res.length : Int))), (34, .p (.int .i64 (i : Int)))],
 ofH [(0, .row 4 [cellsSc S]), (1, .map (mS ns)), (2, .row 3 [cellsMs m]), (3, .map (mI (m.res.take i)))], 4⟩
def me2 (S : Sc) (m : Ms) (ns : List (List UInt8)) (i : Nat) : St := ⟨ofL [(1, .map 1), (3, .ptr 0 0 0), (7, .map 3), (10, .map 4), (51, .p (.slice (m.fields.map encFd))), (52, .p (.int .i64 (m.fields.length : Int))), (53, .p (.int .i64 (i : Int)))],
 ofH [(0, .row 4 [cellsSc S]), (1, .map (mS ns)), (3, .map (mI (m.res ++ (m.fields.take i).map Fd.tag))), (4, .map (mS ((m.fields.take i).map Fd.name)))], 5⟩
def lensF (m : Ms) : Prop := m.name.length ≤ 1000000000 ∧ ∀ f ∈ m.fields, f.name.length ≤ 1000000000
set_option maxRecDepth 100000 in
set_option maxHeartbeats 4000000 in
theorem check_message (S : Sc) (ns : List (List UInt8)) (m : Ms) (h1 : S.msgs.length ≤ 1000000) (h2 : S.enums.length ≤ 1000000) (hm : lensF m) :
  LFn Tryd.prog 93 [.v (.agg (encSc S)), .map (setM ns), .v (.agg (encMs m))] [none, some (.map (setM (takeN ns m.name))), none] (.int .i64 (msgC S ns m)) := by
 refine LFn.of Tryd.func93 rfl (by decide) Tryd.ntmps93 Tryd.results93 (Nat.le_of_ble_eq_true rfl) rfl fun val => ?_
 simp only [laT, laH, laPins, LA.av, List.length_cons, List.length_nil, lift_setM, encSc, encMs]
 refine AW.rT (by rfl) fun K hK => ?_
 simp -implicitDefEqProofs only [go_sem, ↓reduceIte, Nat.reduceAdd, Nat.reduceEqDiff, reduceCtorEq]
 refine hK _ ?_; clear hK K
 refine AW.seq ?_
 refine AW.block ?_
 have TK := check_takes ns m.name hm.1
 cases ht : takesB ns m.name with
 | false =>
  have e : msgC S ns m = 6 := by unfold msgC; rw [ht]; rfl
  have e2 : takeN ns m.name = ns := by unfold takeN; rw [ht]; rfl
  rw [ht, e2] at TK
  refine AW.rT (by rfl) fun K hK => ?_
  simp -implicitDefEqProofs only [go_sem, ↓reduceIte, Nat.reduceAdd, Nat.reduceEqDiff]
  refine ⟨.lend [some 1, none] [.map (setM ns), .v (.str m.name)] [some (.map (setM ns)), none] (.bool false), ⟨TK, rfl, ?_⟩, ?_⟩
  ·simp -implicitDefEqProofs only [go_sem, ↓reduceIte, Nat.reduceEqDiff, lift_setM]
  try simp -implicitDefEqProofs only [go_sem, Nat.reduceAdd, lift_setM]
  refine hK _ ?_; clear hK K
  refine AW.cond _ (by simp -implicitDefEqProofs only [go_sem]; rfl) (fun hc => ?_) (fun hc => ?_)
  rotate_left
  ·simp at hc
  refine AW.rT (by rfl) fun K hK => ?_
  simp -implicitDefEqProofs only [go_sem, Nat.reduceAdd]
  refine hK _ ?_; clear hK K
  refine AW.ret (show _ ∧ ((∃ l, _ ∧ _) ∧ True) from ⟨?_, ⟨1, ?_, ?_⟩, trivial⟩) <;> simp -implicitDefEqProofs only [go_sem, ↓reduceIte, Nat.reduceEqDiff, e, e2, lift_setM]
 | true =>
 have e0 : msgC S ns m = bodyC S m := by unfold msgC; rw [ht]; rfl
 have e2 : takeN ns m.name = ns ++ [m.name] := by unfold takeN; rw [ht]; rfl
 rw [ht, e2] at TK
 refine AW.rT (by rfl) fun K hK => ?_
 simp -implicitDefEqProofs only [go_sem, ↓reduceIte, Nat.reduceAdd, Nat.reduceEqDiff]
 refine ⟨.lend [some 1, none] [.map (setM ns), .v (.str m.name)] [some (.map (setM (ns ++ [m.name]))), none] (.bool true), ⟨TK, rfl, ?_⟩, ?_⟩
 ·simp -implicitDefEqProofs only [go_sem, ↓reduceIte, Nat.reduceEqDiff, lift_setM]
 try simp -implicitDefEqProofs only [go_sem, Nat.reduceAdd, lift_setM]
 refine hK _ ?_; clear hK K
 refine AW.cond _ (by simp -implicitDefEqProofs only [go_sem]; rfl) (fun hc => ?_) (fun hc => ?_)
 ·simp at hc
 generalize ns ++ [m.name] = ns' at *
 by_cases c1 : m.fields.length > 16
 ·have b1 : ((m.fields.length : Int) > 16) = True := eq_true (by omega)
  have e : msgC S ns m = 4 := by rw [e0]; unfold bodyC; rw [if_pos (.inl c1)]
  refine AW.rT (by rfl) fun K hK => ?_
  simp -implicitDefEqProofs only [go_sem, ↓reduceIte, Nat.reduceAdd, Nat.reduceEqDiff, b1, List.length_map]
  refine hK _ ?_; clear hK K
  refine AW.cond _ (by simp -implicitDefEqProofs only [go_sem]; rfl) (fun hc => ?_) (fun hc => ?_)
  rotate_left
  ·simp at hc
  refine AW.rT (by rfl) fun K hK => ?_
  simp -implicitDefEqProofs only [go_sem, Nat.reduceAdd]
  refine hK _ ?_; clear hK K
  refine AW.ret (show _ ∧ ((∃ l, _ ∧ _) ∧ True) from ⟨?_, ⟨1, ?_, ?_⟩, trivial⟩) <;> simp -implicitDefEqProofs only [go_sem, ↓reduceIte, Nat.reduceEqDiff, e, e2, lift_setM]
 have b1 : ((m.fields.length : Int) > 16) = False := eq_false (by omega)
 by_cases c2 : m.res.length > 32
 ·have b2 : ((m.res.length : Int) > 32) = True := eq_true (by omega)
  have e : msgC S ns m = 4 := by rw [e0]; unfold bodyC; rw [if_pos (.inr c2)]
  refine AW.rT (by rfl) fun K hK => ?_
  simp -implicitDefEqProofs only [go_sem, ↓reduceIte, Nat.reduceAdd, Nat.reduceEqDiff, b1, b2, List.length_map]
  refine hK _ ?_; clear hK K
  refine AW.cond _ (by simp -implicitDefEqProofs only [go_sem]; rfl) (fun hc => ?_) (fun hc => ?_)
  rotate_left
  ·simp at hc
  refine AW.rT (by rfl) fun K hK => ?_
  simp -implicitDefEqProofs only [go_sem, Nat.reduceAdd]
  refine hK _ ?_; clear hK K
  refine AW.ret (show _ ∧ ((∃ l, _ ∧ _) ∧ True) from ⟨?_, ⟨1, ?_, ?_⟩, trivial⟩) <;> simp -implicitDefEqProofs only [go_sem, ↓reduceIte, Nat.reduceEqDiff, e, e2, lift_setM]
 have b2 : ((m.res.length : Int) > 32) = False := eq_false (by omega)
 refine AW.rT (by rfl) fun K hK => ?_
 simp -implicitDefEqProofs only [go_sem, ↓reduceIte, Nat.reduceAdd, Nat.reduceEqDiff, b1, b2, List.length_map]
 refine hK _ ?_; clear hK K
 refine AW.cond _ (by simp -implicitDefEqProofs only [go_sem]; rfl) (fun hc => ?_) (fun hc => ?_)
 ·simp at hc
 refine AW.skip ?_
 simp only [andThen, inBlk]
 have e0 : msgC S ns m = if resBad [] m.res = true then 7 else fldsC S [] m.res m.fields := by rw [e0]; unfold bodyC; rw [if_neg (by omega)]
 refine AW.rT (by rfl) fun K hK => ?_
 simp -implicitDefEqProofs only [go_sem, Nat.reduceAdd]
 refine hK _ ?_; clear hK K
 refine AW.seq ?_
 refine AW.rT (by rfl) fun K hK => ?_
 simp -implicitDefEqProofs only [go_sem, ↓reduceIte, Nat.reduceAdd, Nat.reduceEqDiff, List.length_map]
 refine hK _ ?_; clear hK K
 refine AW.block ?_
 refine AW.loop (me1 S m ns') (fun i => i ≤ m.res.length ∧ resBad [] m.res = resBad (m.res.take i) (m.res.drop i)) (fun i => m.res.length - i) 0 ?_ ⟨by omega, by rw [List.drop_zero, List.take_zero]⟩ fun i hi => ?_
 ·simp only [me1, cellsSc, cellsMs]
  refine Ghost.ent (fun l => if l = 0 then 3 else if l = 1 then 1 else if l = 2 then 4 else 23) ?_ ?_ ?_ <;> simp -implicitDefEqProofs only [go_sem, ↓reduceIte, Nat.reduceEqDiff, reduceCtorEq, List.take_zero, mI_nil, List.forall_mem_cons, List.not_mem_nil, false_implies, implies_true, and_self, List.all_cons, List.all_nil, Nat.reduceLT, labsInL, AV.labsIn]
  all_goals first | rfl | decide | skip
 obtain ⟨i1, i2⟩ := hi
 simp only [me1, cellsSc, cellsMs]
 by_cases hil : i < m.res.length
 case neg =>
  have hc1 : ((i : Int) < (m.res.length : Int)) = False := eq_false (by omega)
  rw [List.take_of_length_le (by omega), List.drop_of_length_le (by omega), resBad] at i2
  rw [i2, if_neg (by simp)] at e0
  refine AW.rT (by rfl) fun K hK => ?_
  simp -implicitDefEqProofs only [go_sem, ↓reduceIte, Nat.reduceAdd, Nat.reduceEqDiff, hc1]
  refine hK _ ?_; clear hK K
  refine AW.seq ?_
  refine AW.cond _ (by simp -implicitDefEqProofs only [go_sem]; rfl) (fun hc => ?_) (fun hc => ?_)
  ·simp at hc
  refine AW.exit ?_
  simp only [andThen, inBlk, ↓reduceIte]
  refine AW.rT (by rfl) fun K hK => ?_
  simp -implicitDefEqProofs only [go_sem, Nat.reduceAdd]
  refine hK _ ?_; clear hK K
  refine AW.seq ?_
  refine AW.rT (by rfl) fun K hK => ?_
  simp -implicitDefEqProofs only [go_sem, ↓reduceIte, Nat.reduceAdd, Nat.reduceEqDiff, reduceCtorEq, List.length_map]
  refine hK _ ?_; clear hK K
  refine AW.block ?_
  refine AW.loop (me2 S m ns') (fun i => i ≤ m.fields.length ∧ fldsC S [] m.res m.fields = fldsC S ((m.fields.take i).map Fd.name) (m.res ++ (m.fields.take i).map Fd.tag) (m.fields.drop i)) (fun i => m.fields.length - i) 0 ?_ ⟨by omega, by simp⟩ fun i hi => ?_
  ·simp only [me2, cellsSc]
   have er : m.res.take i = m.res := List.take_of_length_le (by omega)
   refine Ghost.ent (fun l => if l = 0 then 0 else if l = 1 then 1 else if l = 3 then 3 else 5) ?_ ?_ ?_ <;> simp -implicitDefEqProofs only [go_sem, ↓reduceIte, Nat.reduceEqDiff, reduceCtorEq, List.take_zero, List.map_nil, List.append_nil, mS_nil, er, List.forall_mem_cons, List.not_mem_nil, false_implies, implies_true, and_self, List.all_cons, List.all_nil, Nat.reduceLT, labsInL, AV.labsIn]
   all_goals first | rfl | decide | skip
  rename_i i0 _ _ _
  obtain ⟨j1, j2⟩ := hi
  simp only [me2, cellsSc]
  by_cases hjl : i < m.fields.length
  case neg =>
   have hc1 : ((i : Int) < (m.fields.length : Int)) = False := eq_false (by omega)
   rw [List.drop_of_length_le (by omega), fldsC] at j2
   rw [j2] at e0
   refine AW.rT (by rfl) fun K hK => ?_
   simp -implicitDefEqProofs only [go_sem, ↓reduceIte, Nat.reduceAdd, Nat.reduceEqDiff, hc1]
   refine hK _ ?_; clear hK K
   refine AW.seq ?_
   refine AW.cond _ (by simp -implicitDefEqProofs only [go_sem]; rfl) (fun hc => ?_) (fun hc => ?_)
   ·simp at hc
   refine AW.exit ?_
   simp only [andThen, inBlk, ↓reduceIte]
   refine AW.rT (by rfl) fun K hK => ?_
   simp -implicitDefEqProofs only [go_sem, Nat.reduceAdd]
   refine hK _ ?_; clear hK K
   refine AW.ret (show _ ∧ ((∃ l, _ ∧ _) ∧ True) from ⟨?_, ⟨1, ?_, ?_⟩, trivial⟩) <;> simp -implicitDefEqProofs only [go_sem, ↓reduceIte, Nat.reduceEqDiff, e0, e2, lift_setM]
  obtain ⟨f, hf⟩ : ∃ f, m.fields[i]? = some f := ⟨_, List.getElem?_eq_getElem hjl⟩
  have ⟨hf1, hf2, hf3⟩ := at_map' encFd hf
  have hc1 : ((i : Int) < (m.fields.length : Int)) = True := eq_true (by omega)
  have w1 : IntKind.wrap .i64 ((i : Int) + 1) = ((i + 1 : Nat) : Int) := by rw [w64] <;> omega
  rw [fldsC_at hf] at j2
  have hnx := take_map_next Fd.name hf
  have htx := take_map_next Fd.tag hf
  generalize hN : (m.fields.take i).map Fd.name = N at *
  generalize hT : m.res ++ (m.fields.take i).map Fd.tag = T at *
  have TK := check_takes N f.name (hm.2 f (List.mem_of_getElem? hf))
  refine AW.rT (by rfl) fun K hK => ?_
  simp -implicitDefEqProofs only [go_sem, ↓reduceIte, Nat.reduceAdd, Nat.reduceEqDiff, hc1]
  refine hK _ ?_; clear hK K
  refine AW.seq ?_
  refine AW.cond _ (by simp -implicitDefEqProofs only [go_sem]; rfl) (fun hc => ?_) (fun hc => ?_)
  rotate_left
  ·simp at hc
  refine AW.skip ?_
  simp only [andThen]
  refine AW.seq ?_
  refine AW.block ?_
  refine AW.rT (by rfl) fun K hK => ?_
  simp -implicitDefEqProofs only [go_sem, ↓reduceIte, Nat.reduceAdd, Nat.reduceEqDiff, Nat.reduceLeDiff, hf1, hf3, hc1, encFd, List.length_map]
  refine hK _ ?_; clear hK K
  refine AW.seq ?_
  refine AW.block ?_
  cases ht2 : takesB N f.name with
  | false =>
   have e3 : takeN N f.name = N := by unfold takeN; rw [ht2]; rfl
   rw [ht2, e3] at TK
   rw [ht2, if_neg (by simp)] at j2
   rw [j2] at e0
   refine AW.rT (by rfl) fun K hK => ?_
   simp -implicitDefEqProofs only [go_sem, ↓reduceIte, Nat.reduceAdd, Nat.reduceEqDiff]
   refine ⟨.lend [some 4, none] [.map (setM N), .v (.str f.name)] [some (.map (setM N)), none] (.bool false), ⟨TK, rfl, ?_⟩, ?_⟩
   ·simp -implicitDefEqProofs only [go_sem, ↓reduceIte, Nat.reduceEqDiff, reduceCtorEq, lift_setM]
   try simp -implicitDefEqProofs only [go_sem, Nat.reduceAdd, lift_setM]
   refine hK _ ?_; clear hK K
   refine AW.cond _ (by simp -implicitDefEqProofs only [go_sem]; rfl) (fun hc => ?_) (fun hc => ?_)
   rotate_left
   ·simp at hc
   refine AW.rT (by rfl) fun K hK => ?_
   simp -implicitDefEqProofs only [go_sem, Nat.reduceAdd]
   refine hK _ ?_; clear hK K
   refine AW.ret (show _ ∧ ((∃ l, _ ∧ _) ∧ True) from ⟨?_, ⟨1, ?_, ?_⟩, trivial⟩) <;> simp -implicitDefEqProofs only [go_sem, ↓reduceIte, Nat.reduceEqDiff, e0, e2, lift_setM]
  | true =>
  have e3 : takeN N f.name = N ++ [f.name] := by unfold takeN; rw [ht2]; rfl
  rw [ht2, e3] at TK
  rw [ht2, if_pos rfl] at j2
  refine AW.rT (by rfl) fun K hK => ?_
  simp -implicitDefEqProofs only [go_sem, ↓reduceIte, Nat.reduceAdd, Nat.reduceEqDiff]
  refine ⟨.lend [some 4, none] [.map (setM N), .v (.str f.name)] [some (.map (setM (N ++ [f.name]))), none] (.bool true), ⟨TK, rfl, ?_⟩, ?_⟩
  ·simp -implicitDefEqProofs only [go_sem, ↓reduceIte, Nat.reduceEqDiff, reduceCtorEq, lift_setM]
  try simp -implicitDefEqProofs only [go_sem, Nat.reduceAdd, lift_setM]
  refine hK _ ?_; clear hK K
  refine AW.cond _ (by simp -implicitDefEqProofs only [go_sem]; rfl) (fun hc => ?_) (fun hc => ?_)
  ·simp at hc
  cases htg : tagB f.tag with
  | false =>
   rw [htg, Bool.false_and, if_neg (by simp)] at j2
   rw [j2] at e0
   refine AW.rT (by rfl) fun K hK => ?_
   simp -implicitDefEqProofs only [go_sem, ↓reduceIte, Nat.reduceAdd, Nat.reduceEqDiff]
   refine ⟨.pure _, check_tag f.tag, ?_⟩
   try simp -implicitDefEqProofs only [go_sem, ↓reduceIte, Nat.reduceAdd, Nat.reduceEqDiff, htg]
   refine hK _ ?_; clear hK K
   refine AW.cond _ (by simp -implicitDefEqProofs only [go_sem]; rfl) (fun hc => ?_) (fun hc => ?_)
   rotate_left
   ·simp at hc
   refine AW.rT (by rfl) fun K hK => ?_
   simp -implicitDefEqProofs only [go_sem, Nat.reduceAdd]
   refine hK _ ?_; clear hK K
   refine AW.ret (show _ ∧ ((∃ l, _ ∧ _) ∧ True) from ⟨?_, ⟨1, ?_, ?_⟩, trivial⟩) <;> simp -implicitDefEqProofs only [go_sem, ↓reduceIte, Nat.reduceEqDiff, e0, e2, lift_setM]
  | true =>
  cases hus : T.contains f.tag with
  | true =>
   rw [htg, hus, if_neg (by simp)] at j2
   rw [j2] at e0
   obtain ⟨q, hq⟩ := mI_yes hus
   refine AW.rT (by rfl) fun K hK => ?_
   simp -implicitDefEqProofs only [go_sem, ↓reduceIte, Nat.reduceAdd, Nat.reduceEqDiff]
   refine ⟨.pure _, check_tag f.tag, ?_⟩
   try simp -implicitDefEqProofs only [go_sem, ↓reduceIte, Nat.reduceAdd, Nat.reduceEqDiff, reduceCtorEq, htg]
   refine ⟨keyI f.tag, _, hq, _, rfl, ?_⟩
   try simp -implicitDefEqProofs only [go_sem, ↓reduceIte, Nat.reduceAdd, Nat.reduceMul, Nat.reduceEqDiff, Nat.reduceLeDiff, reduceCtorEq, Int.reduceToNat]
   refine hK _ ?_; clear hK K
   refine AW.cond _ (by simp -implicitDefEqProofs only [go_sem]; rfl) (fun hc => ?_) (fun hc => ?_)
   rotate_left
   ·simp at hc
   refine AW.rT (by rfl) fun K hK => ?_
   simp -implicitDefEqProofs only [go_sem, Nat.reduceAdd]
   refine hK _ ?_; clear hK K
   refine AW.ret (show _ ∧ ((∃ l, _ ∧ _) ∧ True) from ⟨?_, ⟨1, ?_, ?_⟩, trivial⟩) <;> simp -implicitDefEqProofs only [go_sem, ↓reduceIte, Nat.reduceEqDiff, e0, e2, lift_setM]
  | false =>
  rw [htg, hus, if_pos (by simp)] at j2
  have hq := mI_no hus
  refine AW.rT (by rfl) fun K hK => ?_
  simp -implicitDefEqProofs only [go_sem, ↓reduceIte, Nat.reduceAdd, Nat.reduceEqDiff]
  refine ⟨.pure _, check_tag f.tag, ?_⟩
  try simp -implicitDefEqProofs only [go_sem, ↓reduceIte, Nat.reduceAdd, Nat.reduceEqDiff, reduceCtorEq, htg]
  refine ⟨keyI f.tag, _, hq, _, rfl, ?_⟩
  try simp -implicitDefEqProofs only [go_sem, ↓reduceIte, Nat.reduceAdd, Nat.reduceMul, Nat.reduceEqDiff, Nat.reduceLeDiff, reduceCtorEq, Int.reduceToNat]
  refine hK _ ?_; clear hK K
  refine AW.cond _ (by simp -implicitDefEqProofs only [go_sem]; rfl) (fun hc => ?_) (fun hc => ?_)
  ·simp at hc
  have CF := check_field S f h1 h2
  simp only [encSc, encFd] at CF
  refine AW.rT (by rfl) fun K hK => ?_
  simp -implicitDefEqProofs only [go_sem, ↓reduceIte, Nat.reduceAdd, Nat.reduceEqDiff, Nat.reduceLeDiff, reduceCtorEq]
  refine ⟨.pure _, CF, ?_⟩
  try simp -implicitDefEqProofs only [go_sem, Nat.reduceAdd]
  refine hK _ ?_; clear hK K
  cases hfb : fieldB S f with
  | false =>
   rw [hfb, if_neg (by simp)] at j2
   rw [j2] at e0
   refine AW.cond _ (by simp -implicitDefEqProofs only [go_sem]; rfl) (fun hc => ?_) (fun hc => ?_)
   rotate_left
   ·simp at hc
   refine AW.rT (by rfl) fun K hK => ?_
   simp -implicitDefEqProofs only [go_sem, Nat.reduceAdd]
   refine hK _ ?_; clear hK K
   refine AW.ret (show _ ∧ ((∃ l, _ ∧ _) ∧ True) from ⟨?_, ⟨1, ?_, ?_⟩, trivial⟩) <;> simp -implicitDefEqProofs only [go_sem, ↓reduceIte, Nat.reduceEqDiff, e0, e2, lift_setM]
  | true =>
   rw [hfb, if_pos rfl] at j2
   refine AW.cond _ (by simp -implicitDefEqProofs only [go_sem]; rfl) (fun hc => ?_) (fun hc => ?_)
   ·simp at hc
   refine AW.skip ?_
   simp only [andThen, inBlk]
   refine AW.rE (by rfl) fun K hK => ?_
   simp -implicitDefEqProofs only [go_sem, ↓reduceIte, Nat.reduceAdd, Nat.reduceEqDiff, reduceCtorEq]
   refine ⟨keyI f.tag, _, hq, ?_⟩
   try simp -implicitDefEqProofs only [go_sem]
   refine hK _ ?_; clear hK K
   simp only [andThen, inBlk]
   refine AW.rE (by rfl) fun K hK => ?_
   simp -implicitDefEqProofs only [go_sem, ↓reduceIte, Nat.reduceAdd, Nat.reduceEqDiff, w1]
   refine hK _ ?_; clear hK K
   refine ⟨i + 1, ⟨by omega, by rw [hnx, htx, ← List.append_assoc, hT]; exact j2⟩, by omega, ?_⟩
   rw [hnx, htx, ← List.append_assoc, hT]
   refine Ghost.sub ?_ ?_ <;> simp -implicitDefEqProofs only [go_sem, ↓reduceIte, Nat.reduceEqDiff, reduceCtorEq, mI_add, List.forall_mem_cons, List.not_mem_nil, false_implies, implies_true, and_self, List.all_cons, List.all_nil, Nat.reduceLT, labsInL, AV.labsIn]
 obtain ⟨t, ht⟩ : ∃ t, m.res[i]? = some t := ⟨_, List.getElem?_eq_getElem hil⟩
 have ⟨ht1, ht2, ht3⟩ := at_map' encI ht
 have ht3' : (m.res.map encI).getD i [] = [.int .i64 t] := ht3
 have hc1 : ((i : Int) < (m.res.length : Int)) = True := eq_true (by omega)
 have w1 : IntKind.wrap .i64 ((i : Int) + 1) = ((i + 1 : Nat) : Int) := by rw [w64] <;> omega
 rw [resBad_at ht] at i2
 have hnx : m.res.take (i + 1) = m.res.take i ++ [t] := by rw [List.take_add_one, ht]; rfl
 refine AW.rT (by rfl) fun K hK => ?_
 simp -implicitDefEqProofs only [go_sem, ↓reduceIte, Nat.reduceAdd, Nat.reduceEqDiff, hc1]
 refine hK _ ?_; clear hK K
 refine AW.seq ?_
 refine AW.cond _ (by simp -implicitDefEqProofs only [go_sem]; rfl) (fun hc => ?_) (fun hc => ?_)
 rotate_left
 ·simp at hc
 refine AW.skip ?_
 simp only [andThen]
 refine AW.seq ?_
 refine AW.block ?_
 refine AW.rT (by rfl) fun K hK => ?_
 simp -implicitDefEqProofs only [go_sem, ↓reduceIte, Nat.reduceAdd, Nat.reduceEqDiff, ht1, ht3', hc1, List.length_map]
 refine hK _ ?_; clear hK K
 refine AW.seq ?_
 cases htg : tagB t with
 | false =>
  rw [htg, Bool.false_and, if_neg (by simp)] at i2
  rw [i2, if_pos rfl] at e0
  refine AW.rT (by rfl) fun K hK => ?_
  simp -implicitDefEqProofs only [go_sem, Nat.reduceAdd]
  refine ⟨.pure _, check_tag t, ?_⟩
  try simp -implicitDefEqProofs only [go_sem, ↓reduceIte, Nat.reduceAdd, Nat.reduceEqDiff, htg]
  refine hK _ ?_; clear hK K
  refine AW.cond _ (by simp -implicitDefEqProofs only [go_sem]; rfl) (fun hc => ?_) (fun hc => ?_)
  rotate_left
  ·simp at hc
  refine AW.rT (by rfl) fun K hK => ?_
  simp -implicitDefEqProofs only [go_sem, Nat.reduceAdd]
  refine hK _ ?_; clear hK K
  refine AW.ret (show _ ∧ ((∃ l, _ ∧ _) ∧ True) from ⟨?_, ⟨1, ?_, ?_⟩, trivial⟩) <;> simp -implicitDefEqProofs only [go_sem, ↓reduceIte, Nat.reduceEqDiff, e0, e2, lift_setM]
 | true =>
 cases hus : (m.res.take i).contains t with
 | true =>
  rw [htg, hus, if_neg (by simp)] at i2
  rw [i2, if_pos rfl] at e0
  obtain ⟨q, hq⟩ := mI_yes hus
  refine AW.rT (by rfl) fun K hK => ?_
  simp -implicitDefEqProofs only [go_sem, Nat.reduceAdd]
  refine ⟨.pure _, check_tag t, ?_⟩
  try simp -implicitDefEqProofs only [go_sem, ↓reduceIte, Nat.reduceAdd, Nat.reduceEqDiff, reduceCtorEq, htg]
  refine ⟨keyI t, _, hq, _, rfl, ?_⟩
  try simp -implicitDefEqProofs only [go_sem, ↓reduceIte, Nat.reduceAdd, Nat.reduceMul, Nat.reduceEqDiff, Nat.reduceLeDiff, reduceCtorEq, Int.reduceToNat]
  refine hK _ ?_; clear hK K
  refine AW.cond _ (by simp -implicitDefEqProofs only [go_sem]; rfl) (fun hc => ?_) (fun hc => ?_)
  rotate_left
  ·simp at hc
  refine AW.rT (by rfl) fun K hK => ?_
  simp -implicitDefEqProofs only [go_sem, Nat.reduceAdd]
  refine hK _ ?_; clear hK K
  refine AW.ret (show _ ∧ ((∃ l, _ ∧ _) ∧ True) from ⟨?_, ⟨1, ?_, ?_⟩, trivial⟩) <;> simp -implicitDefEqProofs only [go_sem, ↓reduceIte, Nat.reduceEqDiff, e0, e2, lift_setM]
 | false =>
  rw [htg, hus, if_pos (by simp)] at i2
  have hq := mI_no hus
  refine AW.rT (by rfl) fun K hK => ?_
  simp -implicitDefEqProofs only [go_sem, Nat.reduceAdd]
  refine ⟨.pure _, check_tag t, ?_⟩
  try simp -implicitDefEqProofs only [go_sem, ↓reduceIte, Nat.reduceAdd, Nat.reduceEqDiff, reduceCtorEq, htg]
  refine ⟨keyI t, _, hq, _, rfl, ?_⟩
  try simp -implicitDefEqProofs only [go_sem, ↓reduceIte, Nat.reduceAdd, Nat.reduceMul, Nat.reduceEqDiff, Nat.reduceLeDiff, reduceCtorEq, Int.reduceToNat]
  refine hK _ ?_; clear hK K
  refine AW.cond _ (by simp -implicitDefEqProofs only [go_sem]; rfl) (fun hc => ?_) (fun hc => ?_)
  ·simp at hc
  refine AW.skip ?_
  simp only [andThen]
  refine AW.rE (by rfl) fun K hK => ?_
  simp -implicitDefEqProofs only [go_sem, ↓reduceIte, Nat.reduceAdd, Nat.reduceEqDiff, reduceCtorEq]
  refine ⟨keyI t, _, hq, ?_⟩
  try simp -implicitDefEqProofs only [go_sem]
  refine hK _ ?_; clear hK K
  simp only [andThen, inBlk]
  refine AW.rE (by rfl) fun K hK => ?_
  simp -implicitDefEqProofs only [go_sem, ↓reduceIte, Nat.reduceAdd, Nat.reduceEqDiff, w1]
  refine hK _ ?_; clear hK K
  refine ⟨i + 1, ⟨by omega, by rw [hnx]; exact i2⟩, by omega, ?_⟩
  rw [hnx]
  refine Ghost.sub ?_ ?_ <;> simp -implicitDefEqProofs only [go_sem, ↓reduceIte, Nat.reduceEqDiff, reduceCtorEq, mI_add, List.forall_mem_cons, List.not_mem_nil, false_implies, implies_true, and_self, List.all_cons, List.all_nil, Nat.reduceLT, labsInL, AV.labsIn]
end Go.Aw
