/- The check is awake. -/
import Derived.Test.YtmeplhcfjihafaaDoorAwX3
namespace Go.Aw
open Go.Proofs Go.RowKit
set_option linter.unusedSimpArgs false
set_option linter.unusedVariables false
theorem GSc.big {S : Sc} (G : GSc S) : bigS S := ⟨G.name, fun m hm => (G.msgs.2 m hm).name⟩
def wF : Fd := ⟨[120], 1, 1, ⟨1, []⟩⟩
def wF2 : Fd := ⟨[121], 1, 1, ⟨1, []⟩⟩
def wS1 : Sc := ⟨[97], [⟨[109], [wF], []⟩], [], []⟩
def wS2 : Sc := ⟨[97], [⟨[109], [wF, wF2], []⟩], [], []⟩
theorem wS1_ok : checkC wS1 = 0 := by decide +kernel
theorem wS2_ok : checkC wS2 = 7 := by decide +kernel
theorem lens_few {S : Sc} (h : fewB S = true) : LensS S := (few_spec h).lens
theorem wS1_lens : LensS wS1 := lens_few (by decide +kernel)
theorem wS2_lens : LensS wS2 := lens_few (by decide +kernel)
def wk0 : St := ⟨ofL [(3, .ptr 0 0 0), (4, .ptr 1 0 0)], ofH [(0, .row 4 [[.p (.str [97]), .own 2, .ex [], .ex []]]), (1, .row 4 [[.p (.str [97]), .own 4, .ex [], .ex []]]), (2, .row 3 [[.p (.str [109]), .own 3, .ex []]]), (3, .row 5 (liftE ([wF].map encFd))), (4, .row 3 [[.p (.str [109]), .own 5, .ex []]]), (5, .row 5 (liftE ([wF, wF2].map encFd)))], 6⟩
def wM1 : List AV := [.p (.str [109]), .p (.slice ([wF].map encFd)), .ex []]
def wM2 : List AV := [.p (.str [109]), .p (.slice ([wF, wF2].map encFd)), .ex []]
def wR1 : List AV := [.p (.str [97]), .p (.slice [encMs ⟨[109], [wF], []⟩]), .ex [], .ex []]
def wR2 : List AV := [.p (.str [97]), .p (.slice [encMs ⟨[109], [wF, wF2], []⟩]), .ex [], .ex []]
def wk1 : St := ⟨ofL [(3, .ptr 0 0 0), (4, .ptr 1 0 0)], ofH [(0, .row 4 [[.p (.str [97]), .own 2, .ex [], .ex []]]), (1, .row 4 [[.p (.str [97]), .own 4, .ex [], .ex []]]), (2, .row 3 [wM1]), (4, .row 3 [[.p (.str [109]), .own 5, .ex []]]), (5, .row 5 (liftE ([wF, wF2].map encFd)))], 6⟩
def wk2 : St := ⟨ofL [(3, .ptr 0 0 0), (4, .ptr 1 0 0)], ofH [(0, .row 4 [wR1]), (1, .row 4 [[.p (.str [97]), .own 4, .ex [], .ex []]]), (4, .row 3 [[.p (.str [109]), .own 5, .ex []]]), (5, .row 5 (liftE ([wF, wF2].map encFd)))], 6⟩
def wk3 : St := ⟨ofL [(3, .ptr 0 0 0), (4, .ptr 1 0 0)], ofH [(0, .row 4 [wR1]), (1, .row 4 [[.p (.str [97]), .own 4, .ex [], .ex []]]), (4, .row 3 [wM2])], 6⟩
def wk4 : St := ⟨ofL [(3, .ptr 0 0 0), (4, .ptr 1 0 0)], ofH [(0, .row 4 [wR1]), (1, .row 4 [wR2])], 6⟩
set_option maxRecDepth 100000 in
set_option maxHeartbeats 4000000 in
theorem law07_awake : PFn Tryd.prog 24 [] (.bool true) := by
  refine PFn.of Tryd.func24 rfl (by decide) Tryd.ntmps24 Tryd.results24 (Nat.le_of_ble_eq_true rfl) ?_
  simp only [argsT]
  refine AW.rT (by rfl) fun K hK => ?_
  simp -implicitDefEqProofs only [go_sem, ↓reduceIte, Nat.reduceAdd, Nat.reduceMul, Nat.reduceEqDiff, Nat.reduceLeDiff, reduceCtorEq, Int.reduceToNat]
  refine hK _ ?_; clear hK K
  refine AW.rT (by rfl) fun K hK => ?_
  simp -implicitDefEqProofs only [go_sem, ↓reduceIte, Nat.reduceAdd, Nat.reduceMul, Nat.reduceEqDiff, Nat.reduceLeDiff, reduceCtorEq, Int.reduceToNat]
  refine hK _ ?_; clear hK K
  refine AW.rT (by rfl) fun K hK => ?_
  simp -implicitDefEqProofs only [go_sem, ↓reduceIte, Nat.reduceAdd, Nat.reduceMul, Nat.reduceEqDiff, Nat.reduceLeDiff, reduceCtorEq, Int.reduceToNat]
  refine hK _ ?_; clear hK K
  refine AW.rT (by rfl) fun K hK => ?_
  simp -implicitDefEqProofs only [go_sem, ↓reduceIte, Nat.reduceAdd, Nat.reduceMul, Nat.reduceEqDiff, Nat.reduceLeDiff, reduceCtorEq, Int.reduceToNat]
  refine hK _ ?_; clear hK K
  refine AW.rT (by rfl) fun K hK => ?_
  simp -implicitDefEqProofs only [go_sem, ↓reduceIte, Nat.reduceAdd, Nat.reduceMul, Nat.reduceEqDiff, Nat.reduceLeDiff, reduceCtorEq, Int.reduceToNat]
  refine hK _ ?_; clear hK K
  refine AW.rT (by rfl) fun K hK => ?_
  simp -implicitDefEqProofs only [go_sem, ↓reduceIte, Nat.reduceAdd, Nat.reduceMul, Nat.reduceEqDiff, Nat.reduceLeDiff, reduceCtorEq, Int.reduceToNat]
  refine hK _ ?_; clear hK K
  refine AW.ghost (s' := wk0) ?_ ?_
  · simp only [wk0]
    refine Ghost.ent (fun l => if l = 0 then 15 else if l = 1 then 23 else if l = 2 then 13 else if l = 3 then 11 else if l = 4 then 21 else 19) ?_ ?_ ?_ <;> simp -implicitDefEqProofs only [go_sem, ↓reduceIte, Nat.reduceAdd, Nat.reduceMul, Nat.reduceEqDiff, Nat.reduceLeDiff, reduceCtorEq, Int.reduceToNat, wF, wF2, encFd, liftE_cons, liftE_nil, List.map_cons, List.map_nil, List.forall_mem_cons, List.not_mem_nil, false_implies, implies_true, and_self, map_renL_lift, labsIn_lift, List.all_append, List.all_cons, List.all_nil, List.map_append, Nat.reduceLT, labsInL, AV.labsIn]
    all_goals first | rfl | decide | skip
  refine AW.ghost (s' := wk1) (Ghost.trans (Ghost.freeze (lb := 3) (ps := [wF].map encFd) rfl (unlift_liftE _)) ?_) ?_
  · simp only [wk0, wk1]
    refine Ghost.sub ?_ ?_ <;> simp -implicitDefEqProofs only [go_sem, ↓reduceIte, Nat.reduceAdd, Nat.reduceMul, Nat.reduceEqDiff, Nat.reduceLeDiff, reduceCtorEq, Int.reduceToNat, thaw, thaw1, Option.map_some, List.map_cons, List.map_nil, wM1, wF, wF2, encFd, liftE_cons, liftE_nil, List.forall_mem_cons, List.not_mem_nil, false_implies, implies_true, and_self, labsIn_lift, List.all_append, List.all_cons, List.all_nil, Nat.reduceLT, labsInL, AV.labsIn]
    all_goals first | rfl | decide | skip
  refine AW.ghost (s' := wk2) (Ghost.trans (Ghost.freeze (lb := 2) (ps := [encMs ⟨[109], [wF], []⟩]) rfl (by rfl)) ?_) ?_
  · simp only [wk1, wk2]
    refine Ghost.sub ?_ ?_ <;> simp -implicitDefEqProofs only [go_sem, ↓reduceIte, Nat.reduceAdd, Nat.reduceMul, Nat.reduceEqDiff, Nat.reduceLeDiff, reduceCtorEq, Int.reduceToNat, thaw, thaw1, Option.map_some, List.map_cons, List.map_nil, wR1, wF, wF2, encFd, encMs, liftE_cons, liftE_nil, List.forall_mem_cons, List.not_mem_nil, false_implies, implies_true, and_self, labsIn_lift, List.all_append, List.all_cons, List.all_nil, Nat.reduceLT, labsInL, AV.labsIn]
    all_goals first | rfl | decide | skip
  refine AW.ghost (s' := wk3) (Ghost.trans (Ghost.freeze (lb := 5) (ps := [wF, wF2].map encFd) rfl (unlift_liftE _)) ?_) ?_
  · simp only [wk2, wk3]
    refine Ghost.sub ?_ ?_ <;> simp -implicitDefEqProofs only [go_sem, ↓reduceIte, Nat.reduceAdd, Nat.reduceMul, Nat.reduceEqDiff, Nat.reduceLeDiff, reduceCtorEq, Int.reduceToNat, thaw, thaw1, Option.map_some, List.map_cons, List.map_nil, wR1, wM2, wF, wF2, encFd, encMs, liftE_cons, liftE_nil, List.forall_mem_cons, List.not_mem_nil, false_implies, implies_true, and_self, labsIn_lift, List.all_append, List.all_cons, List.all_nil, Nat.reduceLT, labsInL, AV.labsIn]
    all_goals first | rfl | decide | skip
  refine AW.ghost (s' := wk4) (Ghost.trans (Ghost.freeze (lb := 4) (ps := [encMs ⟨[109], [wF, wF2], []⟩]) rfl (by rfl)) ?_) ?_
  · simp only [wk3, wk4]
    refine Ghost.sub ?_ ?_ <;> simp -implicitDefEqProofs only [go_sem, ↓reduceIte, Nat.reduceAdd, Nat.reduceMul, Nat.reduceEqDiff, Nat.reduceLeDiff, reduceCtorEq, Int.reduceToNat, thaw, thaw1, Option.map_some, List.map_cons, List.map_nil, wR1, wR2, wF, wF2, encFd, encMs, liftE_cons, liftE_nil, List.forall_mem_cons, List.not_mem_nil, false_implies, implies_true, and_self, labsIn_lift, List.all_append, List.all_cons, List.all_nil, Nat.reduceLT, labsInL, AV.labsIn]
    all_goals first | rfl | decide | skip
  simp only [wk4, wR1, wR2]
  have C1 := check_Check wS1 wS1_lens
  have C2 := check_Check wS2 wS2_lens
  rw [wS1_ok] at C1
  rw [wS2_ok] at C2
  simp only [encSc, wS1, wS2, List.map_cons, List.map_nil] at C1 C2
  refine AW.rT (by rfl) fun K hK => ?_
  simp -implicitDefEqProofs only [go_sem, ↓reduceIte, Nat.reduceAdd, Nat.reduceMul, Nat.reduceEqDiff, Nat.reduceLeDiff, reduceCtorEq, Int.reduceToNat]
  refine ⟨.pure _, C1, ?_⟩
  try simp -implicitDefEqProofs only [go_sem, ↓reduceIte, Nat.reduceAdd, Nat.reduceMul, Nat.reduceEqDiff, Nat.reduceLeDiff, reduceCtorEq, Int.reduceToNat]
  refine ⟨.pure _, C2, ?_⟩
  try simp -implicitDefEqProofs only [go_sem, ↓reduceIte, Nat.reduceAdd, Nat.reduceMul, Nat.reduceEqDiff, Nat.reduceLeDiff, reduceCtorEq, Int.reduceToNat]
  refine hK _ ?_; clear hK K
  refine AW.ret ?_
  simp -implicitDefEqProofs only [go_sem, ↓reduceIte, Nat.reduceAdd, Nat.reduceMul, Nat.reduceEqDiff, Nat.reduceLeDiff, reduceCtorEq, Int.reduceToNat]
end Go.Aw
