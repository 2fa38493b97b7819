/- The program's encode: kept, raw, bytes, raws. -/
import Derived.Test.YtmeplhcfjihafaaAwE0
import Derived.Test.YtmeplhcfjihafaaAwG3
namespace Go.Aw
open Go.Proofs
set_option linter.unusedSimpArgs false
set_option linter.unusedVariables false
theorem clone_RawsO (l : List Raw) (hl : l.length ≤ 1000000) : OFn Try.prog 89 [.slice (l.map encRaw)] 4 (l.map encRaw) := by
  refine OFn.of Try.func89 rfl (by decide) Try.ntmps89 Try.results89 (Nat.le_of_ble_eq_true rfl) ?_
  simp only [argsT]
  have g0 := raws_len l
  have g1 := raws_one l
  have g2 : l = [] ∨ ∃ x r, l = x :: r := by cases l <;> simp
  refine AW.rT (by rfl) fun K hK => ?_
  simp -implicitDefEqProofs only [go_sem, ↓reduceIte, Nat.reduceAdd, Nat.reduceMul, Nat.reduceEqDiff, Nat.reduceLeDiff, reduceCtorEq, Int.reduceToNat]
  refine hK _ ?_; clear hK K
  refine AW.seq ?_
  rcases g2 with rfl | ⟨x, r, rfl⟩
  · refine AW.nilSplit (t := 0) rfl fun a n => ?_
    refine AW.rT (by rfl) fun K hK => ?_
    simp -implicitDefEqProofs only [go_sem, ↓reduceIte, Nat.reduceAdd, Nat.reduceMul, Nat.reduceEqDiff, Nat.reduceLeDiff, reduceCtorEq, Int.reduceToNat]
    refine ⟨_, eqP_nil Try.underlying22 a n, ?_⟩
    simp only [boolE]
    try simp -implicitDefEqProofs only [go_sem, ↓reduceIte, Nat.reduceAdd, Nat.reduceMul, Nat.reduceEqDiff, Nat.reduceLeDiff, reduceCtorEq, Int.reduceToNat]
    refine hK _ ?_; clear hK K
    cases a with
    | none =>
      refine AW.cond _ (by simp -implicitDefEqProofs only [go_sem, ↓reduceIte, Nat.reduceAdd, Nat.reduceMul, Nat.reduceEqDiff, Nat.reduceLeDiff, reduceCtorEq, Int.reduceToNat]; rfl) (fun hc => ?_) (fun hc => ?_)
      · refine AW.rT (by rfl) fun K hK => ?_
        simp -implicitDefEqProofs only [go_sem, ↓reduceIte, Nat.reduceAdd, Nat.reduceMul, Nat.reduceEqDiff, Nat.reduceLeDiff, reduceCtorEq, Int.reduceToNat]
        refine hK _ ?_; clear hK K
        refine AW.ghost (Ghost.nil (t := 2) (sz := 4) rfl) ?_
        exact AW.ret ⟨2, 4, rfl, by rfl, by rfl⟩
      · simp at hc
    | some a =>
      refine AW.cond _ (by simp -implicitDefEqProofs only [go_sem, ↓reduceIte, Nat.reduceAdd, Nat.reduceMul, Nat.reduceEqDiff, Nat.reduceLeDiff, reduceCtorEq, Int.reduceToNat]; rfl) (fun hc => ?_) (fun hc => ?_)
      · simp at hc
      refine AW.skip ?_
      simp only [andThen, inBlk, reduceCtorEq, ↓reduceIte, if_t, if_f]
      refine AW.ghost (s' := ⟨ofL [(0, .p (.slice [])), (2, .ex [])], ofH [], 0⟩) (Ghost.trans (Ghost.unNil (t := 0) (n := n) (a := some a) rfl) ?_) ?_
      · refine Ghost.sub ?_ ?_ <;> simp -implicitDefEqProofs only [go_sem, ↓reduceIte, Nat.reduceAdd, Nat.reduceMul, Nat.reduceEqDiff, Nat.reduceLeDiff, reduceCtorEq, Int.reduceToNat,  List.forall_mem_cons, List.not_mem_nil, false_implies, implies_true, and_self, labsIn_lift, List.all_append, List.all_cons, List.all_nil, Nat.reduceLT, labsInL, AV.labsIn]
      refine AW.rT (by rfl) fun K hK => ?_
      simp -implicitDefEqProofs only [go_sem, ↓reduceIte, Nat.reduceAdd, Nat.reduceMul, Nat.reduceEqDiff, Nat.reduceLeDiff, reduceCtorEq, Int.reduceToNat]
      refine ⟨⟨by simp, by simp, by simp⟩, by decide, ?_⟩
      refine hK _ ?_; clear hK K
      refine AW.ret ⟨2, _, rfl, by simp -implicitDefEqProofs only [go_sem, ↓reduceIte, Nat.reduceAdd, Nat.reduceMul, Nat.reduceEqDiff, Nat.reduceLeDiff, reduceCtorEq, Int.reduceToNat]; rfl, ?_⟩
      simp -implicitDefEqProofs only [go_sem, ↓reduceIte, Nat.reduceAdd, Nat.reduceMul, Nat.reduceEqDiff, Nat.reduceLeDiff, reduceCtorEq, Int.reduceToNat]
  · refine AW.rT (by rfl) fun K hK => ?_
    simp -implicitDefEqProofs only [go_sem, ↓reduceIte, Nat.reduceAdd, Nat.reduceMul, Nat.reduceEqDiff, Nat.reduceLeDiff, reduceCtorEq, Int.reduceToNat]
    refine ⟨_, eqP_some Try.underlying22 _ _, ?_⟩
    try simp -implicitDefEqProofs only [go_sem, ↓reduceIte, Nat.reduceAdd, Nat.reduceMul, Nat.reduceEqDiff, Nat.reduceLeDiff, reduceCtorEq, Int.reduceToNat]
    refine hK _ ?_; clear hK K
    refine AW.cond _ (by simp -implicitDefEqProofs only [go_sem, ↓reduceIte, Nat.reduceAdd, Nat.reduceMul, Nat.reduceEqDiff, Nat.reduceLeDiff, reduceCtorEq, Int.reduceToNat]; rfl) (fun hc => ?_) (fun hc => ?_)
    · simp at hc
    refine AW.skip ?_
    simp only [andThen, inBlk, reduceCtorEq, ↓reduceIte, if_t, if_f]
    refine AW.ghost (s' := ⟨ofL [(0, .p (.slice ((x :: r).map encRaw))), (2, .ex [])], ofH [], 0⟩) ?_ ?_
    · refine Ghost.sub ?_ ?_ <;> simp -implicitDefEqProofs only [go_sem, ↓reduceIte, Nat.reduceAdd, Nat.reduceMul, Nat.reduceEqDiff, Nat.reduceLeDiff, reduceCtorEq, Int.reduceToNat,  List.forall_mem_cons, List.not_mem_nil, false_implies, implies_true, and_self, labsIn_lift, List.all_append, List.all_cons, List.all_nil, Nat.reduceLT, labsInL, AV.labsIn]
    refine AW.rT (by rfl) fun K hK => ?_
    simp -implicitDefEqProofs only [go_sem, ↓reduceIte, Nat.reduceAdd, Nat.reduceMul, Nat.reduceEqDiff, Nat.reduceLeDiff, reduceCtorEq, Int.reduceToNat]
    refine ⟨⟨g0, g1, by simp⟩, by simp [liftE_length]; simp at hl; omega, ?_⟩
    refine hK _ ?_; clear hK K
    refine AW.ret ⟨2, _, rfl, by simp -implicitDefEqProofs only [go_sem, ↓reduceIte, Nat.reduceAdd, Nat.reduceMul, Nat.reduceEqDiff, Nat.reduceLeDiff, reduceCtorEq, Int.reduceToNat]; rfl, ?_⟩
    simp -implicitDefEqProofs only [go_sem, ↓reduceIte, Nat.reduceAdd, Nat.reduceMul, Nat.reduceEqDiff, Nat.reduceLeDiff, reduceCtorEq, Int.reduceToNat]
theorem node_RestO (t : Tr) (hl : t.rest.length ≤ 1000000) : OFn Try.prog 61 [.box (ndV t) 0] 4 (t.rest.map encRaw) := by
  refine OFn.of Try.func61 rfl (by decide) Try.ntmps61 Try.results61 (Nat.le_of_ble_eq_true rfl) ?_
  simp only [argsT, ndV]
  refine AW.rT (by rfl) fun K hK => ?_
  simp -implicitDefEqProofs only [go_sem, ↓reduceIte, Nat.reduceAdd, Nat.reduceMul, Nat.reduceEqDiff, Nat.reduceLeDiff, reduceCtorEq, Int.reduceToNat]
  refine hK _ ?_; clear hK K
  refine AW.rT (by rfl) fun K hK => ?_
  simp -implicitDefEqProofs only [go_sem, ↓reduceIte, Nat.reduceAdd, Nat.reduceMul, Nat.reduceEqDiff, Nat.reduceLeDiff, reduceCtorEq, Int.reduceToNat]
  refine ⟨.own _ _, clone_RawsO t.rest hl, ?_⟩
  try simp -implicitDefEqProofs only [go_sem, ↓reduceIte, Nat.reduceAdd, Nat.reduceMul, Nat.reduceEqDiff, Nat.reduceLeDiff, reduceCtorEq, Int.reduceToNat]
  refine hK _ ?_; clear hK K
  refine AW.ret ⟨2, _, rfl, by simp -implicitDefEqProofs only [go_sem, ↓reduceIte, Nat.reduceAdd, Nat.reduceMul, Nat.reduceEqDiff, Nat.reduceLeDiff, reduceCtorEq, Int.reduceToNat]; rfl, ?_⟩
  simp -implicitDefEqProofs only [go_sem, ↓reduceIte, Nat.reduceAdd, Nat.reduceMul, Nat.reduceEqDiff, Nat.reduceLeDiff, reduceCtorEq, Int.reduceToNat]
def keptI : In0 → PV
  | .none => .cst .nilIface
  | .num n => .iface 3 (.int .i64 n)
  | .str s => .iface 9 (.str s)
  | .node cs => .iface 66 (.box cs 0)
theorem enc_kept (x : In0) (hx : x ≠ .none) : PFn Try.prog 101 [.agg [encIn x]] (keptI x) := by
  have A1 := value_AsNum x
  have A2 := value_AsStr x
  refine PFn.of Try.func101 rfl (by decide) Try.ntmps101 Try.results101 (Nat.le_of_ble_eq_true rfl) ?_
  simp only [argsT]
  cases x with
  | none => exact absurd rfl hx
  | num n =>
    simp only [encIn, asNum] at A1 ⊢
    refine AW.rT (by rfl) fun K hK => ?_
    simp -implicitDefEqProofs only [go_sem, ↓reduceIte, Nat.reduceAdd, Nat.reduceMul, Nat.reduceEqDiff, Nat.reduceLeDiff, reduceCtorEq, Int.reduceToNat]
    refine hK _ ?_; clear hK K
    refine AW.seq ?_
    refine AW.rT (by rfl) fun K hK => ?_
    simp -implicitDefEqProofs only [go_sem, ↓reduceIte, Nat.reduceAdd, Nat.reduceMul, Nat.reduceEqDiff, Nat.reduceLeDiff, reduceCtorEq, Int.reduceToNat]
    refine ⟨.pure _, A1, ?_⟩
    try simp -implicitDefEqProofs only [go_sem, ↓reduceIte, Nat.reduceAdd, Nat.reduceMul, Nat.reduceEqDiff, Nat.reduceLeDiff, reduceCtorEq, Int.reduceToNat]
    refine hK _ ?_; clear hK K
    refine AW.rT (by rfl) fun K hK => ?_
    simp -implicitDefEqProofs only [go_sem, ↓reduceIte, Nat.reduceAdd, Nat.reduceMul, Nat.reduceEqDiff, Nat.reduceLeDiff, reduceCtorEq, Int.reduceToNat]
    refine hK _ ?_; clear hK K
    refine AW.cond _ (by simp -implicitDefEqProofs only [go_sem, ↓reduceIte, Nat.reduceAdd, Nat.reduceMul, Nat.reduceEqDiff, Nat.reduceLeDiff, reduceCtorEq, Int.reduceToNat]; rfl) (fun hc => ?_) (fun hc => ?_)
    rotate_left
    · simp at hc
    refine AW.rT (by rfl) fun K hK => ?_
    simp -implicitDefEqProofs only [go_sem, ↓reduceIte, Nat.reduceAdd, Nat.reduceMul, Nat.reduceEqDiff, Nat.reduceLeDiff, reduceCtorEq, Int.reduceToNat]
    refine hK _ ?_; clear hK K
    refine AW.ret ?_
    simp -implicitDefEqProofs only [go_sem, ↓reduceIte, Nat.reduceAdd, Nat.reduceMul, Nat.reduceEqDiff, Nat.reduceLeDiff, reduceCtorEq, Int.reduceToNat, keptI]
  | str s =>
    simp only [encIn, asNum, asStr] at A1 A2 ⊢
    refine AW.rT (by rfl) fun K hK => ?_
    simp -implicitDefEqProofs only [go_sem, ↓reduceIte, Nat.reduceAdd, Nat.reduceMul, Nat.reduceEqDiff, Nat.reduceLeDiff, reduceCtorEq, Int.reduceToNat]
    refine hK _ ?_; clear hK K
    refine AW.seq ?_
    refine AW.rT (by rfl) fun K hK => ?_
    simp -implicitDefEqProofs only [go_sem, ↓reduceIte, Nat.reduceAdd, Nat.reduceMul, Nat.reduceEqDiff, Nat.reduceLeDiff, reduceCtorEq, Int.reduceToNat]
    refine ⟨.pure _, A1, ?_⟩
    try simp -implicitDefEqProofs only [go_sem, ↓reduceIte, Nat.reduceAdd, Nat.reduceMul, Nat.reduceEqDiff, Nat.reduceLeDiff, reduceCtorEq, Int.reduceToNat]
    refine hK _ ?_; clear hK K
    refine AW.rT (by rfl) fun K hK => ?_
    simp -implicitDefEqProofs only [go_sem, ↓reduceIte, Nat.reduceAdd, Nat.reduceMul, Nat.reduceEqDiff, Nat.reduceLeDiff, reduceCtorEq, Int.reduceToNat]
    refine hK _ ?_; clear hK K
    refine AW.cond _ (by simp -implicitDefEqProofs only [go_sem, ↓reduceIte, Nat.reduceAdd, Nat.reduceMul, Nat.reduceEqDiff, Nat.reduceLeDiff, reduceCtorEq, Int.reduceToNat]; rfl) (fun hc => ?_) (fun hc => ?_)
    · simp at hc
    refine AW.skip ?_
    simp only [andThen, inBlk, reduceCtorEq, ↓reduceIte, if_t, if_f]
    refine AW.seq ?_
    refine AW.rT (by rfl) fun K hK => ?_
    simp -implicitDefEqProofs only [go_sem, ↓reduceIte, Nat.reduceAdd, Nat.reduceMul, Nat.reduceEqDiff, Nat.reduceLeDiff, reduceCtorEq, Int.reduceToNat]
    refine ⟨.pure _, A2, ?_⟩
    try simp -implicitDefEqProofs only [go_sem, ↓reduceIte, Nat.reduceAdd, Nat.reduceMul, Nat.reduceEqDiff, Nat.reduceLeDiff, reduceCtorEq, Int.reduceToNat]
    refine hK _ ?_; clear hK K
    refine AW.rT (by rfl) fun K hK => ?_
    simp -implicitDefEqProofs only [go_sem, ↓reduceIte, Nat.reduceAdd, Nat.reduceMul, Nat.reduceEqDiff, Nat.reduceLeDiff, reduceCtorEq, Int.reduceToNat]
    refine hK _ ?_; clear hK K
    refine AW.cond _ (by simp -implicitDefEqProofs only [go_sem, ↓reduceIte, Nat.reduceAdd, Nat.reduceMul, Nat.reduceEqDiff, Nat.reduceLeDiff, reduceCtorEq, Int.reduceToNat]; rfl) (fun hc => ?_) (fun hc => ?_)
    rotate_left
    · simp at hc
    refine AW.rT (by rfl) fun K hK => ?_
    simp -implicitDefEqProofs only [go_sem, ↓reduceIte, Nat.reduceAdd, Nat.reduceMul, Nat.reduceEqDiff, Nat.reduceLeDiff, reduceCtorEq, Int.reduceToNat]
    refine hK _ ?_; clear hK K
    refine AW.ret ?_
    simp -implicitDefEqProofs only [go_sem, ↓reduceIte, Nat.reduceAdd, Nat.reduceMul, Nat.reduceEqDiff, Nat.reduceLeDiff, reduceCtorEq, Int.reduceToNat, keptI]
  | node cs =>
    have A3 := value_MustNode cs
    simp only [encIn, asNum, asStr] at A1 A2 A3 ⊢
    refine AW.rT (by rfl) fun K hK => ?_
    simp -implicitDefEqProofs only [go_sem, ↓reduceIte, Nat.reduceAdd, Nat.reduceMul, Nat.reduceEqDiff, Nat.reduceLeDiff, reduceCtorEq, Int.reduceToNat]
    refine hK _ ?_; clear hK K
    refine AW.seq ?_
    refine AW.rT (by rfl) fun K hK => ?_
    simp -implicitDefEqProofs only [go_sem, ↓reduceIte, Nat.reduceAdd, Nat.reduceMul, Nat.reduceEqDiff, Nat.reduceLeDiff, reduceCtorEq, Int.reduceToNat]
    refine ⟨.pure _, A1, ?_⟩
    try simp -implicitDefEqProofs only [go_sem, ↓reduceIte, Nat.reduceAdd, Nat.reduceMul, Nat.reduceEqDiff, Nat.reduceLeDiff, reduceCtorEq, Int.reduceToNat]
    refine hK _ ?_; clear hK K
    refine AW.rT (by rfl) fun K hK => ?_
    simp -implicitDefEqProofs only [go_sem, ↓reduceIte, Nat.reduceAdd, Nat.reduceMul, Nat.reduceEqDiff, Nat.reduceLeDiff, reduceCtorEq, Int.reduceToNat]
    refine hK _ ?_; clear hK K
    refine AW.cond _ (by simp -implicitDefEqProofs only [go_sem, ↓reduceIte, Nat.reduceAdd, Nat.reduceMul, Nat.reduceEqDiff, Nat.reduceLeDiff, reduceCtorEq, Int.reduceToNat]; rfl) (fun hc => ?_) (fun hc => ?_)
    · simp at hc
    refine AW.skip ?_
    simp only [andThen, inBlk, reduceCtorEq, ↓reduceIte, if_t, if_f]
    refine AW.seq ?_
    refine AW.rT (by rfl) fun K hK => ?_
    simp -implicitDefEqProofs only [go_sem, ↓reduceIte, Nat.reduceAdd, Nat.reduceMul, Nat.reduceEqDiff, Nat.reduceLeDiff, reduceCtorEq, Int.reduceToNat]
    refine ⟨.pure _, A2, ?_⟩
    try simp -implicitDefEqProofs only [go_sem, ↓reduceIte, Nat.reduceAdd, Nat.reduceMul, Nat.reduceEqDiff, Nat.reduceLeDiff, reduceCtorEq, Int.reduceToNat]
    refine hK _ ?_; clear hK K
    refine AW.rT (by rfl) fun K hK => ?_
    simp -implicitDefEqProofs only [go_sem, ↓reduceIte, Nat.reduceAdd, Nat.reduceMul, Nat.reduceEqDiff, Nat.reduceLeDiff, reduceCtorEq, Int.reduceToNat]
    refine hK _ ?_; clear hK K
    refine AW.cond _ (by simp -implicitDefEqProofs only [go_sem, ↓reduceIte, Nat.reduceAdd, Nat.reduceMul, Nat.reduceEqDiff, Nat.reduceLeDiff, reduceCtorEq, Int.reduceToNat]; rfl) (fun hc => ?_) (fun hc => ?_)
    · simp at hc
    refine AW.skip ?_
    simp only [andThen, inBlk, reduceCtorEq, ↓reduceIte, if_t, if_f]
    refine AW.rT (by rfl) fun K hK => ?_
    simp -implicitDefEqProofs only [go_sem, ↓reduceIte, Nat.reduceAdd, Nat.reduceMul, Nat.reduceEqDiff, Nat.reduceLeDiff, reduceCtorEq, Int.reduceToNat]
    refine ⟨.pure _, A3, ?_⟩
    try simp -implicitDefEqProofs only [go_sem, ↓reduceIte, Nat.reduceAdd, Nat.reduceMul, Nat.reduceEqDiff, Nat.reduceLeDiff, reduceCtorEq, Int.reduceToNat]
    refine hK _ ?_; clear hK K
    refine AW.ret ?_
    simp -implicitDefEqProofs only [go_sem, ↓reduceIte, Nat.reduceAdd, Nat.reduceMul, Nat.reduceEqDiff, Nat.reduceLeDiff, reduceCtorEq, Int.reduceToNat, keptI]
theorem enc_bytes (t : Tr) (hl : (rawsT t).1.length ≤ 1000000) (R : PFn Try.prog 91 [.box (ndV t) 0] (.tuple [.slice ((rawsT t).1.map encRaw), .int .i64 (rawsT t).2])) :
    PFn Try.prog 102 [.box (ndV t) 0] (.tuple [.slice ((bytesT t).1.map encB), .int .i64 (bytesT t).2]) := by
  refine PFn.of Try.func102 rfl (by decide) Try.ntmps102 Try.results102 (Nat.le_of_ble_eq_true rfl) ?_
  simp only [argsT]
  refine AW.rT (by rfl) fun K hK => ?_
  simp -implicitDefEqProofs only [go_sem, ↓reduceIte, Nat.reduceAdd, Nat.reduceMul, Nat.reduceEqDiff, Nat.reduceLeDiff, reduceCtorEq, Int.reduceToNat]
  refine hK _ ?_; clear hK K
  refine AW.rT (by rfl) fun K hK => ?_
  simp -implicitDefEqProofs only [go_sem, ↓reduceIte, Nat.reduceAdd, Nat.reduceMul, Nat.reduceEqDiff, Nat.reduceLeDiff, reduceCtorEq, Int.reduceToNat]
  refine ⟨.pure _, R, ?_⟩
  try simp -implicitDefEqProofs only [go_sem, ↓reduceIte, Nat.reduceAdd, Nat.reduceMul, Nat.reduceEqDiff, Nat.reduceLeDiff, reduceCtorEq, Int.reduceToNat]
  refine hK _ ?_; clear hK K
  refine AW.seq ?_
  by_cases he : (rawsT t).2 = 0
  · have b : ((rawsT t).2 != 0) = false := by simp [he]
    have eb : bytesT t = wirePut (rawsT t).1 := by rw [bytesT, if_neg (by simpa using he)]
    refine AW.rT (by rfl) fun K hK => ?_
    simp -implicitDefEqProofs only [go_sem, ↓reduceIte, Nat.reduceAdd, Nat.reduceMul, Nat.reduceEqDiff, Nat.reduceLeDiff, reduceCtorEq, Int.reduceToNat, b]
    refine hK _ ?_; clear hK K
    refine AW.cond _ (by simp -implicitDefEqProofs only [go_sem, ↓reduceIte, Nat.reduceAdd, Nat.reduceMul, Nat.reduceEqDiff, Nat.reduceLeDiff, reduceCtorEq, Int.reduceToNat]; rfl) (fun hc => ?_) (fun hc => ?_)
    · simp at hc
    refine AW.skip ?_
    simp only [andThen, inBlk, reduceCtorEq, ↓reduceIte, if_t, if_f]
    refine AW.rT (by rfl) fun K hK => ?_
    simp -implicitDefEqProofs only [go_sem, ↓reduceIte, Nat.reduceAdd, Nat.reduceMul, Nat.reduceEqDiff, Nat.reduceLeDiff, reduceCtorEq, Int.reduceToNat]
    refine ⟨.pure _, wire_PutAll (rawsT t).1 hl, ?_⟩
    try simp -implicitDefEqProofs only [go_sem, ↓reduceIte, Nat.reduceAdd, Nat.reduceMul, Nat.reduceEqDiff, Nat.reduceLeDiff, reduceCtorEq, Int.reduceToNat]
    refine hK _ ?_; clear hK K
    refine AW.ret ?_
    simp -implicitDefEqProofs only [go_sem, ↓reduceIte, Nat.reduceAdd, Nat.reduceMul, Nat.reduceEqDiff, Nat.reduceLeDiff, reduceCtorEq, Int.reduceToNat, eb]
  · have b : ((rawsT t).2 != 0) = true := by simp [he]
    have eb : bytesT t = ([], (rawsT t).2) := by rw [bytesT, if_pos he]
    refine AW.rT (by rfl) fun K hK => ?_
    simp -implicitDefEqProofs only [go_sem, ↓reduceIte, Nat.reduceAdd, Nat.reduceMul, Nat.reduceEqDiff, Nat.reduceLeDiff, reduceCtorEq, Int.reduceToNat, b]
    refine hK _ ?_; clear hK K
    refine AW.cond _ (by simp -implicitDefEqProofs only [go_sem, ↓reduceIte, Nat.reduceAdd, Nat.reduceMul, Nat.reduceEqDiff, Nat.reduceLeDiff, reduceCtorEq, Int.reduceToNat]; rfl) (fun hc => ?_) (fun hc => ?_)
    rotate_left
    · simp at hc
    refine AW.rT (by rfl) fun K hK => ?_
    simp -implicitDefEqProofs only [go_sem, ↓reduceIte, Nat.reduceAdd, Nat.reduceMul, Nat.reduceEqDiff, Nat.reduceLeDiff, reduceCtorEq, Int.reduceToNat]
    refine hK _ ?_; clear hK K
    refine AW.ret ?_
    simp -implicitDefEqProofs only [go_sem, ↓reduceIte, Nat.reduceAdd, Nat.reduceMul, Nat.reduceEqDiff, Nat.reduceLeDiff, reduceCtorEq, Int.reduceToNat, eb]
set_option maxRecDepth 100000 in
set_option maxHeartbeats 1000000 in
theorem enc_raw (g : Int) (t : Tr) (hr : rightT t = true) (B : t.kind = 3 → PFn Try.prog 102 [.box (ndV t) 0] (.tuple [.slice ((bytesT t).1.map encB), .int .i64 (bytesT t).2])) :
    PFn Try.prog 100 [.int .i64 g, .agg [encV t]] (.tuple [.agg (encRaw (fldR g t).1), .int .i64 (fldR g t).2]) := by
  have ei := encIn_inV t
  have eV := encV_eq t
  have eo := encV_one t
  have fm := fldR_mk g t
  refine PFn.of Try.func100 rfl (by decide) Try.ntmps100 Try.results100 (Nat.le_of_ble_eq_true rfl) ?_
  simp only [argsT]
  refine AW.rT (by rfl) fun K hK => ?_
  simp -implicitDefEqProofs only [go_sem, ↓reduceIte, Nat.reduceAdd, Nat.reduceMul, Nat.reduceEqDiff, Nat.reduceLeDiff, reduceCtorEq, Int.reduceToNat]
  refine ⟨eo, ?_⟩
  refine hK _ ?_; clear hK K
  refine AW.rT (by rfl) fun K hK => ?_
  simp -implicitDefEqProofs only [go_sem, ↓reduceIte, Nat.reduceAdd, Nat.reduceMul, Nat.reduceEqDiff, Nat.reduceLeDiff, reduceCtorEq, Int.reduceToNat]
  refine hK _ ?_; clear hK K
  refine AW.seq ?_
  rcases right_kinds hr with ⟨hk, ht⟩ | ⟨hk, ht⟩ | ⟨hk, hn, hs, hre, hrs⟩
  · rw [if_pos hk] at eV fm
    have K1 := enc_kept (.num t.n) (by simp)
    simp only [encIn, keptI] at K1
    rw [eV]
    refine AW.rT (by rfl) fun K hK => ?_
    simp -implicitDefEqProofs only [go_sem, ↓reduceIte, Nat.reduceAdd, Nat.reduceMul, Nat.reduceEqDiff, Nat.reduceLeDiff, reduceCtorEq, Int.reduceToNat]
    refine ⟨.pure _, K1, ?_⟩
    try simp -implicitDefEqProofs only [go_sem, ↓reduceIte, Nat.reduceAdd, Nat.reduceMul, Nat.reduceEqDiff, Nat.reduceLeDiff, reduceCtorEq, Int.reduceToNat]
    refine hK _ ?_; clear hK K
    refine AW.block ?_
    refine AW.rT (by rfl) fun K hK => ?_
    simp -implicitDefEqProofs only [go_sem, ↓reduceIte, Nat.reduceAdd, Nat.reduceMul, Nat.reduceEqDiff, Nat.reduceLeDiff, reduceCtorEq, Int.reduceToNat]
    refine hK _ ?_; clear hK K
    refine AW.cond _ (by simp -implicitDefEqProofs only [go_sem, ↓reduceIte, Nat.reduceAdd, Nat.reduceMul, Nat.reduceEqDiff, Nat.reduceLeDiff, reduceCtorEq, Int.reduceToNat]; rfl) (fun hc => ?_) (fun hc => ?_)
    rotate_left
    · simp at hc
    refine AW.rT (by rfl) fun K hK => ?_
    simp -implicitDefEqProofs only [go_sem, ↓reduceIte, Nat.reduceAdd, Nat.reduceMul, Nat.reduceEqDiff, Nat.reduceLeDiff, reduceCtorEq, Int.reduceToNat]
    refine hK _ ?_; clear hK K
    refine AW.rT (by rfl) fun K hK => ?_
    simp -implicitDefEqProofs only [go_sem, ↓reduceIte, Nat.reduceAdd, Nat.reduceMul, Nat.reduceEqDiff, Nat.reduceLeDiff, reduceCtorEq, Int.reduceToNat]
    refine hK _ ?_; clear hK K
    refine AW.ret ?_
    simp -implicitDefEqProofs only [go_sem, ↓reduceIte, Nat.reduceAdd, Nat.reduceMul, Nat.reduceEqDiff, Nat.reduceLeDiff, reduceCtorEq, Int.reduceToNat, fm, encRaw]
  · rw [if_neg (by omega), if_pos hk] at eV fm
    have K1 := enc_kept (.str t.s) (by simp)
    simp only [encIn, keptI] at K1
    rw [eV]
    refine AW.rT (by rfl) fun K hK => ?_
    simp -implicitDefEqProofs only [go_sem, ↓reduceIte, Nat.reduceAdd, Nat.reduceMul, Nat.reduceEqDiff, Nat.reduceLeDiff, reduceCtorEq, Int.reduceToNat]
    refine ⟨.pure _, K1, ?_⟩
    try simp -implicitDefEqProofs only [go_sem, ↓reduceIte, Nat.reduceAdd, Nat.reduceMul, Nat.reduceEqDiff, Nat.reduceLeDiff, reduceCtorEq, Int.reduceToNat]
    refine hK _ ?_; clear hK K
    refine AW.block ?_
    refine AW.rT (by rfl) fun K hK => ?_
    simp -implicitDefEqProofs only [go_sem, ↓reduceIte, Nat.reduceAdd, Nat.reduceMul, Nat.reduceEqDiff, Nat.reduceLeDiff, reduceCtorEq, Int.reduceToNat]
    refine hK _ ?_; clear hK K
    refine AW.cond _ (by simp -implicitDefEqProofs only [go_sem, ↓reduceIte, Nat.reduceAdd, Nat.reduceMul, Nat.reduceEqDiff, Nat.reduceLeDiff, reduceCtorEq, Int.reduceToNat]; rfl) (fun hc => ?_) (fun hc => ?_)
    · simp at hc
    refine AW.rT (by rfl) fun K hK => ?_
    simp -implicitDefEqProofs only [go_sem, ↓reduceIte, Nat.reduceAdd, Nat.reduceMul, Nat.reduceEqDiff, Nat.reduceLeDiff, reduceCtorEq, Int.reduceToNat]
    refine hK _ ?_; clear hK K
    refine AW.cond _ (by simp -implicitDefEqProofs only [go_sem, ↓reduceIte, Nat.reduceAdd, Nat.reduceMul, Nat.reduceEqDiff, Nat.reduceLeDiff, reduceCtorEq, Int.reduceToNat]; rfl) (fun hc => ?_) (fun hc => ?_)
    rotate_left
    · simp at hc
    refine AW.rT (by rfl) fun K hK => ?_
    simp -implicitDefEqProofs only [go_sem, ↓reduceIte, Nat.reduceAdd, Nat.reduceMul, Nat.reduceEqDiff, Nat.reduceLeDiff, reduceCtorEq, Int.reduceToNat]
    refine hK _ ?_; clear hK K
    refine AW.rE (by rfl) fun K hK => ?_
    simp -implicitDefEqProofs only [go_sem, ↓reduceIte, Nat.reduceAdd, Nat.reduceMul, Nat.reduceEqDiff, Nat.reduceLeDiff, reduceCtorEq, Int.reduceToNat]
    refine hK _ ?_; clear hK K
    simp only [andThen, inBlk, reduceCtorEq, ↓reduceIte, if_t, if_f]
    refine AW.seq ?_
    by_cases hl : 4096 < t.s.length
    · rw [if_pos hl] at fm
      have b : ((t.s.length : Int) > 4096) = True := by simp; omega
      refine AW.rT (by rfl) fun K hK => ?_
      simp -implicitDefEqProofs only [go_sem, ↓reduceIte, Nat.reduceAdd, Nat.reduceMul, Nat.reduceEqDiff, Nat.reduceLeDiff, reduceCtorEq, Int.reduceToNat, b]
      refine hK _ ?_; clear hK K
      refine AW.cond _ (by simp -implicitDefEqProofs only [go_sem, ↓reduceIte, Nat.reduceAdd, Nat.reduceMul, Nat.reduceEqDiff, Nat.reduceLeDiff, reduceCtorEq, Int.reduceToNat]; rfl) (fun hc => ?_) (fun hc => ?_)
      rotate_left
      · simp at hc
      refine AW.rT (by rfl) fun K hK => ?_
      simp -implicitDefEqProofs only [go_sem, ↓reduceIte, Nat.reduceAdd, Nat.reduceMul, Nat.reduceEqDiff, Nat.reduceLeDiff, reduceCtorEq, Int.reduceToNat]
      refine hK _ ?_; clear hK K
      refine AW.ret ?_
      simp -implicitDefEqProofs only [go_sem, ↓reduceIte, Nat.reduceAdd, Nat.reduceMul, Nat.reduceEqDiff, Nat.reduceLeDiff, reduceCtorEq, Int.reduceToNat, fm, encRaw, zeroR]
    · rw [if_neg hl] at fm
      have b : ((t.s.length : Int) > 4096) = False := by simp; omega
      refine AW.rT (by rfl) fun K hK => ?_
      simp -implicitDefEqProofs only [go_sem, ↓reduceIte, Nat.reduceAdd, Nat.reduceMul, Nat.reduceEqDiff, Nat.reduceLeDiff, reduceCtorEq, Int.reduceToNat, b]
      refine hK _ ?_; clear hK K
      refine AW.cond _ (by simp -implicitDefEqProofs only [go_sem, ↓reduceIte, Nat.reduceAdd, Nat.reduceMul, Nat.reduceEqDiff, Nat.reduceLeDiff, reduceCtorEq, Int.reduceToNat]; rfl) (fun hc => ?_) (fun hc => ?_)
      · simp at hc
      refine AW.skip ?_
      simp only [andThen, inBlk, reduceCtorEq, ↓reduceIte, if_t, if_f]
      refine AW.rT (by rfl) fun K hK => ?_
      simp -implicitDefEqProofs only [go_sem, ↓reduceIte, Nat.reduceAdd, Nat.reduceMul, Nat.reduceEqDiff, Nat.reduceLeDiff, reduceCtorEq, Int.reduceToNat]
      refine hK _ ?_; clear hK K
      refine AW.ret ?_
      simp -implicitDefEqProofs only [go_sem, ↓reduceIte, Nat.reduceAdd, Nat.reduceMul, Nat.reduceEqDiff, Nat.reduceLeDiff, reduceCtorEq, Int.reduceToNat, fm, encRaw]
  · rw [if_neg (by omega), if_neg (by omega)] at eV fm
    have K1 := enc_kept (.node (ndV t)) (by simp)
    simp only [encIn, keptI] at K1
    have eV' : encV t = .iface 66 (.box (ndV t) 0) := eV
    rw [eV']
    refine AW.rT (by rfl) fun K hK => ?_
    simp -implicitDefEqProofs only [go_sem, ↓reduceIte, Nat.reduceAdd, Nat.reduceMul, Nat.reduceEqDiff, Nat.reduceLeDiff, reduceCtorEq, Int.reduceToNat]
    refine ⟨.pure _, K1, ?_⟩
    try simp -implicitDefEqProofs only [go_sem, ↓reduceIte, Nat.reduceAdd, Nat.reduceMul, Nat.reduceEqDiff, Nat.reduceLeDiff, reduceCtorEq, Int.reduceToNat]
    refine hK _ ?_; clear hK K
    refine AW.block ?_
    refine AW.rT (by rfl) fun K hK => ?_
    simp -implicitDefEqProofs only [go_sem, ↓reduceIte, Nat.reduceAdd, Nat.reduceMul, Nat.reduceEqDiff, Nat.reduceLeDiff, reduceCtorEq, Int.reduceToNat]
    refine hK _ ?_; clear hK K
    refine AW.cond _ (by simp -implicitDefEqProofs only [go_sem, ↓reduceIte, Nat.reduceAdd, Nat.reduceMul, Nat.reduceEqDiff, Nat.reduceLeDiff, reduceCtorEq, Int.reduceToNat]; rfl) (fun hc => ?_) (fun hc => ?_)
    · simp at hc
    refine AW.rT (by rfl) fun K hK => ?_
    simp -implicitDefEqProofs only [go_sem, ↓reduceIte, Nat.reduceAdd, Nat.reduceMul, Nat.reduceEqDiff, Nat.reduceLeDiff, reduceCtorEq, Int.reduceToNat]
    refine hK _ ?_; clear hK K
    refine AW.cond _ (by simp -implicitDefEqProofs only [go_sem, ↓reduceIte, Nat.reduceAdd, Nat.reduceMul, Nat.reduceEqDiff, Nat.reduceLeDiff, reduceCtorEq, Int.reduceToNat]; rfl) (fun hc => ?_) (fun hc => ?_)
    · simp at hc
    refine AW.rT (by rfl) fun K hK => ?_
    simp -implicitDefEqProofs only [go_sem, ↓reduceIte, Nat.reduceAdd, Nat.reduceMul, Nat.reduceEqDiff, Nat.reduceLeDiff, reduceCtorEq, Int.reduceToNat]
    refine hK _ ?_; clear hK K
    refine AW.cond _ (by simp -implicitDefEqProofs only [go_sem, ↓reduceIte, Nat.reduceAdd, Nat.reduceMul, Nat.reduceEqDiff, Nat.reduceLeDiff, reduceCtorEq, Int.reduceToNat]; rfl) (fun hc => ?_) (fun hc => ?_)
    rotate_left
    · simp at hc
    refine AW.rT (by rfl) fun K hK => ?_
    simp -implicitDefEqProofs only [go_sem, ↓reduceIte, Nat.reduceAdd, Nat.reduceMul, Nat.reduceEqDiff, Nat.reduceLeDiff, reduceCtorEq, Int.reduceToNat]
    refine hK _ ?_; clear hK K
    refine AW.rT (by rfl) fun K hK => ?_
    simp -implicitDefEqProofs only [go_sem, ↓reduceIte, Nat.reduceAdd, Nat.reduceMul, Nat.reduceEqDiff, Nat.reduceLeDiff, reduceCtorEq, Int.reduceToNat]
    refine ⟨.pure _, B hk, ?_⟩
    try simp -implicitDefEqProofs only [go_sem, ↓reduceIte, Nat.reduceAdd, Nat.reduceMul, Nat.reduceEqDiff, Nat.reduceLeDiff, reduceCtorEq, Int.reduceToNat]
    refine hK _ ?_; clear hK K
    refine AW.seq ?_
    by_cases he : (bytesT t).2 = 0
    · have b : ((bytesT t).2 != 0) = false := by simp [he]
      rw [if_neg (by simpa using he)] at fm
      have e1 : bytesOf (liftE ((bytesT t).1.map encB)) = some (bytesT t).1 := bytesOf_lift _
      have bl := bytes_len t
      have b2 : (((bytesT t).1.length : Int) > 4096) = False := by simp; omega
      refine AW.rT (by rfl) fun K hK => ?_
      simp -implicitDefEqProofs only [go_sem, ↓reduceIte, Nat.reduceAdd, Nat.reduceMul, Nat.reduceEqDiff, Nat.reduceLeDiff, reduceCtorEq, Int.reduceToNat, b]
      refine hK _ ?_; clear hK K
      refine AW.cond _ (by simp -implicitDefEqProofs only [go_sem, ↓reduceIte, Nat.reduceAdd, Nat.reduceMul, Nat.reduceEqDiff, Nat.reduceLeDiff, reduceCtorEq, Int.reduceToNat]; rfl) (fun hc => ?_) (fun hc => ?_)
      · simp at hc
      refine AW.skip ?_
      simp only [andThen, inBlk, reduceCtorEq, ↓reduceIte, if_t, if_f]
      refine AW.rE (by rfl) fun K hK => ?_
      simp -implicitDefEqProofs only [go_sem, ↓reduceIte, Nat.reduceAdd, Nat.reduceMul, Nat.reduceEqDiff, Nat.reduceLeDiff, reduceCtorEq, Int.reduceToNat, e1]
      refine hK _ ?_; clear hK K
      simp only [andThen, inBlk, reduceCtorEq, ↓reduceIte, if_t, if_f]
      refine AW.seq ?_
      refine AW.rT (by rfl) fun K hK => ?_
      simp -implicitDefEqProofs only [go_sem, ↓reduceIte, Nat.reduceAdd, Nat.reduceMul, Nat.reduceEqDiff, Nat.reduceLeDiff, reduceCtorEq, Int.reduceToNat, b2]
      refine hK _ ?_; clear hK K
      refine AW.cond _ (by simp -implicitDefEqProofs only [go_sem, ↓reduceIte, Nat.reduceAdd, Nat.reduceMul, Nat.reduceEqDiff, Nat.reduceLeDiff, reduceCtorEq, Int.reduceToNat]; rfl) (fun hc => ?_) (fun hc => ?_)
      · simp at hc
      refine AW.skip ?_
      simp only [andThen, inBlk, reduceCtorEq, ↓reduceIte, if_t, if_f]
      refine AW.rT (by rfl) fun K hK => ?_
      simp -implicitDefEqProofs only [go_sem, ↓reduceIte, Nat.reduceAdd, Nat.reduceMul, Nat.reduceEqDiff, Nat.reduceLeDiff, reduceCtorEq, Int.reduceToNat]
      refine hK _ ?_; clear hK K
      refine AW.ret ?_
      simp -implicitDefEqProofs only [go_sem, ↓reduceIte, Nat.reduceAdd, Nat.reduceMul, Nat.reduceEqDiff, Nat.reduceLeDiff, reduceCtorEq, Int.reduceToNat, fm, encRaw]
    · have b : ((bytesT t).2 != 0) = true := by simp [he]
      rw [if_pos he] at fm
      refine AW.rT (by rfl) fun K hK => ?_
      simp -implicitDefEqProofs only [go_sem, ↓reduceIte, Nat.reduceAdd, Nat.reduceMul, Nat.reduceEqDiff, Nat.reduceLeDiff, reduceCtorEq, Int.reduceToNat, b]
      refine hK _ ?_; clear hK K
      refine AW.cond _ (by simp -implicitDefEqProofs only [go_sem, ↓reduceIte, Nat.reduceAdd, Nat.reduceMul, Nat.reduceEqDiff, Nat.reduceLeDiff, reduceCtorEq, Int.reduceToNat]; rfl) (fun hc => ?_) (fun hc => ?_)
      rotate_left
      · simp at hc
      refine AW.rT (by rfl) fun K hK => ?_
      simp -implicitDefEqProofs only [go_sem, ↓reduceIte, Nat.reduceAdd, Nat.reduceMul, Nat.reduceEqDiff, Nat.reduceLeDiff, reduceCtorEq, Int.reduceToNat]
      refine hK _ ?_; clear hK K
      refine AW.ret ?_
      simp -implicitDefEqProofs only [go_sem, ↓reduceIte, Nat.reduceAdd, Nat.reduceMul, Nat.reduceEqDiff, Nat.reduceLeDiff, reduceCtorEq, Int.reduceToNat, fm, encRaw, zeroR]
end Go.Aw
