/- Values made of trees, and trees of values; trees opened. -/
import Derived.Test.YtmeplhcfjihafaaAwG5
import Derived.Test.YtmeplhcfjihafaaAwG4
import Derived.Test.YtmeplhcfjihafaaAwG1
import Derived.Test.YtmeplhcfjihafaaAwG2
/- Lists in new memory; values made of trees. -/
namespace Go.Aw
open Go.Proofs
set_option linter.unusedSimpArgs false
set_option linter.unusedVariables false
theorem raws_len (l : List Raw) : ∀ e ∈ liftE (l.map encRaw), e.length = 4 := liftE_len fun e he => by
  obtain ⟨x, _, rfl⟩ := List.mem_map.1 he
  rfl
theorem raws_one (l : List Raw) : ∀ e ∈ liftE (l.map encRaw), oneAll e = true := liftE_one fun e he p hp => by
  obtain ⟨x, _, rfl⟩ := List.mem_map.1 he
  simp [encRaw] at hp
  rcases hp with rfl | rfl | rfl | rfl <;> rfl
set_option maxRecDepth 100000 in
set_option maxHeartbeats 4000000 in
theorem clone_Raws (l : List Raw) (hl : l.length ≤ 1000000) : PFn Try.prog 89 [.slice (l.map encRaw)] (.slice (l.map encRaw)) := by
  refine PFn.of Try.func89 rfl (by decide) Try.ntmps89 Try.results89 (Nat.le_of_ble_eq_true rfl) ?_
  simp only [argsT]
  have g0 := raws_len l
  have g1 := raws_one l
  have g2 : l = [] ∨ ∃ x r, l = x :: r := by cases l <;> simp
  refine AW.rT (by rfl) fun K hK => ?_
  simp -implicitDefEqProofs only [go_sem, ↓reduceIte, Nat.reduceAdd, Nat.reduceMul, Nat.reduceEqDiff, Nat.reduceLeDiff, reduceCtorEq, Int.reduceToNat]
  refine hK _ ?_; clear hK K
  refine AW.seq ?_
  rcases g2 with rfl | ⟨x, r, rfl⟩
  · refine AW.nilSplit (t := 0) rfl fun a n => ?_
    refine AW.rT (by rfl) fun K hK => ?_
    simp -implicitDefEqProofs only [go_sem, ↓reduceIte, Nat.reduceAdd, Nat.reduceMul, Nat.reduceEqDiff, Nat.reduceLeDiff, reduceCtorEq, Int.reduceToNat]
    refine ⟨_, eqP_nil Try.underlying22 a n, ?_⟩
    simp only [boolE]
    try simp -implicitDefEqProofs only [go_sem, ↓reduceIte, Nat.reduceAdd, Nat.reduceMul, Nat.reduceEqDiff, Nat.reduceLeDiff, reduceCtorEq, Int.reduceToNat]
    refine hK _ ?_; clear hK K
    cases a with
    | none =>
      refine AW.cond _ (by simp -implicitDefEqProofs only [go_sem, ↓reduceIte, Nat.reduceAdd, Nat.reduceMul, Nat.reduceEqDiff, Nat.reduceLeDiff, reduceCtorEq, Int.reduceToNat]; rfl) (fun hc => ?_) (fun hc => ?_)
      · refine AW.rT (by rfl) fun K hK => ?_
        simp -implicitDefEqProofs only [go_sem, ↓reduceIte, Nat.reduceAdd, Nat.reduceMul, Nat.reduceEqDiff, Nat.reduceLeDiff, reduceCtorEq, Int.reduceToNat]
        refine hK _ ?_; clear hK K
        refine AW.ret ?_
        simp -implicitDefEqProofs only [go_sem, ↓reduceIte, Nat.reduceAdd, Nat.reduceMul, Nat.reduceEqDiff, Nat.reduceLeDiff, reduceCtorEq, Int.reduceToNat]
      · simp at hc
    | some a =>
      refine AW.cond _ (by simp -implicitDefEqProofs only [go_sem, ↓reduceIte, Nat.reduceAdd, Nat.reduceMul, Nat.reduceEqDiff, Nat.reduceLeDiff, reduceCtorEq, Int.reduceToNat]; rfl) (fun hc => ?_) (fun hc => ?_)
      · simp at hc
      refine AW.skip ?_
      simp only [andThen, inBlk, reduceCtorEq, ↓reduceIte, if_t, if_f]
      refine AW.ghost (s' := ⟨ofL [(0, .p (.slice [])), (2, .ex [])], ofH [], 0⟩) (Ghost.trans (Ghost.unNil (t := 0) (n := n) (a := some a) rfl) ?_) ?_
      · refine Ghost.sub ?_ ?_ <;> simp -implicitDefEqProofs only [go_sem, ↓reduceIte, Nat.reduceAdd, Nat.reduceMul, Nat.reduceEqDiff, Nat.reduceLeDiff, reduceCtorEq, Int.reduceToNat,  List.forall_mem_cons, List.not_mem_nil, false_implies, implies_true, and_self, labsIn_lift, List.all_append, List.all_cons, List.all_nil, Nat.reduceLT, labsInL, AV.labsIn]
      refine AW.rT (by rfl) fun K hK => ?_
      simp -implicitDefEqProofs only [go_sem, ↓reduceIte, Nat.reduceAdd, Nat.reduceMul, Nat.reduceEqDiff, Nat.reduceLeDiff, reduceCtorEq, Int.reduceToNat]
      refine ⟨⟨by simp, by simp, by simp⟩, by decide, ?_⟩
      refine hK _ ?_; clear hK K
      refine AW.ret ?_
      simp -implicitDefEqProofs only [go_sem, ↓reduceIte, Nat.reduceAdd, Nat.reduceMul, Nat.reduceEqDiff, Nat.reduceLeDiff, reduceCtorEq, Int.reduceToNat]
  · refine AW.rT (by rfl) fun K hK => ?_
    simp -implicitDefEqProofs only [go_sem, ↓reduceIte, Nat.reduceAdd, Nat.reduceMul, Nat.reduceEqDiff, Nat.reduceLeDiff, reduceCtorEq, Int.reduceToNat]
    refine ⟨_, eqP_some Try.underlying22 _ _, ?_⟩
    try simp -implicitDefEqProofs only [go_sem, ↓reduceIte, Nat.reduceAdd, Nat.reduceMul, Nat.reduceEqDiff, Nat.reduceLeDiff, reduceCtorEq, Int.reduceToNat]
    refine hK _ ?_; clear hK K
    refine AW.cond _ (by simp -implicitDefEqProofs only [go_sem, ↓reduceIte, Nat.reduceAdd, Nat.reduceMul, Nat.reduceEqDiff, Nat.reduceLeDiff, reduceCtorEq, Int.reduceToNat]; rfl) (fun hc => ?_) (fun hc => ?_)
    · simp at hc
    refine AW.skip ?_
    simp only [andThen, inBlk, reduceCtorEq, ↓reduceIte, if_t, if_f]
    refine AW.ghost (s' := ⟨ofL [(0, .p (.slice ((x :: r).map encRaw))), (2, .ex [])], ofH [], 0⟩) ?_ ?_
    · refine Ghost.sub ?_ ?_ <;> simp -implicitDefEqProofs only [go_sem, ↓reduceIte, Nat.reduceAdd, Nat.reduceMul, Nat.reduceEqDiff, Nat.reduceLeDiff, reduceCtorEq, Int.reduceToNat,  List.forall_mem_cons, List.not_mem_nil, false_implies, implies_true, and_self, labsIn_lift, List.all_append, List.all_cons, List.all_nil, Nat.reduceLT, labsInL, AV.labsIn]
    refine AW.rT (by rfl) fun K hK => ?_
    simp -implicitDefEqProofs only [go_sem, ↓reduceIte, Nat.reduceAdd, Nat.reduceMul, Nat.reduceEqDiff, Nat.reduceLeDiff, reduceCtorEq, Int.reduceToNat]
    refine ⟨⟨g0, g1, by simp⟩, by simp [liftE_length]; simp at hl; omega, ?_⟩
    refine hK _ ?_; clear hK K
    refine AW.ret ?_
    simp -implicitDefEqProofs only [go_sem, ↓reduceIte, Nat.reduceAdd, Nat.reduceMul, Nat.reduceEqDiff, Nat.reduceLeDiff, reduceCtorEq, Int.reduceToNat]
mutual
/-- What a value keeps that is made of a tree. -/
def encV : Tr → PV
  | .mk k n s es rest => if k = 1 then .iface 99 (.int .i64 n) else if k = 2 then .iface 101 (.str s) else .iface 66 (.box [.slice (encVes es), .slice (rest.map encRaw)] 0)
def encVes : List (Int × List Tr) → List (List PV)
  | [] => []
  | (t, l) :: r => [.int .i64 t, .slice (encVs l)] :: encVes r
def encVs : List Tr → List (List PV)
  | [] => []
  | x :: l => [encV x] :: encVs l
end
def encV1 (t : Tr) : List PV := [encV t]
def encVn (e : Int × List Tr) : List PV := [.int .i64 e.1, .slice (e.2.map encV1)]
theorem encVs_map : ∀ l : List Tr, encVs l = l.map encV1
  | [] => by simp [encVs]
  | x :: l => by rw [encVs, encVs_map l]; rfl
theorem encVes_map : ∀ l : List (Int × List Tr), encVes l = l.map encVn
  | [] => by simp [encVes]
  | (t, l) :: r => by rw [encVes, encVes_map r, encVs_map]; rfl
theorem encV_eq (t : Tr) : encV t = if t.kind = 1 then .iface 99 (.int .i64 t.n) else if t.kind = 2 then .iface 101 (.str t.s) else .iface 66 (.box [.slice (t.ents.map encVn), .slice (t.rest.map encRaw)] 0) := by
  cases t
  rw [encV, encVes_map]; rfl
theorem encV_one (t : Tr) : (encV t).one = true := by
  rw [encV_eq]
  split
  · rfl
  · split <;> rfl
theorem vals_len (l : List Tr) : ∀ e ∈ liftE (l.map encV1), e.length = 1 := liftE_len fun e he => by
  obtain ⟨x, _, rfl⟩ := List.mem_map.1 he
  rfl
theorem vals_one (l : List Tr) : ∀ e ∈ liftE (l.map encV1), oneAll e = true := liftE_one fun e he p hp => by
  obtain ⟨x, _, rfl⟩ := List.mem_map.1 he
  simp [encV1] at hp
  subst hp
  exact encV_one x
set_option maxRecDepth 100000 in
set_option maxHeartbeats 4000000 in
theorem clone_Vals (l : List Tr) (hl : l.length ≤ 1000000) : PFn Try.prog 90 [.slice (l.map encV1)] (.slice (l.map encV1)) := by
  refine PFn.of Try.func90 rfl (by decide) Try.ntmps90 Try.results90 (Nat.le_of_ble_eq_true rfl) ?_
  simp only [argsT]
  have g0 := vals_len l
  have g1 := vals_one l
  have g2 : l = [] ∨ ∃ x r, l = x :: r := by cases l <;> simp
  refine AW.rT (by rfl) fun K hK => ?_
  simp -implicitDefEqProofs only [go_sem, ↓reduceIte, Nat.reduceAdd, Nat.reduceMul, Nat.reduceEqDiff, Nat.reduceLeDiff, reduceCtorEq, Int.reduceToNat]
  refine hK _ ?_; clear hK K
  refine AW.seq ?_
  rcases g2 with rfl | ⟨x, r, rfl⟩
  · refine AW.nilSplit (t := 0) rfl fun a n => ?_
    refine AW.rT (by rfl) fun K hK => ?_
    simp -implicitDefEqProofs only [go_sem, ↓reduceIte, Nat.reduceAdd, Nat.reduceMul, Nat.reduceEqDiff, Nat.reduceLeDiff, reduceCtorEq, Int.reduceToNat]
    refine ⟨_, eqP_nil Try.underlying80 a n, ?_⟩
    simp only [boolE]
    try simp -implicitDefEqProofs only [go_sem, ↓reduceIte, Nat.reduceAdd, Nat.reduceMul, Nat.reduceEqDiff, Nat.reduceLeDiff, reduceCtorEq, Int.reduceToNat]
    refine hK _ ?_; clear hK K
    cases a with
    | none =>
      refine AW.cond _ (by simp -implicitDefEqProofs only [go_sem, ↓reduceIte, Nat.reduceAdd, Nat.reduceMul, Nat.reduceEqDiff, Nat.reduceLeDiff, reduceCtorEq, Int.reduceToNat]; rfl) (fun hc => ?_) (fun hc => ?_)
      · refine AW.rT (by rfl) fun K hK => ?_
        simp -implicitDefEqProofs only [go_sem, ↓reduceIte, Nat.reduceAdd, Nat.reduceMul, Nat.reduceEqDiff, Nat.reduceLeDiff, reduceCtorEq, Int.reduceToNat]
        refine hK _ ?_; clear hK K
        refine AW.ret ?_
        simp -implicitDefEqProofs only [go_sem, ↓reduceIte, Nat.reduceAdd, Nat.reduceMul, Nat.reduceEqDiff, Nat.reduceLeDiff, reduceCtorEq, Int.reduceToNat]
      · simp at hc
    | some a =>
      refine AW.cond _ (by simp -implicitDefEqProofs only [go_sem, ↓reduceIte, Nat.reduceAdd, Nat.reduceMul, Nat.reduceEqDiff, Nat.reduceLeDiff, reduceCtorEq, Int.reduceToNat]; rfl) (fun hc => ?_) (fun hc => ?_)
      · simp at hc
      refine AW.skip ?_
      simp only [andThen, inBlk, reduceCtorEq, ↓reduceIte, if_t, if_f]
      refine AW.ghost (s' := ⟨ofL [(0, .p (.slice [])), (2, .ex [])], ofH [], 0⟩) (Ghost.trans (Ghost.unNil (t := 0) (n := n) (a := some a) rfl) ?_) ?_
      · refine Ghost.sub ?_ ?_ <;> simp -implicitDefEqProofs only [go_sem, ↓reduceIte, Nat.reduceAdd, Nat.reduceMul, Nat.reduceEqDiff, Nat.reduceLeDiff, reduceCtorEq, Int.reduceToNat,  List.forall_mem_cons, List.not_mem_nil, false_implies, implies_true, and_self, labsIn_lift, List.all_append, List.all_cons, List.all_nil, Nat.reduceLT, labsInL, AV.labsIn]
      refine AW.rT (by rfl) fun K hK => ?_
      simp -implicitDefEqProofs only [go_sem, ↓reduceIte, Nat.reduceAdd, Nat.reduceMul, Nat.reduceEqDiff, Nat.reduceLeDiff, reduceCtorEq, Int.reduceToNat]
      refine ⟨⟨by simp, by simp, by simp⟩, by decide, ?_⟩
      refine hK _ ?_; clear hK K
      refine AW.ret ?_
      simp -implicitDefEqProofs only [go_sem, ↓reduceIte, Nat.reduceAdd, Nat.reduceMul, Nat.reduceEqDiff, Nat.reduceLeDiff, reduceCtorEq, Int.reduceToNat]
  · refine AW.rT (by rfl) fun K hK => ?_
    simp -implicitDefEqProofs only [go_sem, ↓reduceIte, Nat.reduceAdd, Nat.reduceMul, Nat.reduceEqDiff, Nat.reduceLeDiff, reduceCtorEq, Int.reduceToNat]
    refine ⟨_, eqP_some Try.underlying80 _ _, ?_⟩
    try simp -implicitDefEqProofs only [go_sem, ↓reduceIte, Nat.reduceAdd, Nat.reduceMul, Nat.reduceEqDiff, Nat.reduceLeDiff, reduceCtorEq, Int.reduceToNat]
    refine hK _ ?_; clear hK K
    refine AW.cond _ (by simp -implicitDefEqProofs only [go_sem, ↓reduceIte, Nat.reduceAdd, Nat.reduceMul, Nat.reduceEqDiff, Nat.reduceLeDiff, reduceCtorEq, Int.reduceToNat]; rfl) (fun hc => ?_) (fun hc => ?_)
    · simp at hc
    refine AW.skip ?_
    simp only [andThen, inBlk, reduceCtorEq, ↓reduceIte, if_t, if_f]
    refine AW.ghost (s' := ⟨ofL [(0, .p (.slice ((x :: r).map encV1))), (2, .ex [])], ofH [], 0⟩) ?_ ?_
    · refine Ghost.sub ?_ ?_ <;> simp -implicitDefEqProofs only [go_sem, ↓reduceIte, Nat.reduceAdd, Nat.reduceMul, Nat.reduceEqDiff, Nat.reduceLeDiff, reduceCtorEq, Int.reduceToNat,  List.forall_mem_cons, List.not_mem_nil, false_implies, implies_true, and_self, labsIn_lift, List.all_append, List.all_cons, List.all_nil, Nat.reduceLT, labsInL, AV.labsIn]
    refine AW.rT (by rfl) fun K hK => ?_
    simp -implicitDefEqProofs only [go_sem, ↓reduceIte, Nat.reduceAdd, Nat.reduceMul, Nat.reduceEqDiff, Nat.reduceLeDiff, reduceCtorEq, Int.reduceToNat]
    refine ⟨⟨g0, g1, by simp⟩, by simp [liftE_length]; simp at hl; omega, ?_⟩
    refine hK _ ?_; clear hK K
    refine AW.ret ?_
    simp -implicitDefEqProofs only [go_sem, ↓reduceIte, Nat.reduceAdd, Nat.reduceMul, Nat.reduceEqDiff, Nat.reduceLeDiff, reduceCtorEq, Int.reduceToNat]
def mS0 : Blk := .row 1 [[.p (.cst .nilIface)]]
def mx (t : Tr) (i : Nat) : St := ⟨ofL [(2, .ptr 1 0 0), (3, .ptr 2 0 0), (27, .p (.slice (t.ents.map encEn))), (28, .p (.int .i64 (t.ents.length : Int))), (29, .p (.int .i64 (i : Int)))],
  ofH [(1, .row 1 [[.p (.cst .nilIface)]]), (2, .row 2 [[.own 3, .p (.slice (t.rest.map encRaw))]]), (3, .row 2 (liftE ((t.ents.take i).map encVn)))], 4⟩
def my (t : Tr) (i : Nat) (e : Int × List Tr) (k : Nat) : St := ⟨ofL [(2, .ptr 1 0 0), (3, .ptr 2 0 0), (27, .p (.slice (t.ents.map encEn))), (28, .p (.int .i64 (t.ents.length : Int))), (29, .p (.int .i64 (i : Int))), (6, .ptr 4 0 0), (37, .p (.slice (e.2.map encTr))), (38, .p (.int .i64 (e.2.length : Int))), (39, .p (.int .i64 (k : Int)))],
  ofH [(1, .row 1 [[.p (.cst .nilIface)]]), (2, .row 2 [[.own 3, .p (.slice (t.rest.map encRaw))]]), (3, .row 2 (liftE ((t.ents.take i).map encVn))), (4, .row 2 [[.p (.int .i64 e.1), .own 5]]), (5, .row 1 (liftE ((e.2.take k).map encV1)))], 6⟩
def mz (t : Tr) (i : Nat) (e : Int × List Tr) : St := ⟨ofL [(2, .ptr 1 0 0), (3, .ptr 2 0 0), (27, .p (.slice (t.ents.map encEn))), (28, .p (.int .i64 (t.ents.length : Int))), (29, .p (.int .i64 (i : Int))), (6, .ptr 4 0 0)],
  ofH [(1, .row 1 [[.p (.cst .nilIface)]]), (2, .row 2 [[.own 3, .p (.slice (t.rest.map encRaw))]]), (3, .row 2 (liftE ((t.ents.take i).map encVn))), (4, .row 2 [[.p (.int .i64 e.1), .p (.slice (e.2.map encV1))]])], 5⟩
def mw (t : Tr) : St := ⟨ofL [(2, .ptr 1 0 0), (3, .ptr 2 0 0)],
  ofH [(1, .row 1 [[.p (.cst .nilIface)]]), (2, .row 2 (liftE [[.slice (t.ents.map encVn), .slice (t.rest.map encRaw)]]))], 3⟩
def mv (t : Tr) : St := ⟨ofL [(2, .ptr 1 0 0), (3, .p (.box [.slice (t.ents.map encVn), .slice (t.rest.map encRaw)] 0))],
  ofH [(1, .row 1 [[.p (.cst .nilIface)]])], 3⟩
set_option maxRecDepth 100000 in
set_option maxHeartbeats 4000000 in
theorem value_made : ∀ (t : Tr), lensT t = true → PFn Try.prog 86 [.agg (encTr t)] (.agg [encV t]) := by
  intro t
  induction h : SizeOf.sizeOf t using Nat.strongRecOn generalizing t with
  | _ sz ih =>
  subst h
  intro hlt
  obtain ⟨la1, la2, la3⟩ := lensT_mk hlt
  have eV := encV_eq t
  refine PFn.of Try.func86 rfl (by decide) Try.ntmps86 Try.results86 (Nat.le_of_ble_eq_true rfl) ?_
  simp only [argsT]
  refine AW.rT (by rfl) fun K hK => ?_
  simp -implicitDefEqProofs only [go_sem, ↓reduceIte, Nat.reduceAdd, Nat.reduceMul, Nat.reduceEqDiff, Nat.reduceLeDiff, reduceCtorEq, Int.reduceToNat, encTr_eq]
  refine hK _ ?_; clear hK K
  refine AW.seq ?_
  refine AW.rT (by rfl) fun K hK => ?_
  simp -implicitDefEqProofs only [go_sem, ↓reduceIte, Nat.reduceAdd, Nat.reduceMul, Nat.reduceEqDiff, Nat.reduceLeDiff, reduceCtorEq, Int.reduceToNat]
  refine hK _ ?_; clear hK K
  refine AW.block ?_
  by_cases c1 : t.kind = 1
  · have b1 : (t.kind == 1) = true := by simpa using c1
    rw [if_pos c1] at eV
    refine AW.rT (by rfl) fun K hK => ?_
    simp -implicitDefEqProofs only [go_sem, ↓reduceIte, Nat.reduceAdd, Nat.reduceMul, Nat.reduceEqDiff, Nat.reduceLeDiff, reduceCtorEq, Int.reduceToNat, b1]
    refine hK _ ?_; clear hK K
    refine AW.cond _ (by simp -implicitDefEqProofs only [go_sem, ↓reduceIte, Nat.reduceAdd, Nat.reduceMul, Nat.reduceEqDiff, Nat.reduceLeDiff, reduceCtorEq, Int.reduceToNat]; rfl) (fun hc => ?_) (fun hc => ?_)
    rotate_left
    · simp at hc
    refine AW.rT (by rfl) fun K hK => ?_
    simp -implicitDefEqProofs only [go_sem, ↓reduceIte, Nat.reduceAdd, Nat.reduceMul, Nat.reduceEqDiff, Nat.reduceLeDiff, reduceCtorEq, Int.reduceToNat]
    refine ⟨.pure _, value_Num t.n, ?_⟩
    try simp -implicitDefEqProofs only [go_sem, ↓reduceIte, Nat.reduceAdd, Nat.reduceMul, Nat.reduceEqDiff, Nat.reduceLeDiff, reduceCtorEq, Int.reduceToNat, encIn]
    refine hK _ ?_; clear hK K
    refine AW.ret ?_
    simp -implicitDefEqProofs only [go_sem, ↓reduceIte, Nat.reduceAdd, Nat.reduceMul, Nat.reduceEqDiff, Nat.reduceLeDiff, reduceCtorEq, Int.reduceToNat, eV]
  have b1 : (t.kind == 1) = false := beqf c1
  rw [if_neg c1] at eV
  refine AW.rT (by rfl) fun K hK => ?_
  simp -implicitDefEqProofs only [go_sem, ↓reduceIte, Nat.reduceAdd, Nat.reduceMul, Nat.reduceEqDiff, Nat.reduceLeDiff, reduceCtorEq, Int.reduceToNat, b1]
  refine hK _ ?_; clear hK K
  refine AW.cond _ (by simp -implicitDefEqProofs only [go_sem, ↓reduceIte, Nat.reduceAdd, Nat.reduceMul, Nat.reduceEqDiff, Nat.reduceLeDiff, reduceCtorEq, Int.reduceToNat]; rfl) (fun hc => ?_) (fun hc => ?_)
  · simp at hc
  by_cases c2 : t.kind = 2
  · have b2 : (t.kind == 2) = true := by simpa using c2
    rw [if_pos c2] at eV
    refine AW.rT (by rfl) fun K hK => ?_
    simp -implicitDefEqProofs only [go_sem, ↓reduceIte, Nat.reduceAdd, Nat.reduceMul, Nat.reduceEqDiff, Nat.reduceLeDiff, reduceCtorEq, Int.reduceToNat, b2]
    refine hK _ ?_; clear hK K
    refine AW.cond _ (by simp -implicitDefEqProofs only [go_sem, ↓reduceIte, Nat.reduceAdd, Nat.reduceMul, Nat.reduceEqDiff, Nat.reduceLeDiff, reduceCtorEq, Int.reduceToNat]; rfl) (fun hc => ?_) (fun hc => ?_)
    rotate_left
    · simp at hc
    refine AW.rT (by rfl) fun K hK => ?_
    simp -implicitDefEqProofs only [go_sem, ↓reduceIte, Nat.reduceAdd, Nat.reduceMul, Nat.reduceEqDiff, Nat.reduceLeDiff, reduceCtorEq, Int.reduceToNat]
    refine ⟨.pure _, value_Str t.s, ?_⟩
    try simp -implicitDefEqProofs only [go_sem, ↓reduceIte, Nat.reduceAdd, Nat.reduceMul, Nat.reduceEqDiff, Nat.reduceLeDiff, reduceCtorEq, Int.reduceToNat, encIn]
    refine hK _ ?_; clear hK K
    refine AW.ret ?_
    simp -implicitDefEqProofs only [go_sem, ↓reduceIte, Nat.reduceAdd, Nat.reduceMul, Nat.reduceEqDiff, Nat.reduceLeDiff, reduceCtorEq, Int.reduceToNat, eV]
  have b2 : (t.kind == 2) = false := beqf c2
  rw [if_neg c2] at eV
  refine AW.rT (by rfl) fun K hK => ?_
  simp -implicitDefEqProofs only [go_sem, ↓reduceIte, Nat.reduceAdd, Nat.reduceMul, Nat.reduceEqDiff, Nat.reduceLeDiff, reduceCtorEq, Int.reduceToNat, b2]
  refine hK _ ?_; clear hK K
  refine AW.cond _ (by simp -implicitDefEqProofs only [go_sem, ↓reduceIte, Nat.reduceAdd, Nat.reduceMul, Nat.reduceEqDiff, Nat.reduceLeDiff, reduceCtorEq, Int.reduceToNat]; rfl) (fun hc => ?_) (fun hc => ?_)
  · simp at hc
  refine AW.skip ?_
  simp only [andThen, inBlk, reduceCtorEq, ↓reduceIte, if_t, if_f]
  refine AW.rT (by rfl) fun K hK => ?_
  simp -implicitDefEqProofs only [go_sem, ↓reduceIte, Nat.reduceAdd, Nat.reduceMul, Nat.reduceEqDiff, Nat.reduceLeDiff, reduceCtorEq, Int.reduceToNat]
  refine ⟨.pure _, clone_Raws t.rest (by omega), ?_⟩
  try simp -implicitDefEqProofs only [go_sem, ↓reduceIte, Nat.reduceAdd, Nat.reduceMul, Nat.reduceEqDiff, Nat.reduceLeDiff, reduceCtorEq, Int.reduceToNat]
  refine hK _ ?_; clear hK K
  refine AW.seq ?_
  refine AW.rT (by rfl) fun K hK => ?_
  simp -implicitDefEqProofs only [go_sem, ↓reduceIte, Nat.reduceAdd, Nat.reduceMul, Nat.reduceEqDiff, Nat.reduceLeDiff, reduceCtorEq, Int.reduceToNat, List.length_map]
  refine hK _ ?_; clear hK K
  refine AW.block ?_
  refine AW.loop (mx t) (fun i => i ≤ t.ents.length) (fun i => t.ents.length - i) 0 ?_ (by simp) fun i hi => ?_
  · refine Ghost.trans (Ghost.nilH (l := 12) (i := 0) (j := 0) (sz' := 2) rfl rfl rfl) ?_
    simp only [mx]
    refine Ghost.ent (fun l => if l = 2 then 12 else if l = 3 then 18 else l) ?_ ?_ ?_ <;> simp -implicitDefEqProofs only [go_sem, ↓reduceIte, Nat.reduceAdd, Nat.reduceMul, Nat.reduceEqDiff, Nat.reduceLeDiff, reduceCtorEq, Int.reduceToNat, List.take_zero, List.map_nil, liftE_nil, List.set_cons_zero, List.set_cons_succ, List.forall_mem_cons, List.not_mem_nil, false_implies, implies_true, and_self, map_renL_lift, labsIn_lift, List.all_append, List.all_cons, List.all_nil, List.map_append, Nat.reduceLT, labsInL, AV.labsIn]
    rfl
  simp only [mx]
  by_cases hil : i < t.ents.length
  case neg =>
    have hc1 : ((i : Int) < (t.ents.length : Int)) = False := by simp; omega
    have hi' : i = t.ents.length := by omega
    subst hi'
    refine AW.rT (by rfl) fun K hK => ?_
    simp -implicitDefEqProofs only [go_sem, ↓reduceIte, Nat.reduceAdd, Nat.reduceMul, Nat.reduceEqDiff, Nat.reduceLeDiff, reduceCtorEq, Int.reduceToNat, hc1]
    refine hK _ ?_; clear hK K
    refine AW.seq ?_
    refine AW.cond _ (by simp -implicitDefEqProofs only [go_sem, ↓reduceIte, Nat.reduceAdd, Nat.reduceMul, Nat.reduceEqDiff, Nat.reduceLeDiff, reduceCtorEq, Int.reduceToNat]; rfl) (fun hc => ?_) (fun hc => ?_)
    · simp at hc
    refine AW.exit ?_
    simp only [andThen, inBlk, reduceCtorEq, ↓reduceIte, if_t, if_f]
    refine AW.ghost (s' := mw t) (Ghost.trans (Ghost.freeze (lb := 3) (ps := (t.ents.take t.ents.length).map encVn) rfl (unlift_liftE _)) ?_) ?_
    · simp only [mw]
      refine Ghost.sub ?_ ?_ <;> simp -implicitDefEqProofs only [go_sem, ↓reduceIte, Nat.reduceAdd, Nat.reduceMul, Nat.reduceEqDiff, Nat.reduceLeDiff, reduceCtorEq, Int.reduceToNat, thaw, thaw1, Option.map_some, List.take_length, List.map_cons, List.map_nil, liftE_cons, liftE_nil, List.forall_mem_cons, List.not_mem_nil, false_implies, implies_true, and_self, labsIn_lift, List.all_append, List.all_cons, List.all_nil, Nat.reduceLT, labsInL, AV.labsIn]
    simp only [mw]
    refine AW.ghost (s' := mv t) (Ghost.trans (Ghost.freezeP (lb := 2) (ps := [[.slice (t.ents.map encVn), .slice (t.rest.map encRaw)]]) rfl (unlift_liftE _)) ?_) ?_
    · simp only [mv]
      refine Ghost.sub ?_ ?_ <;> simp -implicitDefEqProofs only [go_sem, ↓reduceIte, Nat.reduceAdd, Nat.reduceMul, Nat.reduceEqDiff, Nat.reduceLeDiff, reduceCtorEq, Int.reduceToNat, thawP, thawP1, Option.map_some, List.take_length, List.map_cons, List.map_nil, List.forall_mem_cons, List.not_mem_nil, false_implies, implies_true, and_self, labsIn_lift, List.all_append, List.all_cons, List.all_nil, Nat.reduceLT, labsInL, AV.labsIn]
    simp only [mv]
    refine AW.rT (by rfl) fun K hK => ?_
    simp -implicitDefEqProofs only [go_sem, ↓reduceIte, Nat.reduceAdd, Nat.reduceMul, Nat.reduceEqDiff, Nat.reduceLeDiff, reduceCtorEq, Int.reduceToNat]
    refine hK _ ?_; clear hK K
    refine AW.ret ?_
    simp -implicitDefEqProofs only [go_sem, ↓reduceIte, Nat.reduceAdd, Nat.reduceMul, Nat.reduceEqDiff, Nat.reduceLeDiff, reduceCtorEq, Int.reduceToNat, eV]
  obtain ⟨e, he⟩ : ∃ e, t.ents[i]? = some e := ⟨_, List.getElem?_eq_getElem hil⟩
  have ⟨he1, he2, he3⟩ := at_map' encEn he
  have ⟨le1, le2⟩ := lensE_at la3 he
  have hc1 : ((i : Int) < (t.ents.length : Int)) = True := by simp; omega
  refine AW.rT (by rfl) fun K hK => ?_
  simp -implicitDefEqProofs only [go_sem, ↓reduceIte, Nat.reduceAdd, Nat.reduceMul, Nat.reduceEqDiff, Nat.reduceLeDiff, reduceCtorEq, Int.reduceToNat, hc1]
  refine hK _ ?_; clear hK K
  refine AW.seq ?_
  refine AW.cond _ (by simp -implicitDefEqProofs only [go_sem, ↓reduceIte, Nat.reduceAdd, Nat.reduceMul, Nat.reduceEqDiff, Nat.reduceLeDiff, reduceCtorEq, Int.reduceToNat]; rfl) (fun hc => ?_) (fun hc => ?_)
  rotate_left
  · simp at hc
  refine AW.skip ?_
  simp only [andThen, inBlk, reduceCtorEq, ↓reduceIte, if_t, if_f]
  refine AW.seq ?_
  refine AW.block ?_
  refine AW.rT (by rfl) fun K hK => ?_
  simp -implicitDefEqProofs only [go_sem, ↓reduceIte, Nat.reduceAdd, Nat.reduceMul, Nat.reduceEqDiff, Nat.reduceLeDiff, reduceCtorEq, Int.reduceToNat, he1, he2, he3, hc1, encEn, List.length_map]
  refine hK _ ?_; clear hK K
  refine AW.rT (by rfl) fun K hK => ?_
  simp -implicitDefEqProofs only [go_sem, ↓reduceIte, Nat.reduceAdd, Nat.reduceMul, Nat.reduceEqDiff, Nat.reduceLeDiff, reduceCtorEq, Int.reduceToNat]
  refine hK _ ?_; clear hK K
  refine AW.seq ?_
  refine AW.rT (by rfl) fun K hK => ?_
  simp -implicitDefEqProofs only [go_sem, ↓reduceIte, Nat.reduceAdd, Nat.reduceMul, Nat.reduceEqDiff, Nat.reduceLeDiff, reduceCtorEq, Int.reduceToNat, List.length_map]
  refine hK _ ?_; clear hK K
  refine AW.block ?_
  refine AW.loop (my t i e) (fun k => k ≤ e.2.length) (fun k => e.2.length - k) 0 ?_ (by simp) fun k hk => ?_
  · refine Ghost.trans (Ghost.nilH (l := 12) (i := 0) (j := 1) (sz' := 1) rfl rfl rfl) ?_
    simp only [my]
    refine Ghost.ent (fun l => if l = 4 then 12 else if l = 5 then 18 else l) ?_ ?_ ?_ <;> simp -implicitDefEqProofs only [go_sem, ↓reduceIte, Nat.reduceAdd, Nat.reduceMul, Nat.reduceEqDiff, Nat.reduceLeDiff, reduceCtorEq, Int.reduceToNat, List.take_zero, List.map_nil, liftE_nil, List.set_cons_zero, List.set_cons_succ, List.forall_mem_cons, List.not_mem_nil, false_implies, implies_true, and_self, map_renL_lift, labsIn_lift, List.all_append, List.all_cons, List.all_nil, List.map_append, Nat.reduceLT, labsInL, AV.labsIn]
    rfl
  simp only [my]
  by_cases hkl : k < e.2.length
  · obtain ⟨x, hx⟩ : ∃ x, e.2[k]? = some x := ⟨_, List.getElem?_eq_getElem hkl⟩
    have ⟨hx1, hx2, hx3⟩ := at_map' encTr hx
    have hc2 : ((k : Int) < (e.2.length : Int)) = True := by simp; omega
    have IH := ih _ (size_ent he hx) x rfl (lensTs_at le2 hx)
    rw [encTr_eq] at IH
    have eo := encV_one x
    refine AW.rT (by rfl) fun K hK => ?_
    simp -implicitDefEqProofs only [go_sem, ↓reduceIte, Nat.reduceAdd, Nat.reduceMul, Nat.reduceEqDiff, Nat.reduceLeDiff, reduceCtorEq, Int.reduceToNat, hc2]
    refine hK _ ?_; clear hK K
    refine AW.seq ?_
    refine AW.cond _ (by simp -implicitDefEqProofs only [go_sem, ↓reduceIte, Nat.reduceAdd, Nat.reduceMul, Nat.reduceEqDiff, Nat.reduceLeDiff, reduceCtorEq, Int.reduceToNat]; rfl) (fun hc => ?_) (fun hc => ?_)
    rotate_left
    · simp at hc
    refine AW.skip ?_
    simp only [andThen, inBlk, reduceCtorEq, ↓reduceIte, if_t, if_f]
    refine AW.seq ?_
    refine AW.block ?_
    refine AW.rT (by rfl) fun K hK => ?_
    simp -implicitDefEqProofs only [go_sem, ↓reduceIte, Nat.reduceAdd, Nat.reduceMul, Nat.reduceEqDiff, Nat.reduceLeDiff, reduceCtorEq, Int.reduceToNat, hc2, hx1, hx2, hx3, encTr_eq, List.length_map]
    refine hK _ ?_; clear hK K
    refine AW.dE mixed (by rfl) (by decide +kernel) fun K hK => ?_
    simp -implicitDefEqProofs only [go_sem, ↓reduceIte, Nat.reduceAdd, Nat.reduceMul, Nat.reduceEqDiff, Nat.reduceLeDiff, reduceCtorEq, Int.reduceToNat]
    refine ⟨.pure _, IH, ?_⟩
    try simp -implicitDefEqProofs only [go_sem, ↓reduceIte, Nat.reduceAdd, Nat.reduceMul, Nat.reduceEqDiff, Nat.reduceLeDiff, reduceCtorEq, Int.reduceToNat]
    refine ⟨encV_one x, ⟨by simp, by simp [oneAll, AV.one, eo], by simp⟩, by simp [liftE_length]; omega, by decide +kernel, ?_⟩
    refine hK _ ?_; clear hK K
    have w1 : IntKind.wrap .i64 ((k : Int) + 1) = ((k + 1 : Nat) : Int) := by rw [w64] <;> omega
    have e7 : liftE ((e.2.take k).map encV1) ++ [[AV.p (encV x)]] = liftE ((e.2.take (k + 1)).map encV1) := by
      rw [List.take_add_one, hx]
      simp [liftE, encV1]
    refine AW.rE (by rfl) fun K hK => ?_
    simp -implicitDefEqProofs only [go_sem, ↓reduceIte, Nat.reduceAdd, Nat.reduceMul, Nat.reduceEqDiff, Nat.reduceLeDiff, reduceCtorEq, Int.reduceToNat, w1]
    refine hK _ ?_; clear hK K
    refine ⟨k + 1, by omega, by omega, ?_⟩
    refine Ghost.ent (fun l => if l = 5 then 16 else l) ?_ ?_ ?_ <;> simp -implicitDefEqProofs only [go_sem, ↓reduceIte, Nat.reduceAdd, Nat.reduceMul, Nat.reduceEqDiff, Nat.reduceLeDiff, reduceCtorEq, Int.reduceToNat, e7, List.forall_mem_cons, List.not_mem_nil, false_implies, implies_true, and_self, map_renL_lift, labsIn_lift, List.all_append, List.all_cons, List.all_nil, List.map_append, Nat.reduceLT, labsInL, AV.labsIn]
  · have hc2 : ((k : Int) < (e.2.length : Int)) = False := by simp; omega
    have hk' : k = e.2.length := by omega
    subst hk'
    refine AW.rT (by rfl) fun K hK => ?_
    simp -implicitDefEqProofs only [go_sem, ↓reduceIte, Nat.reduceAdd, Nat.reduceMul, Nat.reduceEqDiff, Nat.reduceLeDiff, reduceCtorEq, Int.reduceToNat, hc2]
    refine hK _ ?_; clear hK K
    refine AW.seq ?_
    refine AW.cond _ (by simp -implicitDefEqProofs only [go_sem, ↓reduceIte, Nat.reduceAdd, Nat.reduceMul, Nat.reduceEqDiff, Nat.reduceLeDiff, reduceCtorEq, Int.reduceToNat]; rfl) (fun hc => ?_) (fun hc => ?_)
    · simp at hc
    refine AW.exit ?_
    simp only [andThen, inBlk, reduceCtorEq, ↓reduceIte, if_t, if_f]
    refine AW.ghost (s' := mz t i e) (Ghost.trans (Ghost.freeze (lb := 5) (ps := (e.2.take e.2.length).map encV1) rfl (unlift_liftE _)) ?_) ?_
    · simp only [mz]
      refine Ghost.sub ?_ ?_ <;> simp -implicitDefEqProofs only [go_sem, ↓reduceIte, Nat.reduceAdd, Nat.reduceMul, Nat.reduceEqDiff, Nat.reduceLeDiff, reduceCtorEq, Int.reduceToNat, thaw, thaw1, Option.map_some, List.take_length, List.map_cons, List.map_nil, thaw_lift, List.forall_mem_cons, List.not_mem_nil, false_implies, implies_true, and_self, labsIn_lift, List.all_append, List.all_cons, List.all_nil, Nat.reduceLT, labsInL, AV.labsIn]
    simp only [mz]
    refine AW.dE mixed (by rfl) (by decide +kernel) fun K hK => ?_
    simp -implicitDefEqProofs only [go_sem, ↓reduceIte, Nat.reduceAdd, Nat.reduceMul, Nat.reduceEqDiff, Nat.reduceLeDiff, reduceCtorEq, Int.reduceToNat]
    refine ⟨⟨by simp, by simp [oneAll, AV.one, PV.one], by simp⟩, by simp [liftE_length]; omega, by decide +kernel, ?_⟩
    refine hK _ ?_; clear hK K
    have w1 : IntKind.wrap .i64 ((i : Int) + 1) = ((i + 1 : Nat) : Int) := by rw [w64] <;> omega
    have e8 : liftE ((t.ents.take i).map encVn) ++ [[AV.p (.int .i64 e.1), .p (.slice (e.2.map encV1))]] = liftE ((t.ents.take (i + 1)).map encVn) := by
      rw [List.take_add_one, he]
      simp [liftE, encVn]
    refine AW.rE (by rfl) fun K hK => ?_
    simp -implicitDefEqProofs only [go_sem, ↓reduceIte, Nat.reduceAdd, Nat.reduceMul, Nat.reduceEqDiff, Nat.reduceLeDiff, reduceCtorEq, Int.reduceToNat, w1]
    refine hK _ ?_; clear hK K
    refine ⟨i + 1, by omega, by omega, ?_⟩
    refine Ghost.ent (fun l => if l = 3 then 12 else l) ?_ ?_ ?_ <;> simp -implicitDefEqProofs only [go_sem, ↓reduceIte, Nat.reduceAdd, Nat.reduceMul, Nat.reduceEqDiff, Nat.reduceLeDiff, reduceCtorEq, Int.reduceToNat, e8, List.forall_mem_cons, List.not_mem_nil, false_implies, implies_true, and_self, map_renL_lift, labsIn_lift, List.all_append, List.all_cons, List.all_nil, List.map_append, Nat.reduceLT, labsInL, AV.labsIn]
end Go.Aw
/- Of; a message's rest; a value as a tree. -/
namespace Go.Aw
open Go.Proofs
set_option linter.unusedSimpArgs false
set_option linter.unusedVariables false
def ofV (t : Tr) : PV := if okT t = true then encV t else .cst .nilIface
set_option maxHeartbeats 1000000 in
theorem value_Of (t : Tr) (hlt : lensT t = true) : PFn Try.prog 50 [.agg (encTr t)] (.tuple [.agg [ofV t], .bool (okT t)]) := by
  have E1 := value_Check t hlt
  have E2 := value_made t hlt
  rw [encTr_eq] at E1 E2
  refine PFn.of Try.func50 rfl (by decide) Try.ntmps50 Try.results50 (Nat.le_of_ble_eq_true rfl) ?_
  simp only [argsT]
  refine AW.rT (by rfl) fun K hK => ?_
  simp -implicitDefEqProofs only [go_sem, ↓reduceIte, Nat.reduceAdd, Nat.reduceMul, Nat.reduceEqDiff, Nat.reduceLeDiff, reduceCtorEq, Int.reduceToNat, encTr_eq]
  refine hK _ ?_; clear hK K
  refine AW.seq ?_
  cases hk : okT t with
  | false =>
    have eo : ofV t = .cst .nilIface := by rw [ofV, hk]; rfl
    rw [hk] at E1
    refine AW.rT (by rfl) fun K hK => ?_
    simp -implicitDefEqProofs only [go_sem, ↓reduceIte, Nat.reduceAdd, Nat.reduceMul, Nat.reduceEqDiff, Nat.reduceLeDiff, reduceCtorEq, Int.reduceToNat]
    refine ⟨.pure _, E1, ?_⟩
    try simp -implicitDefEqProofs only [go_sem, ↓reduceIte, Nat.reduceAdd, Nat.reduceMul, Nat.reduceEqDiff, Nat.reduceLeDiff, reduceCtorEq, Int.reduceToNat]
    refine hK _ ?_; clear hK K
    refine AW.cond _ (by simp -implicitDefEqProofs only [go_sem, ↓reduceIte, Nat.reduceAdd, Nat.reduceMul, Nat.reduceEqDiff, Nat.reduceLeDiff, reduceCtorEq, Int.reduceToNat]; rfl) (fun hc => ?_) (fun hc => ?_)
    · refine AW.rT (by rfl) fun K hK => ?_
      simp -implicitDefEqProofs only [go_sem, ↓reduceIte, Nat.reduceAdd, Nat.reduceMul, Nat.reduceEqDiff, Nat.reduceLeDiff, reduceCtorEq, Int.reduceToNat]
      refine hK _ ?_; clear hK K
      refine AW.ret ?_
      simp -implicitDefEqProofs only [go_sem, ↓reduceIte, Nat.reduceAdd, Nat.reduceMul, Nat.reduceEqDiff, Nat.reduceLeDiff, reduceCtorEq, Int.reduceToNat, eo]
    · simp at hc
  | true =>
    have eo : ofV t = encV t := by rw [ofV, hk]; rfl
    rw [hk] at E1
    refine AW.rT (by rfl) fun K hK => ?_
    simp -implicitDefEqProofs only [go_sem, ↓reduceIte, Nat.reduceAdd, Nat.reduceMul, Nat.reduceEqDiff, Nat.reduceLeDiff, reduceCtorEq, Int.reduceToNat]
    refine ⟨.pure _, E1, ?_⟩
    try simp -implicitDefEqProofs only [go_sem, ↓reduceIte, Nat.reduceAdd, Nat.reduceMul, Nat.reduceEqDiff, Nat.reduceLeDiff, reduceCtorEq, Int.reduceToNat]
    refine hK _ ?_; clear hK K
    refine AW.cond _ (by simp -implicitDefEqProofs only [go_sem, ↓reduceIte, Nat.reduceAdd, Nat.reduceMul, Nat.reduceEqDiff, Nat.reduceLeDiff, reduceCtorEq, Int.reduceToNat]; rfl) (fun hc => ?_) (fun hc => ?_)
    · simp at hc
    refine AW.skip ?_
    simp only [andThen, inBlk, reduceCtorEq, ↓reduceIte, if_t, if_f]
    refine AW.rT (by rfl) fun K hK => ?_
    simp -implicitDefEqProofs only [go_sem, ↓reduceIte, Nat.reduceAdd, Nat.reduceMul, Nat.reduceEqDiff, Nat.reduceLeDiff, reduceCtorEq, Int.reduceToNat]
    refine ⟨.pure _, E2, ?_⟩
    try simp -implicitDefEqProofs only [go_sem, ↓reduceIte, Nat.reduceAdd, Nat.reduceMul, Nat.reduceEqDiff, Nat.reduceLeDiff, reduceCtorEq, Int.reduceToNat]
    refine ⟨encV_one t, ?_⟩
    refine hK _ ?_; clear hK K
    refine AW.ret ?_
    simp -implicitDefEqProofs only [go_sem, ↓reduceIte, Nat.reduceAdd, Nat.reduceMul, Nat.reduceEqDiff, Nat.reduceLeDiff, reduceCtorEq, Int.reduceToNat, eo]
def ndV (t : Tr) : List PV := [.slice (t.ents.map encVn), .slice (t.rest.map encRaw)]
theorem node_Rest (t : Tr) (hl : t.rest.length ≤ 1000000) : PFn Try.prog 61 [.box (ndV t) 0] (.slice (t.rest.map encRaw)) := by
  refine PFn.of Try.func61 rfl (by decide) Try.ntmps61 Try.results61 (Nat.le_of_ble_eq_true rfl) ?_
  simp only [argsT, ndV]
  refine AW.rT (by rfl) fun K hK => ?_
  simp -implicitDefEqProofs only [go_sem, ↓reduceIte, Nat.reduceAdd, Nat.reduceMul, Nat.reduceEqDiff, Nat.reduceLeDiff, reduceCtorEq, Int.reduceToNat]
  refine hK _ ?_; clear hK K
  refine AW.rT (by rfl) fun K hK => ?_
  simp -implicitDefEqProofs only [go_sem, ↓reduceIte, Nat.reduceAdd, Nat.reduceMul, Nat.reduceEqDiff, Nat.reduceLeDiff, reduceCtorEq, Int.reduceToNat]
  refine ⟨.pure _, clone_Raws t.rest hl, ?_⟩
  try simp -implicitDefEqProofs only [go_sem, ↓reduceIte, Nat.reduceAdd, Nat.reduceMul, Nat.reduceEqDiff, Nat.reduceLeDiff, reduceCtorEq, Int.reduceToNat]
  refine hK _ ?_; clear hK K
  refine AW.ret ?_
  simp -implicitDefEqProofs only [go_sem, ↓reduceIte, Nat.reduceAdd, Nat.reduceMul, Nat.reduceEqDiff, Nat.reduceLeDiff, reduceCtorEq, Int.reduceToNat]
theorem right_sub : ∀ {l : List Tr} {c : Int}, rightTs l c = true → ∀ x ∈ l, rightT x = true := by
  intro l
  induction l with
  | nil => intro c _ x h; cases h
  | cons y l ih =>
    intro c h x hx
    rw [rightTs] at h
    split at h
    · cases h
    · split at h
      · rename_i hy
        rcases List.mem_cons.1 hx with rfl | hx
        · exact hy
        · exact ih h x hx
      · cases h
theorem right_ents : ∀ {es : List (Int × List Tr)} {last : Int}, rightE es last = true → ∀ e ∈ es, ∀ x ∈ e.2, rightT x = true := by
  intro es
  induction es with
  | nil => intro c _ x h; cases h
  | cons y es ih =>
    intro last h e he
    obtain ⟨a, l⟩ := y
    rw [rightE] at h
    split at h
    · cases h
    · split at h
      · rename_i hy
        rcases List.mem_cons.1 he with rfl | he
        · exact right_sub hy
        · exact ih h e he
      · cases h
theorem right_kinds {t : Tr} (h : rightT t = true) : (t.kind = 1 ∧ t = .mk 1 t.n [] [] []) ∨ (t.kind = 2 ∧ t = .mk 2 0 t.s [] []) ∨ (t.kind = 3 ∧ t.n = 0 ∧ t.s = [] ∧ rightE t.ents 0 = true ∧ restT t.ents t.rest = true) := by
  obtain ⟨k, n, s, es, rest⟩ := t
  rw [rightT] at h
  simp only [Tr.kind, Tr.n, Tr.s, Tr.ents, Tr.rest]
  by_cases h1 : k = 1
  · rw [if_pos h1] at h
    simp at h
    obtain ⟨⟨rfl, rfl⟩, rfl⟩ := h
    exact .inl ⟨h1, by rw [h1]⟩
  rw [if_neg h1] at h
  by_cases h2 : k = 2
  · rw [if_pos h2] at h
    simp at h
    obtain ⟨⟨rfl, rfl⟩, rfl⟩ := h
    exact .inr (.inl ⟨h2, by rw [h2]⟩)
  rw [if_neg h2] at h
  by_cases h3 : k = 3
  · rw [if_pos h3] at h
    simp at h
    exact .inr (.inr ⟨h3, h.1.1.1, h.1.1.2, h.1.2, h.2⟩)
  · rw [if_neg h3] at h
    cases h
def px (t : Tr) (i : Nat) : St := ⟨ofL [(2, .ptr 1 0 0), (3, .ptr 2 0 0), (36, .p (.slice (t.ents.map encVn))), (37, .p (.int .i64 (t.ents.length : Int))), (38, .p (.int .i64 (i : Int)))],
  ofH [(1, .row 5 [[.p (.int .i64 0), .p (.int .i64 0), .p (.str []), .ex [], .ex []]]), (2, .row 5 [[.p (.int .i64 3), .p (.int .i64 0), .p (.str []), .own 3, .p (.slice (t.rest.map encRaw))]]), (3, .row 2 (liftE ((t.ents.take i).map encEn)))], 4⟩
def py (t : Tr) (i : Nat) (e : Int × List Tr) (k : Nat) : St := ⟨ofL [(2, .ptr 1 0 0), (3, .ptr 2 0 0), (36, .p (.slice (t.ents.map encVn))), (37, .p (.int .i64 (t.ents.length : Int))), (38, .p (.int .i64 (i : Int))), (9, .ptr 4 0 0), (46, .p (.slice (e.2.map encV1))), (47, .p (.int .i64 (e.2.length : Int))), (48, .p (.int .i64 (k : Int)))],
  ofH [(1, .row 5 [[.p (.int .i64 0), .p (.int .i64 0), .p (.str []), .ex [], .ex []]]), (2, .row 5 [[.p (.int .i64 3), .p (.int .i64 0), .p (.str []), .own 3, .p (.slice (t.rest.map encRaw))]]), (3, .row 2 (liftE ((t.ents.take i).map encEn))),
    (4, .row 2 [[.p (.int .i64 e.1), .own 5]]), (5, .row 5 (liftE ((e.2.take k).map encTr)))], 6⟩
def pz (t : Tr) (i : Nat) (e : Int × List Tr) : St := ⟨ofL [(2, .ptr 1 0 0), (3, .ptr 2 0 0), (36, .p (.slice (t.ents.map encVn))), (37, .p (.int .i64 (t.ents.length : Int))), (38, .p (.int .i64 (i : Int))), (9, .ptr 4 0 0)],
  ofH [(1, .row 5 [[.p (.int .i64 0), .p (.int .i64 0), .p (.str []), .ex [], .ex []]]), (2, .row 5 [[.p (.int .i64 3), .p (.int .i64 0), .p (.str []), .own 3, .p (.slice (t.rest.map encRaw))]]), (3, .row 2 (liftE ((t.ents.take i).map encEn))),
    (4, .row 2 [[.p (.int .i64 e.1), .p (.slice (e.2.map encTr))]])], 5⟩
def pw (t : Tr) : St := ⟨ofL [(2, .ptr 1 0 0), (3, .ptr 2 0 0)],
  ofH [(1, .row 5 [[.p (.int .i64 0), .p (.int .i64 0), .p (.str []), .ex [], .ex []]]), (2, .row 5 [[.p (.int .i64 3), .p (.int .i64 0), .p (.str []), .p (.slice (t.ents.map encEn)), .p (.slice (t.rest.map encRaw))]])], 3⟩
set_option maxRecDepth 100000 in
set_option maxHeartbeats 4000000 in
theorem value_Tree : ∀ (t : Tr), lensT t = true → rightT t = true → PFn Try.prog 59 [.agg [encV t]] (.agg (encTr t)) := by
  intro t
  induction h : SizeOf.sizeOf t using Nat.strongRecOn generalizing t with
  | _ sz ih =>
  subst h
  intro hlt hr
  obtain ⟨la1, la2, la3⟩ := lensT_mk hlt
  have eV := encV_eq t
  rcases right_kinds hr with ⟨hk, ht⟩ | ⟨hk, ht⟩ | ⟨hk, hn, hs, hre, _⟩
  · have := value_Tree_leaf (.num t.n) (by intro cs h; cases h)
    rw [if_pos hk] at eV
    rw [eV]
    rw [leafT, ← ht] at this
    exact this
  · have := value_Tree_leaf (.str t.s) (by intro cs h; cases h)
    rw [if_neg (by omega), if_pos hk] at eV
    rw [eV]
    rw [leafT, ← ht] at this
    exact this
  rw [if_neg (by omega), if_neg (by omega)] at eV
  have hre' := right_ents hre
  have R1 := node_Rest t (by omega)
  simp only [ndV] at R1
  rw [eV]
  refine PFn.of Try.func59 rfl (by decide) Try.ntmps59 Try.results59 (Nat.le_of_ble_eq_true rfl) ?_
  simp only [argsT]
  refine AW.rT (by rfl) fun K hK => ?_
  simp -implicitDefEqProofs only [go_sem, ↓reduceIte, Nat.reduceAdd, Nat.reduceMul, Nat.reduceEqDiff, Nat.reduceLeDiff, reduceCtorEq, Int.reduceToNat]
  refine hK _ ?_; clear hK K
  refine AW.rT (by rfl) fun K hK => ?_
  simp -implicitDefEqProofs only [go_sem, ↓reduceIte, Nat.reduceAdd, Nat.reduceMul, Nat.reduceEqDiff, Nat.reduceLeDiff, reduceCtorEq, Int.reduceToNat]
  refine ⟨.pure _, value_Kind (.node (ndV t)), ?_⟩
  try simp -implicitDefEqProofs only [go_sem, ↓reduceIte, Nat.reduceAdd, Nat.reduceMul, Nat.reduceEqDiff, Nat.reduceLeDiff, reduceCtorEq, Int.reduceToNat, kindIn]
  refine hK _ ?_; clear hK K
  refine AW.seq ?_
  refine AW.rT (by rfl) fun K hK => ?_
  simp -implicitDefEqProofs only [go_sem, ↓reduceIte, Nat.reduceAdd, Nat.reduceMul, Nat.reduceEqDiff, Nat.reduceLeDiff, reduceCtorEq, Int.reduceToNat]
  refine hK _ ?_; clear hK K
  refine AW.block ?_
  refine AW.rT (by rfl) fun K hK => ?_
  simp -implicitDefEqProofs only [go_sem, ↓reduceIte, Nat.reduceAdd, Nat.reduceMul, Nat.reduceEqDiff, Nat.reduceLeDiff, reduceCtorEq, Int.reduceToNat]
  refine hK _ ?_; clear hK K
  refine AW.cond _ (by simp -implicitDefEqProofs only [go_sem, ↓reduceIte, Nat.reduceAdd, Nat.reduceMul, Nat.reduceEqDiff, Nat.reduceLeDiff, reduceCtorEq, Int.reduceToNat]; rfl) (fun hc => ?_) (fun hc => ?_)
  · simp at hc
  refine AW.rT (by rfl) fun K hK => ?_
  simp -implicitDefEqProofs only [go_sem, ↓reduceIte, Nat.reduceAdd, Nat.reduceMul, Nat.reduceEqDiff, Nat.reduceLeDiff, reduceCtorEq, Int.reduceToNat]
  refine hK _ ?_; clear hK K
  refine AW.cond _ (by simp -implicitDefEqProofs only [go_sem, ↓reduceIte, Nat.reduceAdd, Nat.reduceMul, Nat.reduceEqDiff, Nat.reduceLeDiff, reduceCtorEq, Int.reduceToNat]; rfl) (fun hc => ?_) (fun hc => ?_)
  · simp at hc
  refine AW.rT (by rfl) fun K hK => ?_
  simp -implicitDefEqProofs only [go_sem, ↓reduceIte, Nat.reduceAdd, Nat.reduceMul, Nat.reduceEqDiff, Nat.reduceLeDiff, reduceCtorEq, Int.reduceToNat]
  refine hK _ ?_; clear hK K
  refine AW.cond _ (by simp -implicitDefEqProofs only [go_sem, ↓reduceIte, Nat.reduceAdd, Nat.reduceMul, Nat.reduceEqDiff, Nat.reduceLeDiff, reduceCtorEq, Int.reduceToNat]; rfl) (fun hc => ?_) (fun hc => ?_)
  rotate_left
  · simp at hc
  refine AW.rT (by rfl) fun K hK => ?_
  simp -implicitDefEqProofs only [go_sem, ↓reduceIte, Nat.reduceAdd, Nat.reduceMul, Nat.reduceEqDiff, Nat.reduceLeDiff, reduceCtorEq, Int.reduceToNat]
  refine hK _ ?_; clear hK K
  refine AW.rT (by rfl) fun K hK => ?_
  simp -implicitDefEqProofs only [go_sem, ↓reduceIte, Nat.reduceAdd, Nat.reduceMul, Nat.reduceEqDiff, Nat.reduceLeDiff, reduceCtorEq, Int.reduceToNat]
  refine ⟨.pure _, R1, ?_⟩
  try simp -implicitDefEqProofs only [go_sem, ↓reduceIte, Nat.reduceAdd, Nat.reduceMul, Nat.reduceEqDiff, Nat.reduceLeDiff, reduceCtorEq, Int.reduceToNat]
  refine hK _ ?_; clear hK K
  refine AW.rT (by rfl) fun K hK => ?_
  simp -implicitDefEqProofs only [go_sem, ↓reduceIte, Nat.reduceAdd, Nat.reduceMul, Nat.reduceEqDiff, Nat.reduceLeDiff, reduceCtorEq, Int.reduceToNat, List.length_map]
  refine hK _ ?_; clear hK K
  refine AW.block ?_
  refine AW.loop (px t) (fun i => i ≤ t.ents.length) (fun i => t.ents.length - i) 0 ?_ (by simp) fun i hi => ?_
  · refine Ghost.trans (Ghost.nilH (l := 5) (i := 0) (j := 3) (sz' := 2) rfl rfl rfl) ?_
    simp only [px]
    refine Ghost.ent (fun l => if l = 2 then 5 else if l = 3 then 29 else l) ?_ ?_ ?_ <;> simp -implicitDefEqProofs only [go_sem, ↓reduceIte, Nat.reduceAdd, Nat.reduceMul, Nat.reduceEqDiff, Nat.reduceLeDiff, reduceCtorEq, Int.reduceToNat, List.take_zero, List.map_nil, liftE_nil, List.set_cons_zero, List.set_cons_succ, List.forall_mem_cons, List.not_mem_nil, false_implies, implies_true, and_self, map_renL_lift, labsIn_lift, List.all_append, List.all_cons, List.all_nil, List.map_append, Nat.reduceLT, labsInL, AV.labsIn]
    rfl
  simp only [px]
  by_cases hil : i < t.ents.length
  case neg =>
    have hc1 : ((i : Int) < (t.ents.length : Int)) = False := by simp; omega
    have hi' : i = t.ents.length := by omega
    subst hi'
    refine AW.rT (by rfl) fun K hK => ?_
    simp -implicitDefEqProofs only [go_sem, ↓reduceIte, Nat.reduceAdd, Nat.reduceMul, Nat.reduceEqDiff, Nat.reduceLeDiff, reduceCtorEq, Int.reduceToNat, hc1]
    refine hK _ ?_; clear hK K
    refine AW.seq ?_
    refine AW.cond _ (by simp -implicitDefEqProofs only [go_sem, ↓reduceIte, Nat.reduceAdd, Nat.reduceMul, Nat.reduceEqDiff, Nat.reduceLeDiff, reduceCtorEq, Int.reduceToNat]; rfl) (fun hc => ?_) (fun hc => ?_)
    · simp at hc
    refine AW.exit ?_
    simp only [andThen, inBlk, reduceCtorEq, ↓reduceIte, if_t, if_f]
    refine AW.ghost (s' := pw t) (Ghost.trans (Ghost.freeze (lb := 3) (ps := (t.ents.take t.ents.length).map encEn) rfl (unlift_liftE _)) ?_) ?_
    · simp only [pw]
      refine Ghost.sub ?_ ?_ <;> simp -implicitDefEqProofs only [go_sem, ↓reduceIte, Nat.reduceAdd, Nat.reduceMul, Nat.reduceEqDiff, Nat.reduceLeDiff, reduceCtorEq, Int.reduceToNat, thaw, thaw1, Option.map_some, List.take_length, List.map_cons, List.map_nil, List.forall_mem_cons, List.not_mem_nil, false_implies, implies_true, and_self, labsIn_lift, List.all_append, List.all_cons, List.all_nil, Nat.reduceLT, labsInL, AV.labsIn]
    simp only [pw]
    refine AW.rT (by rfl) fun K hK => ?_
    simp -implicitDefEqProofs only [go_sem, ↓reduceIte, Nat.reduceAdd, Nat.reduceMul, Nat.reduceEqDiff, Nat.reduceLeDiff, reduceCtorEq, Int.reduceToNat]
    refine hK _ ?_; clear hK K
    refine AW.ret ?_
    simp -implicitDefEqProofs only [go_sem, ↓reduceIte, Nat.reduceAdd, Nat.reduceMul, Nat.reduceEqDiff, Nat.reduceLeDiff, reduceCtorEq, Int.reduceToNat, encTr_eq]
    rw [hk, hn, hs]
  obtain ⟨e, he⟩ : ∃ e, t.ents[i]? = some e := ⟨_, List.getElem?_eq_getElem hil⟩
  have ⟨he1, he2, he3⟩ := at_map' encVn he
  have ⟨le1, le2⟩ := lensE_at la3 he
  have hc1 : ((i : Int) < (t.ents.length : Int)) = True := by simp; omega
  refine AW.rT (by rfl) fun K hK => ?_
  simp -implicitDefEqProofs only [go_sem, ↓reduceIte, Nat.reduceAdd, Nat.reduceMul, Nat.reduceEqDiff, Nat.reduceLeDiff, reduceCtorEq, Int.reduceToNat, hc1]
  refine hK _ ?_; clear hK K
  refine AW.seq ?_
  refine AW.cond _ (by simp -implicitDefEqProofs only [go_sem, ↓reduceIte, Nat.reduceAdd, Nat.reduceMul, Nat.reduceEqDiff, Nat.reduceLeDiff, reduceCtorEq, Int.reduceToNat]; rfl) (fun hc => ?_) (fun hc => ?_)
  rotate_left
  · simp at hc
  refine AW.skip ?_
  simp only [andThen, inBlk, reduceCtorEq, ↓reduceIte, if_t, if_f]
  refine AW.seq ?_
  refine AW.block ?_
  refine AW.rT (by rfl) fun K hK => ?_
  simp -implicitDefEqProofs only [go_sem, ↓reduceIte, Nat.reduceAdd, Nat.reduceMul, Nat.reduceEqDiff, Nat.reduceLeDiff, reduceCtorEq, Int.reduceToNat, he1, he2, he3, hc1, encVn, List.length_map]
  refine hK _ ?_; clear hK K
  refine AW.rT (by rfl) fun K hK => ?_
  simp -implicitDefEqProofs only [go_sem, ↓reduceIte, Nat.reduceAdd, Nat.reduceMul, Nat.reduceEqDiff, Nat.reduceLeDiff, reduceCtorEq, Int.reduceToNat]
  refine hK _ ?_; clear hK K
  refine AW.seq ?_
  refine AW.rT (by rfl) fun K hK => ?_
  simp -implicitDefEqProofs only [go_sem, ↓reduceIte, Nat.reduceAdd, Nat.reduceMul, Nat.reduceEqDiff, Nat.reduceLeDiff, reduceCtorEq, Int.reduceToNat, List.length_map]
  refine hK _ ?_; clear hK K
  refine AW.block ?_
  refine AW.loop (py t i e) (fun k => k ≤ e.2.length) (fun k => e.2.length - k) 0 ?_ (by simp) fun k hkk => ?_
  · refine Ghost.trans (Ghost.nilH (l := 12) (i := 0) (j := 1) (sz' := 5) rfl rfl rfl) ?_
    simp only [py]
    refine Ghost.ent (fun l => if l = 4 then 12 else if l = 5 then 18 else l) ?_ ?_ ?_ <;> simp -implicitDefEqProofs only [go_sem, ↓reduceIte, Nat.reduceAdd, Nat.reduceMul, Nat.reduceEqDiff, Nat.reduceLeDiff, reduceCtorEq, Int.reduceToNat, List.take_zero, List.map_nil, liftE_nil, List.set_cons_zero, List.set_cons_succ, List.forall_mem_cons, List.not_mem_nil, false_implies, implies_true, and_self, map_renL_lift, labsIn_lift, List.all_append, List.all_cons, List.all_nil, List.map_append, Nat.reduceLT, labsInL, AV.labsIn]
    rfl
  simp only [py]
  by_cases hkl : k < e.2.length
  · obtain ⟨x, hx⟩ : ∃ x, e.2[k]? = some x := ⟨_, List.getElem?_eq_getElem hkl⟩
    have ⟨hx1, hx2, hx3⟩ := at_map' encV1 hx
    have hc2 : ((k : Int) < (e.2.length : Int)) = True := by simp; omega
    have IH := ih _ (size_ent he hx) x rfl (lensTs_at le2 hx) (hre' e (List.mem_of_getElem? he) x (List.mem_of_getElem? hx))
    rw [encTr_eq] at IH
    have eo := encV_one x
    refine AW.rT (by rfl) fun K hK => ?_
    simp -implicitDefEqProofs only [go_sem, ↓reduceIte, Nat.reduceAdd, Nat.reduceMul, Nat.reduceEqDiff, Nat.reduceLeDiff, reduceCtorEq, Int.reduceToNat, hc2]
    refine hK _ ?_; clear hK K
    refine AW.seq ?_
    refine AW.cond _ (by simp -implicitDefEqProofs only [go_sem, ↓reduceIte, Nat.reduceAdd, Nat.reduceMul, Nat.reduceEqDiff, Nat.reduceLeDiff, reduceCtorEq, Int.reduceToNat]; rfl) (fun hc => ?_) (fun hc => ?_)
    rotate_left
    · simp at hc
    refine AW.skip ?_
    simp only [andThen, inBlk, reduceCtorEq, ↓reduceIte, if_t, if_f]
    refine AW.seq ?_
    refine AW.block ?_
    refine AW.rT (by rfl) fun K hK => ?_
    simp -implicitDefEqProofs only [go_sem, ↓reduceIte, Nat.reduceAdd, Nat.reduceMul, Nat.reduceEqDiff, Nat.reduceLeDiff, reduceCtorEq, Int.reduceToNat, hc2, hx1, hx2, hx3, encV1, List.length_map]
    refine ⟨encV_one x, ?_⟩
    refine hK _ ?_; clear hK K
    refine AW.dE mixed (by rfl) (by decide +kernel) fun K hK => ?_
    simp -implicitDefEqProofs only [go_sem, ↓reduceIte, Nat.reduceAdd, Nat.reduceMul, Nat.reduceEqDiff, Nat.reduceLeDiff, reduceCtorEq, Int.reduceToNat]
    refine ⟨.pure _, IH, ?_⟩
    try simp -implicitDefEqProofs only [go_sem, ↓reduceIte, Nat.reduceAdd, Nat.reduceMul, Nat.reduceEqDiff, Nat.reduceLeDiff, reduceCtorEq, Int.reduceToNat]
    refine ⟨⟨by simp, by simp [oneAll, AV.one, PV.one], by simp⟩, by simp [liftE_length]; omega, by decide +kernel, ?_⟩
    refine hK _ ?_; clear hK K
    have w1 : IntKind.wrap .i64 ((k : Int) + 1) = ((k + 1 : Nat) : Int) := by rw [w64] <;> omega
    have e7 : liftE ((e.2.take k).map encTr) ++ [[AV.p (.int .i64 x.kind), .p (.int .i64 x.n), .p (.str x.s), .p (.slice (x.ents.map encEn)), .p (.slice (x.rest.map encRaw))]] = liftE ((e.2.take (k + 1)).map encTr) := by
      rw [List.take_add_one, hx]
      simp [liftE, encTr_eq]
    refine AW.rE (by rfl) fun K hK => ?_
    simp -implicitDefEqProofs only [go_sem, ↓reduceIte, Nat.reduceAdd, Nat.reduceMul, Nat.reduceEqDiff, Nat.reduceLeDiff, reduceCtorEq, Int.reduceToNat, w1]
    refine hK _ ?_; clear hK K
    refine ⟨k + 1, by omega, by omega, ?_⟩
    refine Ghost.ent (fun l => if l = 5 then 16 else l) ?_ ?_ ?_ <;> simp -implicitDefEqProofs only [go_sem, ↓reduceIte, Nat.reduceAdd, Nat.reduceMul, Nat.reduceEqDiff, Nat.reduceLeDiff, reduceCtorEq, Int.reduceToNat, e7, List.forall_mem_cons, List.not_mem_nil, false_implies, implies_true, and_self, map_renL_lift, labsIn_lift, List.all_append, List.all_cons, List.all_nil, List.map_append, Nat.reduceLT, labsInL, AV.labsIn]
  · have hc2 : ((k : Int) < (e.2.length : Int)) = False := by simp; omega
    have hk' : k = e.2.length := by omega
    subst hk'
    refine AW.rT (by rfl) fun K hK => ?_
    simp -implicitDefEqProofs only [go_sem, ↓reduceIte, Nat.reduceAdd, Nat.reduceMul, Nat.reduceEqDiff, Nat.reduceLeDiff, reduceCtorEq, Int.reduceToNat, hc2]
    refine hK _ ?_; clear hK K
    refine AW.seq ?_
    refine AW.cond _ (by simp -implicitDefEqProofs only [go_sem, ↓reduceIte, Nat.reduceAdd, Nat.reduceMul, Nat.reduceEqDiff, Nat.reduceLeDiff, reduceCtorEq, Int.reduceToNat]; rfl) (fun hc => ?_) (fun hc => ?_)
    · simp at hc
    refine AW.exit ?_
    simp only [andThen, inBlk, reduceCtorEq, ↓reduceIte, if_t, if_f]
    refine AW.ghost (s' := pz t i e) (Ghost.trans (Ghost.freeze (lb := 5) (ps := (e.2.take e.2.length).map encTr) rfl (unlift_liftE _)) ?_) ?_
    · simp only [pz]
      refine Ghost.sub ?_ ?_ <;> simp -implicitDefEqProofs only [go_sem, ↓reduceIte, Nat.reduceAdd, Nat.reduceMul, Nat.reduceEqDiff, Nat.reduceLeDiff, reduceCtorEq, Int.reduceToNat, thaw, thaw1, Option.map_some, List.take_length, List.map_cons, List.map_nil, thaw_lift, List.forall_mem_cons, List.not_mem_nil, false_implies, implies_true, and_self, labsIn_lift, List.all_append, List.all_cons, List.all_nil, Nat.reduceLT, labsInL, AV.labsIn]
    simp only [pz]
    refine AW.rE (by rfl) fun K hK => ?_
    simp -implicitDefEqProofs only [go_sem, ↓reduceIte, Nat.reduceAdd, Nat.reduceMul, Nat.reduceEqDiff, Nat.reduceLeDiff, reduceCtorEq, Int.reduceToNat]
    refine ⟨⟨by simp, by simp [oneAll, AV.one, PV.one], by simp⟩, by simp [liftE_length]; omega, ?_⟩
    refine hK _ ?_; clear hK K
    simp only [andThen, inBlk, reduceCtorEq, ↓reduceIte, if_t, if_f]
    have w1 : IntKind.wrap .i64 ((i : Int) + 1) = ((i + 1 : Nat) : Int) := by rw [w64] <;> omega
    have e8 : liftE ((t.ents.take i).map encEn) ++ [[AV.p (.int .i64 e.1), .p (.slice (e.2.map encTr))]] = liftE ((t.ents.take (i + 1)).map encEn) := by
      rw [List.take_add_one, he]
      simp [liftE, encEn]
    refine AW.rE (by rfl) fun K hK => ?_
    simp -implicitDefEqProofs only [go_sem, ↓reduceIte, Nat.reduceAdd, Nat.reduceMul, Nat.reduceEqDiff, Nat.reduceLeDiff, reduceCtorEq, Int.reduceToNat, w1]
    refine hK _ ?_; clear hK K
    refine ⟨i + 1, by omega, by omega, ?_⟩
    refine Ghost.ent (fun l => if l = 3 then 9 else l) ?_ ?_ ?_ <;> simp -implicitDefEqProofs only [go_sem, ↓reduceIte, Nat.reduceAdd, Nat.reduceMul, Nat.reduceEqDiff, Nat.reduceLeDiff, reduceCtorEq, Int.reduceToNat, e8, List.forall_mem_cons, List.not_mem_nil, false_implies, implies_true, and_self, map_renL_lift, labsIn_lift, List.all_append, List.all_cons, List.all_nil, List.map_append, Nat.reduceLT, labsInL, AV.labsIn]
end Go.Aw
/- A message's tags, what stands under one. -/
namespace Go.Aw
open Go.Proofs
set_option linter.unusedSimpArgs false
set_option linter.unusedVariables false
def encTg (e : Int × List Tr) : List PV := [.int .i64 e.1]
def tg (t : Tr) (i : Nat) : St := ⟨ofL [(3, .own 0), (9, .p (.slice (t.ents.map encVn))), (10, .p (.int .i64 (t.ents.length : Int))), (11, .p (.int .i64 (i : Int)))], ofH [(0, .row 1 (liftE ((t.ents.take i).map encTg)))], 1⟩
set_option maxRecDepth 100000 in
set_option maxHeartbeats 4000000 in
theorem node_Tags (t : Tr) (hl : t.ents.length ≤ 1000) : PFn Try.prog 62 [.box (ndV t) 0] (.slice (t.ents.map encTg)) := by
  refine PFn.of Try.func62 rfl (by decide) Try.ntmps62 Try.results62 (Nat.le_of_ble_eq_true rfl) ?_
  simp only [argsT, ndV]
  refine AW.rT (by rfl) fun K hK => ?_
  simp -implicitDefEqProofs only [go_sem, ↓reduceIte, Nat.reduceAdd, Nat.reduceMul, Nat.reduceEqDiff, Nat.reduceLeDiff, reduceCtorEq, Int.reduceToNat]
  refine hK _ ?_; clear hK K
  refine AW.rT (by rfl) fun K hK => ?_
  simp -implicitDefEqProofs only [go_sem, ↓reduceIte, Nat.reduceAdd, Nat.reduceMul, Nat.reduceEqDiff, Nat.reduceLeDiff, reduceCtorEq, Int.reduceToNat]
  refine hK _ ?_; clear hK K
  refine AW.seq ?_
  refine AW.rT (by rfl) fun K hK => ?_
  simp -implicitDefEqProofs only [go_sem, ↓reduceIte, Nat.reduceAdd, Nat.reduceMul, Nat.reduceEqDiff, Nat.reduceLeDiff, reduceCtorEq, Int.reduceToNat, List.length_map]
  refine hK _ ?_; clear hK K
  refine AW.block ?_
  refine AW.loop (tg t) (fun i => i ≤ t.ents.length) (fun i => t.ents.length - i) 0 ?_ (by simp) fun i hi => ?_
  · refine Ghost.trans (Ghost.nil (t := 3) (sz := 1) rfl) ?_
    simp only [tg]
    refine Ghost.ent (fun l => if l = 0 then 8 else l) ?_ ?_ ?_ <;> simp -implicitDefEqProofs only [go_sem, ↓reduceIte, Nat.reduceAdd, Nat.reduceMul, Nat.reduceEqDiff, Nat.reduceLeDiff, reduceCtorEq, Int.reduceToNat, List.take_zero, List.map_nil, liftE_nil, List.forall_mem_cons, List.not_mem_nil, false_implies, implies_true, and_self, map_renL_lift, labsIn_lift, List.all_append, List.all_cons, List.all_nil, List.map_append, Nat.reduceLT, labsInL, AV.labsIn]
    rfl
  simp only [tg]
  by_cases hil : i < t.ents.length
  case neg =>
    have hc1 : ((i : Int) < (t.ents.length : Int)) = False := by simp; omega
    have hi' : i = t.ents.length := by omega
    subst hi'
    refine AW.rT (by rfl) fun K hK => ?_
    simp -implicitDefEqProofs only [go_sem, ↓reduceIte, Nat.reduceAdd, Nat.reduceMul, Nat.reduceEqDiff, Nat.reduceLeDiff, reduceCtorEq, Int.reduceToNat, hc1]
    refine hK _ ?_; clear hK K
    refine AW.seq ?_
    refine AW.cond _ (by simp -implicitDefEqProofs only [go_sem, ↓reduceIte, Nat.reduceAdd, Nat.reduceMul, Nat.reduceEqDiff, Nat.reduceLeDiff, reduceCtorEq, Int.reduceToNat]; rfl) (fun hc => ?_) (fun hc => ?_)
    · simp at hc
    refine AW.exit ?_
    simp only [andThen, inBlk, reduceCtorEq, ↓reduceIte, if_t, if_f]
    refine AW.rT (by rfl) fun K hK => ?_
    simp -implicitDefEqProofs only [go_sem, ↓reduceIte, Nat.reduceAdd, Nat.reduceMul, Nat.reduceEqDiff, Nat.reduceLeDiff, reduceCtorEq, Int.reduceToNat]
    refine hK _ ?_; clear hK K
    refine AW.ret ?_
    simp -implicitDefEqProofs only [go_sem, ↓reduceIte, Nat.reduceAdd, Nat.reduceMul, Nat.reduceEqDiff, Nat.reduceLeDiff, reduceCtorEq, Int.reduceToNat, List.take_length]
  obtain ⟨e, he⟩ : ∃ e, t.ents[i]? = some e := ⟨_, List.getElem?_eq_getElem hil⟩
  have ⟨he1, he2, he3⟩ := at_map' encVn he
  have hc1 : ((i : Int) < (t.ents.length : Int)) = True := by simp; omega
  refine AW.rT (by rfl) fun K hK => ?_
  simp -implicitDefEqProofs only [go_sem, ↓reduceIte, Nat.reduceAdd, Nat.reduceMul, Nat.reduceEqDiff, Nat.reduceLeDiff, reduceCtorEq, Int.reduceToNat, hc1]
  refine hK _ ?_; clear hK K
  refine AW.seq ?_
  refine AW.cond _ (by simp -implicitDefEqProofs only [go_sem, ↓reduceIte, Nat.reduceAdd, Nat.reduceMul, Nat.reduceEqDiff, Nat.reduceLeDiff, reduceCtorEq, Int.reduceToNat]; rfl) (fun hc => ?_) (fun hc => ?_)
  rotate_left
  · simp at hc
  refine AW.skip ?_
  simp only [andThen, inBlk, reduceCtorEq, ↓reduceIte, if_t, if_f]
  refine AW.seq ?_
  refine AW.block ?_
  refine AW.rT (by rfl) fun K hK => ?_
  simp -implicitDefEqProofs only [go_sem, ↓reduceIte, Nat.reduceAdd, Nat.reduceMul, Nat.reduceEqDiff, Nat.reduceLeDiff, reduceCtorEq, Int.reduceToNat, he1, he2, he3, hc1, encVn, List.length_map]
  refine hK _ ?_; clear hK K
  refine AW.rE (by rfl) fun K hK => ?_
  simp -implicitDefEqProofs only [go_sem, ↓reduceIte, Nat.reduceAdd, Nat.reduceMul, Nat.reduceEqDiff, Nat.reduceLeDiff, reduceCtorEq, Int.reduceToNat]
  refine ⟨⟨by simp, by simp [oneAll, AV.one, PV.one], by simp⟩, by simp [liftE_length]; omega, ?_⟩
  refine hK _ ?_; clear hK K
  simp only [andThen, inBlk, reduceCtorEq, ↓reduceIte, if_t, if_f]
  have w1 : IntKind.wrap .i64 ((i : Int) + 1) = ((i + 1 : Nat) : Int) := by rw [w64] <;> omega
  have e8 : liftE ((t.ents.take i).map encTg) ++ [[AV.p (.int .i64 e.1)]] = liftE ((t.ents.take (i + 1)).map encTg) := by
    rw [List.take_add_one, he]
    simp [liftE, encTg]
  refine AW.rE (by rfl) fun K hK => ?_
  simp -implicitDefEqProofs only [go_sem, ↓reduceIte, Nat.reduceAdd, Nat.reduceMul, Nat.reduceEqDiff, Nat.reduceLeDiff, reduceCtorEq, Int.reduceToNat, w1]
  refine hK _ ?_; clear hK K
  refine ⟨i + 1, by omega, by omega, ?_⟩
  refine Ghost.ent (fun l => if l = 0 then 10 else l) ?_ ?_ ?_ <;> simp -implicitDefEqProofs only [go_sem, ↓reduceIte, Nat.reduceAdd, Nat.reduceMul, Nat.reduceEqDiff, Nat.reduceLeDiff, reduceCtorEq, Int.reduceToNat, e8, List.forall_mem_cons, List.not_mem_nil, false_implies, implies_true, and_self, map_renL_lift, labsIn_lift, List.all_append, List.all_cons, List.all_nil, List.map_append, Nat.reduceLT, labsInL, AV.labsIn]
def getE (es : List (Int × List Tr)) (g : Int) : List Tr := match es.find? (fun e => e.1 == g) with | some e => e.2 | none => []
theorem find_at {es : List (Int × List Tr)} {i : Nat} {e : Int × List Tr} {g : Int} (h : es[i]? = some e) (ha : (es.take i).all (fun e => e.1 != g) = true) (hg : e.1 = g) : getE es g = e.2 := by
  have e0 : es = es.take i ++ (e :: es.drop (i + 1)) := by
    rw [← (List.getElem?_eq_some_iff.1 h).2, ← List.drop_eq_getElem_cons, List.take_append_drop]
  have : es.find? (fun e => e.1 == g) = some e := by
    rw [e0, List.find?_append, List.find?_eq_none.2 (by
      intro x hx
      have := List.all_eq_true.1 ha x hx
      simpa using this)]
    simp [hg]
  rw [getE, this]
theorem find_not {es : List (Int × List Tr)} {g : Int} (ha : es.all (fun e => e.1 != g) = true) : getE es g = [] := by
  have : es.find? (fun e => e.1 == g) = none := by
    rw [List.find?_eq_none]
    intro x hx
    have := List.all_eq_true.1 ha x hx
    simpa using this
  rw [getE, this]
def gg (t : Tr) (g : Int) (i : Nat) : St := ⟨ofL [(1, .p (.int .i64 g)), (10, .p (.slice (t.ents.map encVn))), (11, .p (.int .i64 (t.ents.length : Int))), (12, .p (.int .i64 (i : Int)))], ofH [], 0⟩
set_option maxRecDepth 100000 in
set_option maxHeartbeats 4000000 in
theorem node_Get (t : Tr) (hlt : lensT t = true) (g : Int) : PFn Try.prog 63 [.box (ndV t) 0, .int .i64 g] (.slice ((getE t.ents g).map encV1)) := by
  obtain ⟨la1, la2, la3⟩ := lensT_mk hlt
  refine PFn.of Try.func63 rfl (by decide) Try.ntmps63 Try.results63 (Nat.le_of_ble_eq_true rfl) ?_
  simp only [argsT, ndV]
  refine AW.rT (by rfl) fun K hK => ?_
  simp -implicitDefEqProofs only [go_sem, ↓reduceIte, Nat.reduceAdd, Nat.reduceMul, Nat.reduceEqDiff, Nat.reduceLeDiff, reduceCtorEq, Int.reduceToNat]
  refine hK _ ?_; clear hK K
  refine AW.seq ?_
  refine AW.rT (by rfl) fun K hK => ?_
  simp -implicitDefEqProofs only [go_sem, ↓reduceIte, Nat.reduceAdd, Nat.reduceMul, Nat.reduceEqDiff, Nat.reduceLeDiff, reduceCtorEq, Int.reduceToNat, List.length_map]
  refine hK _ ?_; clear hK K
  refine AW.block ?_
  refine AW.loop (gg t g) (fun i => i ≤ t.ents.length ∧ (t.ents.take i).all (fun e => e.1 != g) = true) (fun i => t.ents.length - i) 0 ?_ (by simp) fun i hi => ?_
  · simp only [gg]
    refine Ghost.sub ?_ ?_ <;> simp -implicitDefEqProofs only [go_sem, ↓reduceIte, Nat.reduceAdd, Nat.reduceMul, Nat.reduceEqDiff, Nat.reduceLeDiff, reduceCtorEq, Int.reduceToNat,  List.forall_mem_cons, List.not_mem_nil, false_implies, implies_true, and_self, labsIn_lift, List.all_append, List.all_cons, List.all_nil, Nat.reduceLT, labsInL, AV.labsIn]
    rfl
  obtain ⟨g1, g2⟩ := hi
  simp only [gg]
  by_cases hil : i < t.ents.length
  case neg =>
    have hc1 : ((i : Int) < (t.ents.length : Int)) = False := by simp; omega
    have hi' : i = t.ents.length := by omega
    subst hi'
    rw [List.take_length] at g2
    refine AW.rT (by rfl) fun K hK => ?_
    simp -implicitDefEqProofs only [go_sem, ↓reduceIte, Nat.reduceAdd, Nat.reduceMul, Nat.reduceEqDiff, Nat.reduceLeDiff, reduceCtorEq, Int.reduceToNat, hc1]
    refine hK _ ?_; clear hK K
    refine AW.seq ?_
    refine AW.cond _ (by simp -implicitDefEqProofs only [go_sem, ↓reduceIte, Nat.reduceAdd, Nat.reduceMul, Nat.reduceEqDiff, Nat.reduceLeDiff, reduceCtorEq, Int.reduceToNat]; rfl) (fun hc => ?_) (fun hc => ?_)
    · simp at hc
    refine AW.exit ?_
    simp only [andThen, inBlk, reduceCtorEq, ↓reduceIte, if_t, if_f]
    refine AW.rT (by rfl) fun K hK => ?_
    simp -implicitDefEqProofs only [go_sem, ↓reduceIte, Nat.reduceAdd, Nat.reduceMul, Nat.reduceEqDiff, Nat.reduceLeDiff, reduceCtorEq, Int.reduceToNat]
    refine hK _ ?_; clear hK K
    refine AW.ret ?_
    simp -implicitDefEqProofs only [go_sem, ↓reduceIte, Nat.reduceAdd, Nat.reduceMul, Nat.reduceEqDiff, Nat.reduceLeDiff, reduceCtorEq, Int.reduceToNat]
    rw [find_not g2]
    rfl
  obtain ⟨e, he⟩ : ∃ e, t.ents[i]? = some e := ⟨_, List.getElem?_eq_getElem hil⟩
  have ⟨he1, he2, he3⟩ := at_map' encVn he
  have ⟨le1, le2⟩ := lensE_at la3 he
  have hc1 : ((i : Int) < (t.ents.length : Int)) = True := by simp; omega
  refine AW.rT (by rfl) fun K hK => ?_
  simp -implicitDefEqProofs only [go_sem, ↓reduceIte, Nat.reduceAdd, Nat.reduceMul, Nat.reduceEqDiff, Nat.reduceLeDiff, reduceCtorEq, Int.reduceToNat, hc1]
  refine hK _ ?_; clear hK K
  refine AW.seq ?_
  refine AW.cond _ (by simp -implicitDefEqProofs only [go_sem, ↓reduceIte, Nat.reduceAdd, Nat.reduceMul, Nat.reduceEqDiff, Nat.reduceLeDiff, reduceCtorEq, Int.reduceToNat]; rfl) (fun hc => ?_) (fun hc => ?_)
  rotate_left
  · simp at hc
  refine AW.skip ?_
  simp only [andThen, inBlk, reduceCtorEq, ↓reduceIte, if_t, if_f]
  refine AW.seq ?_
  refine AW.block ?_
  refine AW.rT (by rfl) fun K hK => ?_
  simp -implicitDefEqProofs only [go_sem, ↓reduceIte, Nat.reduceAdd, Nat.reduceMul, Nat.reduceEqDiff, Nat.reduceLeDiff, reduceCtorEq, Int.reduceToNat, he1, he2, he3, hc1, encVn, List.length_map]
  refine hK _ ?_; clear hK K
  by_cases hg : e.1 = g
  · have b1 : (e.1 == g) = true := by simpa using hg
    have GG := find_at he g2 hg
    refine AW.rT (by rfl) fun K hK => ?_
    simp -implicitDefEqProofs only [go_sem, ↓reduceIte, Nat.reduceAdd, Nat.reduceMul, Nat.reduceEqDiff, Nat.reduceLeDiff, reduceCtorEq, Int.reduceToNat, b1]
    refine hK _ ?_; clear hK K
    refine AW.cond _ (by simp -implicitDefEqProofs only [go_sem, ↓reduceIte, Nat.reduceAdd, Nat.reduceMul, Nat.reduceEqDiff, Nat.reduceLeDiff, reduceCtorEq, Int.reduceToNat]; rfl) (fun hc => ?_) (fun hc => ?_)
    rotate_left
    · simp at hc
    refine AW.rT (by rfl) fun K hK => ?_
    simp -implicitDefEqProofs only [go_sem, ↓reduceIte, Nat.reduceAdd, Nat.reduceMul, Nat.reduceEqDiff, Nat.reduceLeDiff, reduceCtorEq, Int.reduceToNat]
    refine ⟨.pure _, clone_Vals e.2 (by omega), ?_⟩
    try simp -implicitDefEqProofs only [go_sem, ↓reduceIte, Nat.reduceAdd, Nat.reduceMul, Nat.reduceEqDiff, Nat.reduceLeDiff, reduceCtorEq, Int.reduceToNat]
    refine hK _ ?_; clear hK K
    refine AW.ret ?_
    simp -implicitDefEqProofs only [go_sem, ↓reduceIte, Nat.reduceAdd, Nat.reduceMul, Nat.reduceEqDiff, Nat.reduceLeDiff, reduceCtorEq, Int.reduceToNat, GG]
  · have b1 : (e.1 == g) = false := beqf hg
    refine AW.rT (by rfl) fun K hK => ?_
    simp -implicitDefEqProofs only [go_sem, ↓reduceIte, Nat.reduceAdd, Nat.reduceMul, Nat.reduceEqDiff, Nat.reduceLeDiff, reduceCtorEq, Int.reduceToNat, b1]
    refine hK _ ?_; clear hK K
    refine AW.cond _ (by simp -implicitDefEqProofs only [go_sem, ↓reduceIte, Nat.reduceAdd, Nat.reduceMul, Nat.reduceEqDiff, Nat.reduceLeDiff, reduceCtorEq, Int.reduceToNat]; rfl) (fun hc => ?_) (fun hc => ?_)
    · simp at hc
    refine AW.skip ?_
    simp only [andThen, inBlk, reduceCtorEq, ↓reduceIte, if_t, if_f]
    have w1 : IntKind.wrap .i64 ((i : Int) + 1) = ((i + 1 : Nat) : Int) := by rw [w64] <;> omega
    refine AW.rE (by rfl) fun K hK => ?_
    simp -implicitDefEqProofs only [go_sem, ↓reduceIte, Nat.reduceAdd, Nat.reduceMul, Nat.reduceEqDiff, Nat.reduceLeDiff, reduceCtorEq, Int.reduceToNat, w1]
    refine hK _ ?_; clear hK K
    refine ⟨i + 1, ⟨by omega, all_next he g2 (by simpa using hg)⟩, by omega, ?_⟩
    refine Ghost.sub ?_ ?_ <;> simp -implicitDefEqProofs only [go_sem, ↓reduceIte, Nat.reduceAdd, Nat.reduceMul, Nat.reduceEqDiff, Nat.reduceLeDiff, reduceCtorEq, Int.reduceToNat,  List.forall_mem_cons, List.not_mem_nil, false_implies, implies_true, and_self, labsIn_lift, List.all_append, List.all_cons, List.all_nil, Nat.reduceLT, labsInL, AV.labsIn]
end Go.Aw
/- Data of a type that holds itself, opened: with a bound on the reader's fuel. -/
namespace Go.Aw
open Go.RowKit Go.ChangeShapes
open Go.Proofs
variable {P : Program} {w : World}
def OpnB (B : Nat → Prop) (P : Program) (w : World) (t : TypeId) {α : Type} (e : α → List PV) (G : α → Prop) : Prop :=
  (∀ a, ∀ p ∈ e a, p.one = true) ∧ ∀ (H : Type) (enc : TypeId × Value → H) (fuel : Nat), B fuel → ∀ (cs : List Value) (d : DataW H × List MemPlace), DataW.trod enc P w 0 (fun _ => true) true fuel t cs = some d →
    ∃ a, G a ∧ cs.length = (e a).length ∧ ∀ (j : Nat) u p, cs[j]? = some u → (e a)[j]? = some p → rep w (old w) u p
theorem OpnB.mapG {B : Nat → Prop} {t : TypeId} {α β : Type} {e : α → List PV} {G : α → Prop} {e' : β → List PV} {G' : β → Prop} (h : OpnB B P w t e G) (f : α → β) (he : ∀ a, e' (f a) = e a) (h1 : ∀ b, ∀ p ∈ e' b, p.one = true) (hg : ∀ a, G a → G' (f a)) : OpnB B P w t e' G' := by
  refine ⟨h1, fun H enc fuel hB cs d hd => ?_⟩
  obtain ⟨a, g, l, r⟩ := h.2 H enc fuel hB cs d hd
  exact ⟨f a, hg a g, by rw [he]; exact l, by rw [he]; exact r⟩
theorem OpnB.mono {B B' : Nat → Prop} {t : TypeId} {α : Type} {e : α → List PV} {G : α → Prop} (h : OpnB B P w t e G) (hb : ∀ n, B' n → B n) : OpnB B' P w t e G := ⟨h.1, fun H enc fuel hB cs d hd => h.2 H enc fuel (hb _ hB) cs d hd⟩
theorem Opn.toB {B : Nat → Prop} {t : TypeId} {α : Type} {e : α → List PV} {G : α → Prop} (h : Opn P w t e G) : OpnB B P w t e G := ⟨h.1, fun H enc fuel _ cs d hd => h.2 H enc fuel cs d hd⟩
theorem opn_of_B {t : TypeId} {α : Type} {e : α → List PV} {G : α → Prop} (h : ∀ N, OpnB (fun n => n < N) P w t e G) : Opn P w t e G := ⟨(h 0).1, fun H enc fuel cs d hd => (h (fuel + 1)).2 H enc fuel (Nat.lt_succ_self _) cs d hd⟩
theorem opnB_slice {B : Nat → Prop} {t te : TypeId} {sz : Nat} {α : Type} {e : α → List PV} {G : α → Prop} (hu : P.underlying t = some (.slice te)) (hz : P.cellsOf te = sz) (hp : 0 < sz) (h : OpnB (fun n => B (n + 1)) P w te e G) (hs : ∀ a, (e a).length = sz) :
    OpnB B P w t (fun l : List α => [.slice (l.map e)]) (fun l => l.length ≤ maxLen ∧ ∀ a ∈ l, G a) := by
  refine ⟨fun a p hp => by simp at hp; subst hp; rfl, fun H enc fuel hB cs d hd => ?_⟩
  have one : ∀ (v : Value) (l : List α), rep w (old w) v (.slice (l.map e)) → ∀ (j : Nat) u p, [v][j]? = some u → ([PV.slice (l.map e)])[j]? = some p → rep w (old w) u p := by
    intro v l hr j u p h1 h2
    cases j with
    | zero => simp at h1 h2; subst h1; subst h2; exact hr
    | succ j => simp at h1
  cases fuel with
  | zero => simp [DataW.trod] at hd
  | succ n =>
    unfold DataW.trod at hd
    rw [hu] at hd
    split at hd <;> rename_i hh <;> try (cases hh; done)
    all_goals try cases hh
    · exact ⟨[], ⟨by simp, by simp⟩, rfl, one _ [] (.empty _ _)⟩
    · rename_i a len cap
      dsimp only at hd
      split at hd
      · rename_i hc
        obtain ⟨_, hlc, hcm⟩ := hc
        simp only [Option.bind_eq_some_iff] at hd
        obtain ⟨els, he, _⟩ := hd
        obtain ⟨hl, hg⟩ := mapM_get he
        have each : ∀ i, i < len → ∃ x : List Value × α, w.cells? 0 (a.add (i * sz)) sz = some x.1 ∧ G x.2 ∧ x.1.length = (e x.2).length ∧ ∀ (j : Nat) u p, x.1[j]? = some u → (e x.2)[j]? = some p → rep w (old w) u p := by
          intro i hi
          obtain ⟨y, _, hy⟩ := hg i i (by simp [hi])
          obtain ⟨c, hc1, hc2⟩ := Option.bind_eq_some_iff.1 hy
          rw [hz] at hc1
          obtain ⟨b, g, l, r⟩ := h.2 H enc n hB c y hc2
          exact ⟨(c, b), hc1, g, l, r⟩
        obtain ⟨xs, hxl, hx⟩ := list_choose len each
        have hgl : (xs.map (·.2)).length ≤ maxLen ∧ ∀ b ∈ xs.map (·.2), G b := by
          refine ⟨by rw [List.length_map, hxl]; exact Nat.le_trans hlc hcm, fun b hb => ?_⟩
          obtain ⟨x, hx1, rfl⟩ := List.mem_map.1 hb
          obtain ⟨i, hi⟩ := List.getElem?_of_mem hx1
          exact (hx i x hi).2.1
        refine ⟨xs.map (·.2), hgl, rfl, one _ _ ?_⟩
        rcases Nat.eq_zero_or_pos len with h0 | h0
        · subst h0
          have : xs = [] := List.eq_nil_of_length_eq_zero hxl
          subst this
          exact .empty _ _
        · obtain ⟨x0, hx0⟩ : ∃ x, xs[0]? = some x := ⟨_, List.getElem?_eq_getElem (by omega)⟩
          obtain ⟨c0, _, l0, _⟩ := hx 0 x0 hx0
          obtain ⟨_, cl0, cg0⟩ := World.cells?_some c0
          have q0 := cg0 0 hp
          rw [Nat.zero_mul] at q0
          have hadd : (a.add 0).add 0 = a := by simp [Addr.add]
          rw [hadd, List.getElem?_eq_getElem (by omega)] at q0
          have hsp : a.spot = none ∧ a.block < w.heap.size := by
            unfold World.cell? at q0
            split at q0
            · rename_i hb
              split at q0
              · cases q0
              · rename_i hs'
                refine ⟨by simpa using hs', ?_⟩
                rcases Nat.lt_or_ge a.block w.heap.size with h' | h'
                · exact h'
                · rw [Array.getElem?_eq_none h'] at hb; cases hb
            · cases q0
          obtain ⟨b, o, sp⟩ := a
          obtain ⟨hsp, hbl⟩ := hsp
          dsimp only at hsp hbl
          subst hsp
          refine rep.slice (I := old w) b o len cap sz ((xs.map (·.2)).map e) (fun i j => ((xs.getD i ([], x0.2)).1.getD j .nilIface)) (by simp [hxl]) hlc ?_ hbl ?_ ?_ ?_
          · intro x hx
            simp only [List.map_map, List.mem_map] at hx
            obtain ⟨y, _, rfl⟩ := hx
            exact hs _
          · intro x hx p hp'
            simp only [List.map_map, List.mem_map] at hx
            obtain ⟨y, _, rfl⟩ := hx
            exact h.1 _ _ hp'
          · intro i x j p hi hj
            simp only [List.map_map, List.getElem?_map, Option.map_eq_some_iff] at hi
            obtain ⟨y, hy, rfl⟩ := hi
            obtain ⟨c1, _, l1, r1⟩ := hx i y hy
            obtain ⟨_, cl1, cg1⟩ := World.cells?_some c1
            have hjl : j < sz := by rw [← hs y.2]; exact (List.getElem?_eq_some_iff.1 hj).1
            have := cg1 j hjl
            have ea : ((⟨b, o, none⟩ : Addr).add (i * sz)).add j = ⟨b, o + (i * sz + j), none⟩ := by
              unfold Addr.add
              repeat' split
              all_goals simp <;> omega
            rw [ea, List.getElem?_eq_getElem (by omega)] at this
            rw [this]
            simp [List.getD, hy, List.getElem?_eq_getElem (show j < y.1.length by omega)]
          · intro i x j p hi hj
            simp only [List.map_map, List.getElem?_map, Option.map_eq_some_iff] at hi
            obtain ⟨y, hy, rfl⟩ := hi
            obtain ⟨c1, _, l1, r1⟩ := hx i y hy
            obtain ⟨_, cl1, cg1⟩ := World.cells?_some c1
            have hjl : j < sz := by rw [← hs y.2]; exact (List.getElem?_eq_some_iff.1 hj).1
            refine r1 j _ p ?_ hj
            simp [List.getD, hy, List.getElem?_eq_getElem (show j < y.1.length by omega)]
      · cases hd
    all_goals cases hd
def OpnFB (B : Nat → Prop) (P : Program) (w : World) (off : Nat) (fs : List Field) {α : Type} (e : α → List PV) (G : α → Prop) : Prop :=
  (∀ a, ∀ p ∈ e a, p.one = true) ∧ (∀ a, (e a).length = (fs.map fun f => P.cellsOf f.type).sum) ∧ ∀ (H : Type) (enc : TypeId × Value → H) (n : Nat), B n → ∀ (cs : List Value) (xs : List (DataW H × List MemPlace)),
    fs.mapM (fun f => DataW.trod enc P w 0 (fun _ => true) true n f.type ((cs.drop f.offset).take (P.cellsOf f.type))) = some xs →
    ∃ a, G a ∧ ∀ (j : Nat) u p, cs[off + j]? = some u → (e a)[j]? = some p → rep w (old w) u p
theorem opnFB_nil {B : Nat → Prop} {off : Nat} : OpnFB B P w off [] (fun _ : Unit => []) (fun _ => True) :=
  ⟨fun a p hp => by simp at hp, fun a => rfl, fun H enc n hB cs xs h => ⟨(), trivial, fun j u p h1 h2 => by simp at h2⟩⟩
theorem opnFB_cons {B : Nat → Prop} {off sz : Nat} {f : Field} {fs : List Field} {α β : Type} {e : α → List PV} {G : α → Prop} {e' : β → List PV} {G' : β → Prop} (ho : f.offset = off) (hz : P.cellsOf f.type = sz) (h : OpnB B P w f.type e G) (hs : ∀ a, (e a).length = sz) (h' : OpnFB B P w (off + sz) fs e' G') :
    OpnFB B P w off (f :: fs) (fun x : α × β => e x.1 ++ e' x.2) (fun x => G x.1 ∧ G' x.2) := by
  refine ⟨fun a p hp => ?_, fun a => by simp [hs, hz, h'.2.1], fun H enc n hB cs xs hx => ?_⟩
  · rcases List.mem_append.1 hp with hp | hp
    · exact h.1 _ _ hp
    · exact h'.1 _ _ hp
  · simp only [List.mapM_cons, Option.bind_eq_bind, Option.bind_eq_some_iff, Option.pure_def, Option.some.injEq] at hx
    obtain ⟨y, hy, ys, hys, rfl⟩ := hx
    obtain ⟨a, ga, la, ra⟩ := h.2 H enc n hB _ y hy
    obtain ⟨b, gb, rb⟩ := h'.2.2 H enc n hB cs ys hys
    refine ⟨(a, b), ⟨ga, gb⟩, fun j u p h1 h2 => ?_⟩
    rcases Nat.lt_or_ge j sz with hj | hj
    · rw [List.getElem?_append_left (by rw [hs]; exact hj)] at h2
      refine ra j u p ?_ h2
      rw [ho, hz, List.getElem?_take, if_pos hj, List.getElem?_drop]
      exact h1
    · rw [List.getElem?_append_right (by rw [hs]; exact hj), hs] at h2
      exact rb (j - sz) u p (by rw [← h1]; congr 1; omega) h2
theorem opnB_struct {B : Nat → Prop} {t : TypeId} {fs : Array Field} {α : Type} {e : α → List PV} {G : α → Prop} (hu : P.underlying t = some (.struct fs)) (hz : P.cellsOf t = (fs.toList.map fun f => P.cellsOf f.type).sum) (h : OpnFB (fun n => B (n + 1)) P w 0 fs.toList e G) : OpnB B P w t e G := by
  refine ⟨h.1, fun H enc fuel hB cs d hd => ?_⟩
  cases fuel with
  | zero => simp [DataW.trod] at hd
  | succ n =>
    unfold DataW.trod at hd
    rw [hu] at hd
    split at hd <;> rename_i hh <;> try (cases hh; done)
    all_goals try cases hh
    all_goals try (cases hd; done)
    all_goals
      split at hd
      · rename_i hl
        obtain ⟨xs, hx, _⟩ := Option.map_eq_some_iff.1 hd
        obtain ⟨a, ga, ra⟩ := h.2.2 H enc n hB _ xs hx
        exact ⟨a, ga, by rw [hl, hz, h.2.1], fun j u p h1 h2 => ra j u p (by rw [Nat.zero_add]; exact h1) h2⟩
      · cases hd

inductive okTr : Tr → Prop
  | mk (k n : Int) (s : List UInt8) (es : List (Int × List Tr)) (rest : List Raw) : i64ok k → i64ok n → strOK s → es.length ≤ maxLen → (∀ e ∈ es, i64ok e.1) → (∀ e ∈ es, e.2.length ≤ maxLen) → (∀ e ∈ es, ∀ x ∈ e.2, okTr x) → rest.length ≤ maxLen → (∀ r ∈ rest, rawOK r) → okTr (.mk k n s es rest)
theorem opn_tree (W : World) : Opn Try.prog W 46 encTr okTr := by
  refine opn_of_B fun N => ?_
  induction N with
  | zero => exact ⟨fun a p hp => by rw [encTr_eq] at hp; simp at hp; rcases hp with rfl | rfl | rfl | rfl | rfl <;> rfl, fun H enc fuel hB => absurd hB (Nat.not_lt_zero _)⟩
  | succ N ih => 
    have i3 : ∀ B : Nat → Prop, OpnB B Try.prog W 3 (fun n : Int => [.int .i64 n]) i64ok := fun B => (opn_i64 W).toB
    have s9 : ∀ B : Nat → Prop, OpnB B Try.prog W 9 (fun s : List UInt8 => [.str s]) strOK := fun B => (opn_str Try.underlying9).toB
    have r22 : ∀ B : Nat → Prop, OpnB B Try.prog W 22 (fun l : List Raw => [.slice (l.map encRaw)]) (fun l => l.length ≤ maxLen ∧ ∀ a ∈ l, rawOK a) := fun B => (opn_raws W).toB
    have c3 : Try.prog.cellsOf 3 = 1 := by kernel_rfl
    have c9 : Try.prog.cellsOf 9 = 1 := by kernel_rfl
    have c22 : Try.prog.cellsOf 22 = 1 := by kernel_rfl
    have c44 : Try.prog.cellsOf 44 = 1 := by kernel_rfl
    have c51 : Try.prog.cellsOf 51 = 1 := by kernel_rfl
    have ts : OpnB (fun n => n + 1 + 1 + 1 < N + 1) Try.prog W 51 (fun l : List Tr => [.slice (l.map encTr)]) (fun l => l.length ≤ maxLen ∧ ∀ a ∈ l, okTr a) :=
      opnB_slice (sz := 5) Try.underlying51 (by kernel_rfl) (by decide) (ih.mono fun n h => by omega) (fun a => by rw [encTr_eq]; rfl)
    have en : OpnB (fun n => n + 1 + 1 < N + 1) Try.prog W 53 encEn (fun e => i64ok e.1 ∧ e.2.length ≤ maxLen ∧ ∀ a ∈ e.2, okTr a) := by
      refine OpnB.mapG (G := fun x : Int × List Tr × Unit => i64ok x.1 ∧ (x.2.1.length ≤ maxLen ∧ ∀ a ∈ x.2.1, okTr a) ∧ True) (opnB_struct Try.underlying53 (by kernel_rfl) ?_) (fun x : Int × List Tr × Unit => ((x.1, x.2.1) : Int × List Tr)) (fun a => rfl) (fun b p hp => by simp [encEn] at hp; rcases hp with rfl | rfl <;> rfl) (fun a h => ⟨h.1, h.2.1.1, h.2.1.2⟩)
      have f1 := opnFB_cons (B := fun n => n + 1 + 1 + 1 < N + 1) (P := Try.prog) (w := W) (off := 1) (f := { name := "Trees", type := 51, offset := 1, embedded := false, tag := "", pkgPath := "", byteOffset := 8 }) rfl c51 ts (fun _ => rfl) opnFB_nil
      have f0 := opnFB_cons (B := fun n => n + 1 + 1 + 1 < N + 1) (P := Try.prog) (w := W) (off := 0) (f := { name := "Tag", type := 3, offset := 0, embedded := false, tag := "", pkgPath := "", byteOffset := 0 }) rfl c3 (i3 _) (fun _ => rfl) f1
      exact f0
    have es : OpnB (fun n => n + 1 < N + 1) Try.prog W 44 (fun l : List (Int × List Tr) => [.slice (l.map encEn)]) (fun l => l.length ≤ maxLen ∧ ∀ e ∈ l, i64ok e.1 ∧ e.2.length ≤ maxLen ∧ ∀ a ∈ e.2, okTr a) :=
      opnB_slice (sz := 2) Try.underlying44 (by kernel_rfl) (by decide) en (fun a => rfl)
    refine OpnB.mapG (G := fun x : Int × Int × List UInt8 × List (Int × List Tr) × List Raw × Unit => i64ok x.1 ∧ i64ok x.2.1 ∧ strOK x.2.2.1 ∧ (x.2.2.2.1.length ≤ maxLen ∧ ∀ e ∈ x.2.2.2.1, i64ok e.1 ∧ e.2.length ≤ maxLen ∧ ∀ a ∈ e.2, okTr a) ∧ (x.2.2.2.2.1.length ≤ maxLen ∧ ∀ a ∈ x.2.2.2.2.1, rawOK a) ∧ True) (opnB_struct Try.underlying46 (by kernel_rfl) ?_)
      (fun x : Int × Int × List UInt8 × List (Int × List Tr) × List Raw × Unit => Tr.mk x.1 x.2.1 x.2.2.1 x.2.2.2.1 x.2.2.2.2.1) (fun a => encTr_eq _) (fun b p hp => by rw [encTr_eq] at hp; simp at hp; rcases hp with rfl | rfl | rfl | rfl | rfl <;> rfl) ?_
    · have f4 := opnFB_cons (B := fun n => n + 1 < N + 1) (P := Try.prog) (w := W) (off := 4) (f := { name := "Rest", type := 22, offset := 4, embedded := false, tag := "", pkgPath := "", byteOffset := 56 }) rfl c22 (r22 _) (fun _ => rfl) opnFB_nil
      have f3 := opnFB_cons (B := fun n => n + 1 < N + 1) (P := Try.prog) (w := W) (off := 3) (f := { name := "Entries", type := 44, offset := 3, embedded := false, tag := "", pkgPath := "", byteOffset := 32 }) rfl c44 es (fun _ => rfl) f4
      have f2 := opnFB_cons (B := fun n => n + 1 < N + 1) (P := Try.prog) (w := W) (off := 2) (f := { name := "S", type := 9, offset := 2, embedded := false, tag := "", pkgPath := "", byteOffset := 16 }) rfl c9 (s9 _) (fun _ => rfl) f3
      have f1 := opnFB_cons (B := fun n => n + 1 < N + 1) (P := Try.prog) (w := W) (off := 1) (f := { name := "N", type := 3, offset := 1, embedded := false, tag := "", pkgPath := "", byteOffset := 8 }) rfl c3 (i3 _) (fun _ => rfl) f2
      have f0 := opnFB_cons (B := fun n => n + 1 < N + 1) (P := Try.prog) (w := W) (off := 0) (f := { name := "Kind", type := 3, offset := 0, embedded := false, tag := "", pkgPath := "", byteOffset := 0 }) rfl c3 (i3 _) (fun _ => rfl) f1
      exact f0
    · intro x h
      obtain ⟨h1, h2, h3, ⟨h4, h5⟩, ⟨h6, h7⟩, _⟩ := h
      exact .mk _ _ _ _ _ h1 h2 h3 h4 (fun e he => (h5 e he).1) (fun e he => (h5 e he).2.1) (fun e he => (h5 e he).2.2) h6 h7
end Go.Aw
