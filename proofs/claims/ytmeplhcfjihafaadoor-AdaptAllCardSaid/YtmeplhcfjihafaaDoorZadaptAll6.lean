/- What the law LawAdaptAll leans on, joined (part 6). -/
import Derived.Test.YtmeplhcfjihafaaDoorZadaptAll5
set_option linter.unusedSimpArgs false
set_option linter.unusedVariables false
namespace Go.Aw
open Go.Proofs Go.RowKit
set_option linter.unusedSimpArgs false
set_option linter.unusedVariables false
def mkM (S U : Sc) (l : List Pr) (ps : List (List Stp)) : List (Nat × Blk) := (0, .row 4 [cellsSc S]) :: (1, .row 4 [cellsSc U]) :: (2, .row 1 [[.ex []]]) :: memA S U l 3 4 5 ++ [(6, .row 1 [[.own 7]]), (7, .row 1 (liftE (ps.map encPt)))]
def mkT (m : List (Nat × AV)) : List (Nat × AV) := (4, .ptr 0 0 0) :: (5, .ptr 1 0 0) :: (8, .ptr 2 0 0) :: (14, .ptr 3 0 0) :: (15, .ptr 6 0 0) :: m
theorem memA_by {p : Nat → Bool} {S U : Sc} {l : List Pr} {r a b : Nat} (h1 : p a = true) (h2 : p b = true) : (memA S U l r a b).all (fun x => x.2.labsBy p) = true := by
 simp only [memA, rowA, List.all_cons, List.all_nil, labsBy_lift, mQ_by, Bool.and_true]
 simp [Blk.labsBy, labsByL, AV.labsBy, h1, h2]
def mk0 (S U : Sc) (l : List Pr) (m : List (Nat × AV)) : St := ⟨ofL ((4, .ptr 0 0 0) :: (5, .ptr 1 0 0) :: (8, .ptr 2 0 0) :: (14, .ptr 3 0 0) :: m), ofH ((0, .row 4 [cellsSc S]) :: (1, .row 4 [cellsSc U]) :: (2, .row 1 [[.ex []]]) :: memA S U l 3 4 5), 6⟩
def mkS (S U : Sc) (l : List Pr) (ps : List (List Stp)) (m : List (Nat × AV)) : St := ⟨ofL (mkT m), ofH (mkM S U l ps), 8⟩
def mkI (S U : Sc) (mo mn : Ms) (l : List Pr) (ps : List (List Stp)) (st : List Stp) (i : Nat) (m : List (Nat × AV)) : St := ⟨ofL (mkT ((16, .p (.int .i64 (i : Int))) :: (17, .ptr 8 0 0) :: (19, .ptr 9 0 0) :: (21, .own 10) :: m)), ofH (mkM S U l ps ++ [(8, .row 3 [cellsMs mo]), (9, .row 3 [cellsMs mn]), (10, .row 3 (liftE (st.map encSt)))]), 11⟩
def mkJ (S U : Sc) (mo mn : Ms) (l : List Pr) (ps : List (List Stp)) (st : List Stp) (i n : Nat) (s : Stp) (b : Bool) : St := ⟨ofL (mkT [(16, .p (.int .i64 (i : Int))), (17, .ptr 8 0 0), (19, .ptr 9 0 0), (21, .own 10), (22, .p (.int .i64 (n : Int))), (23, .ptr 11 0 0), (24, .p (.bool b))]), ofH (mkM S U l ps ++ [(8, .row 3 [cellsMs mo]), (9, .row 3 [cellsMs mn]), (10, .row 3 (liftE (st.map encSt))), (11, .row 3 [[.p (.int .i64 s.op), .p (.int .i64 s.tag), .p (.int .i64 s.sub)]])]), 12⟩
set_option maxRecDepth 100000 in
set_option maxHeartbeats 4000000 in
theorem adapt_Make (S U : Sc) (LS : LensS S) (LU : LensS U) (a b : List UInt8) : PFn Tryd.prog 49 [.agg (encSc S), .agg (encSc U), .str a, .str b] (.tuple [.agg [.slice ((makeR S U a b).1.map encPt)], .int .i64 (makeR S U a b).2]) := by
 refine PFn.of Tryd.func49 rfl (by decide) Tryd.ntmps49 Tryd.results49 (Nat.le_of_ble_eq_true rfl) ?_
 have C1 := check_Check S LS
 have C2 := check_Check U LU
 simp only [encSc] at C1 C2
 simp only [argsT, encSc]
 refine AW.rT (by rfl) fun K hK => ?_
 simp -implicitDefEqProofs only [go_sem, ↓reduceIte, Nat.reduceAdd, Nat.reduceEqDiff]
 refine hK _ ?_; clear hK K
 refine AW.seq ?_
 by_cases hS : checkC S = 0
 case neg =>
  have f1 : (checkC S != 0) = true := by simp [hS]
  have e : makeR S U a b = ([], 1) := by unfold makeR; rw [if_neg (fun h => hS h.1)]
  refine AW.rT (by rfl) fun K hK => ?_
  simp -implicitDefEqProofs only [go_sem, ↓reduceIte, Nat.reduceAdd, Nat.reduceEqDiff, Nat.reduceLeDiff, reduceCtorEq]
  refine ⟨.pure _, C1, ?_⟩
  try simp -implicitDefEqProofs only [go_sem, ↓reduceIte, Nat.reduceAdd, Nat.reduceEqDiff, f1]
  refine hK _ ?_; clear hK K
  refine AW.cond _ (by simp -implicitDefEqProofs only [go_sem]; rfl) (fun hc => ?_) (fun hc => ?_)
  rotate_left
  ·simp at hc
  refine AW.rT (by rfl) fun K hK => ?_
  simp -implicitDefEqProofs only [go_sem, ↓reduceIte, Nat.reduceAdd, Nat.reduceEqDiff, Nat.reduceLeDiff]
  refine hK _ ?_; clear hK K
  refine AW.ret ?_
  simp -implicitDefEqProofs only [go_sem, ↓reduceIte, Nat.reduceEqDiff, Nat.reduceLeDiff, e, List.map_nil]
 have f1 : (checkC S != 0) = false := by simp [hS]
 by_cases hU : checkC U = 0
 case neg =>
  have f2 : (checkC U != 0) = true := by simp [hU]
  have e : makeR S U a b = ([], 1) := by unfold makeR; rw [if_neg (fun h => hU h.2)]
  refine AW.rT (by rfl) fun K hK => ?_
  simp -implicitDefEqProofs only [go_sem, ↓reduceIte, Nat.reduceAdd, Nat.reduceEqDiff, Nat.reduceLeDiff, reduceCtorEq]
  refine ⟨.pure _, C1, ?_⟩
  try simp -implicitDefEqProofs only [go_sem, ↓reduceIte, Nat.reduceAdd, Nat.reduceEqDiff, Nat.reduceLeDiff, f1]
  refine ⟨.pure _, C2, ?_⟩
  try simp -implicitDefEqProofs only [go_sem, ↓reduceIte, Nat.reduceAdd, Nat.reduceEqDiff, f2]
  refine hK _ ?_; clear hK K
  refine AW.cond _ (by simp -implicitDefEqProofs only [go_sem]; rfl) (fun hc => ?_) (fun hc => ?_)
  rotate_left
  ·simp at hc
  refine AW.rT (by rfl) fun K hK => ?_
  simp -implicitDefEqProofs only [go_sem, ↓reduceIte, Nat.reduceAdd, Nat.reduceEqDiff, Nat.reduceLeDiff]
  refine hK _ ?_; clear hK K
  refine AW.ret ?_
  simp -implicitDefEqProofs only [go_sem, ↓reduceIte, Nat.reduceEqDiff, Nat.reduceLeDiff, e, List.map_nil]
 have f2 : (checkC U != 0) = false := by simp [hU]
 have RS := right_of hS
 have RU := right_of hU
 have FS := check_fit.1 hS
 have FU := check_fit.1 hU
 have M1 := check_Message S a (by have := RS.len; omega)
 have M2 := check_Message U b (by have := RU.len; omega)
 have e1 : firstP (fun x => x.name == a) zMs S.msgs = (msgOf S a, hasM S a) := rfl
 have e2 : firstP (fun x => x.name == b) zMs U.msgs = (msgOf U b, hasM U b) := rfl
 rw [e1] at M1
 rw [e2] at M2
 simp only [encSc, encMs] at M1 M2
 refine AW.rT (by rfl) fun K hK => ?_
 simp -implicitDefEqProofs only [go_sem, ↓reduceIte, Nat.reduceAdd, Nat.reduceEqDiff, Nat.reduceLeDiff, reduceCtorEq]
 refine ⟨.pure _, C1, ?_⟩
 try simp -implicitDefEqProofs only [go_sem, ↓reduceIte, Nat.reduceAdd, Nat.reduceEqDiff, Nat.reduceLeDiff, f1]
 refine ⟨.pure _, C2, ?_⟩
 try simp -implicitDefEqProofs only [go_sem, ↓reduceIte, Nat.reduceAdd, Nat.reduceEqDiff, f2]
 refine hK _ ?_; clear hK K
 refine AW.cond _ (by simp -implicitDefEqProofs only [go_sem]; rfl) (fun hc => ?_) (fun hc => ?_)
 ·simp at hc
 refine AW.skip ?_
 simp only [andThen]
 clear C1 C2
 refine AW.rT (by rfl) fun K hK => ?_
 simp -implicitDefEqProofs only [go_sem, ↓reduceIte, Nat.reduceAdd, Nat.reduceEqDiff, Nat.reduceLeDiff, reduceCtorEq]
 refine ⟨.pure _, M1, ?_⟩
 try simp -implicitDefEqProofs only [go_sem, ↓reduceIte, Nat.reduceAdd, Nat.reduceEqDiff, Nat.reduceLeDiff]
 refine hK _ ?_; clear hK K
 refine AW.rT (by rfl) fun K hK => ?_
 simp -implicitDefEqProofs only [go_sem, ↓reduceIte, Nat.reduceAdd, Nat.reduceEqDiff, Nat.reduceLeDiff, reduceCtorEq]
 refine ⟨.pure _, M2, ?_⟩
 try simp -implicitDefEqProofs only [go_sem, ↓reduceIte, Nat.reduceAdd, Nat.reduceEqDiff, Nat.reduceLeDiff]
 refine hK _ ?_; clear hK K
 refine AW.seq ?_
 cases ha : hasM S a with
 | false =>
  have e : makeR S U a b = ([], 14) := by unfold makeR; rw [if_pos ⟨hS, hU⟩, if_neg (by rw [ha]; simp)]
  refine AW.rT (by rfl) fun K hK => ?_
  simp -implicitDefEqProofs only [go_sem, ↓reduceIte, Nat.reduceAdd, Nat.reduceEqDiff]
  refine hK _ ?_; clear hK K
  refine AW.cond _ (by simp -implicitDefEqProofs only [go_sem]; rfl) (fun hc => ?_) (fun hc => ?_)
  rotate_left
  ·simp at hc
  refine AW.rT (by rfl) fun K hK => ?_
  simp -implicitDefEqProofs only [go_sem, ↓reduceIte, Nat.reduceAdd, Nat.reduceEqDiff, Nat.reduceLeDiff]
  refine hK _ ?_; clear hK K
  refine AW.ret ?_
  simp -implicitDefEqProofs only [go_sem, ↓reduceIte, Nat.reduceEqDiff, Nat.reduceLeDiff, e, List.map_nil]
 | true =>
 cases hb : hasM U b with
 | false =>
  have e : makeR S U a b = ([], 14) := by unfold makeR; rw [if_pos ⟨hS, hU⟩, if_neg (by rw [hb]; simp)]
  refine AW.rT (by rfl) fun K hK => ?_
  simp -implicitDefEqProofs only [go_sem, ↓reduceIte, Nat.reduceAdd, Nat.reduceEqDiff]
  refine hK _ ?_; clear hK K
  refine AW.cond _ (by simp -implicitDefEqProofs only [go_sem]; rfl) (fun hc => ?_) (fun hc => ?_)
  rotate_left
  ·simp at hc
  refine AW.rT (by rfl) fun K hK => ?_
  simp -implicitDefEqProofs only [go_sem, ↓reduceIte, Nat.reduceAdd, Nat.reduceEqDiff, Nat.reduceLeDiff]
  refine hK _ ?_; clear hK K
  refine AW.ret ?_
  simp -implicitDefEqProofs only [go_sem, ↓reduceIte, Nat.reduceEqDiff, Nat.reduceLeDiff, e, List.map_nil]
 | true =>
 have e : makeR S U a b = (makeP S U 101 0 [⟨a, b⟩], 0) := by unfold makeR; rw [if_pos ⟨hS, hU⟩, if_pos ⟨ha, hb⟩]
 refine AW.rT (by rfl) fun K hK => ?_
 simp -implicitDefEqProofs only [go_sem, ↓reduceIte, Nat.reduceAdd, Nat.reduceEqDiff]
 refine hK _ ?_; clear hK K
 refine AW.cond _ (by simp -implicitDefEqProofs only [go_sem]; rfl) (fun hc => ?_) (fun hc => ?_)
 ·simp at hc
 refine AW.skip ?_
 simp only [andThen]
 refine AW.rT (by rfl) fun K hK => ?_
 simp -implicitDefEqProofs only [go_sem, ↓reduceIte, Nat.reduceAdd, Nat.reduceEqDiff, Nat.reduceLeDiff, reduceCtorEq]
 refine hK _ ?_; clear hK K
 have AP := adapt_part S U [] ⟨a, b⟩ (by simp)
 have eP : addP [] ⟨a, b⟩ = [⟨a, b⟩] := rfl
 rw [eP] at AP
 simp only [encPr] at AP
 refine AW.ghost (s' := mk0 S U [] [(2, .p (.str a)), (3, .p (.str b))]) (Ghost.trans (Ghost.nilH (l := 40) (i := 0) (j := 8) (sz' := 2) rfl rfl rfl) ?_) ?_
 ·simp only [mk0, memA, rowA, cellsSc, List.map_nil, liftE_nil]
  refine Ghost.ent (fun l => if l = 3 then 40 else if l = 4 then 42 else if l = 5 then 38 else l) ?_ ?_ ?_ <;> simp -implicitDefEqProofs only [go_sem, ↓reduceIte, Nat.reduceEqDiff, reduceCtorEq, mQ, List.zipIdx_nil, List.forall_mem_cons, List.not_mem_nil, false_implies, implies_true, and_self, List.all_cons, List.all_nil, Nat.reduceLT, labsInL, AV.labsIn]
  all_goals first | rfl | decide | skip
 simp only [mk0, memA, rowA, cellsSc]
 refine AW.rR (SeqR.ev 4 (by rfl) (by decide) ?_)
 simp -implicitDefEqProofs only [go_sem, ↓reduceIte, Nat.reduceAdd, Nat.reduceEqDiff, Nat.reduceLeDiff]
 refine SeqR.call (fun k => k + 3) rfl rfl AP ⟨?_, rfl, ?_, rfl, rfl, rfl, rfl, rfl, memA_by (r := 0) rfl rfl⟩ ?_
 ·simp -implicitDefEqProofs only [go_sem, ↓reduceIte, Nat.reduceEqDiff, argD]
 ·simp only [memA, rowA]
  simp -implicitDefEqProofs only [go_sem, ↓reduceIte, Nat.reduceAdd, Nat.reduceEqDiff, reduceCtorEq, List.forall_mem_cons, List.not_mem_nil, false_implies, implies_true]
  first | done | decide
 refine SeqR.last rfl ?_
 refine AW.ghost (s' := mk0 S U [⟨a, b⟩] []) ?_ ?_
 ·simp only [mk0, memA, rowA, cellsSc]
  refine Ghost.ent (fun l => if l = 4 then 10 else if l = 5 then 11 else l) ?_ ?_ ?_ <;> simp -implicitDefEqProofs only [go_sem, ↓reduceIte, Nat.reduceAdd, Nat.reduceEqDiff, reduceCtorEq, lift2, goneU, newU, Nat.reduceSub, List.forall_mem_cons, List.not_mem_nil, false_implies, implies_true, and_self, map_renL_lift, labsIn_lift, List.all_cons, List.all_nil, Nat.reduceLT, labsInL, AV.labsIn]
  all_goals first | rfl | decide | skip
 simp only [mk0, memA, rowA, cellsSc]
 refine AW.rT (by rfl) fun K hK => ?_
 simp -implicitDefEqProofs only [go_sem, Nat.reduceAdd]
 refine hK _ ?_; clear hK K
 refine AW.ghost (s' := mkS S U [⟨a, b⟩] [] []) (Ghost.trans (Ghost.nilH (l := 6) (i := 0) (j := 0) (sz' := 1) rfl rfl rfl) ?_) ?_
 ·simp only [mkS, mkT, mkM, memA, rowA, cellsSc, List.map_nil, liftE_nil, List.cons_append, List.nil_append]
  refine Ghost.sub ?_ ?_ <;> simp -implicitDefEqProofs only [go_sem, ↓reduceIte, Nat.reduceEqDiff, reduceCtorEq, mQ_labs, List.forall_mem_cons, List.not_mem_nil, false_implies, implies_true, and_self, labsIn_lift, List.all_cons, List.all_nil, Nat.reduceLT, labsInL, AV.labsIn]
  all_goals first | rfl | decide | skip
 have ok0 : PairsOK S U [⟨a, b⟩] := ⟨fun p hp => by simp at hp; subst hp; exact ⟨ha, hb⟩, by simp⟩
 refine AW.cut (fun x : List Pr × List (List Stp) => mkS S U x.1 x.2 []) (fun x => x.2 = makeP S U 101 0 [⟨a, b⟩]) ?_ fun x hx => ?_
 rotate_left
 ·obtain ⟨l, ps⟩ := x
  simp only at hx
  refine AW.ghost (s' := ⟨ofL [(8, .ptr 2 0 0), (15, .ptr 6 0 0)], ofH [(2, .row 1 [[.ex []]]), (6, .row 1 [[.p (.slice (ps.map encPt))]])], 8⟩) (Ghost.trans (Ghost.freeze (lb := 7) (sz := 1) (ps := ps.map encPt) rfl (unlift_liftE _)) (Ghost.sub ?_ ?_)) ?_
  ·simp only [mkS, mkT]
   simp -implicitDefEqProofs only [go_sem, ↓reduceIte, Nat.reduceEqDiff, List.forall_mem_cons, List.not_mem_nil, false_implies, implies_true, thaw, Option.map_some]
   first | done | decide | exact ⟨⟨rfl, rfl⟩, rfl, rfl⟩
  ·simp only [mkS, mkM, memA, rowA, cellsSc, List.cons_append, List.nil_append]
   simp -implicitDefEqProofs only [go_sem, ↓reduceIte, Nat.reduceEqDiff, reduceCtorEq, List.forall_mem_cons, List.not_mem_nil, false_implies, implies_true, thaw1, Option.map_some, List.map_cons, List.map_nil]
   first | done | decide
  refine AW.rT (by rfl) fun K hK => ?_
  simp -implicitDefEqProofs only [go_sem, ↓reduceIte, Nat.reduceAdd, Nat.reduceEqDiff, Nat.reduceLeDiff]
  refine hK _ ?_; clear hK K
  rw [hx]
  refine AW.ret ?_
  simp -implicitDefEqProofs only [go_sem, ↓reduceIte, Nat.reduceEqDiff, Nat.reduceLeDiff, e]
 simp only [mkS, mkT, mkM, memA, rowA, cellsSc, List.cons_append, List.nil_append]
 refine AW.rT (by rfl) fun K hK => ?_
 simp -implicitDefEqProofs only [go_sem, Nat.reduceAdd]
 refine hK _ ?_; clear hK K
 refine AW.block ?_
 have y1 : [] ++ makeP S U (101 - 0) 0 [⟨a, b⟩] = makeP S U 101 0 [⟨a, b⟩] := by rw [Nat.sub_zero, List.nil_append]
 refine AW.loop (fun x : List Pr × List (List Stp) × Nat => mkS S U x.1 x.2.1 [(16, .p (.int .i64 (x.2.2 : Int)))]) (fun x => x.2.2 ≤ x.1.length ∧ x.2.1.length = x.2.2 ∧ x.2.1 ++ makeP S U (101 - x.2.2) x.2.2 x.1 = makeP S U 101 0 [⟨a, b⟩] ∧ PairsOK S U x.1) (fun x => 101 - x.2.2) ([⟨a, b⟩], [], 0) ?_ ⟨Nat.zero_le _, rfl, y1, ok0⟩ fun x hx => ?_
 ·simp only [mkS, mkT, mkM, memA, rowA, cellsSc, List.cons_append, List.nil_append]
  refine Ghost.sub ?_ ?_ <;> simp -implicitDefEqProofs only [go_sem, ↓reduceIte, Nat.reduceEqDiff, reduceCtorEq, List.forall_mem_cons, List.not_mem_nil, false_implies, implies_true, and_self, labsIn_lift, List.all_cons, List.all_nil, Nat.reduceLT, labsInL, AV.labsIn]
  all_goals first | rfl | decide | skip
 clear M1 M2 e1 e2 AP ok0
 obtain ⟨l, ps, i⟩ := x
 obtain ⟨i1, i2, eE, okl⟩ := hx
 simp only at i1 i2 eE okl
 have hl100 := pairs_len okl RS.len.2.1 RU.len.2.1
 simp only [mkS, mkT, mkM, memA, rowA, cellsSc, List.cons_append, List.nil_append]
 refine AW.seq ?_
 by_cases hil : i < l.length
 case neg =>
  have hc1 : ((i : Int) < (l.length : Int)) = False := eq_false (by omega)
  have eN : makeP S U (101 - i) i l = [] := by
   rw [show 101 - i = (100 - i) + 1 by omega, makeP, List.getElem?_eq_none (by omega)]
  rw [eN, List.append_nil] at eE
  refine AW.rT (by rfl) fun K hK => ?_
  simp -implicitDefEqProofs only [go_sem, ↓reduceIte, Nat.reduceAdd, Nat.reduceEqDiff, reduceCtorEq, hc1, liftE_length, List.length_map]
  refine hK _ ?_; clear hK K
  refine AW.cond _ (by simp -implicitDefEqProofs only [go_sem]; rfl) (fun hc => ?_) (fun hc => ?_)
  ·simp at hc
  refine AW.exit ?_
  simp only [andThen, inBlk, ↓reduceIte]
  refine ⟨(l, ps), eE, ?_⟩
  show Ghost _ _ (mkS S U l ps [])
  simp only [mkS, mkT, mkM, memA, rowA, cellsSc, List.cons_append, List.nil_append]
  refine Ghost.sub ?_ ?_ <;> simp -implicitDefEqProofs only [go_sem, ↓reduceIte, Nat.reduceEqDiff, reduceCtorEq, List.forall_mem_cons, List.not_mem_nil, false_implies, implies_true, and_self, labsIn_lift, List.all_cons, List.all_nil, Nat.reduceLT, labsInL, AV.labsIn]
  all_goals first | rfl | decide | skip
 obtain ⟨p, hp⟩ : ∃ p, l[i]? = some p := ⟨_, List.getElem?_eq_getElem hil⟩
 have g1 := at_lift encPr hp
 have b0 : 0 ≤ (i : Int) := by omega
 have b1 : (i : Int) < (l.length : Int) := by omega
 have hc1 : ((i : Int) < (l.length : Int)) = True := eq_true (by omega)
 have w1 : IntKind.wrap .i64 ((i : Int) + 1) = ((i + 1 : Nat) : Int) := by rw [w64] <;> omega
 have hh := okl.here p (List.mem_of_getElem? hp)
 have hmo := (msgOf_mem hh.1).1
 have hmn := (msgOf_mem hh.2).1
 have M1 := check_Message S p.o (by have := RS.len; omega)
 have M2 := check_Message U p.n (by have := RU.len; omega)
 have e1 : firstP (fun x => x.name == p.o) zMs S.msgs = (msgOf S p.o, true) := by rw [← hh.1]; rfl
 have e2 : firstP (fun x => x.name == p.n) zMs U.msgs = (msgOf U p.n, true) := by rw [← hh.2]; rfl
 rw [e1] at M1
 rw [e2] at M2
 simp only [encSc, encMs] at M1 M2
 simp only [encPr, List.map_cons, List.map_nil] at g1
 have eN : makeP S U (101 - i) i l = (stepsP (msgOf S p.o) (msgOf U p.n) 500 1 l).1 :: makeP S U (100 - i) (i + 1) (stepsP (msgOf S p.o) (msgOf U p.n) 500 1 l).2 := by
  rw [show 101 - i = (100 - i) + 1 by omega, makeP, hp]
 rw [eN] at eE
 generalize hmo' : msgOf S p.o = mo at *
 generalize hmn' : msgOf U p.n = mn at *
 refine AW.rT (by rfl) fun K hK => ?_
 simp -implicitDefEqProofs only [go_sem, ↓reduceIte, Nat.reduceAdd, Nat.reduceEqDiff, reduceCtorEq, hc1, liftE_length, List.length_map]
 refine hK _ ?_; clear hK K
 refine AW.cond _ (by simp -implicitDefEqProofs only [go_sem]; rfl) (fun hc => ?_) (fun hc => ?_)
 rotate_left
 ·simp at hc
 refine AW.skip ?_
 simp only [andThen]
 refine AW.seq ?_
 refine AW.block ?_
 refine AW.dT mixed (by rfl) (by decide +kernel) fun K hK => ?_
 simp -implicitDefEqProofs only [go_sem, ↓reduceIte, Nat.reduceAdd, Nat.reduceEqDiff, Nat.reduceLeDiff, reduceCtorEq, g1, b0, b1, liftE_length, List.length_map]
 refine ⟨.pure _, M1, ?_⟩
 try simp -implicitDefEqProofs only [go_sem, ↓reduceIte, Nat.reduceAdd, Nat.reduceEqDiff, Nat.reduceLeDiff]
 refine ⟨by decide +kernel, ?_⟩
 refine hK _ ?_; clear hK K
 refine AW.dT mixed (by rfl) (by decide +kernel) fun K hK => ?_
 simp -implicitDefEqProofs only [go_sem, ↓reduceIte, Nat.reduceAdd, Nat.reduceEqDiff, Nat.reduceLeDiff, reduceCtorEq, g1, b0, b1, liftE_length, List.length_map]
 refine ⟨.pure _, M2, ?_⟩
 try simp -implicitDefEqProofs only [go_sem, ↓reduceIte, Nat.reduceAdd, Nat.reduceEqDiff, Nat.reduceLeDiff]
 refine ⟨by decide +kernel, ?_⟩
 refine hK _ ?_; clear hK K
 refine AW.rT (by rfl) fun K hK => ?_
 simp -implicitDefEqProofs only [go_sem, Nat.reduceAdd]
 refine hK _ ?_; clear hK K
 refine AW.ghost (s' := mkI S U mo mn l ps [] i []) (Ghost.trans (Ghost.nil (t := 21) (sz := 3) rfl) ?_) ?_
 ·simp only [mkI, mkT, mkM, memA, rowA, cellsSc, cellsMs, List.map_nil, liftE_nil, List.cons_append, List.nil_append]
  refine Ghost.ent (fun l => if l = 8 then 28 else if l = 9 then 44 else if l = 10 then 48 else l) ?_ ?_ ?_ <;> simp -implicitDefEqProofs only [go_sem, ↓reduceIte, Nat.reduceEqDiff, reduceCtorEq, List.forall_mem_cons, List.not_mem_nil, false_implies, implies_true, and_self, map_renL_lift, labsIn_lift, List.all_cons, List.all_nil, Nat.reduceLT, labsInL, AV.labsIn]
  all_goals first | rfl | decide | skip
 have SP : ∃ sp, sp = stepsP mo mn 500 1 l := ⟨_, rfl⟩
 obtain ⟨sp, hsp⟩ := SP
 rw [← hsp] at eE
 have okm : mo ∈ S.msgs ∧ mn ∈ U.msgs := ⟨hmo, hmn⟩
 refine AW.cut (fun x : List Pr × List Stp => mkI S U mo mn x.1 ps x.2 i []) (fun x => x.1 = sp.2 ∧ x.2 = sp.1 ∧ PairsOK S U x.1 ∧ i < x.1.length ∧ x.2.length ≤ 500) ?_ fun x hx => ?_
 rotate_left
 ·obtain ⟨l', st⟩ := x
  obtain ⟨h1, h2, okl', hil', hst⟩ := hx
  simp only at h1 h2 okl' hil' hst
  refine AW.ghost (s' := ⟨ofL (mkT [(16, .p (.int .i64 (i : Int))), (21, .p (.slice (st.map encSt)))]), ofH (mkM S U l' ps), 8⟩) ?_ ?_
  ·refine Ghost.trans (Ghost.freeze (lb := 10) (sz := 3) (ps := st.map encSt) ?_ (unlift_liftE _)) ?_
   ·simp only [mkI, mkM, memA, rowA, cellsSc, List.cons_append, List.nil_append]
    simp -implicitDefEqProofs only [go_sem, ↓reduceIte, Nat.reduceEqDiff, reduceCtorEq]
   ·simp only [mkI, mkT, mkM, memA, rowA, cellsSc, cellsMs, List.cons_append, List.nil_append]
    refine Ghost.sub ?_ ?_ <;> simp -implicitDefEqProofs only [go_sem, ↓reduceIte, Nat.reduceEqDiff, reduceCtorEq, thaw, thaw1, Option.map_some, List.map_cons, List.map_nil, thaw_lift, mQ_labs, List.forall_mem_cons, List.not_mem_nil, false_implies, implies_true, and_self, labsIn_lift, List.all_cons, List.all_nil, Nat.reduceLT, labsInL, AV.labsIn]
    all_goals first | rfl | decide | skip
  simp only [mkT, mkM, memA, rowA, cellsSc, List.cons_append, List.nil_append]
  have hl1 := pairs_len okl' RS.len.2.1 RU.len.2.1
  have cn0 : 101 - (i + 1) = 100 - i := by omega
  have m1 : 101 - (i + 1) < 101 - i := by omega
  refine AW.rE (by rfl) fun K hK => ?_
  simp -implicitDefEqProofs only [go_sem, ↓reduceIte, Nat.reduceAdd, Nat.reduceMul, Nat.reduceEqDiff, Nat.reduceLeDiff, reduceCtorEq]
  refine ⟨⟨by simp, by simp [oneAll, AV.one, PV.one], by simp⟩, by rw [liftE_length, List.length_map]; omega, ?_⟩
  try simp -implicitDefEqProofs only [go_sem, ↓reduceIte, Nat.reduceAdd, Nat.reduceMul, Nat.reduceEqDiff, Nat.reduceLeDiff, reduceCtorEq, Int.reduceToNat]
  refine hK _ ?_; clear hK K
  simp only [andThen, inBlk]
  refine AW.rE (by rfl) fun K hK => ?_
  simp -implicitDefEqProofs only [go_sem, ↓reduceIte, Nat.reduceAdd, Nat.reduceEqDiff, w1]
  refine hK _ ?_; clear hK K
  refine ⟨(l', ps ++ [st], i + 1), ⟨hil', by simp only [List.length_append, List.length_cons, List.length_nil]; omega, ?_, okl'⟩, m1, ?_⟩
  ·simp only [List.append_assoc, List.cons_append, List.nil_append]
   rw [cn0, h1, h2]
   exact eE
  ·show Ghost _ _ (mkS S U l' (ps ++ [st]) [(16, .p (.int .i64 ((i + 1 : Nat) : Int)))])
   simp only [mkS, mkT, mkM, memA, rowA, cellsSc, List.cons_append, List.nil_append]
   refine Ghost.ent (fun l => if l = 7 then 12 else l) ?_ ?_ ?_ <;> simp -implicitDefEqProofs only [go_sem, ↓reduceIte, Nat.reduceEqDiff, reduceCtorEq, encPt, List.map_append, liftE_append, List.map_cons, List.map_nil, liftE_cons, liftE_nil, List.forall_mem_cons, List.not_mem_nil, false_implies, implies_true, and_self, map_renL_lift, labsIn_lift, List.all_append, List.all_cons, List.all_nil, List.map_append, Nat.reduceLT, labsInL, AV.labsIn]
   all_goals first | rfl | decide | skip
 simp only [mkI, mkT, mkM, memA, rowA, cellsSc, cellsMs, List.cons_append, List.nil_append]
 refine AW.rT (by rfl) fun K hK => ?_
 simp -implicitDefEqProofs only [go_sem, Nat.reduceAdd]
 refine hK _ ?_; clear hK K
 refine AW.block ?_
 have z0 : (501 - 1 : Nat) = 500 := rfl
 have z00 : ((1 : Nat) : Int) = 1 := rfl
 have z1 : [] ++ (stepsP mo mn (501 - 1) ((1 : Nat) : Int) l).1 = sp.1 := by rw [z0, z00, List.nil_append, hsp]
 have z2 : (stepsP mo mn (501 - 1) ((1 : Nat) : Int) l).2 = sp.2 := by rw [z0, z00, hsp]
 refine AW.loop (fun x : List Pr × List Stp × Nat => mkI S U mo mn x.1 ps x.2.1 i [(22, .p (.int .i64 (x.2.2 : Int)))]) (fun x => x.2.2 ≤ 501 ∧ 1 ≤ x.2.2 ∧ i < x.1.length ∧ x.2.1 ++ (stepsP mo mn (501 - x.2.2) (x.2.2 : Int) x.1).1 = sp.1 ∧ (stepsP mo mn (501 - x.2.2) (x.2.2 : Int) x.1).2 = sp.2 ∧ PairsOK S U x.1 ∧ x.2.1.length < x.2.2) (fun x => 501 - x.2.2) (l, [], 1) ?_ ⟨Nat.le_of_ble_eq_true rfl, Nat.le_refl _, hil, z1, z2, okl, Nat.lt_succ_self _⟩ fun x hx => ?_
 ·simp only [mkI, mkT, mkM, memA, rowA, cellsSc, cellsMs, List.cons_append, List.nil_append]
  refine Ghost.sub ?_ ?_ <;> simp -implicitDefEqProofs only [go_sem, ↓reduceIte, Nat.reduceEqDiff, reduceCtorEq, Int.cast_ofNat_Int, List.map_nil, liftE_nil, List.forall_mem_cons, List.not_mem_nil, false_implies, implies_true, and_self, labsIn_lift, List.all_cons, List.all_nil, Nat.reduceLT, labsInL, AV.labsIn]
  all_goals first | rfl | decide | skip
 clear okl hl100 g1 hc1 hil hp i1 M1 M2 hsp b0 b1
 obtain ⟨l, st, n⟩ := x
 obtain ⟨n1, n2, hil, q1, q2, okl, q3⟩ := hx
 simp only at n1 n2 hil q1 q2 okl q3
 have hl100 := pairs_len okl RS.len.2.1 RU.len.2.1
 simp only [mkI, mkT, mkM, memA, rowA, cellsSc, cellsMs, List.cons_append, List.nil_append]
 refine AW.seq ?_
 by_cases hn : n ≤ 500
 case neg =>
  have hc1 : ((n : Int) ≤ 500) = False := eq_false (by omega)
  rw [show 501 - n = 0 by omega] at q1 q2
  refine AW.rT (by rfl) fun K hK => ?_
  simp -implicitDefEqProofs only [go_sem, ↓reduceIte, Nat.reduceAdd, Nat.reduceEqDiff, hc1]
  refine hK _ ?_; clear hK K
  refine AW.cond _ (by simp -implicitDefEqProofs only [go_sem]; rfl) (fun hc => ?_) (fun hc => ?_)
  ·simp at hc
  refine AW.exit ?_
  simp only [andThen, inBlk, ↓reduceIte]
  refine ⟨(l, st), ⟨q2, by rw [← q1]; exact (List.append_nil _).symm, okl, hil, by simp only; omega⟩, ?_⟩
  show Ghost _ _ (mkI S U mo mn l ps st i [])
  simp only [mkI, mkT, mkM, memA, rowA, cellsSc, cellsMs, List.cons_append, List.nil_append]
  refine Ghost.sub ?_ ?_ <;> simp -implicitDefEqProofs only [go_sem, ↓reduceIte, Nat.reduceEqDiff, reduceCtorEq, List.forall_mem_cons, List.not_mem_nil, false_implies, implies_true, and_self, labsIn_lift, List.all_cons, List.all_nil, Nat.reduceLT, labsInL, AV.labsIn]
  all_goals first | rfl | decide | skip
 have hc1 : ((n : Int) ≤ 500) = True := eq_true (by omega)
 have w2 : IntKind.wrap .i64 ((n : Int) + 1) = ((n + 1 : Nat) : Int) := by rw [w64] <;> omega
 have no1 := (fit_msgs FS hmo).no
 have no2 := (fit_msgs FU hmn).no
 have ST := adapt_tag S U mo mn (n : Int) l (by omega) (by omega) (by omega)
 rw [show 501 - n = (500 - n) + 1 by omega, stepsP] at q1 q2
 simp only at q1 q2
 refine AW.rT (by rfl) fun K hK => ?_
 simp -implicitDefEqProofs only [go_sem, ↓reduceIte, Nat.reduceAdd, Nat.reduceEqDiff, hc1]
 refine hK _ ?_; clear hK K
 refine AW.cond _ (by simp -implicitDefEqProofs only [go_sem]; rfl) (fun hc => ?_) (fun hc => ?_)
 rotate_left
 ·simp at hc
 refine AW.skip ?_
 simp only [andThen]
 refine AW.seq ?_
 refine AW.block ?_
 refine AW.rR (SeqR.ev 4 (by rfl) (by decide) ?_)
 simp -implicitDefEqProofs only [go_sem, ↓reduceIte, Nat.reduceAdd, Nat.reduceEqDiff, Nat.reduceLeDiff, reduceCtorEq]
 refine SeqR.call (fun k => k + 3) rfl rfl ST ⟨?_, rfl, ?_, rfl, rfl, rfl, rfl, rfl, memA_by (r := 0) rfl rfl⟩ ?_
 ·simp -implicitDefEqProofs only [go_sem, ↓reduceIte, Nat.reduceEqDiff, argD, encMs]
 ·simp only [memA, rowA]
  simp -implicitDefEqProofs only [go_sem, ↓reduceIte, Nat.reduceAdd, Nat.reduceEqDiff, reduceCtorEq, List.forall_mem_cons, List.not_mem_nil, false_implies, implies_true]
  first | done | decide
 refine SeqR.ev 6 (by rfl) (by decide) ?_
 simp -implicitDefEqProofs only [go_sem, ↓reduceIte, Nat.reduceAdd, Nat.reduceEqDiff, Nat.reduceLeDiff, encSt, List.map_cons, List.map_nil]
 refine SeqR.last rfl ?_
 refine AW.ghost (s' := mkJ S U mo mn (stepLs mo mn (n : Int) l) ps st i n (stepA mo mn (n : Int) l).1 (stepA mo mn (n : Int) l).2) ?_ ?_
 ·simp only [mkJ, mkT, mkM, memA, rowA, cellsSc, cellsMs, List.cons_append, List.nil_append]
  refine Ghost.ent (fun l => if l = 4 then 17 else if l = 5 then 18 else if l = 11 then 22 else l) ?_ ?_ ?_ <;> simp -implicitDefEqProofs only [go_sem, ↓reduceIte, Nat.reduceAdd, Nat.reduceEqDiff, reduceCtorEq, lift2, goneU, newU, Nat.reduceSub, List.forall_mem_cons, List.not_mem_nil, false_implies, implies_true, and_self, map_renL_lift, labsIn_lift, List.all_cons, List.all_nil, Nat.reduceLT, labsInL, AV.labsIn]
  all_goals first | rfl | decide | skip

 have okl' := stepLs_ok RS RU hmo hmn (t := (n : Int)) okl
 have hil' : i < (stepLs mo mn (n : Int) l).length := by
  have := List.getElem?_eq_getElem hil
  exact (List.getElem?_eq_some_iff.1 (pref_stepLs mo mn (n : Int) l i _ this)).1
 obtain ⟨l', hl'⟩ : ∃ l', l' = stepLs mo mn (n : Int) l := ⟨_, rfl⟩
 rw [← hl'] at okl' hil' q1 q2 ⊢
 simp only [mkJ, mkT, mkM, memA, rowA, cellsSc, cellsMs, List.cons_append, List.nil_append]
 have cs : ((n + 1 : Nat) : Int) = (n : Int) + 1 := by omega
 have cn : 501 - (n + 1) = 500 - n := by omega
 have k1 : n + 1 ≤ 501 := by omega
 have k2 : 501 - (n + 1) < 501 - n := by omega
 obtain ⟨so, ho⟩ : ∃ so, so = stepO mo mn (n : Int) l := ⟨_, rfl⟩
 rw [← ho] at q1
 by_cases hso : so = none
 ·rw [hso] at q1 ho
  simp only [Option.toList_none, List.nil_append] at q1
  have eA : (stepA mo mn (n : Int) l).2 = false := by unfold stepA; rw [← ho]; rfl
  refine AW.rT (by rfl) fun K hK => ?_
  simp -implicitDefEqProofs only [go_sem, ↓reduceIte, Nat.reduceAdd, Nat.reduceEqDiff, eA]
  refine hK _ ?_; clear hK K
  refine AW.cond _ (by simp -implicitDefEqProofs only [go_sem]; rfl) (fun hc => ?_) (fun hc => ?_)
  ·simp at hc
  refine AW.skip ?_
  simp only [andThen, inBlk]
  refine AW.rE (by rfl) fun K hK => ?_
  simp -implicitDefEqProofs only [go_sem, ↓reduceIte, Nat.reduceAdd, Nat.reduceEqDiff, w2]
  refine hK _ ?_; clear hK K
  refine ⟨(l', st, n + 1), ⟨k1, Nat.le_add_left 1 n, hil', ?_, ?_, okl', Nat.lt_succ_of_lt q3⟩, k2, ?_⟩
  ·simp only
   rw [cn, cs]
   exact q1
  ·simp only
   rw [cn, cs]
   exact q2
  ·show Ghost _ _ (mkI S U mo mn l' ps st i [(22, .p (.int .i64 ((n + 1 : Nat) : Int)))])
   simp only [mkI, mkT, mkM, memA, rowA, cellsSc, cellsMs, List.cons_append, List.nil_append]
   refine Ghost.sub ?_ ?_ <;> simp -implicitDefEqProofs only [go_sem, ↓reduceIte, Nat.reduceEqDiff, reduceCtorEq, List.forall_mem_cons, List.not_mem_nil, false_implies, implies_true, and_self, labsIn_lift, List.all_cons, List.all_nil, Nat.reduceLT, labsInL, AV.labsIn]
   all_goals first | rfl | decide | skip
 ·obtain ⟨s, hs⟩ := Option.ne_none_iff_exists'.1 hso
  rw [hs] at q1 ho
  simp only [Option.toList_some, List.cons_append, List.nil_append] at q1
  have eA : stepA mo mn (n : Int) l = (s, true) := by unfold stepA; rw [← ho]; rfl
  rw [eA]
  refine AW.rT (by rfl) fun K hK => ?_
  simp -implicitDefEqProofs only [go_sem, ↓reduceIte, Nat.reduceAdd, Nat.reduceEqDiff]
  refine hK _ ?_; clear hK K
  refine AW.cond _ (by simp -implicitDefEqProofs only [go_sem]; rfl) (fun hc => ?_) (fun hc => ?_)
  rotate_left
  ·simp at hc
  refine AW.rE (by rfl) fun K hK => ?_
  simp -implicitDefEqProofs only [go_sem, ↓reduceIte, Nat.reduceAdd, Nat.reduceMul, Nat.reduceEqDiff, Nat.reduceLeDiff, reduceCtorEq]
  refine ⟨⟨by simp, by simp [oneAll, AV.one, PV.one], by simp⟩, by rw [liftE_length, List.length_map]; omega, ?_⟩
  try simp -implicitDefEqProofs only [go_sem, ↓reduceIte, Nat.reduceAdd, Nat.reduceMul, Nat.reduceEqDiff, Nat.reduceLeDiff, reduceCtorEq, Int.reduceToNat]
  refine hK _ ?_; clear hK K
  simp only [andThen, inBlk]
  refine AW.rE (by rfl) fun K hK => ?_
  simp -implicitDefEqProofs only [go_sem, ↓reduceIte, Nat.reduceAdd, Nat.reduceEqDiff, w2]
  refine hK _ ?_; clear hK K
  refine ⟨(l', st ++ [s], n + 1), ⟨k1, Nat.le_add_left 1 n, hil', ?_, ?_, okl', by simp only [List.length_append, List.length_cons, List.length_nil]; omega⟩, k2, ?_⟩
  ·simp only [List.append_assoc, List.cons_append, List.nil_append]
   rw [cn, cs]
   exact q1
  ·simp only
   rw [cn, cs]
   exact q2
  ·show Ghost _ _ (mkI S U mo mn l' ps (st ++ [s]) i [(22, .p (.int .i64 ((n + 1 : Nat) : Int)))])
   simp only [mkI, mkT, mkM, memA, rowA, cellsSc, cellsMs, List.cons_append, List.nil_append]
   refine Ghost.ent (fun l => if l = 10 then 16 else l) ?_ ?_ ?_ <;> simp -implicitDefEqProofs only [go_sem, ↓reduceIte, Nat.reduceEqDiff, reduceCtorEq, encSt, List.map_append, liftE_append, List.map_cons, List.map_nil, liftE_cons, liftE_nil, List.forall_mem_cons, List.not_mem_nil, false_implies, implies_true, and_self, map_renL_lift, labsIn_lift, List.all_append, List.all_cons, List.all_nil, List.map_append, Nat.reduceLT, labsInL, AV.labsIn]
   all_goals first | rfl | decide | skip
end Go.Aw
namespace Go.Aw
open Go.Proofs Go.RowKit
set_option linter.unusedSimpArgs false
set_option linter.unusedVariables false
def vF : Fd := ⟨[120], 3, 1, ⟨1, []⟩⟩
end Go.Aw
namespace Go.Aw
open Go.Proofs Go.RowKit
set_option linter.unusedSimpArgs false
set_option linter.unusedVariables false
def aS : Sc := ⟨[97], [⟨[109], [vF], []⟩], [], []⟩
theorem aS_lens : LensS aS := lens_few (by decide +kernel)
theorem aS_made : makeR aS aS [109] [109] = ([[⟨1, 3, 0⟩]], 0) := by decide +kernel
theorem aS_prog : progB [[⟨1, 3, 0⟩]] = true := by decide +kernel
def ak0 : St := ⟨ofL [(2, .ptr 0 0 0)], ofH [(0, .row 4 [[.p (.str [97]), .own 1, .ex [], .ex []]]), (1, .row 3 [[.p (.str [109]), .own 2, .ex []]]), (2, .row 5 (liftE ([vF].map encFd)))], 3⟩
def ak1 : St := ⟨ofL [(2, .ptr 0 0 0)], ofH [(0, .row 4 [[.p (.str [97]), .own 1, .ex [], .ex []]]), (1, .row 3 [[.p (.str [109]), .p (.slice ([vF].map encFd)), .ex []]])], 3⟩
def ak2 : St := ⟨ofL [(2, .ptr 0 0 0)], ofH [(0, .row 4 [[.p (.str [97]), .p (.slice [encMs ⟨[109], [vF], []⟩]), .ex [], .ex []]])], 3⟩
set_option maxRecDepth 100000 in
set_option maxHeartbeats 4000000 in
theorem law15_awake : PFn Tryd.prog 48 [] (.bool true) := by
 refine PFn.of Tryd.func48 rfl (by decide) Tryd.ntmps48 Tryd.results48 (Nat.le_of_ble_eq_true rfl) ?_
 simp only [argsT]
 refine AW.rT (by rfl) fun K hK => ?_
 simp -implicitDefEqProofs only [go_sem]
 refine hK _ ?_; clear hK K
 refine AW.rT (by rfl) fun K hK => ?_
 simp -implicitDefEqProofs only [go_sem, ↓reduceIte, Nat.reduceAdd, Nat.reduceEqDiff, Nat.reduceLeDiff]
 refine hK _ ?_; clear hK K
 refine AW.rT (by rfl) fun K hK => ?_
 simp -implicitDefEqProofs only [go_sem, ↓reduceIte, Nat.reduceAdd, Nat.reduceMul, Nat.reduceEqDiff, Nat.reduceLeDiff]
 refine hK _ ?_; clear hK K
 refine AW.ghost (s' := ak0) ?_ ?_
 ·simp only [ak0]
  refine Ghost.ent (fun l => if l = 0 then 10 else if l = 1 then 8 else 6) ?_ ?_ ?_ <;> simp -implicitDefEqProofs only [go_sem, ↓reduceIte, Nat.reduceEqDiff, reduceCtorEq, vF, encFd, liftE_cons, liftE_nil, List.map_cons, List.map_nil, List.forall_mem_cons, List.not_mem_nil, false_implies, implies_true, and_self, List.all_cons, List.all_nil, Nat.reduceLT, labsInL, AV.labsIn]
  all_goals first | rfl | decide | skip
 refine AW.ghost (s' := ak1) (Ghost.trans (Ghost.freeze (lb := 2) (ps := [vF].map encFd) rfl (unlift_liftE _)) ?_) ?_
 ·simp only [ak0, ak1]
  refine Ghost.sub ?_ ?_ <;> simp -implicitDefEqProofs only [go_sem, ↓reduceIte, Nat.reduceEqDiff, reduceCtorEq, thaw, thaw1, Option.map_some, List.map_cons, List.map_nil, vF, encFd, liftE_cons, liftE_nil, List.forall_mem_cons, List.not_mem_nil, false_implies, implies_true, and_self, List.all_cons, List.all_nil, Nat.reduceLT, labsInL, AV.labsIn]
  all_goals first | rfl | decide | skip
 refine AW.ghost (s' := ak2) (Ghost.trans (Ghost.freeze (lb := 1) (ps := [encMs ⟨[109], [vF], []⟩]) rfl (by rfl)) ?_) ?_
 ·simp only [ak1, ak2]
  refine Ghost.sub ?_ ?_ <;> simp -implicitDefEqProofs only [go_sem, ↓reduceIte, reduceCtorEq, thaw, thaw1, Option.map_some, List.map_cons, List.map_nil, vF, encFd, encMs, List.forall_mem_cons, List.not_mem_nil, false_implies, implies_true, and_self, List.all_cons, List.all_nil, Nat.reduceLT, labsInL, AV.labsIn]
  all_goals first | rfl | decide | skip
 simp only [ak2]
 have C1 := adapt_Make aS aS aS_lens aS_lens [109] [109]
 rw [aS_made] at C1
 have C2 := adapt_Check [[⟨1, 3, 0⟩]]
 rw [aS_prog] at C2
 have E := eqP_st ⟨1, 3, 0⟩ ⟨1, 3, 0⟩
 rw [decide_eq_true rfl] at E
 simp only [encSc, aS, List.map_cons, List.map_nil, encPt, encSt] at C1 C2 E
 refine AW.rT (by rfl) fun K hK => ?_
 simp -implicitDefEqProofs only [go_sem, ↓reduceIte, Nat.reduceAdd, Nat.reduceEqDiff, Nat.reduceLeDiff]
 refine ⟨.pure _, C1, ?_⟩
 try simp -implicitDefEqProofs only [go_sem, ↓reduceIte, Nat.reduceAdd, Nat.reduceEqDiff, Nat.reduceLeDiff]
 refine hK _ ?_; clear hK K

 have n1 : (((1 : Nat) : Int) == 1) = true := rfl
 refine AW.rT (by rfl) fun K hK => ?_
 simp -implicitDefEqProofs only [go_sem, ↓reduceIte, Nat.reduceAdd, Nat.reduceEqDiff, Nat.reduceLeDiff, Int.reduceToNat, List.getD_cons_zero, List.getElem?_cons_zero, List.length_cons, List.length_nil, Int.natCast_one, beq_self_eq_true]
 refine ⟨⟨by decide, by decide⟩, ⟨by decide, by decide⟩, ⟨by decide, by decide⟩, _, E, ?_⟩
 try simp -implicitDefEqProofs only [go_sem, ↓reduceIte, Nat.reduceAdd, Nat.reduceEqDiff, Nat.reduceLeDiff]
 refine ⟨.pure _, C2, ?_⟩
 try simp -implicitDefEqProofs only [go_sem, ↓reduceIte, Nat.reduceAdd, Nat.reduceEqDiff]
 refine hK _ ?_; clear hK K
 refine AW.ret ?_
 simp -implicitDefEqProofs only [go_sem]
end Go.Aw
namespace Go.Aw
open Go.Proofs Go.RowKit
set_option linter.unusedSimpArgs false
set_option linter.unusedVariables false
end Go.Aw
namespace Go.Aw
open Go.Proofs Go.RowKit
set_option linter.unusedSimpArgs false
set_option linter.unusedVariables false
def rp1 (S : Sc) (i : Nat) : St := ⟨ofL [(1, .ptr 0 0 0), (3, .own 1), (4, .p (.int .i64 (i : Int)))], ofH [(0, .row 4 [cellsSc S]), (1, .row 1 (liftE (((S.msgs.take i).map Ms.name).map encS)))], 2⟩
def rp2 (S : Sc) (i : Nat) : St := ⟨ofL [(1, .ptr 0 0 0), (3, .own 1), (6, .p (.int .i64 (i : Int)))], ofH [(0, .row 4 [cellsSc S]), (1, .row 1 (liftE ((S.msgs.map Ms.name ++ (S.enums.take i).map En.name).map encS)))], 2⟩
def rp3 (S : Sc) (i : Nat) : St := ⟨ofL [(1, .ptr 0 0 0), (4, .own 1), (5, .p (.int .i64 (i : Int)))], ofH [(0, .row 4 [cellsSc S]), (1, .row 1 (liftE (((S.meths.take i).map Mt.name).map encS)))], 2⟩
set_option maxRecDepth 100000 in
set_option maxHeartbeats 8000000 in
theorem ref07_parts (S : Sc) (L : LensS S) : PFn Tryd.prog 64 [.agg (encSc S)] (.int .i64 (partsC S)) := by
 refine PFn.of Tryd.func64 rfl (by decide) Tryd.ntmps64 Tryd.results64 (Nat.le_of_ble_eq_true rfl) ?_
 simp only [argsT, encSc]
 have Lm := L.m
 have Le := L.e
 refine AW.rT (by rfl) fun K hK => ?_
 simp -implicitDefEqProofs only [go_sem, Nat.reduceAdd]
 refine hK _ ?_; clear hK K
 refine AW.rT (by rfl) fun K hK => ?_
 simp -implicitDefEqProofs only [go_sem, Nat.reduceAdd]
 refine hK _ ?_; clear hK K
 refine AW.seq ?_
 refine AW.rT (by rfl) fun K hK => ?_
 simp -implicitDefEqProofs only [go_sem, Nat.reduceAdd]
 refine hK _ ?_; clear hK K
 refine AW.block ?_
 refine AW.loop (rp1 S) (fun i => i ≤ S.msgs.length ∧ partsC S = msgsC S (fun ns => enumsC ns S.enums) ((S.msgs.take i).map Ms.name) (S.msgs.drop i)) (fun i => S.msgs.length - i) 0 ?_ ⟨by omega, by simp [partsC]⟩ fun i hi => ?_
 ·refine Ghost.trans (Ghost.nil (t := 3) (sz := 1) rfl) ?_
  simp only [rp1, cellsSc]
  refine Ghost.ent (fun l => if l = 0 then 0 else 4) ?_ ?_ ?_ <;> simp -implicitDefEqProofs only [go_sem, ↓reduceIte, Nat.reduceEqDiff, reduceCtorEq, List.take_zero, List.map_nil, liftE_nil, List.forall_mem_cons, List.not_mem_nil, false_implies, implies_true, and_self, List.all_cons, List.all_nil, Nat.reduceLT, labsInL, AV.labsIn]
  all_goals first | rfl | decide | skip
 obtain ⟨i1, i2⟩ := hi
 simp only [rp1, cellsSc]
 refine AW.seq ?_
 by_cases hil : i < S.msgs.length
 ·obtain ⟨m, hm⟩ : ∃ m, S.msgs[i]? = some m := ⟨_, List.getElem?_eq_getElem hil⟩
  have ⟨hm1, hm2, hm3⟩ := at_map' encMs hm
  have hm2' : (i : Int) < (S.msgs.length : Int) := by omega
  have hc1 : ((i : Int) < (S.msgs.length : Int)) = True := eq_true (by omega)
  have w1 : IntKind.wrap .i64 ((i : Int) + 1) = ((i + 1 : Nat) : Int) := by rw [w64] <;> omega
  rw [msgsC_at hm] at i2
  have hnx := take_map_next Ms.name hm
  have hNl : ((S.msgs.take i).map Ms.name).length ≤ 1000000 := by rw [List.length_map, List.length_take]; omega
  generalize hN : (S.msgs.take i).map Ms.name = N at *
  have FR := ref07_fresh N m.name (by omega) (L.msgs m (List.mem_of_getElem? hm)).1
  have CM := ref07_message S m L.m L.e (L.msgs m (List.mem_of_getElem? hm))
  simp only [encSc, encMs] at CM
  refine AW.rT (by rfl) fun K hK => ?_
  simp -implicitDefEqProofs only [go_sem, ↓reduceIte, Nat.reduceAdd, Nat.reduceEqDiff, hc1, List.length_map]
  refine hK _ ?_; clear hK K
  refine AW.cond _ (by simp -implicitDefEqProofs only [go_sem]; rfl) (fun hc => ?_) (fun hc => ?_)
  rotate_left
  ·simp at hc
  refine AW.skip ?_
  simp only [andThen]
  refine AW.seq ?_
  refine AW.block ?_
  refine AW.seq ?_
  cases ht : takesB N m.name with
  | false =>
   have hv : msgC S N m = 6 := by unfold msgC; rw [ht]; rfl
   rw [hv, if_neg (by decide)] at i2
   rw [ht] at FR
   refine AW.rT (by rfl) fun K hK => ?_
   simp -implicitDefEqProofs only [go_sem, ↓reduceIte, Nat.reduceAdd, Nat.reduceEqDiff, hm1, hm2', hm3, encMs, List.length_map]
   refine ⟨.peek _, ⟨FR, rfl⟩, ?_⟩
   try simp -implicitDefEqProofs only [go_sem, Nat.reduceAdd]
   refine hK _ ?_; clear hK K
   refine AW.cond _ (by simp -implicitDefEqProofs only [go_sem]; rfl) (fun hc => ?_) (fun hc => ?_)
   rotate_left
   ·simp at hc
   refine AW.rT (by rfl) fun K hK => ?_
   simp -implicitDefEqProofs only [go_sem, Nat.reduceAdd]
   refine hK _ ?_; clear hK K
   refine AW.ret ?_
   simp -implicitDefEqProofs only [go_sem, i2]
  | true =>
  have hv : msgC S N m = bodyC S m := by unfold msgC; rw [ht]; rfl
  rw [hv] at i2
  rw [ht] at FR
  refine AW.rT (by rfl) fun K hK => ?_
  simp -implicitDefEqProofs only [go_sem, ↓reduceIte, Nat.reduceAdd, Nat.reduceEqDiff, hm1, hm2', hm3, encMs, List.length_map]
  refine ⟨.peek _, ⟨FR, rfl⟩, ?_⟩
  try simp -implicitDefEqProofs only [go_sem, Nat.reduceAdd]
  refine hK _ ?_; clear hK K
  refine AW.cond _ (by simp -implicitDefEqProofs only [go_sem]; rfl) (fun hc => ?_) (fun hc => ?_)
  ·simp at hc
  refine AW.skip ?_
  simp only [andThen]
  refine AW.rT (by rfl) fun K hK => ?_
  simp -implicitDefEqProofs only [go_sem, ↓reduceIte, Nat.reduceAdd, Nat.reduceMul, Nat.reduceEqDiff, Nat.reduceLeDiff, reduceCtorEq, hm1, hm2', hm3, encMs, List.length_map]
  refine ⟨⟨by simp, by simp [oneAll, AV.one, PV.one], by simp⟩, by simp [liftE_length]; omega, ?_⟩
  refine hK _ ?_; clear hK K
  refine AW.dT mixed (by rfl) (by decide +kernel) fun K hK => ?_
  simp -implicitDefEqProofs only [go_sem, ↓reduceIte, Nat.reduceAdd, Nat.reduceEqDiff, Nat.reduceLeDiff, reduceCtorEq, hm1, hm2', hm3, encMs, List.length_map]
  refine ⟨.pure _, CM, ?_⟩
  try simp -implicitDefEqProofs only [go_sem, ↓reduceIte, Nat.reduceAdd]
  refine ⟨heapOK_nil rfl, ?_⟩
  refine hK _ ?_; clear hK K
  by_cases hz : bodyC S m = 0
  ·have bz : (bodyC S m != 0) = false := by simp [hz]
   rw [if_pos hz] at i2
   refine AW.rT (by rfl) fun K hK => ?_
   simp -implicitDefEqProofs only [go_sem, ↓reduceIte, Nat.reduceAdd, bz]
   refine hK _ ?_; clear hK K
   refine AW.cond _ (by simp -implicitDefEqProofs only [go_sem]; rfl) (fun hc => ?_) (fun hc => ?_)
   ·simp at hc
   refine AW.skip ?_
   simp only [andThen, inBlk]
   refine AW.rE (by rfl) fun K hK => ?_
   simp -implicitDefEqProofs only [go_sem, ↓reduceIte, Nat.reduceAdd, Nat.reduceEqDiff, w1]
   refine hK _ ?_; clear hK K
   refine ⟨i + 1, ⟨by omega, by rw [hnx]; exact i2⟩, by omega, ?_⟩
   rw [hnx]
   refine Ghost.ent (fun l => if l = 0 then 0 else 24) ?_ ?_ ?_ <;> simp -implicitDefEqProofs only [go_sem, ↓reduceIte, Nat.reduceEqDiff, reduceCtorEq, encS, List.map_append, liftE_append, liftE_cons, liftE_nil, List.forall_mem_cons, List.not_mem_nil, false_implies, implies_true, and_self, map_renL_lift, labsIn_lift, List.all_append, List.all_cons, List.all_nil, List.map_append, Nat.reduceLT, labsInL, AV.labsIn]
  ·have bz : (bodyC S m != 0) = true := by simp [hz]
   rw [if_neg hz] at i2
   refine AW.rT (by rfl) fun K hK => ?_
   simp -implicitDefEqProofs only [go_sem, ↓reduceIte, Nat.reduceAdd, bz]
   refine hK _ ?_; clear hK K
   refine AW.cond _ (by simp -implicitDefEqProofs only [go_sem]; rfl) (fun hc => ?_) (fun hc => ?_)
   rotate_left
   ·simp at hc
   refine AW.rT (by rfl) fun K hK => ?_
   simp -implicitDefEqProofs only [go_sem, ↓reduceIte, Nat.reduceAdd, Nat.reduceEqDiff]
   refine hK _ ?_; clear hK K
   refine AW.ret ?_
   simp -implicitDefEqProofs only [go_sem, i2]
 have hc1 : ((i : Int) < (S.msgs.length : Int)) = False := eq_false (by omega)
 have ea : S.msgs.take i = S.msgs := List.take_of_length_le (by omega)
 rw [List.drop_of_length_le (by omega), msgsC, ea] at i2
 rw [ea]
 clear ea hil
 refine AW.rT (by rfl) fun K hK => ?_
 simp -implicitDefEqProofs only [go_sem, ↓reduceIte, Nat.reduceAdd, Nat.reduceEqDiff, hc1, List.length_map]
 refine hK _ ?_; clear hK K
 refine AW.cond _ (by simp -implicitDefEqProofs only [go_sem]; rfl) (fun hc => ?_) (fun hc => ?_)
 ·simp at hc
 refine AW.exit ?_
 simp only [andThen, inBlk, ↓reduceIte]
 refine AW.seq ?_
 refine AW.rT (by rfl) fun K hK => ?_
 simp -implicitDefEqProofs only [go_sem, Nat.reduceAdd]
 refine hK _ ?_; clear hK K
 refine AW.block ?_
 refine AW.loop (rp2 S) (fun i => i ≤ S.enums.length ∧ partsC S = enumsC (S.msgs.map Ms.name ++ (S.enums.take i).map En.name) (S.enums.drop i)) (fun i => S.enums.length - i) 0 ?_ ⟨by omega, by simpa using i2⟩ fun j hj => ?_
 ·simp only [rp2, cellsSc]
  refine Ghost.sub ?_ ?_ <;> simp -implicitDefEqProofs only [go_sem, ↓reduceIte, Nat.reduceEqDiff, List.take_zero, List.map_nil, List.append_nil, List.forall_mem_cons, List.not_mem_nil, false_implies, implies_true, and_self, labsIn_lift, List.all_cons, List.all_nil, Nat.reduceLT, labsInL, AV.labsIn]
  all_goals first | rfl | decide | skip
 clear i2 i1 hc1
 obtain ⟨j1, j2⟩ := hj
 simp only [rp2, cellsSc]
 refine AW.seq ?_
 by_cases hjl : j < S.enums.length
 case neg =>
  have hc1 : ((j : Int) < (S.enums.length : Int)) = False := eq_false (by omega)
  rw [List.drop_of_length_le (by omega), enumsC] at j2
  refine AW.rT (by rfl) fun K hK => ?_
  simp -implicitDefEqProofs only [go_sem, ↓reduceIte, Nat.reduceAdd, Nat.reduceEqDiff, hc1, List.length_map]
  refine hK _ ?_; clear hK K
  refine AW.cond _ (by simp -implicitDefEqProofs only [go_sem]; rfl) (fun hc => ?_) (fun hc => ?_)
  ·simp at hc
  refine AW.exit ?_
  simp only [andThen, inBlk, ↓reduceIte]
  refine AW.rT (by rfl) fun K hK => ?_
  simp -implicitDefEqProofs only [go_sem, Nat.reduceAdd]
  refine hK _ ?_; clear hK K
  refine AW.ret ?_
  simp -implicitDefEqProofs only [go_sem, j2]
 obtain ⟨m, hm⟩ : ∃ m, S.enums[j]? = some m := ⟨_, List.getElem?_eq_getElem hjl⟩
 have ⟨hm1, hm2, hm3⟩ := at_map' encEn hm
 have hm2' : (j : Int) < (S.enums.length : Int) := by omega
 have hc1 : ((j : Int) < (S.enums.length : Int)) = True := eq_true (by omega)
 have w1 : IntKind.wrap .i64 ((j : Int) + 1) = ((j + 1 : Nat) : Int) := by rw [w64] <;> omega
 rw [enumsC_at hm] at j2
 have hnx : S.msgs.map Ms.name ++ (S.enums.take (j + 1)).map En.name = (S.msgs.map Ms.name ++ (S.enums.take j).map En.name) ++ [m.name] := by rw [take_map_next En.name hm, List.append_assoc]
 have hNl : (S.msgs.map Ms.name ++ (S.enums.take j).map En.name).length ≤ 2000000 := by simp; omega
 generalize hN : S.msgs.map Ms.name ++ (S.enums.take j).map En.name = N at *
 have FR := ref07_fresh N m.name (by omega) (L.enums m (List.mem_of_getElem? hm)).1
 have CM := ref07_enum m (L.enums m (List.mem_of_getElem? hm))
 simp only [encEn] at CM
 refine AW.rT (by rfl) fun K hK => ?_
 simp -implicitDefEqProofs only [go_sem, ↓reduceIte, Nat.reduceAdd, Nat.reduceEqDiff, hc1, List.length_map]
 refine hK _ ?_; clear hK K
 refine AW.cond _ (by simp -implicitDefEqProofs only [go_sem]; rfl) (fun hc => ?_) (fun hc => ?_)
 rotate_left
 ·simp at hc
 refine AW.skip ?_
 simp only [andThen]
 refine AW.seq ?_
 refine AW.block ?_
 refine AW.seq ?_
 cases ht : takesB N m.name with
 | false =>
  have hv : enumC N m = 6 := by unfold enumC; rw [ht]; rfl
  rw [hv, if_neg (by decide)] at j2
  rw [ht] at FR
  refine AW.rT (by rfl) fun K hK => ?_
  simp -implicitDefEqProofs only [go_sem, ↓reduceIte, Nat.reduceAdd, Nat.reduceEqDiff, hm1, hm2', hm3, encEn, List.length_map]
  refine ⟨.peek _, ⟨FR, rfl⟩, ?_⟩
  try simp -implicitDefEqProofs only [go_sem, Nat.reduceAdd]
  refine hK _ ?_; clear hK K
  refine AW.cond _ (by simp -implicitDefEqProofs only [go_sem]; rfl) (fun hc => ?_) (fun hc => ?_)
  rotate_left
  ·simp at hc
  refine AW.rT (by rfl) fun K hK => ?_
  simp -implicitDefEqProofs only [go_sem, Nat.reduceAdd]
  refine hK _ ?_; clear hK K
  refine AW.ret ?_
  simp -implicitDefEqProofs only [go_sem, j2]
 | true =>
 have hv : enumC N m = enumBody m := by unfold enumC; rw [ht]; rfl
 rw [hv] at j2
 rw [ht] at FR
 refine AW.rT (by rfl) fun K hK => ?_
 simp -implicitDefEqProofs only [go_sem, ↓reduceIte, Nat.reduceAdd, Nat.reduceEqDiff, hm1, hm2', hm3, encEn, List.length_map]
 refine ⟨.peek _, ⟨FR, rfl⟩, ?_⟩
 try simp -implicitDefEqProofs only [go_sem, Nat.reduceAdd]
 refine hK _ ?_; clear hK K
 refine AW.cond _ (by simp -implicitDefEqProofs only [go_sem]; rfl) (fun hc => ?_) (fun hc => ?_)
 ·simp at hc
 refine AW.skip ?_
 simp only [andThen]
 refine AW.rT (by rfl) fun K hK => ?_
 simp -implicitDefEqProofs only [go_sem, ↓reduceIte, Nat.reduceAdd, Nat.reduceMul, Nat.reduceEqDiff, Nat.reduceLeDiff, reduceCtorEq, hm1, hm2', hm3, encEn, List.length_map]
 refine ⟨⟨by simp, by simp [oneAll, AV.one, PV.one], by simp⟩, by simp [liftE_length]; omega, ?_⟩
 refine hK _ ?_; clear hK K
 refine AW.rT (by rfl) fun K hK => ?_
 simp -implicitDefEqProofs only [go_sem, ↓reduceIte, Nat.reduceAdd, Nat.reduceEqDiff, Nat.reduceLeDiff, reduceCtorEq, hm1, hm2', hm3, encEn, List.length_map]
 refine ⟨.pure _, CM, ?_⟩
 try simp -implicitDefEqProofs only [go_sem, Nat.reduceAdd]
 refine hK _ ?_; clear hK K
 by_cases hz : enumBody m = 0
 ·have bz : (enumBody m != 0) = false := by simp [hz]
  rw [if_pos hz] at j2
  refine AW.rT (by rfl) fun K hK => ?_
  simp -implicitDefEqProofs only [go_sem, ↓reduceIte, Nat.reduceAdd, bz]
  refine hK _ ?_; clear hK K
  refine AW.cond _ (by simp -implicitDefEqProofs only [go_sem]; rfl) (fun hc => ?_) (fun hc => ?_)
  ·simp at hc
  refine AW.skip ?_
  simp only [andThen, inBlk]
  refine AW.rE (by rfl) fun K hK => ?_
  simp -implicitDefEqProofs only [go_sem, ↓reduceIte, Nat.reduceAdd, Nat.reduceEqDiff, w1]
  refine hK _ ?_; clear hK K
  refine ⟨j + 1, ⟨by omega, by rw [hnx]; exact j2⟩, by omega, ?_⟩
  rw [hnx]
  refine Ghost.ent (fun l => if l = 0 then 0 else 24) ?_ ?_ ?_ <;> simp -implicitDefEqProofs only [go_sem, ↓reduceIte, Nat.reduceEqDiff, reduceCtorEq, encS, List.map_append, liftE_append, liftE_cons, liftE_nil, List.forall_mem_cons, List.not_mem_nil, false_implies, implies_true, and_self, map_renL_lift, labsIn_lift, List.all_append, List.all_cons, List.all_nil, List.map_append, Nat.reduceLT, labsInL, AV.labsIn]
 ·have bz : (enumBody m != 0) = true := by simp [hz]
  rw [if_neg hz] at j2
  refine AW.rT (by rfl) fun K hK => ?_
  simp -implicitDefEqProofs only [go_sem, ↓reduceIte, Nat.reduceAdd, bz]
  refine hK _ ?_; clear hK K
  refine AW.cond _ (by simp -implicitDefEqProofs only [go_sem]; rfl) (fun hc => ?_) (fun hc => ?_)
  rotate_left
  ·simp at hc
  refine AW.rT (by rfl) fun K hK => ?_
  simp -implicitDefEqProofs only [go_sem, ↓reduceIte, Nat.reduceAdd, Nat.reduceEqDiff]
  refine hK _ ?_; clear hK K
  refine AW.ret ?_
  simp -implicitDefEqProofs only [go_sem, j2]
set_option maxRecDepth 100000 in
set_option maxHeartbeats 8000000 in
theorem ref07_Check (S : Sc) (L : LensS S) : PFn Tryd.prog 29 [.agg (encSc S)] (.int .i64 (checkC S)) := by
 refine PFn.of Tryd.func29 rfl (by decide) Tryd.ntmps29 Tryd.results29 (Nat.le_of_ble_eq_true rfl) ?_
 simp only [argsT, encSc]
 have Lt := L.t
 refine AW.rT (by rfl) fun K hK => ?_
 simp -implicitDefEqProofs only [go_sem, Nat.reduceAdd]
 refine hK _ ?_; clear hK K
 refine AW.seq ?_
 refine AW.block ?_
 cases hn : nameB S.name with
 | false =>
  have e : checkC S = 6 := by unfold checkC; rw [hn]; rfl
  refine AW.rT (by rfl) fun K hK => ?_
  simp -implicitDefEqProofs only [go_sem, ↓reduceIte, Nat.reduceAdd, Nat.reduceEqDiff]
  refine ⟨.pure _, ref01_Name S.name L.name, ?_⟩
  try simp -implicitDefEqProofs only [go_sem, Nat.reduceAdd, hn]
  refine hK _ ?_; clear hK K
  refine AW.cond _ (by simp -implicitDefEqProofs only [go_sem]; rfl) (fun hc => ?_) (fun hc => ?_)
  rotate_left
  ·simp at hc
  refine AW.rT (by rfl) fun K hK => ?_
  simp -implicitDefEqProofs only [go_sem, Nat.reduceAdd]
  refine hK _ ?_; clear hK K
  refine AW.ret ?_
  simp -implicitDefEqProofs only [go_sem, e]
 | true =>
 have e0 : checkC S = if S.msgs.length = 0 then 12 else if S.msgs.length > 10 ∨ S.enums.length > 6 ∨ S.meths.length > 6 then 4 else if partsC S = 0 then methsC S [] S.meths else partsC S := by unfold checkC; rw [hn, if_pos rfl]
 refine AW.rT (by rfl) fun K hK => ?_
 simp -implicitDefEqProofs only [go_sem, ↓reduceIte, Nat.reduceAdd, Nat.reduceEqDiff]
 refine ⟨.pure _, ref01_Name S.name L.name, ?_⟩
 try simp -implicitDefEqProofs only [go_sem, Nat.reduceAdd, hn]
 refine hK _ ?_; clear hK K
 refine AW.cond _ (by simp -implicitDefEqProofs only [go_sem]; rfl) (fun hc => ?_) (fun hc => ?_)
 ·simp at hc
 by_cases c0 : S.msgs.length = 0
 ·have b0 : ((S.msgs.length : Int) == 0) = true := by rw [beq_iff_eq]; omega
  rw [if_pos c0] at e0
  refine AW.rT (by rfl) fun K hK => ?_
  simp -implicitDefEqProofs only [go_sem, ↓reduceIte, Nat.reduceAdd, Nat.reduceEqDiff, b0, List.length_map]
  refine hK _ ?_; clear hK K
  refine AW.cond _ (by simp -implicitDefEqProofs only [go_sem]; rfl) (fun hc => ?_) (fun hc => ?_)
  rotate_left
  ·simp at hc
  refine AW.rT (by rfl) fun K hK => ?_
  simp -implicitDefEqProofs only [go_sem, Nat.reduceAdd]
  refine hK _ ?_; clear hK K
  refine AW.ret ?_
  simp -implicitDefEqProofs only [go_sem, e0]
 rw [if_neg c0] at e0
 have b0 : ((S.msgs.length : Int) == 0) = false := beq_eq_false_iff_ne.2 (by omega)
 refine AW.rT (by rfl) fun K hK => ?_
 simp -implicitDefEqProofs only [go_sem, ↓reduceIte, Nat.reduceAdd, Nat.reduceEqDiff, b0, List.length_map]
 refine hK _ ?_; clear hK K
 refine AW.cond _ (by simp -implicitDefEqProofs only [go_sem]; rfl) (fun hc => ?_) (fun hc => ?_)
 ·simp at hc
 by_cases c1 : S.msgs.length > 10
 ·have b1 : ((S.msgs.length : Int) > 10) = True := eq_true (by omega)
  rw [if_pos (.inl c1)] at e0
  refine AW.rT (by rfl) fun K hK => ?_
  simp -implicitDefEqProofs only [go_sem, ↓reduceIte, Nat.reduceAdd, Nat.reduceEqDiff, b1, List.length_map]
  refine hK _ ?_; clear hK K
  refine AW.cond _ (by simp -implicitDefEqProofs only [go_sem]; rfl) (fun hc => ?_) (fun hc => ?_)
  rotate_left
  ·simp at hc
  refine AW.rT (by rfl) fun K hK => ?_
  simp -implicitDefEqProofs only [go_sem, Nat.reduceAdd]
  refine hK _ ?_; clear hK K
  refine AW.ret ?_
  simp -implicitDefEqProofs only [go_sem, e0]
 have b1 : ((S.msgs.length : Int) > 10) = False := eq_false (by omega)
 by_cases c2 : S.enums.length > 6
 ·have b2 : ((S.enums.length : Int) > 6) = True := eq_true (by omega)
  rw [if_pos (.inr (.inl c2))] at e0
  refine AW.rT (by rfl) fun K hK => ?_
  simp -implicitDefEqProofs only [go_sem, ↓reduceIte, Nat.reduceAdd, Nat.reduceEqDiff, b1, b2, List.length_map]
  refine hK _ ?_; clear hK K
  refine AW.cond _ (by simp -implicitDefEqProofs only [go_sem]; rfl) (fun hc => ?_) (fun hc => ?_)
  rotate_left
  ·simp at hc
  refine AW.rT (by rfl) fun K hK => ?_
  simp -implicitDefEqProofs only [go_sem, Nat.reduceAdd]
  refine hK _ ?_; clear hK K
  refine AW.ret ?_
  simp -implicitDefEqProofs only [go_sem, e0]
 have b2 : ((S.enums.length : Int) > 6) = False := eq_false (by omega)
 by_cases c3 : S.meths.length > 6
 ·have b3 : ((S.meths.length : Int) > 6) = True := eq_true (by omega)
  rw [if_pos (.inr (.inr c3))] at e0
  refine AW.rT (by rfl) fun K hK => ?_
  simp -implicitDefEqProofs only [go_sem, ↓reduceIte, Nat.reduceAdd, Nat.reduceEqDiff, b1, b2, b3, List.length_map]
  refine hK _ ?_; clear hK K
  refine AW.cond _ (by simp -implicitDefEqProofs only [go_sem]; rfl) (fun hc => ?_) (fun hc => ?_)
  rotate_left
  ·simp at hc
  refine AW.rT (by rfl) fun K hK => ?_
  simp -implicitDefEqProofs only [go_sem, Nat.reduceAdd]
  refine hK _ ?_; clear hK K
  refine AW.ret ?_
  simp -implicitDefEqProofs only [go_sem, e0]
 have b3 : ((S.meths.length : Int) > 6) = False := eq_false (by omega)
 rw [if_neg (by omega)] at e0
 refine AW.rT (by rfl) fun K hK => ?_
 simp -implicitDefEqProofs only [go_sem, ↓reduceIte, Nat.reduceAdd, Nat.reduceEqDiff, b1, b2, b3, List.length_map]
 refine hK _ ?_; clear hK K
 refine AW.cond _ (by simp -implicitDefEqProofs only [go_sem]; rfl) (fun hc => ?_) (fun hc => ?_)
 ·simp at hc
 refine AW.skip ?_
 simp only [andThen, inBlk]
 clear b1 b2 b3
 have PP := ref07_parts S L
 simp only [encSc] at PP
 refine AW.seq ?_
 refine AW.rT (by rfl) fun K hK => ?_
 simp -implicitDefEqProofs only [go_sem, ↓reduceIte, Nat.reduceAdd, Nat.reduceEqDiff, Nat.reduceLeDiff]
 refine ⟨.pure _, PP, ?_⟩
 try simp -implicitDefEqProofs only [go_sem, Nat.reduceAdd]
 refine hK _ ?_; clear hK K
 by_cases hz : partsC S = 0
 case neg =>
  have bz : (partsC S != 0) = true := by simp [hz]
  rw [if_neg hz] at e0
  refine AW.rT (by rfl) fun K hK => ?_
  simp -implicitDefEqProofs only [go_sem, ↓reduceIte, Nat.reduceAdd, bz]
  refine hK _ ?_; clear hK K
  refine AW.cond _ (by simp -implicitDefEqProofs only [go_sem]; rfl) (fun hc => ?_) (fun hc => ?_)
  rotate_left
  ·simp at hc
  refine AW.rT (by rfl) fun K hK => ?_
  simp -implicitDefEqProofs only [go_sem, ↓reduceIte, Nat.reduceAdd, Nat.reduceEqDiff]
  refine hK _ ?_; clear hK K
  refine AW.ret ?_
  simp -implicitDefEqProofs only [go_sem, e0]
 have bz : (partsC S != 0) = false := by simp [hz]
 rw [if_pos hz] at e0
 refine AW.rT (by rfl) fun K hK => ?_
 simp -implicitDefEqProofs only [go_sem, ↓reduceIte, Nat.reduceAdd, bz]
 refine hK _ ?_; clear hK K
 refine AW.cond _ (by simp -implicitDefEqProofs only [go_sem]; rfl) (fun hc => ?_) (fun hc => ?_)
 ·simp at hc
 refine AW.skip ?_
 simp only [andThen]
 refine AW.rT (by rfl) fun K hK => ?_
 simp -implicitDefEqProofs only [go_sem, Nat.reduceAdd]
 refine hK _ ?_; clear hK K
 refine AW.seq ?_
 refine AW.rT (by rfl) fun K hK => ?_
 simp -implicitDefEqProofs only [go_sem, Nat.reduceAdd]
 refine hK _ ?_; clear hK K
 refine AW.block ?_
 refine AW.loop (rp3 S) (fun i => i ≤ S.meths.length ∧ methsC S [] S.meths = methsC S ((S.meths.take i).map Mt.name) (S.meths.drop i)) (fun i => S.meths.length - i) 0 ?_ ⟨by omega, by simp⟩ fun k hk => ?_
 ·refine Ghost.trans (Ghost.nil (t := 4) (sz := 1) rfl) ?_
  simp only [rp3, cellsSc]
  refine Ghost.ent (fun l => if l = 0 then 0 else 36) ?_ ?_ ?_ <;> simp -implicitDefEqProofs only [go_sem, ↓reduceIte, Nat.reduceEqDiff, reduceCtorEq, List.take_zero, List.map_nil, liftE_nil, List.forall_mem_cons, List.not_mem_nil, false_implies, implies_true, and_self, List.all_cons, List.all_nil, Nat.reduceLT, labsInL, AV.labsIn]
  all_goals first | rfl | decide | skip
 obtain ⟨k1, k2⟩ := hk
 simp only [rp3, cellsSc]
 refine AW.seq ?_
 by_cases hkl : k < S.meths.length
 case neg =>
  have hc1 : ((k : Int) < (S.meths.length : Int)) = False := eq_false (by omega)
  rw [List.drop_of_length_le (by omega), methsC] at k2
  rw [k2] at e0
  refine AW.rT (by rfl) fun K hK => ?_
  simp -implicitDefEqProofs only [go_sem, ↓reduceIte, Nat.reduceAdd, Nat.reduceEqDiff, hc1, List.length_map]
  refine hK _ ?_; clear hK K
  refine AW.cond _ (by simp -implicitDefEqProofs only [go_sem]; rfl) (fun hc => ?_) (fun hc => ?_)
  ·simp at hc
  refine AW.exit ?_
  simp only [andThen, inBlk, ↓reduceIte]
  refine AW.rT (by rfl) fun K hK => ?_
  simp -implicitDefEqProofs only [go_sem, Nat.reduceAdd]
  refine hK _ ?_; clear hK K
  refine AW.ret ?_
  simp -implicitDefEqProofs only [go_sem, e0]
 obtain ⟨m, hm⟩ : ∃ m, S.meths[k]? = some m := ⟨_, List.getElem?_eq_getElem hkl⟩
 have ⟨hm1, hm2, hm3⟩ := at_map' encMt hm
 have hm2' : (k : Int) < (S.meths.length : Int) := by omega
 have hc1 : ((k : Int) < (S.meths.length : Int)) = True := eq_true (by omega)
 have w1 : IntKind.wrap .i64 ((k : Int) + 1) = ((k + 1 : Nat) : Int) := by rw [w64] <;> omega
 rw [methsC_at hm] at k2
 have hnx := take_map_next Mt.name hm
 have hNl : ((S.meths.take k).map Mt.name).length ≤ 1000000 := by rw [List.length_map, List.length_take]; omega
 generalize hN : (S.meths.take k).map Mt.name = N at *
 have FR := ref07_fresh N m.name (by omega) (L.meths m (List.mem_of_getElem? hm))
 have M1 := ref07_Message S m.inn L.m
 have M2 := ref07_Message S m.out L.m
 simp only [encSc, encMs] at M1 M2
 have h1 : hasM S m.inn = (firstP (fun x => x.name == m.inn) zMs S.msgs).2 := rfl
 have h2 : hasM S m.out = (firstP (fun x => x.name == m.out) zMs S.msgs).2 := rfl
 rw [← h1] at M1
 rw [← h2] at M2
 refine AW.rT (by rfl) fun K hK => ?_
 simp -implicitDefEqProofs only [go_sem, ↓reduceIte, Nat.reduceAdd, Nat.reduceEqDiff, hc1, List.length_map]
 refine hK _ ?_; clear hK K
 refine AW.cond _ (by simp -implicitDefEqProofs only [go_sem]; rfl) (fun hc => ?_) (fun hc => ?_)
 rotate_left
 ·simp at hc
 refine AW.skip ?_
 simp only [andThen]
 refine AW.seq ?_
 refine AW.block ?_
 refine AW.rT (by rfl) fun K hK => ?_
 simp -implicitDefEqProofs only [go_sem, ↓reduceIte, Nat.reduceAdd, Nat.reduceEqDiff, Nat.reduceLeDiff, hm1, hm2', hm3, encMt, List.length_map]
 refine hK _ ?_; clear hK K
 refine AW.seq ?_
 cases ht : takesB N m.name with
 | false =>
  rw [ht, if_neg (by simp)] at k2
  rw [k2] at e0
  rw [ht] at FR
  refine AW.rT (by rfl) fun K hK => ?_
  simp -implicitDefEqProofs only [go_sem, ↓reduceIte, Nat.reduceAdd, Nat.reduceEqDiff]
  refine ⟨.peek _, ⟨FR, rfl⟩, ?_⟩
  try simp -implicitDefEqProofs only [go_sem, Nat.reduceAdd]
  refine hK _ ?_; clear hK K
  refine AW.cond _ (by simp -implicitDefEqProofs only [go_sem]; rfl) (fun hc => ?_) (fun hc => ?_)
  rotate_left
  ·simp at hc
  refine AW.rT (by rfl) fun K hK => ?_
  simp -implicitDefEqProofs only [go_sem, Nat.reduceAdd]
  refine hK _ ?_; clear hK K
  refine AW.ret ?_
  simp -implicitDefEqProofs only [go_sem, e0]
 | true =>
 rw [ht, if_pos rfl] at k2
 rw [ht] at FR
 refine AW.rT (by rfl) fun K hK => ?_
 simp -implicitDefEqProofs only [go_sem, ↓reduceIte, Nat.reduceAdd, Nat.reduceEqDiff]
 refine ⟨.peek _, ⟨FR, rfl⟩, ?_⟩
 try simp -implicitDefEqProofs only [go_sem, Nat.reduceAdd]
 refine hK _ ?_; clear hK K
 refine AW.cond _ (by simp -implicitDefEqProofs only [go_sem]; rfl) (fun hc => ?_) (fun hc => ?_)
 ·simp at hc
 refine AW.skip ?_
 simp only [andThen]
 refine AW.rT (by rfl) fun K hK => ?_
 simp -implicitDefEqProofs only [go_sem, ↓reduceIte, Nat.reduceAdd, Nat.reduceMul, Nat.reduceEqDiff, Nat.reduceLeDiff, reduceCtorEq]
 refine ⟨⟨by simp, by simp [oneAll, AV.one, PV.one], by simp⟩, by simp [liftE_length]; omega, ?_⟩
 refine hK _ ?_; clear hK K
 refine AW.rT (by rfl) fun K hK => ?_
 simp -implicitDefEqProofs only [go_sem, ↓reduceIte, Nat.reduceAdd, Nat.reduceEqDiff, Nat.reduceLeDiff, reduceCtorEq]
 refine ⟨.pure _, M1, ?_⟩
 try simp -implicitDefEqProofs only [go_sem, ↓reduceIte, Nat.reduceAdd, Nat.reduceEqDiff, Nat.reduceLeDiff]
 refine hK _ ?_; clear hK K
 refine AW.rT (by rfl) fun K hK => ?_
 simp -implicitDefEqProofs only [go_sem, ↓reduceIte, Nat.reduceAdd, Nat.reduceEqDiff, Nat.reduceLeDiff, reduceCtorEq]
 refine ⟨.pure _, M2, ?_⟩
 try simp -implicitDefEqProofs only [go_sem, ↓reduceIte, Nat.reduceAdd, Nat.reduceEqDiff, Nat.reduceLeDiff]
 refine hK _ ?_; clear hK K
 cases hi : hasM S m.inn with
 | false =>
  rw [hi, Bool.false_and, if_neg (by simp)] at k2
  rw [k2] at e0
  refine AW.rT (by rfl) fun K hK => ?_
  simp -implicitDefEqProofs only [go_sem, ↓reduceIte, Nat.reduceAdd, Nat.reduceEqDiff]
  refine hK _ ?_; clear hK K
  refine AW.cond _ (by simp -implicitDefEqProofs only [go_sem]; rfl) (fun hc => ?_) (fun hc => ?_)
  rotate_left
  ·simp at hc
  refine AW.rT (by rfl) fun K hK => ?_
  simp -implicitDefEqProofs only [go_sem, Nat.reduceAdd]
  refine hK _ ?_; clear hK K
  refine AW.ret ?_
  simp -implicitDefEqProofs only [go_sem, e0]
 | true =>
 cases ho : hasM S m.out with
 | false =>
  rw [hi, ho, if_neg (by simp)] at k2
  rw [k2] at e0
  refine AW.rT (by rfl) fun K hK => ?_
  simp -implicitDefEqProofs only [go_sem, ↓reduceIte, Nat.reduceAdd, Nat.reduceEqDiff]
  refine hK _ ?_; clear hK K
  refine AW.cond _ (by simp -implicitDefEqProofs only [go_sem]; rfl) (fun hc => ?_) (fun hc => ?_)
  rotate_left
  ·simp at hc
  refine AW.rT (by rfl) fun K hK => ?_
  simp -implicitDefEqProofs only [go_sem, Nat.reduceAdd]
  refine hK _ ?_; clear hK K
  refine AW.ret ?_
  simp -implicitDefEqProofs only [go_sem, e0]
 | true =>
  rw [hi, ho, if_pos (by rfl)] at k2
  refine AW.rT (by rfl) fun K hK => ?_
  simp -implicitDefEqProofs only [go_sem, ↓reduceIte, Nat.reduceAdd, Nat.reduceEqDiff]
  refine hK _ ?_; clear hK K
  refine AW.cond _ (by simp -implicitDefEqProofs only [go_sem]; rfl) (fun hc => ?_) (fun hc => ?_)
  ·simp at hc
  refine AW.skip ?_
  simp only [andThen, inBlk]
  refine AW.rE (by rfl) fun K hK => ?_
  simp -implicitDefEqProofs only [go_sem, ↓reduceIte, Nat.reduceAdd, Nat.reduceEqDiff, w1]
  refine hK _ ?_; clear hK K
  refine ⟨k + 1, ⟨by omega, by rw [hnx]; exact k2⟩, by omega, ?_⟩
  rw [hnx]
  refine Ghost.ent (fun l => if l = 0 then 0 else 23) ?_ ?_ ?_ <;> simp -implicitDefEqProofs only [go_sem, ↓reduceIte, Nat.reduceEqDiff, reduceCtorEq, encS, List.map_append, liftE_append, liftE_cons, liftE_nil, List.forall_mem_cons, List.not_mem_nil, false_implies, implies_true, and_self, map_renL_lift, labsIn_lift, List.all_append, List.all_cons, List.all_nil, List.map_append, Nat.reduceLT, labsInL, AV.labsIn]
end Go.Aw
namespace Go.Aw
open Go.Proofs Go.RowKit
set_option linter.unusedSimpArgs false
set_option linter.unusedVariables false
theorem eqP_bool (a b : Bool) : EqP Tryd.prog 4 (.bool a) (.bool b) (a == b) := by
 intro w I u v hu hv
 cases hu; cases hv
 have e : (Op.equalIn 10000 4 (.bool a) (.bool b)).run Tryd.prog w = .ok (a == b) w := run_equalIn_bool' w 9999 4 a b Tryd.underlying4
 refine ⟨?_, ?_, fun op x y => by cases op <;> rfl⟩
 ·simp only [binOp]; simp [Op.equal, Op.maxDepth, e]
 ·simp only [binOp]; simp [Op.equal, Op.maxDepth, e]
theorem first_mem {α : Type} {p : α → Bool} {z : α} {l : List α} : (firstP p z l).1 ∈ l ∨ (firstP p z l).1 = z := by
 unfold firstP
 cases h : l.find? p with
 | none => exact .inr rfl
 | some a => exact .inl (List.mem_of_find?_eq_some h)
theorem FewS.msg {S : Sc} (F : FewS S) (p : Ms → Bool) : FewM (firstP p zMs S.msgs).1 := by
 rcases first_mem (p := p) (z := zMs) (l := S.msgs) with h | h
 ·exact F.ms _ h
 ·rw [h]; exact ⟨by decide, by decide, by decide, fun f hf => by cases hf⟩
theorem FewS.enum {S : Sc} (F : FewS S) (p : En → Bool) : FewE (firstP p zEn S.enums).1 := by
 rcases first_mem (p := p) (z := zEn) (l := S.enums) with h | h
 ·exact F.en _ h
 ·rw [h]; exact ⟨by decide, by decide, fun f hf => by cases hf⟩
end Go.Aw
namespace Go.Aw
open Go.Proofs Go.RowKit
set_option linter.unusedSimpArgs false
set_option linter.unusedVariables false
end Go.Aw
namespace Go.Aw
open Go.RowKit
variable {P : Program}
end Go.Aw
namespace Go.Aw
open Go.Proofs Go.RowKit
set_option linter.unusedSimpArgs false
set_option linter.unusedVariables false
end Go.Aw
namespace Go.Aw
open Go.Proofs Go.RowKit
set_option linter.unusedSimpArgs false
set_option linter.unusedVariables false
end Go.Aw
namespace Go.Aw
open Go.Proofs Go.RowKit
set_option linter.unusedSimpArgs false
set_option linter.unusedVariables false
theorem steps_len {mo mn : Ms} : ∀ (k : Nat) (t : Int) (l : List Pr), (stepsP mo mn k t l).1.length ≤ k
 | 0, t, l => Nat.le_refl _
 | k + 1, t, l => by
  have h := steps_len (mo := mo) (mn := mn) k (t + 1) (stepLs mo mn t l)
  rw [stepsP]
  simp only [List.length_append]
  have : (stepO mo mn t l).toList.length ≤ 1 := by cases stepO mo mn t l <;> simp
  omega
end Go.Aw
namespace Go.Aw
open Go.Proofs Go.RowKit
set_option linter.unusedSimpArgs false
set_option linter.unusedVariables false
theorem stepO_op {mo mn : Ms} {t : Int} {l : List Pr} (h : (fOf mo t).2 = true ∧ (fOf mn t).2 = true ∧ (fOf mo t).1.label = (fOf mn t).1.label) :
  stepO mo mn t l = if opK (fOf mo t).1 (fOf mn t).1 = 0 then none else some ⟨opK (fOf mo t).1 (fOf mn t).1, t, if (fOf mo t).1.ty.kind = 7 ∧ (fOf mn t).1.ty.kind = 7 then (placeP l (pairO mo mn t) : Int) else 0⟩ := by
 unfold stepO opK
 rw [if_pos h]
 by_cases c1 : (fOf mo t).1.ty.kind = 7 ∧ (fOf mn t).1.ty.kind = 7
 ·rw [if_pos c1, if_pos c1, if_pos c1]
  split <;> simp
 ·rw [if_neg c1, if_neg c1, if_neg c1]
  by_cases c2 : (fOf mo t).1.ty.kind = 2 ∧ (fOf mn t).1.ty.kind = 1
  ·have c3 : ¬ ((fOf mo t).1.ty.kind = (fOf mn t).1.ty.kind ∨ (fOf mo t).1.ty.kind = 1 ∧ (fOf mn t).1.ty.kind = 2) := by omega
   rw [if_pos c2, if_neg c3, if_pos c2]; simp
  ·rw [if_neg c2]
   by_cases c3 : (fOf mo t).1.ty.kind = (fOf mn t).1.ty.kind ∨ (fOf mo t).1.ty.kind = 1 ∧ (fOf mn t).1.ty.kind = 2
   ·rw [if_pos c3, if_pos c3]; simp
   ·rw [if_neg c3, if_neg c3, if_neg c2, if_pos rfl]
def kmS (S U : Sc) (l : List Pr) (ps : List (List Stp)) (m : List (Nat × AV)) : St := ⟨ofL ((4, .ptr 0 0 0) :: (5, .ptr 1 0 0) :: (14, .own 2) :: (15, .own 3) :: m), ofH [(0, .row 4 [cellsSc S]), (1, .row 4 [cellsSc U]), (2, .row 2 (liftE (l.map encPr))), (3, .row 1 (liftE (ps.map encPt)))], 4⟩
def kmI (S U : Sc) (mo mn : Ms) (l : List Pr) (ps : List (List Stp)) (st : List Stp) (i : Nat) (m : List (Nat × AV)) : St := ⟨ofL ((4, .ptr 0 0 0) :: (5, .ptr 1 0 0) :: (14, .own 2) :: (15, .own 3) :: (16, .p (.int .i64 (i : Int))) :: (17, .ptr 4 0 0) :: (19, .ptr 5 0 0) :: (21, .own 6) :: m), ofH [(0, .row 4 [cellsSc S]), (1, .row 4 [cellsSc U]), (2, .row 2 (liftE (l.map encPr))), (3, .row 1 (liftE (ps.map encPt))), (4, .row 3 [cellsMs mo]), (5, .row 3 [cellsMs mn]), (6, .row 3 (liftE (st.map encSt)))], 7⟩
def kmF (S U : Sc) (mo mn : Ms) (l : List Pr) (ps : List (List Stp)) (st : List Stp) (i : Nat) (n : Int) (f g : Fd) (m : List (Nat × AV)) : St := ⟨ofL ((4, .ptr 0 0 0) :: (5, .ptr 1 0 0) :: (14, .own 2) :: (15, .own 3) :: (16, .p (.int .i64 (i : Int))) :: (17, .ptr 4 0 0) :: (19, .ptr 5 0 0) :: (21, .own 6) :: (22, .p (.int .i64 n)) :: (23, .ptr 7 0 0) :: (25, .ptr 8 0 0) :: m), ofH [(0, .row 4 [cellsSc S]), (1, .row 4 [cellsSc U]), (2, .row 2 (liftE (l.map encPr))), (3, .row 1 (liftE (ps.map encPt))), (4, .row 3 [cellsMs mo]), (5, .row 3 [cellsMs mn]), (6, .row 3 (liftE (st.map encSt))), (7, .row 5 [[.p (.str f.name), .p (.int .i64 f.tag), .p (.int .i64 f.label), .p (.int .i64 f.ty.kind), .p (.str f.ty.name)]]), (8, .row 5 [[.p (.str g.name), .p (.int .i64 g.tag), .p (.int .i64 g.label), .p (.int .i64 g.ty.kind), .p (.str g.ty.name)]])], 9⟩
def kmH (S U : Sc) (mo mn : Ms) (l : List Pr) (ps : List (List Stp)) (st : List Stp) (i : Nat) (n : Int) (f g : Fd) (k : Int) (m : List (Nat × AV)) : St := ⟨ofL ((4, .ptr 0 0 0) :: (5, .ptr 1 0 0) :: (14, .own 2) :: (15, .own 3) :: (16, .p (.int .i64 (i : Int))) :: (17, .ptr 4 0 0) :: (19, .ptr 5 0 0) :: (21, .own 6) :: (22, .p (.int .i64 n)) :: (23, .ptr 7 0 0) :: (25, .ptr 8 0 0) :: (27, .ptr 9 0 0) :: m), ofH [(0, .row 4 [cellsSc S]), (1, .row 4 [cellsSc U]), (2, .row 2 (liftE (l.map encPr))), (3, .row 1 (liftE (ps.map encPt))), (4, .row 3 [cellsMs mo]), (5, .row 3 [cellsMs mn]), (6, .row 3 (liftE (st.map encSt))), (7, .row 5 [[.p (.str f.name), .p (.int .i64 f.tag), .p (.int .i64 f.label), .p (.int .i64 f.ty.kind), .p (.str f.ty.name)]]), (8, .row 5 [[.p (.str g.name), .p (.int .i64 g.tag), .p (.int .i64 g.label), .p (.int .i64 g.ty.kind), .p (.str g.ty.name)]]), (9, .row 3 [[.p (.int .i64 k), .p (.int .i64 n), .p (.int .i64 0)]])], 10⟩
def kmG (S U : Sc) (mo mn : Ms) (l : List Pr) (ps : List (List Stp)) (st : List Stp) (i : Nat) (n k s : Int) (m : List (Nat × AV)) : St := ⟨ofL ((4, .ptr 0 0 0) :: (5, .ptr 1 0 0) :: (14, .own 2) :: (15, .own 3) :: (16, .p (.int .i64 (i : Int))) :: (17, .ptr 4 0 0) :: (19, .ptr 5 0 0) :: (21, .own 6) :: (22, .p (.int .i64 n)) :: (27, .ptr 7 0 0) :: m), ofH [(0, .row 4 [cellsSc S]), (1, .row 4 [cellsSc U]), (2, .row 2 (liftE (l.map encPr))), (3, .row 1 (liftE (ps.map encPt))), (4, .row 3 [cellsMs mo]), (5, .row 3 [cellsMs mn]), (6, .row 3 (liftE (st.map encSt))), (7, .row 3 [[.p (.int .i64 k), .p (.int .i64 n), .p (.int .i64 s)]])], 8⟩
set_option maxRecDepth 100000 in
set_option maxHeartbeats 4000000 in
theorem ref15_Make (S U : Sc) (LS : LensS S) (LU : LensS U) (a b : List UInt8) : PFn Tryd.prog 53 [.agg (encSc S), .agg (encSc U), .str a, .str b] (.tuple [.slice ((makeR S U a b).1.map encPt), .int .i64 (makeR S U a b).2]) := by
 refine PFn.of Tryd.func53 rfl (by decide) Tryd.ntmps53 Tryd.results53 (Nat.le_of_ble_eq_true rfl) ?_
 have C1 := ref07_Check S LS
 have C2 := ref07_Check U LU
 simp only [encSc] at C1 C2
 simp only [argsT, encSc]
 refine AW.rT (by rfl) fun K hK => ?_
 simp -implicitDefEqProofs only [go_sem, ↓reduceIte, Nat.reduceAdd, Nat.reduceEqDiff]
 refine hK _ ?_; clear hK K
 refine AW.seq ?_
 by_cases hS : checkC S = 0
 case neg =>
  have f1 : (checkC S != 0) = true := by simp [hS]
  have e : makeR S U a b = ([], 1) := by unfold makeR; rw [if_neg (fun h => hS h.1)]
  refine AW.rT (by rfl) fun K hK => ?_
  simp -implicitDefEqProofs only [go_sem, ↓reduceIte, Nat.reduceAdd, Nat.reduceEqDiff, Nat.reduceLeDiff, reduceCtorEq]
  refine ⟨.pure _, C1, ?_⟩
  try simp -implicitDefEqProofs only [go_sem, ↓reduceIte, Nat.reduceAdd, Nat.reduceEqDiff, f1]
  refine hK _ ?_; clear hK K
  refine AW.cond _ (by simp -implicitDefEqProofs only [go_sem]; rfl) (fun hc => ?_) (fun hc => ?_)
  rotate_left
  ·simp at hc
  refine AW.rT (by rfl) fun K hK => ?_
  simp -implicitDefEqProofs only [go_sem, Nat.reduceAdd]
  refine hK _ ?_; clear hK K
  refine AW.ret ?_
  simp -implicitDefEqProofs only [go_sem, ↓reduceIte, Nat.reduceEqDiff, e, List.map_nil]
 have f1 : (checkC S != 0) = false := by simp [hS]
 by_cases hU : checkC U = 0
 case neg =>
  have f2 : (checkC U != 0) = true := by simp [hU]
  have e : makeR S U a b = ([], 1) := by unfold makeR; rw [if_neg (fun h => hU h.2)]
  refine AW.rT (by rfl) fun K hK => ?_
  simp -implicitDefEqProofs only [go_sem, ↓reduceIte, Nat.reduceAdd, Nat.reduceEqDiff, Nat.reduceLeDiff, reduceCtorEq]
  refine ⟨.pure _, C1, ?_⟩
  try simp -implicitDefEqProofs only [go_sem, ↓reduceIte, Nat.reduceAdd, Nat.reduceEqDiff, Nat.reduceLeDiff, f1]
  refine ⟨.pure _, C2, ?_⟩
  try simp -implicitDefEqProofs only [go_sem, ↓reduceIte, Nat.reduceAdd, Nat.reduceEqDiff, f2]
  refine hK _ ?_; clear hK K
  refine AW.cond _ (by simp -implicitDefEqProofs only [go_sem]; rfl) (fun hc => ?_) (fun hc => ?_)
  rotate_left
  ·simp at hc
  refine AW.rT (by rfl) fun K hK => ?_
  simp -implicitDefEqProofs only [go_sem, Nat.reduceAdd]
  refine hK _ ?_; clear hK K
  refine AW.ret ?_
  simp -implicitDefEqProofs only [go_sem, ↓reduceIte, Nat.reduceEqDiff, e, List.map_nil]
 have f2 : (checkC U != 0) = false := by simp [hU]
 have RS := right_of hS
 have RU := right_of hU
 have FS := check_fit.1 hS
 have FU := check_fit.1 hU
 have M1 := ref07_Message S a (by have := RS.len; omega)
 have M2 := ref07_Message U b (by have := RU.len; omega)
 have e1 : firstP (fun x => x.name == a) zMs S.msgs = (msgOf S a, hasM S a) := rfl
 have e2 : firstP (fun x => x.name == b) zMs U.msgs = (msgOf U b, hasM U b) := rfl
 rw [e1] at M1
 rw [e2] at M2
 simp only [encSc, encMs] at M1 M2
 refine AW.rT (by rfl) fun K hK => ?_
 simp -implicitDefEqProofs only [go_sem, ↓reduceIte, Nat.reduceAdd, Nat.reduceEqDiff, Nat.reduceLeDiff, reduceCtorEq]
 refine ⟨.pure _, C1, ?_⟩
 try simp -implicitDefEqProofs only [go_sem, ↓reduceIte, Nat.reduceAdd, Nat.reduceEqDiff, Nat.reduceLeDiff, f1]
 refine ⟨.pure _, C2, ?_⟩
 try simp -implicitDefEqProofs only [go_sem, ↓reduceIte, Nat.reduceAdd, Nat.reduceEqDiff, f2]
 refine hK _ ?_; clear hK K
 refine AW.cond _ (by simp -implicitDefEqProofs only [go_sem]; rfl) (fun hc => ?_) (fun hc => ?_)
 ·simp at hc
 refine AW.skip ?_
 simp only [andThen]
 clear C1 C2
 refine AW.rT (by rfl) fun K hK => ?_
 simp -implicitDefEqProofs only [go_sem, ↓reduceIte, Nat.reduceAdd, Nat.reduceEqDiff, Nat.reduceLeDiff, reduceCtorEq]
 refine ⟨.pure _, M1, ?_⟩
 try simp -implicitDefEqProofs only [go_sem, ↓reduceIte, Nat.reduceAdd, Nat.reduceEqDiff, Nat.reduceLeDiff]
 refine hK _ ?_; clear hK K
 refine AW.rT (by rfl) fun K hK => ?_
 simp -implicitDefEqProofs only [go_sem, ↓reduceIte, Nat.reduceAdd, Nat.reduceEqDiff, Nat.reduceLeDiff, reduceCtorEq]
 refine ⟨.pure _, M2, ?_⟩
 try simp -implicitDefEqProofs only [go_sem, ↓reduceIte, Nat.reduceAdd, Nat.reduceEqDiff, Nat.reduceLeDiff]
 refine hK _ ?_; clear hK K
 refine AW.seq ?_
 cases ha : hasM S a with
 | false =>
  have e : makeR S U a b = ([], 14) := by unfold makeR; rw [if_pos ⟨hS, hU⟩, if_neg (by rw [ha]; simp)]
  refine AW.rT (by rfl) fun K hK => ?_
  simp -implicitDefEqProofs only [go_sem, ↓reduceIte, Nat.reduceAdd, Nat.reduceEqDiff]
  refine hK _ ?_; clear hK K
  refine AW.cond _ (by simp -implicitDefEqProofs only [go_sem]; rfl) (fun hc => ?_) (fun hc => ?_)
  rotate_left
  ·simp at hc
  refine AW.rT (by rfl) fun K hK => ?_
  simp -implicitDefEqProofs only [go_sem, Nat.reduceAdd]
  refine hK _ ?_; clear hK K
  refine AW.ret ?_
  simp -implicitDefEqProofs only [go_sem, ↓reduceIte, Nat.reduceEqDiff, e, List.map_nil]
 | true =>
 cases hb : hasM U b with
 | false =>
  have e : makeR S U a b = ([], 14) := by unfold makeR; rw [if_pos ⟨hS, hU⟩, if_neg (by rw [hb]; simp)]
  refine AW.rT (by rfl) fun K hK => ?_
  simp -implicitDefEqProofs only [go_sem, ↓reduceIte, Nat.reduceAdd, Nat.reduceEqDiff]
  refine hK _ ?_; clear hK K
  refine AW.cond _ (by simp -implicitDefEqProofs only [go_sem]; rfl) (fun hc => ?_) (fun hc => ?_)
  rotate_left
  ·simp at hc
  refine AW.rT (by rfl) fun K hK => ?_
  simp -implicitDefEqProofs only [go_sem, Nat.reduceAdd]
  refine hK _ ?_; clear hK K
  refine AW.ret ?_
  simp -implicitDefEqProofs only [go_sem, ↓reduceIte, Nat.reduceEqDiff, e, List.map_nil]
 | true =>
 have e : makeR S U a b = (makeP S U 101 0 [⟨a, b⟩], 0) := by unfold makeR; rw [if_pos ⟨hS, hU⟩, if_pos ⟨ha, hb⟩]
 refine AW.rT (by rfl) fun K hK => ?_
 simp -implicitDefEqProofs only [go_sem, ↓reduceIte, Nat.reduceAdd, Nat.reduceEqDiff]
 refine hK _ ?_; clear hK K
 refine AW.cond _ (by simp -implicitDefEqProofs only [go_sem]; rfl) (fun hc => ?_) (fun hc => ?_)
 ·simp at hc
 refine AW.skip ?_
 simp only [andThen]
 refine AW.rT (by rfl) fun K hK => ?_
 simp -implicitDefEqProofs only [go_sem, ↓reduceIte, Nat.reduceAdd, Nat.reduceMul, Nat.reduceEqDiff, Nat.reduceLeDiff, reduceCtorEq]
 refine hK _ ?_; clear hK K
 refine AW.rT (by rfl) fun K hK => ?_
 simp -implicitDefEqProofs only [go_sem, Nat.reduceAdd]
 refine hK _ ?_; clear hK K
 refine AW.ghost (s' := kmS S U [⟨a, b⟩] [] []) (Ghost.trans (Ghost.nil (t := 15) (sz := 1) rfl) ?_) ?_
 ·simp only [kmS, cellsSc, encPr, List.map_cons, List.map_nil, liftE_cons, liftE_nil]
  refine Ghost.ent (fun l => if l = 2 then 39 else if l = 3 then 42 else l) ?_ ?_ ?_ <;> simp -implicitDefEqProofs only [go_sem, ↓reduceIte, Nat.reduceEqDiff, reduceCtorEq, List.forall_mem_cons, List.not_mem_nil, false_implies, implies_true, and_self, List.all_cons, List.all_nil, Nat.reduceLT, labsInL, AV.labsIn]
  all_goals first | rfl | decide | skip
 have ok0 : PairsOK S U [⟨a, b⟩] := ⟨fun p hp => by simp at hp; subst hp; exact ⟨ha, hb⟩, by simp⟩
 refine AW.cut (fun x : List Pr × List (List Stp) => kmS S U x.1 x.2 []) (fun x => x.2 = makeP S U 101 0 [⟨a, b⟩]) ?_ fun x hx => ?_
 rotate_left
 ·obtain ⟨l, ps⟩ := x
  simp only at hx
  refine AW.ghost (s' := ⟨ofL [(15, .p (.slice (ps.map encPt)))], ofH [], 4⟩) (Ghost.trans (Ghost.freeze (lb := 3) (sz := 1) (ps := ps.map encPt) rfl (unlift_liftE _)) (Ghost.sub ?_ ?_)) ?_
  ·simp only [kmS]
   simp -implicitDefEqProofs only [go_sem, ↓reduceIte, Nat.reduceEqDiff, List.forall_mem_cons, List.not_mem_nil, false_implies, implies_true, and_self, thaw, thaw1, Option.map_some]
   first | done | decide | exact ⟨⟨rfl, rfl⟩, rfl, rfl⟩
  ·intro x hx
   cases hx
  refine AW.rT (by rfl) fun K hK => ?_
  simp -implicitDefEqProofs only [go_sem, ↓reduceIte, Nat.reduceAdd]
  refine hK _ ?_; clear hK K
  rw [hx]
  refine AW.ret ?_
  simp -implicitDefEqProofs only [go_sem, ↓reduceIte, Nat.reduceEqDiff, e]
 simp only [kmS, cellsSc]
 refine AW.rT (by rfl) fun K hK => ?_
 simp -implicitDefEqProofs only [go_sem, Nat.reduceAdd]
 refine hK _ ?_; clear hK K
 refine AW.block ?_
 have y1 : [] ++ makeP S U (101 - 0) 0 [⟨a, b⟩] = makeP S U 101 0 [⟨a, b⟩] := by rw [Nat.sub_zero, List.nil_append]
 refine AW.loop (fun x : List Pr × List (List Stp) × Nat => kmS S U x.1 x.2.1 [(16, .p (.int .i64 (x.2.2 : Int)))]) (fun x => x.2.2 ≤ x.1.length ∧ x.2.1.length = x.2.2 ∧ x.2.1 ++ makeP S U (101 - x.2.2) x.2.2 x.1 = makeP S U 101 0 [⟨a, b⟩] ∧ PairsOK S U x.1) (fun x => 101 - x.2.2) ([⟨a, b⟩], [], 0) ?_ ⟨Nat.zero_le _, rfl, y1, ok0⟩ fun x hx => ?_
 ·simp only [kmS, cellsSc]
  refine Ghost.sub ?_ ?_ <;> simp -implicitDefEqProofs only [go_sem, ↓reduceIte, Nat.reduceEqDiff, reduceCtorEq, List.forall_mem_cons, List.not_mem_nil, false_implies, implies_true, and_self, labsIn_lift, List.all_cons, List.all_nil, Nat.reduceLT, labsInL, AV.labsIn]
  all_goals first | rfl | decide | skip
 clear M1 M2 e1 e2 ok0
 obtain ⟨l, ps, i⟩ := x
 obtain ⟨i1, i2, eE, okl⟩ := hx
 simp only at i1 i2 eE okl
 have hl100 := pairs_len okl RS.len.2.1 RU.len.2.1
 simp only [kmS, cellsSc]
 refine AW.seq ?_
 by_cases hil : i < l.length
 case neg =>
  have hc1 : ((i : Int) < (l.length : Int)) = False := eq_false (by omega)
  have eN : makeP S U (101 - i) i l = [] := by
   rw [show 101 - i = (100 - i) + 1 by omega, makeP, List.getElem?_eq_none (by omega)]
  rw [eN, List.append_nil] at eE
  refine AW.rT (by rfl) fun K hK => ?_
  simp -implicitDefEqProofs only [go_sem, ↓reduceIte, Nat.reduceAdd, Nat.reduceEqDiff, reduceCtorEq, hc1, liftE_length, List.length_map]
  refine hK _ ?_; clear hK K
  refine AW.cond _ (by simp -implicitDefEqProofs only [go_sem]; rfl) (fun hc => ?_) (fun hc => ?_)
  ·simp at hc
  refine AW.exit ?_
  simp only [andThen, inBlk, ↓reduceIte]
  refine ⟨(l, ps), eE, ?_⟩
  show Ghost _ _ (kmS S U l ps [])
  simp only [kmS, cellsSc]
  refine Ghost.sub ?_ ?_ <;> simp -implicitDefEqProofs only [go_sem, ↓reduceIte, Nat.reduceEqDiff, reduceCtorEq, List.forall_mem_cons, List.not_mem_nil, false_implies, implies_true, and_self, labsIn_lift, List.all_cons, List.all_nil, Nat.reduceLT, labsInL, AV.labsIn]
  all_goals first | rfl | decide | skip
 obtain ⟨p, hp⟩ : ∃ p, l[i]? = some p := ⟨_, List.getElem?_eq_getElem hil⟩
 have g1 := at_lift encPr hp
 have b0 : 0 ≤ (i : Int) := by omega
 have b1 : (i : Int) < (l.length : Int) := by omega
 have hc1 : ((i : Int) < (l.length : Int)) = True := eq_true (by omega)
 have w1 : IntKind.wrap .i64 ((i : Int) + 1) = ((i + 1 : Nat) : Int) := by rw [w64] <;> omega
 have hh := okl.here p (List.mem_of_getElem? hp)
 have hmo := (msgOf_mem hh.1).1
 have hmn := (msgOf_mem hh.2).1
 have M1 := ref07_Message S p.o (by have := RS.len; omega)
 have M2 := ref07_Message U p.n (by have := RU.len; omega)
 have e1 : firstP (fun x => x.name == p.o) zMs S.msgs = (msgOf S p.o, true) := by rw [← hh.1]; rfl
 have e2 : firstP (fun x => x.name == p.n) zMs U.msgs = (msgOf U p.n, true) := by rw [← hh.2]; rfl
 rw [e1] at M1
 rw [e2] at M2
 simp only [encSc, encMs] at M1 M2
 simp only [encPr, List.map_cons, List.map_nil] at g1
 have eN : makeP S U (101 - i) i l = (stepsP (msgOf S p.o) (msgOf U p.n) 500 1 l).1 :: makeP S U (100 - i) (i + 1) (stepsP (msgOf S p.o) (msgOf U p.n) 500 1 l).2 := by
  rw [show 101 - i = (100 - i) + 1 by omega, makeP, hp]
 rw [eN] at eE
 generalize hmo' : msgOf S p.o = mo at *
 generalize hmn' : msgOf U p.n = mn at *
 refine AW.rT (by rfl) fun K hK => ?_
 simp -implicitDefEqProofs only [go_sem, ↓reduceIte, Nat.reduceAdd, Nat.reduceEqDiff, reduceCtorEq, hc1, liftE_length, List.length_map]
 refine hK _ ?_; clear hK K
 refine AW.cond _ (by simp -implicitDefEqProofs only [go_sem]; rfl) (fun hc => ?_) (fun hc => ?_)
 rotate_left
 ·simp at hc
 refine AW.skip ?_
 simp only [andThen]
 refine AW.seq ?_
 refine AW.block ?_
 refine AW.dT mixed (by rfl) (by decide +kernel) fun K hK => ?_
 simp -implicitDefEqProofs only [go_sem, ↓reduceIte, Nat.reduceAdd, Nat.reduceEqDiff, Nat.reduceLeDiff, reduceCtorEq, g1, b0, b1, liftE_length, List.length_map]
 refine ⟨.pure _, M1, ?_⟩
 try simp -implicitDefEqProofs only [go_sem, ↓reduceIte, Nat.reduceAdd, Nat.reduceEqDiff, Nat.reduceLeDiff]
 refine ⟨by decide +kernel, ?_⟩
 refine hK _ ?_; clear hK K
 refine AW.dT mixed (by rfl) (by decide +kernel) fun K hK => ?_
 simp -implicitDefEqProofs only [go_sem, ↓reduceIte, Nat.reduceAdd, Nat.reduceEqDiff, Nat.reduceLeDiff, reduceCtorEq, g1, b0, b1, liftE_length, List.length_map]
 refine ⟨.pure _, M2, ?_⟩
 try simp -implicitDefEqProofs only [go_sem, ↓reduceIte, Nat.reduceAdd, Nat.reduceEqDiff, Nat.reduceLeDiff]
 refine ⟨by decide +kernel, ?_⟩
 refine hK _ ?_; clear hK K
 refine AW.rT (by rfl) fun K hK => ?_
 simp -implicitDefEqProofs only [go_sem, Nat.reduceAdd]
 refine hK _ ?_; clear hK K
 refine AW.ghost (s' := kmI S U mo mn l ps [] i []) (Ghost.trans (Ghost.nil (t := 21) (sz := 3) rfl) ?_) ?_
 ·simp only [kmI, cellsSc, cellsMs, List.map_nil, liftE_nil]
  refine Ghost.ent (fun l => if l = 4 then 18 else if l = 5 then 31 else if l = 6 then 35 else l) ?_ ?_ ?_ <;> simp -implicitDefEqProofs only [go_sem, ↓reduceIte, Nat.reduceEqDiff, reduceCtorEq, List.forall_mem_cons, List.not_mem_nil, false_implies, implies_true, and_self, map_renL_lift, labsIn_lift, List.all_cons, List.all_nil, Nat.reduceLT, labsInL, AV.labsIn]
  all_goals first | rfl | decide | skip
 have SP : ∃ sp, sp = stepsP mo mn 500 1 l := ⟨_, rfl⟩
 obtain ⟨sp, hsp⟩ := SP
 rw [← hsp] at eE
 refine AW.cut (fun x : List Pr × List Stp => kmI S U mo mn x.1 ps x.2 i []) (fun x => x.1 = sp.2 ∧ x.2 = sp.1 ∧ PairsOK S U x.1 ∧ i < x.1.length ∧ x.2.length ≤ 500) ?_ fun x hx => ?_
 rotate_left
 ·obtain ⟨l', st⟩ := x
  obtain ⟨h1, h2, okl', hil', hst⟩ := hx
  simp only at h1 h2 okl' hil' hst
  refine AW.ghost (s' := kmS S U l' ps [(16, .p (.int .i64 (i : Int))), (21, .p (.slice (st.map encSt)))]) ?_ ?_
  ·refine Ghost.trans (Ghost.freeze (lb := 6) (sz := 3) (ps := st.map encSt) ?_ (unlift_liftE _)) ?_
   ·simp only [kmI]
    simp -implicitDefEqProofs only [go_sem, ↓reduceIte, Nat.reduceEqDiff, reduceCtorEq]
   ·simp only [kmI, kmS, cellsSc, cellsMs]
    refine Ghost.sub ?_ ?_ <;> simp -implicitDefEqProofs only [go_sem, ↓reduceIte, Nat.reduceEqDiff, reduceCtorEq, thaw, thaw1, Option.map_some, List.map_cons, List.map_nil, thaw_lift, List.forall_mem_cons, List.not_mem_nil, false_implies, implies_true, and_self, labsIn_lift, List.all_cons, List.all_nil, Nat.reduceLT, labsInL, AV.labsIn]
    all_goals first | rfl | decide | skip
  simp only [kmS, cellsSc]
  have hl1 := pairs_len okl' RS.len.2.1 RU.len.2.1
  have cn0 : 101 - (i + 1) = 100 - i := by omega
  have m1 : 101 - (i + 1) < 101 - i := by omega
  refine AW.rE (by rfl) fun K hK => ?_
  simp -implicitDefEqProofs only [go_sem, ↓reduceIte, Nat.reduceAdd, Nat.reduceMul, Nat.reduceEqDiff, Nat.reduceLeDiff, reduceCtorEq]
  refine ⟨⟨by simp, by simp [oneAll, AV.one, PV.one], by simp⟩, by rw [liftE_length, List.length_map]; omega, ?_⟩
  try simp -implicitDefEqProofs only [go_sem, ↓reduceIte, Nat.reduceAdd, Nat.reduceMul, Nat.reduceEqDiff, Nat.reduceLeDiff, reduceCtorEq, Int.reduceToNat]
  refine hK _ ?_; clear hK K
  simp only [andThen, inBlk]
  refine AW.rE (by rfl) fun K hK => ?_
  simp -implicitDefEqProofs only [go_sem, ↓reduceIte, Nat.reduceAdd, Nat.reduceEqDiff, w1]
  refine hK _ ?_; clear hK K
  refine ⟨(l', ps ++ [st], i + 1), ⟨hil', by simp only [List.length_append, List.length_cons, List.length_nil]; omega, ?_, okl'⟩, m1, ?_⟩
  ·simp only [List.append_assoc, List.cons_append, List.nil_append]
   rw [cn0, h1, h2]
   exact eE
  ·show Ghost _ _ (kmS S U l' (ps ++ [st]) [(16, .p (.int .i64 ((i + 1 : Nat) : Int)))])
   simp only [kmS, cellsSc]
   refine Ghost.ent (fun l => if l = 3 then 7 else l) ?_ ?_ ?_ <;> simp -implicitDefEqProofs only [go_sem, ↓reduceIte, Nat.reduceEqDiff, reduceCtorEq, encPt, List.map_append, liftE_append, List.map_cons, List.map_nil, liftE_cons, liftE_nil, List.forall_mem_cons, List.not_mem_nil, false_implies, implies_true, and_self, map_renL_lift, labsIn_lift, List.all_append, List.all_cons, List.all_nil, List.map_append, Nat.reduceLT, labsInL, AV.labsIn]
   all_goals first | rfl | decide | skip
 simp only [kmI, cellsSc, cellsMs]
 refine AW.rT (by rfl) fun K hK => ?_
 simp -implicitDefEqProofs only [go_sem, Nat.reduceAdd]
 refine hK _ ?_; clear hK K
 refine AW.block ?_
 have z0 : (501 - 1 : Nat) = 500 := rfl
 have z00 : ((1 : Nat) : Int) = 1 := rfl
 have z1 : [] ++ (stepsP mo mn (501 - 1) ((1 : Nat) : Int) l).1 = sp.1 := by rw [z0, z00, List.nil_append, hsp]
 have z2 : (stepsP mo mn (501 - 1) ((1 : Nat) : Int) l).2 = sp.2 := by rw [z0, z00, hsp]
 refine AW.loop (fun x : List Pr × List Stp × Nat => kmI S U mo mn x.1 ps x.2.1 i [(22, .p (.int .i64 (x.2.2 : Int)))]) (fun x => x.2.2 ≤ 501 ∧ 1 ≤ x.2.2 ∧ i < x.1.length ∧ x.2.1 ++ (stepsP mo mn (501 - x.2.2) (x.2.2 : Int) x.1).1 = sp.1 ∧ (stepsP mo mn (501 - x.2.2) (x.2.2 : Int) x.1).2 = sp.2 ∧ PairsOK S U x.1 ∧ x.2.1.length < x.2.2) (fun x => 501 - x.2.2) (l, [], 1) ?_ ⟨Nat.le_of_ble_eq_true rfl, Nat.le_refl _, hil, z1, z2, okl, Nat.lt_succ_self _⟩ fun x hx => ?_
 ·simp only [kmI, cellsSc, cellsMs]
  refine Ghost.sub ?_ ?_ <;> simp -implicitDefEqProofs only [go_sem, ↓reduceIte, Nat.reduceEqDiff, reduceCtorEq, Int.cast_ofNat_Int, List.map_nil, liftE_nil, List.forall_mem_cons, List.not_mem_nil, false_implies, implies_true, and_self, labsIn_lift, List.all_cons, List.all_nil, Nat.reduceLT, labsInL, AV.labsIn]
  all_goals first | rfl | decide | skip
 clear okl hl100 g1 hc1 hil hp i1 M1 M2 hsp b0 b1 z1 z2
 obtain ⟨l, st, n⟩ := x
 obtain ⟨n1, n2, hil, q1, q2, okl, q3⟩ := hx
 simp only at n1 n2 hil q1 q2 okl q3
 have hl100 := pairs_len okl RS.len.2.1 RU.len.2.1
 simp only [kmI, cellsSc, cellsMs]
 refine AW.seq ?_
 by_cases hn : n ≤ 500
 case neg =>
  have hc1 : ((n : Int) ≤ 500) = False := eq_false (by omega)
  rw [show 501 - n = 0 by omega] at q1 q2
  refine AW.rT (by rfl) fun K hK => ?_
  simp -implicitDefEqProofs only [go_sem, ↓reduceIte, Nat.reduceAdd, Nat.reduceEqDiff, hc1]
  refine hK _ ?_; clear hK K
  refine AW.cond _ (by simp -implicitDefEqProofs only [go_sem]; rfl) (fun hc => ?_) (fun hc => ?_)
  ·simp at hc
  refine AW.exit ?_
  simp only [andThen, inBlk, ↓reduceIte]
  refine ⟨(l, st), ⟨q2, by rw [← q1]; exact (List.append_nil _).symm, okl, hil, by simp only; omega⟩, ?_⟩
  show Ghost _ _ (kmI S U mo mn l ps st i [])
  simp only [kmI, cellsSc, cellsMs]
  refine Ghost.sub ?_ ?_ <;> simp -implicitDefEqProofs only [go_sem, ↓reduceIte, Nat.reduceEqDiff, reduceCtorEq, List.forall_mem_cons, List.not_mem_nil, false_implies, implies_true, and_self, labsIn_lift, List.all_cons, List.all_nil, Nat.reduceLT, labsInL, AV.labsIn]
  all_goals first | rfl | decide | skip
 have hc1 : ((n : Int) ≤ 500) = True := eq_true (by omega)
 have w2 : IntKind.wrap .i64 ((n : Int) + 1) = ((n + 1 : Nat) : Int) := by rw [w64] <;> omega
 have no1 := (fit_msgs FS hmo).no
 have no2 := (fit_msgs FU hmn).no
 rw [show 501 - n = (500 - n) + 1 by omega, stepsP] at q1 q2
 simp only at q1 q2
 have okl' := stepLs_ok RS RU hmo hmn (t := (n : Int)) okl
 have hil' : i < (stepLs mo mn (n : Int) l).length := by
  have := List.getElem?_eq_getElem hil
  exact (List.getElem?_eq_some_iff.1 (pref_stepLs mo mn (n : Int) l i _ this)).1
 have cs : ((n + 1 : Nat) : Int) = (n : Int) + 1 := by omega
 have cn : 501 - (n + 1) = 500 - n := by omega
 have k1 : n + 1 ≤ 501 := by omega
 have k2 : 501 - (n + 1) < 501 - n := by omega
 refine AW.rT (by rfl) fun K hK => ?_
 simp -implicitDefEqProofs only [go_sem, ↓reduceIte, Nat.reduceAdd, Nat.reduceEqDiff, hc1]
 refine hK _ ?_; clear hK K
 refine AW.cond _ (by simp -implicitDefEqProofs only [go_sem]; rfl) (fun hc => ?_) (fun hc => ?_)
 rotate_left
 ·simp at hc
 refine AW.skip ?_
 simp only [andThen]
 refine AW.cut (fun _ : Unit => kmI S U mo mn (stepLs mo mn (n : Int) l) ps (st ++ (stepO mo mn (n : Int) l).toList) i [(22, .p (.int .i64 (n : Int)))]) (fun _ => True) ?_ fun _ _ => ?_
 rotate_left
 ·simp only [kmI, cellsSc, cellsMs]
  have hlen : (st ++ (stepO mo mn (n : Int) l).toList).length < n + 1 := by
   rw [List.length_append]
   have : (stepO mo mn (n : Int) l).toList.length ≤ 1 := by cases stepO mo mn (n : Int) l <;> simp
   omega
  refine AW.rE (by rfl) fun K hK => ?_
  simp -implicitDefEqProofs only [go_sem, ↓reduceIte, Nat.reduceAdd, Nat.reduceEqDiff, w2]
  refine hK _ ?_; clear hK K
  refine ⟨(stepLs mo mn (n : Int) l, st ++ (stepO mo mn (n : Int) l).toList, n + 1), ⟨k1, Nat.le_add_left 1 n, hil', ?_, ?_, okl', hlen⟩, k2, ?_⟩
  ·simp only [List.append_assoc]
   rw [cn, cs]
   exact q1
  ·simp only
   rw [cn, cs]
   exact q2
  ·show Ghost _ _ (kmI S U mo mn (stepLs mo mn (n : Int) l) ps (st ++ (stepO mo mn (n : Int) l).toList) i [(22, .p (.int .i64 ((n + 1 : Nat) : Int)))])
   simp only [kmI, cellsSc, cellsMs]
   refine Ghost.sub ?_ ?_ <;> simp -implicitDefEqProofs only [go_sem, ↓reduceIte, Nat.reduceEqDiff, reduceCtorEq, List.forall_mem_cons, List.not_mem_nil, false_implies, implies_true, and_self, labsIn_lift, List.all_cons, List.all_nil, Nat.reduceLT, labsInL, AV.labsIn]
   all_goals first | rfl | decide | skip
 refine AW.block ?_
 have P1 := ref07_Field mo (n : Int) (by omega)
 have P2 := ref07_Field mn (n : Int) (by omega)
 have e1 : firstP (fun x => x.tag == (n : Int)) zFd mo.fields = fOf mo (n : Int) := rfl
 have e2 : firstP (fun x => x.tag == (n : Int)) zFd mn.fields = fOf mn (n : Int) := rfl
 rw [e1] at P1
 rw [e2] at P2
 have no : ¬ ((fOf mo (n : Int)).2 = true ∧ (fOf mn (n : Int)).2 = true ∧ (fOf mo (n : Int)).1.label = (fOf mn (n : Int)).1.label) → st ++ (stepO mo mn (n : Int) l).toList = st ∧ stepLs mo mn (n : Int) l = l := fun h => by
  have e : stepO mo mn (n : Int) l = none := by unfold stepO; rw [if_neg h]
  have i : intoB mo mn (n : Int) = false := by
   rw [Bool.eq_false_iff]
   intro q
   have := intoB_spec q
   exact h ⟨this.1, this.2.1, this.2.2.1⟩
  unfold stepLs
  rw [e, i]
  exact ⟨List.append_nil _, rfl⟩
 have yes := stepO_op (mo := mo) (mn := mn) (t := (n : Int)) (l := l)
 have into : stepLs mo mn (n : Int) l = if intoB mo mn (n : Int) = true then addP l (pairO mo mn (n : Int)) else l := rfl
 have intoE : intoB mo mn (n : Int) = ((fOf mo (n : Int)).2 && (fOf mn (n : Int)).2 && ((fOf mo (n : Int)).1.label == (fOf mn (n : Int)).1.label) && ((fOf mo (n : Int)).1.ty.kind == 7) && ((fOf mn (n : Int)).1.ty.kind == 7)) := rfl
 have pE : pairO mo mn (n : Int) = ⟨(fOf mo (n : Int)).1.ty.name, (fOf mn (n : Int)).1.ty.name⟩ := rfl
 clear q1 q2
 obtain ⟨F1, hF1⟩ : ∃ F1, F1 = fOf mo (n : Int) := ⟨_, rfl⟩
 obtain ⟨F2, hF2⟩ : ∃ F2, F2 = fOf mn (n : Int) := ⟨_, rfl⟩
 rw [← hF1, ← hF2] at no yes intoE pE
 rw [← hF1] at P1
 rw [← hF2] at P2
 obtain ⟨f, bf⟩ := F1
 obtain ⟨g, bg⟩ := F2
 simp only at no yes intoE pE P1 P2
 simp only [encMs, encFd] at P1 P2
 refine AW.rT (by rfl) fun K hK => ?_
 simp -implicitDefEqProofs only [go_sem, ↓reduceIte, Nat.reduceAdd, Nat.reduceEqDiff, Nat.reduceLeDiff, reduceCtorEq]
 refine ⟨.pure _, P1, ?_⟩
 try simp -implicitDefEqProofs only [go_sem, ↓reduceIte, Nat.reduceAdd, Nat.reduceEqDiff, Nat.reduceLeDiff]
 refine hK _ ?_; clear hK K
 refine AW.rT (by rfl) fun K hK => ?_
 simp -implicitDefEqProofs only [go_sem, ↓reduceIte, Nat.reduceAdd, Nat.reduceEqDiff, Nat.reduceLeDiff, reduceCtorEq]
 refine ⟨.pure _, P2, ?_⟩
 try simp -implicitDefEqProofs only [go_sem, ↓reduceIte, Nat.reduceAdd, Nat.reduceEqDiff, Nat.reduceLeDiff]
 refine hK _ ?_; clear hK K
 refine AW.ghost (s' := kmF S U mo mn l ps st i (n : Int) f g [(24, .p (.bool bf)), (26, .p (.bool bg))]) ?_ ?_
 ·simp only [kmF, cellsSc, cellsMs]
  refine Ghost.ent (fun l => if l = 7 then 15 else if l = 8 then 24 else l) ?_ ?_ ?_ <;> simp -implicitDefEqProofs only [go_sem, ↓reduceIte, Nat.reduceEqDiff, reduceCtorEq, List.forall_mem_cons, List.not_mem_nil, false_implies, implies_true, and_self, map_renL_lift, labsIn_lift, List.all_cons, List.all_nil, Nat.reduceLT, labsInL, AV.labsIn]
  all_goals first | rfl | decide | skip
 simp only [kmF, cellsSc, cellsMs]
 refine AW.seq ?_
 have skip1 : ∀ (b : Bool), stepLs mo mn (n : Int) l = l → st ++ (stepO mo mn (n : Int) l).toList = st → True := fun _ _ _ => trivial
 by_cases c1 : bf = true
 case neg =>
  obtain ⟨x1, x2⟩ := no (fun h => c1 h.1)
  have bF : bf = false := by simpa using c1
  rw [bF, x1, x2]
  refine AW.rT (by rfl) fun K hK => ?_
  simp -implicitDefEqProofs only [go_sem, ↓reduceIte, Nat.reduceAdd, Nat.reduceEqDiff]
  refine hK _ ?_; clear hK K
  refine AW.cond _ (by simp -implicitDefEqProofs only [go_sem]; rfl) (fun hc => ?_) (fun hc => ?_)
  rotate_left
  ·simp at hc
  refine AW.exit ?_
  simp only [andThen, inBlk, ↓reduceIte]
  refine ⟨(), trivial, ?_⟩
  show Ghost _ _ (kmI S U mo mn l ps st i [(22, .p (.int .i64 (n : Int)))])
  simp only [kmI, cellsSc, cellsMs]
  refine Ghost.sub ?_ ?_ <;> simp -implicitDefEqProofs only [go_sem, ↓reduceIte, Nat.reduceEqDiff, reduceCtorEq, List.forall_mem_cons, List.not_mem_nil, false_implies, implies_true, and_self, labsIn_lift, List.all_cons, List.all_nil, Nat.reduceLT, labsInL, AV.labsIn]
  all_goals first | rfl | decide | skip
 by_cases c2 : bg = true
 case neg =>
  obtain ⟨x1, x2⟩ := no (fun h => c2 h.2.1)
  have bG : bg = false := by simpa using c2
  rw [c1, bG, x1, x2]
  refine AW.rT (by rfl) fun K hK => ?_
  simp -implicitDefEqProofs only [go_sem, ↓reduceIte, Nat.reduceAdd, Nat.reduceEqDiff]
  refine hK _ ?_; clear hK K
  refine AW.cond _ (by simp -implicitDefEqProofs only [go_sem]; rfl) (fun hc => ?_) (fun hc => ?_)
  rotate_left
  ·simp at hc
  refine AW.exit ?_
  simp only [andThen, inBlk, ↓reduceIte]
  refine ⟨(), trivial, ?_⟩
  show Ghost _ _ (kmI S U mo mn l ps st i [(22, .p (.int .i64 (n : Int)))])
  simp only [kmI, cellsSc, cellsMs]
  refine Ghost.sub ?_ ?_ <;> simp -implicitDefEqProofs only [go_sem, ↓reduceIte, Nat.reduceEqDiff, reduceCtorEq, List.forall_mem_cons, List.not_mem_nil, false_implies, implies_true, and_self, labsIn_lift, List.all_cons, List.all_nil, Nat.reduceLT, labsInL, AV.labsIn]
  all_goals first | rfl | decide | skip
 by_cases c3 : f.label = g.label
 case neg =>
  obtain ⟨x1, x2⟩ := no (fun h => c3 h.2.2)
  have f3 : (f.label != g.label) = true := by simp [c3]
  rw [c1, c2, x1, x2]
  refine AW.rT (by rfl) fun K hK => ?_
  simp -implicitDefEqProofs only [go_sem, ↓reduceIte, Nat.reduceAdd, Nat.reduceEqDiff, reduceCtorEq, f3]
  refine hK _ ?_; clear hK K
  refine AW.cond _ (by simp -implicitDefEqProofs only [go_sem]; rfl) (fun hc => ?_) (fun hc => ?_)
  rotate_left
  ·simp at hc
  refine AW.exit ?_
  simp only [andThen, inBlk, ↓reduceIte]
  refine ⟨(), trivial, ?_⟩
  show Ghost _ _ (kmI S U mo mn l ps st i [(22, .p (.int .i64 (n : Int)))])
  simp only [kmI, cellsSc, cellsMs]
  refine Ghost.sub ?_ ?_ <;> simp -implicitDefEqProofs only [go_sem, ↓reduceIte, Nat.reduceEqDiff, reduceCtorEq, List.forall_mem_cons, List.not_mem_nil, false_implies, implies_true, and_self, labsIn_lift, List.all_cons, List.all_nil, Nat.reduceLT, labsInL, AV.labsIn]
  all_goals first | rfl | decide | skip
 have f3 : (f.label != g.label) = false := by simp [c3]
 have OP := ref15_op f g
 simp only [encFd] at OP
 have yes' := yes ⟨c1, c2, c3⟩
 have into' : intoB mo mn (n : Int) = ((f.ty.kind == 7) && (g.ty.kind == 7)) := by rw [intoE, c1, c2, beq_iff_eq.2 c3]; rfl
 rw [into'] at into
 clear no yes intoE skip1
 rw [c1, c2]
 refine AW.rT (by rfl) fun K hK => ?_
 simp -implicitDefEqProofs only [go_sem, ↓reduceIte, Nat.reduceAdd, Nat.reduceEqDiff, reduceCtorEq, f3]
 refine hK _ ?_; clear hK K
 refine AW.cond _ (by simp -implicitDefEqProofs only [go_sem]; rfl) (fun hc => ?_) (fun hc => ?_)
 ·simp at hc
 refine AW.skip ?_
 simp only [andThen]
 refine AW.rT (by rfl) fun K hK => ?_
 simp -implicitDefEqProofs only [go_sem, ↓reduceIte, Nat.reduceAdd, Nat.reduceEqDiff, Nat.reduceLeDiff, reduceCtorEq]
 refine ⟨.pure _, OP, ?_⟩
 try simp -implicitDefEqProofs only [go_sem, ↓reduceIte, Nat.reduceAdd, Nat.reduceEqDiff, Nat.reduceLeDiff]
 refine hK _ ?_; clear hK K
 obtain ⟨k, hk⟩ : ∃ k, k = opK f g := ⟨_, rfl⟩
 rw [← hk] at yes' ⊢
 obtain ⟨l', hl'⟩ : ∃ l', l' = stepLs mo mn (n : Int) l := ⟨_, rfl⟩
 rw [← hl'] at into ⊢
 obtain ⟨sb, hsb⟩ : ∃ sb : Int, sb = (if f.ty.kind = 7 ∧ g.ty.kind = 7 then (placeP l (pairO mo mn (n : Int)) : Int) else 0) := ⟨_, rfl⟩
 rw [← hsb] at yes'
 refine AW.cut (fun _ : Unit => kmG S U mo mn l' ps st i (n : Int) k sb []) (fun _ => True) ?_ fun _ _ => ?_
 rotate_left
 ·simp only [kmG, cellsSc, cellsMs]
  by_cases hk0 : k = 0
  ·rw [if_pos hk0] at yes'
   rw [yes', Option.toList_none, List.append_nil]
   have g0 : (k > 0) = False := eq_false (by omega)
   refine AW.rT (by rfl) fun K hK => ?_
   simp -implicitDefEqProofs only [go_sem, ↓reduceIte, Nat.reduceAdd, Nat.reduceEqDiff, reduceCtorEq, g0]
   refine hK _ ?_; clear hK K
   refine AW.cond _ (by simp -implicitDefEqProofs only [go_sem]; rfl) (fun hc => ?_) (fun hc => ?_)
   ·simp at hc
   refine AW.skip ?_
   simp only [andThen, inBlk]
   refine ⟨(), trivial, ?_⟩
   show Ghost _ _ (kmI S U mo mn l' ps st i [(22, .p (.int .i64 (n : Int)))])
   simp only [kmI, cellsSc, cellsMs]
   refine Ghost.sub ?_ ?_ <;> simp -implicitDefEqProofs only [go_sem, ↓reduceIte, Nat.reduceEqDiff, reduceCtorEq, List.forall_mem_cons, List.not_mem_nil, false_implies, implies_true, and_self, labsIn_lift, List.all_cons, List.all_nil, Nat.reduceLT, labsInL, AV.labsIn]
   all_goals first | rfl | decide | skip
  ·rw [if_neg hk0] at yes'
   rw [yes', Option.toList_some]
   have kp : 0 < k := by rw [hk]; rw [hk] at hk0; revert hk0; unfold opK; split <;> split <;> omega
   have g0 : (k > 0) = True := eq_true kp
   refine AW.rT (by rfl) fun K hK => ?_
   simp -implicitDefEqProofs only [go_sem, ↓reduceIte, Nat.reduceAdd, Nat.reduceEqDiff, reduceCtorEq, g0]
   refine hK _ ?_; clear hK K
   refine AW.cond _ (by simp -implicitDefEqProofs only [go_sem]; rfl) (fun hc => ?_) (fun hc => ?_)
   rotate_left
   ·simp at hc
   refine AW.rE (by rfl) fun K hK => ?_
   simp -implicitDefEqProofs only [go_sem, ↓reduceIte, Nat.reduceAdd, Nat.reduceMul, Nat.reduceEqDiff, Nat.reduceLeDiff, reduceCtorEq]
   refine ⟨⟨by simp, by simp [oneAll, AV.one, PV.one], by simp⟩, by rw [liftE_length, List.length_map]; omega, ?_⟩
   try simp -implicitDefEqProofs only [go_sem, ↓reduceIte, Nat.reduceAdd, Nat.reduceMul, Nat.reduceEqDiff, Nat.reduceLeDiff, reduceCtorEq, Int.reduceToNat]
   refine hK _ ?_; clear hK K
   simp only [andThen, inBlk]
   refine ⟨(), trivial, ?_⟩
   show Ghost _ _ (kmI S U mo mn l' ps (st ++ [⟨k, (n : Int), sb⟩]) i [(22, .p (.int .i64 (n : Int)))])
   simp only [kmI, cellsSc, cellsMs]
   refine Ghost.ent (fun l => if l = 6 then 14 else l) ?_ ?_ ?_ <;> simp -implicitDefEqProofs only [go_sem, ↓reduceIte, Nat.reduceEqDiff, reduceCtorEq, encSt, List.map_append, liftE_append, List.map_cons, List.map_nil, liftE_cons, liftE_nil, List.forall_mem_cons, List.not_mem_nil, false_implies, implies_true, and_self, map_renL_lift, labsIn_lift, List.all_append, List.all_cons, List.all_nil, List.map_append, Nat.reduceLT, labsInL, AV.labsIn]
   all_goals first | rfl | decide | skip
 by_cases c7 : f.ty.kind = 7 ∧ g.ty.kind = 7
 case neg =>
  have i7 : ((f.ty.kind == 7) && (g.ty.kind == 7)) = false := by
   rw [Bool.eq_false_iff]
   intro h
   rw [Bool.and_eq_true, beq_iff_eq, beq_iff_eq] at h
   exact c7 h
  rw [i7] at into
  rw [if_neg (by simp)] at into
  rw [if_neg c7] at hsb
  have kk : k = 0 ∨ k = 1 ∨ k = 2 := by
   rw [hk]
   unfold opK
   rw [if_neg c7]
   split
   ·omega
   ·split <;> omega
  have k3 : (k == 3) = false := beq_eq_false_iff_ne.2 (by omega)
  have k4 : (k == 4) = false := beq_eq_false_iff_ne.2 (by omega)
  refine AW.rT (by rfl) fun K hK => ?_
  simp -implicitDefEqProofs only [go_sem, ↓reduceIte, Nat.reduceAdd, Nat.reduceEqDiff, k3, k4]
  refine hK _ ?_; clear hK K
  refine AW.cond _ (by simp -implicitDefEqProofs only [go_sem]; rfl) (fun hc => ?_) (fun hc => ?_)
  ·simp at hc
  refine AW.skip ?_
  simp only [andThen]
  refine ⟨(), trivial, ?_⟩
  show Ghost _ _ (kmG S U mo mn l' ps st i (n : Int) k sb [])
  rw [into, hsb]
  simp only [kmG, cellsSc, cellsMs]
  refine Ghost.ent (fun l => if l = 7 then 27 else l) ?_ ?_ ?_ <;> simp -implicitDefEqProofs only [go_sem, ↓reduceIte, Nat.reduceEqDiff, reduceCtorEq, List.forall_mem_cons, List.not_mem_nil, false_implies, implies_true, and_self, map_renL_lift, labsIn_lift, List.all_cons, List.all_nil, Nat.reduceLT, labsInL, AV.labsIn]
  all_goals first | rfl | decide | skip
 have i7 : ((f.ty.kind == 7) && (g.ty.kind == 7)) = true := by rw [Bool.and_eq_true, beq_iff_eq, beq_iff_eq]; exact c7
 rw [i7] at into
 rw [if_pos rfl] at into
 rw [if_pos c7] at hsb
 refine AW.cut (fun _ : Unit => kmH S U mo mn l ps st i (n : Int) f g k [(126, .p (.bool true))]) (fun _ => True) ?_ fun _ _ => ?_
 ·have kk : k = 3 ∨ k = 4 := by
   rw [hk]
   unfold opK
   rw [if_pos c7]
   split <;> omega
  by_cases h3 : k = 3
  ·have k3 : (k == 3) = true := beq_iff_eq.2 h3
   refine AW.rE (by rfl) fun K hK => ?_
   simp -implicitDefEqProofs only [go_sem, ↓reduceIte, Nat.reduceAdd, Nat.reduceEqDiff, k3]
   refine hK _ ?_; clear hK K
   refine ⟨(), trivial, ?_⟩
   show Ghost _ _ (kmH S U mo mn l ps st i (n : Int) f g k [(126, .p (.bool true))])
   simp only [kmH, cellsSc, cellsMs]
   refine Ghost.ent (fun l => if l = 9 then 27 else l) ?_ ?_ ?_ <;> simp -implicitDefEqProofs only [go_sem, ↓reduceIte, Nat.reduceEqDiff, reduceCtorEq, List.forall_mem_cons, List.not_mem_nil, false_implies, implies_true, and_self, map_renL_lift, labsIn_lift, List.all_cons, List.all_nil, Nat.reduceLT, labsInL, AV.labsIn]
   done
  ·have k3 : (k == 3) = false := beq_eq_false_iff_ne.2 h3
   have k4 : (k == 4) = true := beq_iff_eq.2 (by omega)
   refine AW.rE (by rfl) fun K hK => ?_
   simp -implicitDefEqProofs only [go_sem, ↓reduceIte, Nat.reduceAdd, Nat.reduceEqDiff, k3, k4]
   refine hK _ ?_; clear hK K
   refine ⟨(), trivial, ?_⟩
   show Ghost _ _ (kmH S U mo mn l ps st i (n : Int) f g k [(126, .p (.bool true))])
   simp only [kmH, cellsSc, cellsMs]
   refine Ghost.ent (fun l => if l = 9 then 27 else l) ?_ ?_ ?_ <;> simp -implicitDefEqProofs only [go_sem, ↓reduceIte, Nat.reduceEqDiff, reduceCtorEq, List.forall_mem_cons, List.not_mem_nil, false_implies, implies_true, and_self, map_renL_lift, labsIn_lift, List.all_cons, List.all_nil, Nat.reduceLT, labsInL, AV.labsIn]
   done
 simp only [kmH, cellsSc, cellsMs]
 refine AW.cond _ (by simp -implicitDefEqProofs only [go_sem, ↓reduceIte, Nat.reduceEqDiff]; rfl) (fun hc => ?_) (fun hc => ?_)
 rotate_left
 ·simp at hc
 have PL := ref15_place l (pairO mo mn (n : Int)) (by omega)
 have AD := ref14_Add l (pairO mo mn (n : Int)) (by omega)
 rw [← into] at AD
 rw [← hsb] at PL
 rw [pE] at PL AD
 simp only [encPr] at PL AD
 refine AW.rT (by rfl) fun K hK => ?_
 simp -implicitDefEqProofs only [go_sem, ↓reduceIte, Nat.reduceAdd, Nat.reduceEqDiff, Nat.reduceLeDiff, reduceCtorEq]
 refine hK _ ?_; clear hK K
 refine AW.rT (by rfl) fun K hK => ?_
 simp -implicitDefEqProofs only [go_sem, ↓reduceIte, Nat.reduceAdd, Nat.reduceEqDiff, Nat.reduceLeDiff, reduceCtorEq]
 refine ⟨.peek _, ⟨PL, rfl⟩, ?_⟩
 try simp -implicitDefEqProofs only [go_sem, ↓reduceIte, Nat.reduceAdd, Nat.reduceEqDiff, Nat.reduceLeDiff, reduceCtorEq]
 refine hK _ ?_; clear hK K
 refine AW.rRE (SeqR.ev 2 (by rfl) (by decide) ?_)
 simp -implicitDefEqProofs only [go_sem, ↓reduceIte, Nat.reduceAdd, Nat.reduceEqDiff, Nat.reduceLeDiff]
 refine SeqR.call (fun _ => 2) rfl rfl AD ⟨?_, rfl, ?_, rfl, rfl, rfl, rfl, rfl, ?_⟩ ?_
 ·simp -implicitDefEqProofs only [go_sem, ↓reduceIte, Nat.reduceEqDiff, argD]
 ·simp -implicitDefEqProofs only [go_sem, ↓reduceIte, Nat.reduceEqDiff, reduceCtorEq, List.forall_mem_cons, List.not_mem_nil, false_implies, implies_true]
  first | done | decide
 ·simp only [List.all_cons, List.all_nil, labsBy_lift]
  rfl
 refine SeqR.ev 1 (by rfl) (by decide) ?_
 simp -implicitDefEqProofs only [go_sem, Nat.reduceAdd]
 refine SeqR.last rfl ?_
 refine ⟨(), ?_⟩
 show Ghost _ _ (kmG S U mo mn l' ps st i (n : Int) k sb [])
 simp only [kmG, cellsSc, cellsMs]
 refine Ghost.ent (fun l => if l = 2 then 26 else if l = 7 then 9 else l) ?_ ?_ ?_ <;> simp -implicitDefEqProofs only [go_sem, ↓reduceIte, Nat.reduceEqDiff, reduceCtorEq, lift2, goneU, newU, Nat.reduceSub, List.forall_mem_cons, List.not_mem_nil, false_implies, implies_true, and_self, map_renL_lift, labsIn_lift, List.all_cons, List.all_nil, Nat.reduceLT, labsInL, AV.labsIn]
 all_goals first | rfl | decide | skip
end Go.Aw
namespace Go.Aw
open Go.RowKit Go.ChangeShapes Go.Proofs
set_option linter.unusedSimpArgs false
set_option linter.unusedVariables false
structure GSt (a : Stp) : Prop where
 op : okI a.op
 tag : okI a.tag
 sub : okI a.sub
theorem opn_st (W : World) : OpnW Tryd.prog W 85 encSt GSt := by
 have c3 : Tryd.prog.cellsOf 3 = 1 := by kernel_rfl
 refine OpnW.map (G := fun x : Int × Int × Int × Unit => (okI) x.1 ∧ (okI) x.2.1 ∧ (okI) x.2.2.1 ∧ True) (opnW_struct Tryd.underlying85 (by kernel_rfl) ?_) (fun x : Int × Int × Int × Unit => (⟨x.1, x.2.1, x.2.2.1⟩ : Stp)) (fun a => rfl) (fun b p hp => by simp [encSt] at hp; rcases hp with rfl | rfl | rfl <;> rfl) ?_
 ·have f2 := opnFW_cons (P := Tryd.prog) (w := W) (off := 2) (f := { name := "Sub", type := 3, offset := 2, embedded := false, tag := "", pkgPath := "", byteOffset := 16 }) rfl c3 (opn_i64 W) (fun _ => rfl) opnFW_nil
  have f1 := opnFW_cons (P := Tryd.prog) (w := W) (off := 1) (f := { name := "Tag", type := 3, offset := 1, embedded := false, tag := "", pkgPath := "", byteOffset := 8 }) rfl c3 (opn_i64 W) (fun _ => rfl) f2
  have f0 := opnFW_cons (P := Tryd.prog) (w := W) (off := 0) (f := { name := "Op", type := 3, offset := 0, embedded := false, tag := "", pkgPath := "", byteOffset := 0 }) rfl c3 (opn_i64 W) (fun _ => rfl) f1
  exact f0
 ·intro x h
  exact ⟨h.1, h.2.1, h.2.2.1⟩
def GSts (l : List Stp) : Prop := (l.length ≤ maxLen ∧ l.length * Tryd.prog.bytesOf 85 ≤ reachBytes) ∧ ∀ a ∈ l, GSt a
theorem opn_sts (W : World) : OpnW Tryd.prog W 83 (fun l : List Stp => [.slice (l.map encSt)]) GSts :=
 opnW_slice (sz := 3) Tryd.underlying83 (by kernel_rfl) (by decide) (opn_st W) (fun _ => rfl)
def GPts (l : List (List Stp)) : Prop := (l.length ≤ maxLen ∧ l.length * Tryd.prog.bytesOf 83 ≤ reachBytes) ∧ ∀ a ∈ l, GSts a
theorem opn_pts (W : World) : OpnW Tryd.prog W 77 (fun l : List (List Stp) => [.slice (l.map encPt)]) GPts :=
 opnW_slice (sz := 1) Tryd.underlying77 (by kernel_rfl) (by decide) (opn_sts W) (fun _ => rfl)
theorem GPts.lens {p : List (List Stp)} (G : GPts p) : ∀ x ∈ p, x.length ≤ 6000000000000 := fun x hx => by
 have h := (G.2 x hx).1.2
 have e : reachBytes = 140737488351232 := by decide
 have b : Tryd.prog.bytesOf 85 = 24 := by kernel_rfl
 rw [e, b] at h
 omega
theorem makeP_lens (S U : Sc) : ∀ (n i : Nat) (l : List Pr), (makeP S U n i l).length ≤ n ∧ ∀ x ∈ makeP S U n i l, x.length ≤ 500
 | 0, i, l => ⟨Nat.le_refl _, fun x hx => by cases hx⟩
 | n + 1, i, l => by
  rw [makeP]
  cases hp : l[i]? with
  | none => exact ⟨Nat.zero_le _, fun x hx => by cases hx⟩
  | some p =>
   simp only
   obtain ⟨a, b⟩ := makeP_lens S U n (i + 1) (stepsP (msgOf S p.o) (msgOf U p.n) 500 1 l).2
   refine ⟨by rw [List.length_cons]; omega, fun x hx => ?_⟩
   rcases List.mem_cons.1 hx with rfl | hx
   ·exact steps_len 500 1 l
   ·exact b x hx
theorem makeR_lens (S U : Sc) (a b : List UInt8) : (makeR S U a b).1.length ≤ 101 ∧ ∀ x ∈ (makeR S U a b).1, x.length ≤ 500 := by
 unfold makeR
 split
 ·split
  ·exact makeP_lens S U 101 0 [⟨a, b⟩]
  ·exact ⟨Nat.zero_le _, fun x hx => by cases hx⟩
 ·exact ⟨Nat.zero_le _, fun x hx => by cases hx⟩
set_option maxRecDepth 100000 in
set_option maxHeartbeats 8000000 in
theorem law15_AdaptAll (S U : Sc) (a b : List UInt8) (p : List (List Stp)) (G : GSc S) (G' : GSc U) (GP : GPts p) : PFn Tryd.prog 19 [.agg (encSc S), .agg (encSc U), .str a, .str b, .slice (p.map encPt)] (.bool true) := by
 refine PFn.of Tryd.func19 rfl (by decide) Tryd.ntmps19 Tryd.results19 (Nat.le_of_ble_eq_true rfl) ?_
 simp only [argsT, encSc]
 have FW := law00_Few S G.big
 have FV := law00_Few U G'.big
 simp only [encSc] at FW FV
 refine AW.rT (by rfl) fun K hK => ?_
 simp -implicitDefEqProofs only [go_sem, ↓reduceIte, Nat.reduceAdd, Nat.reduceEqDiff]
 refine hK _ ?_; clear hK K
 refine AW.seq ?_
 cases hf : fewB S with
 | false =>
  rw [hf] at FW
  refine AW.rT (by rfl) fun K hK => ?_
  simp -implicitDefEqProofs only [go_sem, ↓reduceIte, Nat.reduceAdd, Nat.reduceEqDiff, Nat.reduceLeDiff, reduceCtorEq]
  refine ⟨.pure _, FW, ?_⟩
  try simp -implicitDefEqProofs only [go_sem, ↓reduceIte, Nat.reduceAdd, Nat.reduceEqDiff]
  refine hK _ ?_; clear hK K
  refine AW.cond _ (by simp -implicitDefEqProofs only [go_sem]; rfl) (fun hc => ?_) (fun hc => ?_)
  rotate_left
  ·simp at hc
  refine AW.rT (by rfl) fun K hK => ?_
  simp -implicitDefEqProofs only [go_sem]
  refine ⟨.pure _, law15_awake, ?_⟩
  try simp -implicitDefEqProofs only [go_sem, Nat.reduceAdd]
  refine hK _ ?_; clear hK K
  refine AW.ret ?_
  simp -implicitDefEqProofs only [go_sem]
 | true =>
 rw [hf] at FW
 cases hg : fewB U with
 | false =>
  rw [hg] at FV
  refine AW.rT (by rfl) fun K hK => ?_
  simp -implicitDefEqProofs only [go_sem, ↓reduceIte, Nat.reduceAdd, Nat.reduceEqDiff, Nat.reduceLeDiff, reduceCtorEq]
  refine ⟨.pure _, FW, ?_⟩
  try simp -implicitDefEqProofs only [go_sem, ↓reduceIte, Nat.reduceAdd, Nat.reduceEqDiff, Nat.reduceLeDiff]
  refine ⟨.pure _, FV, ?_⟩
  try simp -implicitDefEqProofs only [go_sem, ↓reduceIte, Nat.reduceAdd, Nat.reduceEqDiff]
  refine hK _ ?_; clear hK K
  refine AW.cond _ (by simp -implicitDefEqProofs only [go_sem]; rfl) (fun hc => ?_) (fun hc => ?_)
  rotate_left
  ·simp at hc
  refine AW.rT (by rfl) fun K hK => ?_
  simp -implicitDefEqProofs only [go_sem]
  refine ⟨.pure _, law15_awake, ?_⟩
  try simp -implicitDefEqProofs only [go_sem, Nat.reduceAdd]
  refine hK _ ?_; clear hK K
  refine AW.ret ?_
  simp -implicitDefEqProofs only [go_sem]
 | true =>
 rw [hg] at FV
 by_cases h120 : p.length > 120
 ·have l1 : ((p.length : Int) > 120) = True := eq_true (by omega)
  refine AW.rT (by rfl) fun K hK => ?_
  simp -implicitDefEqProofs only [go_sem, ↓reduceIte, Nat.reduceAdd, Nat.reduceEqDiff, Nat.reduceLeDiff, reduceCtorEq]
  refine ⟨.pure _, FW, ?_⟩
  try simp -implicitDefEqProofs only [go_sem, ↓reduceIte, Nat.reduceAdd, Nat.reduceEqDiff, Nat.reduceLeDiff]
  refine ⟨.pure _, FV, ?_⟩
  try simp -implicitDefEqProofs only [go_sem, ↓reduceIte, Nat.reduceAdd, Nat.reduceEqDiff, reduceCtorEq, l1, List.length_map]
  refine hK _ ?_; clear hK K
  refine AW.cond _ (by simp -implicitDefEqProofs only [go_sem]; rfl) (fun hc => ?_) (fun hc => ?_)
  rotate_left
  ·simp at hc
  refine AW.rT (by rfl) fun K hK => ?_
  simp -implicitDefEqProofs only [go_sem]
  refine ⟨.pure _, law15_awake, ?_⟩
  try simp -implicitDefEqProofs only [go_sem, Nat.reduceAdd]
  refine hK _ ?_; clear hK K
  refine AW.ret ?_
  simp -implicitDefEqProofs only [go_sem]
 have l1 : ((p.length : Int) > 120) = False := eq_false (by omega)
 have F := few_spec hf
 have L := F.lens
 have FU := few_spec hg
 have LU := FU.lens
 have pl := GP.lens
 have SC := law00_Schema S F
 have SU := law00_Schema U FU
 have MK := adapt_Make S U L LU a b
 have MR := ref15_Make S U L LU a b
 obtain ⟨xl, xs⟩ := makeR_lens S U a b
 generalize (makeR S U a b).1 = X at *
 generalize (makeR S U a b).2 = e at *
 have Q1 := law00_SameSteps X X (by omega) (fun x hx => by have := xs x hx; omega)
 rw [decide_eq_true rfl] at Q1
 have Q2 := law15_Copy p (by omega) (fun x hx => by have := pl x hx; omega)
 have Q3 := adapt_Check p
 have Q4 := ref15_Check p (fun x hx => by have := pl x hx; omega)
 have Q5 := adapt_Same p X (by omega) (fun x hx => by have := pl x hx; omega)
 have Q6 := law00_SameSteps p X (by omega) (fun x hx => by have := pl x hx; omega)
 generalize progB p = bp at *
 generalize decide (p = X) = bx at *
 simp only [encSc] at SC SU MK MR
 refine AW.rT (by rfl) fun K hK => ?_
 simp -implicitDefEqProofs only [go_sem, ↓reduceIte, Nat.reduceAdd, Nat.reduceEqDiff, Nat.reduceLeDiff, reduceCtorEq]
 refine ⟨.pure _, FW, ?_⟩
 try simp -implicitDefEqProofs only [go_sem, ↓reduceIte, Nat.reduceAdd, Nat.reduceEqDiff, Nat.reduceLeDiff]
 refine ⟨.pure _, FV, ?_⟩
 try simp -implicitDefEqProofs only [go_sem, ↓reduceIte, Nat.reduceAdd, Nat.reduceEqDiff, reduceCtorEq, l1, List.length_map]
 refine hK _ ?_; clear hK K
 refine AW.cond _ (by simp -implicitDefEqProofs only [go_sem]; rfl) (fun hc => ?_) (fun hc => ?_)
 ·simp at hc
 refine AW.skip ?_
 simp only [andThen]
 refine AW.dT mixed (by rfl) (by decide +kernel) fun K hK => ?_
 simp -implicitDefEqProofs only [go_sem, ↓reduceIte, Nat.reduceAdd, Nat.reduceEqDiff, Nat.reduceLeDiff, reduceCtorEq]
 refine ⟨.pure _, SC, ?_⟩
 try simp -implicitDefEqProofs only [go_sem, ↓reduceIte, Nat.reduceAdd, Nat.reduceEqDiff, Nat.reduceLeDiff]
 refine ⟨.pure _, SU, ?_⟩
 try simp -implicitDefEqProofs only [go_sem, ↓reduceIte, Nat.reduceAdd, Nat.reduceEqDiff, reduceCtorEq]
 refine ⟨.pure _, MK, ?_⟩
 try simp -implicitDefEqProofs only [go_sem, ↓reduceIte, Nat.reduceAdd, Nat.reduceEqDiff, Nat.reduceLeDiff]
 refine ⟨by decide +kernel, ?_⟩
 refine hK _ ?_; clear hK K
 refine AW.rT (by rfl) fun K hK => ?_
 simp -implicitDefEqProofs only [go_sem, ↓reduceIte, Nat.reduceAdd, Nat.reduceEqDiff, Nat.reduceLeDiff, reduceCtorEq]
 refine ⟨.pure _, MR, ?_⟩
 try simp -implicitDefEqProofs only [go_sem, ↓reduceIte, Nat.reduceAdd, Nat.reduceEqDiff]
 refine hK _ ?_; clear hK K
 refine AW.dT mixed (by rfl) (by decide +kernel) fun K hK => ?_
 simp -implicitDefEqProofs only [go_sem, ↓reduceIte, Nat.reduceAdd, Nat.reduceEqDiff]
 refine ⟨.pure _, Q1, ?_⟩
 try simp -implicitDefEqProofs only [go_sem, ↓reduceIte, Nat.reduceAdd, Nat.reduceEqDiff, reduceCtorEq, beq_self_eq_true]
 refine ⟨.pure _, Q2, ?_⟩
 try simp -implicitDefEqProofs only [go_sem, ↓reduceIte, Nat.reduceAdd, Nat.reduceEqDiff]
 refine ⟨.pure _, Q3, ?_⟩
 try simp -implicitDefEqProofs only [go_sem, ↓reduceIte, Nat.reduceAdd, Nat.reduceEqDiff, reduceCtorEq]
 refine ⟨.pure _, Q4, ?_⟩
 try simp -implicitDefEqProofs only [go_sem, ↓reduceIte, Nat.reduceAdd, Nat.reduceEqDiff]
 refine ⟨_, eqP_bool bp bp, ?_⟩
 try simp -implicitDefEqProofs only [go_sem, ↓reduceIte, Nat.reduceAdd, Nat.reduceEqDiff, reduceCtorEq, beq_self_eq_true]
 refine ⟨.pure _, Q2, ?_⟩
 try simp -implicitDefEqProofs only [go_sem, ↓reduceIte, Nat.reduceAdd, Nat.reduceEqDiff, Nat.reduceLeDiff]
 refine ⟨.pure _, Q5, ?_⟩
 try simp -implicitDefEqProofs only [go_sem, ↓reduceIte, Nat.reduceAdd, Nat.reduceEqDiff, reduceCtorEq]
 refine ⟨.pure _, Q6, ?_⟩
 try simp -implicitDefEqProofs only [go_sem, ↓reduceIte, Nat.reduceAdd, Nat.reduceEqDiff]
 refine ⟨_, eqP_bool bx bx, ?_⟩
 try simp -implicitDefEqProofs only [go_sem, ↓reduceIte, Nat.reduceAdd, Nat.reduceEqDiff, beq_self_eq_true]
 refine ⟨.pure _, law15_awake, ?_⟩
 try simp -implicitDefEqProofs only [go_sem, ↓reduceIte, Nat.reduceAdd, Nat.reduceEqDiff]
 refine ⟨by decide +kernel, ?_⟩
 refine hK _ ?_; clear hK K
 refine AW.ret ?_
 simp -implicitDefEqProofs only [go_sem]
end Go.Aw
