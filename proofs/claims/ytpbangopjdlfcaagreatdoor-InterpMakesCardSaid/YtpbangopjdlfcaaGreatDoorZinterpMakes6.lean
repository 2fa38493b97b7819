/- What the law LawInterpMakes leans on, joined (part 6). -/
import Derived.Test.YtpbangopjdlfcaaGreatDoorZinterpMakes5
set_option linter.unusedSimpArgs false
set_option linter.unusedVariables false
set_option maxRecDepth 100000
set_option maxHeartbeats 8000000
namespace Go.Aw
open Go.Proofs Go.RowKit
def mkM (S U : Sc) (l : List Pr) (ps : List (List Stp)) : List (Nat × Blk):=(0,.row 4 [cellsSc S]) :: (1,.row 4 [cellsSc U]) :: (2,.row 1 [[.ex []]]) :: memA S U l 3 4 5 ++ [(6,.row 1 [[.own 7]]),(7,.row 1 (liftE (ps.map encPt)))]
def mkT (m : List (Nat × AV)) : List (Nat × AV):=(4,.ptr 0 0 0) :: (5,.ptr 1 0 0) :: (8,.ptr 2 0 0) :: (14,.ptr 3 0 0) :: (15,.ptr 6 0 0) :: m
theorem memA_by {p : Nat → Bool} {S U : Sc} {l : List Pr} {r a b : Nat} (h1 : p a = true) (h2 : p b = true) : (memA S U l r a b).all (fun x=>x.2.labsBy p) = true:=by
 simp only [memA,rowA,List.all_cons,List.all_nil,labsBy_lift,mQ_by,Bool.and_true]
 simp [Blk.labsBy,labsByL,AV.labsBy,h1,h2]
def mk0 (S U : Sc) (l : List Pr) (m : List (Nat × AV)) : St:=⟨ofL ((4,.ptr 0 0 0) :: (5,.ptr 1 0 0) :: (8,.ptr 2 0 0) :: (14,.ptr 3 0 0) :: m),ofH ((0,.row 4 [cellsSc S]) :: (1,.row 4 [cellsSc U]) :: (2,.row 1 [[.ex []]]) :: memA S U l 3 4 5),6⟩
def mkS (S U : Sc) (l : List Pr) (ps : List (List Stp)) (m : List (Nat × AV)) : St:=⟨ofL (mkT m),ofH (mkM S U l ps),8⟩
def mkI (S U : Sc) (mo mn : Ms) (l : List Pr) (ps : List (List Stp)) (st : List Stp) (i : Nat) (m : List (Nat × AV)) : St:=⟨ofL (mkT ((16,.p (.int .i64 (i : Int))) :: (17,.ptr 8 0 0) :: (19,.ptr 9 0 0) :: (21,.own 10) :: m)),ofH (mkM S U l ps ++ [(8,.row 3 [cellsMs mo]),(9,.row 3 [cellsMs mn]),(10,.row 3 (liftE (st.map encSt)))]),11⟩
def mkJ (S U : Sc) (mo mn : Ms) (l : List Pr) (ps : List (List Stp)) (st : List Stp) (i n : Nat) (s : Stp) (b : Bool) : St:=⟨ofL (mkT [(16,.p (.int .i64 (i : Int))),(17,.ptr 8 0 0),(19,.ptr 9 0 0),(21,.own 10),(22,.p (.int .i64 (n : Int))),(23,.ptr 11 0 0),(24,.p (.bool b))]),ofH (mkM S U l ps ++ [(8,.row 3 [cellsMs mo]),(9,.row 3 [cellsMs mn]),(10,.row 3 (liftE (st.map encSt))),(11,.row 3 [[.p (.int .i64 s.op),.p (.int .i64 s.tag),.p (.int .i64 s.sub)]])]),12⟩
theorem adapt_Make (S U : Sc) (LS : LensS S) (LU : LensS U) (a b : List UInt8) : PFn Tryz.prog 9 [.agg (encSc S),.agg (encSc U),.str a,.str b] (.tuple [.agg [.slice ((makeR S U a b).1.map encPt)],.int .i64 (makeR S U a b).2]):=by
 refine PFn.of Tryz.func9 rfl (by decide) Tryz.ntmps9 Tryz.results9 (Nat.le_of_ble_eq_true rfl) ?_
 have C1:=check_Check S LS
 have C2:=check_Check U LU
 simp only [encSc] at C1 C2
 simp only [argsT,encSc]
 refine AW.rT (by rfl) fun K hK=>?_
 simp -implicitDefEqProofs only [go_sem,↓reduceIte,Nat.reduceAdd,Nat.reduceEqDiff]
 apply hK;clear hK K
 refine AW.seq ?_
 by_cases hS : checkC S = 0
 case neg =>
  have f1 : (checkC S != 0) = true:=by simp [hS]
  have e : makeR S U a b = ([],1):=by unfold makeR; rw [if_neg (fun h=>hS h.1)]
  refine AW.rT (by rfl) fun K hK=>?_
  simp -implicitDefEqProofs only [go_sem,↓reduceIte,Nat.reduceAdd,Nat.reduceEqDiff,Nat.reduceLeDiff,reduceCtorEq]
  refine ⟨.pure _,C1,?_⟩
  try simp -implicitDefEqProofs only [go_sem,↓reduceIte,Nat.reduceAdd,Nat.reduceEqDiff,f1]
  apply hK;clear hK K
  refine AW.cT rfl ?_
  refine AW.rT (by rfl) fun K hK=>?_
  simp -implicitDefEqProofs only [go_sem,↓reduceIte,Nat.reduceAdd,Nat.reduceEqDiff,Nat.reduceLeDiff]
  apply hK;clear hK K
  refine AW.ret ?_
  simp -implicitDefEqProofs only [go_sem,↓reduceIte,Nat.reduceEqDiff,Nat.reduceLeDiff,e,List.map_nil]
 have f1 : (checkC S != 0) = false:=by simp [hS]
 by_cases hU : checkC U = 0
 case neg =>
  have f2 : (checkC U != 0) = true:=by simp [hU]
  have e : makeR S U a b = ([],1):=by unfold makeR; rw [if_neg (fun h=>hU h.2)]
  refine AW.rT (by rfl) fun K hK=>?_
  simp -implicitDefEqProofs only [go_sem,↓reduceIte,Nat.reduceAdd,Nat.reduceEqDiff,Nat.reduceLeDiff,reduceCtorEq]
  refine ⟨.pure _,C1,?_⟩
  try simp -implicitDefEqProofs only [go_sem,↓reduceIte,Nat.reduceAdd,Nat.reduceEqDiff,Nat.reduceLeDiff,f1]
  refine ⟨.pure _,C2,?_⟩
  try simp -implicitDefEqProofs only [go_sem,↓reduceIte,Nat.reduceAdd,Nat.reduceEqDiff,f2]
  apply hK;clear hK K
  refine AW.cT rfl ?_
  refine AW.rT (by rfl) fun K hK=>?_
  simp -implicitDefEqProofs only [go_sem,↓reduceIte,Nat.reduceAdd,Nat.reduceEqDiff,Nat.reduceLeDiff]
  apply hK;clear hK K
  refine AW.ret ?_
  simp -implicitDefEqProofs only [go_sem,↓reduceIte,Nat.reduceEqDiff,Nat.reduceLeDiff,e,List.map_nil]
 have f2 : (checkC U != 0) = false:=by simp [hU]
 have RS:=right_of hS
 have RU:=right_of hU
 have FS:=check_fit.1 hS
 have FU:=check_fit.1 hU
 have M1:=check_Message S a (by have:=RS.len; omega)
 have M2:=check_Message U b (by have:=RU.len; omega)
 have e1 : firstP (fun x=>x.name == a) zMs S.msgs = (msgOf S a,hasM S a):=rfl
 have e2 : firstP (fun x=>x.name == b) zMs U.msgs = (msgOf U b,hasM U b):=rfl
 rw [e1] at M1
 rw [e2] at M2
 simp only [encSc,encMs] at M1 M2
 refine AW.rT (by rfl) fun K hK=>?_
 simp -implicitDefEqProofs only [go_sem,↓reduceIte,Nat.reduceAdd,Nat.reduceEqDiff,Nat.reduceLeDiff,reduceCtorEq]
 refine ⟨.pure _,C1,?_⟩
 try simp -implicitDefEqProofs only [go_sem,↓reduceIte,Nat.reduceAdd,Nat.reduceEqDiff,Nat.reduceLeDiff,f1]
 refine ⟨.pure _,C2,?_⟩
 try simp -implicitDefEqProofs only [go_sem,↓reduceIte,Nat.reduceAdd,Nat.reduceEqDiff,f2]
 apply hK;clear hK K
 refine AW.cF rfl ?_
 refine AW.skip ?_
 simp only [andThen]
 clear C1 C2
 refine AW.rT (by rfl) fun K hK=>?_
 simp -implicitDefEqProofs only [go_sem,↓reduceIte,Nat.reduceAdd,Nat.reduceEqDiff,Nat.reduceLeDiff,reduceCtorEq]
 refine ⟨.pure _,M1,?_⟩
 try simp -implicitDefEqProofs only [go_sem,↓reduceIte,Nat.reduceAdd,Nat.reduceEqDiff,Nat.reduceLeDiff]
 apply hK;clear hK K
 refine AW.rT (by rfl) fun K hK=>?_
 simp -implicitDefEqProofs only [go_sem,↓reduceIte,Nat.reduceAdd,Nat.reduceEqDiff,Nat.reduceLeDiff,reduceCtorEq]
 refine ⟨.pure _,M2,?_⟩
 try simp -implicitDefEqProofs only [go_sem,↓reduceIte,Nat.reduceAdd,Nat.reduceEqDiff,Nat.reduceLeDiff]
 apply hK;clear hK K
 refine AW.seq ?_
 cases ha : hasM S a with
 | false =>
  have e : makeR S U a b = ([],14):=by unfold makeR; rw [if_pos ⟨hS,hU⟩,if_neg (by rw [ha]; simp)]
  refine AW.rT (by rfl) fun K hK=>?_
  simp -implicitDefEqProofs only [go_sem,↓reduceIte,Nat.reduceAdd,Nat.reduceEqDiff]
  apply hK;clear hK K
  refine AW.cT rfl ?_
  refine AW.rT (by rfl) fun K hK=>?_
  simp -implicitDefEqProofs only [go_sem,↓reduceIte,Nat.reduceAdd,Nat.reduceEqDiff,Nat.reduceLeDiff]
  apply hK;clear hK K
  refine AW.ret ?_
  simp -implicitDefEqProofs only [go_sem,↓reduceIte,Nat.reduceEqDiff,Nat.reduceLeDiff,e,List.map_nil]
 | true =>
 cases hb : hasM U b with
 | false =>
  have e : makeR S U a b = ([],14):=by unfold makeR; rw [if_pos ⟨hS,hU⟩,if_neg (by rw [hb]; simp)]
  refine AW.rT (by rfl) fun K hK=>?_
  simp -implicitDefEqProofs only [go_sem,↓reduceIte,Nat.reduceAdd,Nat.reduceEqDiff]
  apply hK;clear hK K
  refine AW.cT rfl ?_
  refine AW.rT (by rfl) fun K hK=>?_
  simp -implicitDefEqProofs only [go_sem,↓reduceIte,Nat.reduceAdd,Nat.reduceEqDiff,Nat.reduceLeDiff]
  apply hK;clear hK K
  refine AW.ret ?_
  simp -implicitDefEqProofs only [go_sem,↓reduceIte,Nat.reduceEqDiff,Nat.reduceLeDiff,e,List.map_nil]
 | true =>
 have e : makeR S U a b = (makeP S U 101 0 [⟨a,b⟩],0):=by unfold makeR; rw [if_pos ⟨hS,hU⟩,if_pos ⟨ha,hb⟩]
 refine AW.rT (by rfl) fun K hK=>?_
 simp -implicitDefEqProofs only [go_sem,↓reduceIte,Nat.reduceAdd,Nat.reduceEqDiff]
 apply hK;clear hK K
 refine AW.cF rfl ?_
 refine AW.skip ?_
 simp only [andThen]
 refine AW.rT (by rfl) fun K hK=>?_
 simp -implicitDefEqProofs only [go_sem,↓reduceIte,Nat.reduceAdd,Nat.reduceEqDiff,Nat.reduceLeDiff,reduceCtorEq]
 apply hK;clear hK K
 have AP:=adapt_part S U [] ⟨a,b⟩ (by simp)
 have eP : addP [] ⟨a,b⟩ = [⟨a,b⟩]:=rfl
 rw [eP] at AP
 simp only [encPr] at AP
 refine AW.ghost (s':=mk0 S U [] [(2,.p (.str a)),(3,.p (.str b))]) (Ghost.trans (Ghost.nilH (l:=40) (i:=0) (j:=8) (sz':=2) rfl rfl rfl) ?_) ?_
 ·simp only [mk0,memA,rowA,cellsSc,List.map_nil,liftE_nil]
  refine Ghost.ent (fun l=>if l = 3 then 40 else if l = 4 then 42 else if l = 5 then 38 else l) ?_ ?_ ?_ <;> simp -implicitDefEqProofs only [go_sem,↓reduceIte,Nat.reduceEqDiff,reduceCtorEq,mQ,List.zipIdx_nil,List.forall_mem_cons,List.not_mem_nil,false_implies,implies_true,and_self,List.all_cons,List.all_nil,Nat.reduceLT,labsInL,AV.labsIn]
  all_goals first | rfl | decide | skip
 simp only [mk0,memA,rowA,cellsSc]
 refine AW.rR (SeqR.ev 4 (by rfl) (by decide) ?_)
 simp -implicitDefEqProofs only [go_sem,↓reduceIte,Nat.reduceAdd,Nat.reduceEqDiff,Nat.reduceLeDiff]
 refine SeqR.call (fun k=>k + 3) rfl rfl AP ⟨?_,rfl,?_,rfl,rfl,rfl,rfl,rfl,memA_by (r:=0) rfl rfl⟩ ?_
 ·simp -implicitDefEqProofs only [go_sem,↓reduceIte,Nat.reduceEqDiff,argD]
 ·simp only [memA,rowA]
  simp -implicitDefEqProofs only [go_sem,↓reduceIte,Nat.reduceAdd,Nat.reduceEqDiff,reduceCtorEq,List.forall_mem_cons,List.not_mem_nil,false_implies,implies_true]
  first | done | decide
 refine SeqR.last rfl ?_
 refine AW.ghost (s':=mk0 S U [⟨a,b⟩] []) ?_ ?_
 ·simp only [mk0,memA,rowA,cellsSc]
  refine Ghost.ent (fun l=>if l = 4 then 10 else if l = 5 then 11 else l) ?_ ?_ ?_ <;> simp -implicitDefEqProofs only [go_sem,↓reduceIte,Nat.reduceAdd,Nat.reduceEqDiff,reduceCtorEq,lift2,goneU,newU,Nat.reduceSub,List.forall_mem_cons,List.not_mem_nil,false_implies,implies_true,and_self,map_renL_lift,labsIn_lift,List.all_cons,List.all_nil,Nat.reduceLT,labsInL,AV.labsIn]
  all_goals first | rfl | decide | skip
 simp only [mk0,memA,rowA,cellsSc]
 refine AW.rT (by rfl) fun K hK=>?_
 simp -implicitDefEqProofs only [go_sem,Nat.reduceAdd]
 apply hK;clear hK K
 refine AW.ghost (s':=mkS S U [⟨a,b⟩] [] []) (Ghost.trans (Ghost.nilH (l:=6) (i:=0) (j:=0) (sz':=1) rfl rfl rfl) ?_) ?_
 ·simp only [mkS,mkT,mkM,memA,rowA,cellsSc,List.map_nil,liftE_nil,List.cons_append,List.nil_append]
  refine Ghost.sub ?_ ?_ <;> simp -implicitDefEqProofs only [go_sem,↓reduceIte,Nat.reduceEqDiff,reduceCtorEq,mQ_labs,List.forall_mem_cons,List.not_mem_nil,false_implies,implies_true,and_self,labsIn_lift,List.all_cons,List.all_nil,Nat.reduceLT,labsInL,AV.labsIn]
  all_goals first | rfl | decide | skip
 have ok0 : PairsOK S U [⟨a,b⟩]:=⟨fun p hp=>by simp at hp; subst hp; exact ⟨ha,hb⟩,by simp⟩
 refine AW.cut (fun x : List Pr × List (List Stp)=>mkS S U x.1 x.2 []) (fun x=>x.2 = makeP S U 101 0 [⟨a,b⟩]) ?_ fun x hx=>?_
 rotate_left
 ·obtain ⟨l,ps⟩:=x
  simp only at hx
  refine AW.ghost (s':=⟨ofL [(8,.ptr 2 0 0),(15,.ptr 6 0 0)],ofH [(2,.row 1 [[.ex []]]),(6,.row 1 [[.p (.slice (ps.map encPt))]])],8⟩) (Ghost.trans (Ghost.freeze (lb:=7) (sz:=1) (ps:=ps.map encPt) rfl (unlift_liftE _)) (Ghost.sub ?_ ?_)) ?_
  ·simp only [mkS,mkT]
   simp -implicitDefEqProofs only [go_sem,↓reduceIte,Nat.reduceEqDiff,List.forall_mem_cons,List.not_mem_nil,false_implies,implies_true,thaw,Option.map_some]
   first | done | decide | exact ⟨⟨rfl,rfl⟩,rfl,rfl⟩
  ·simp only [mkS,mkM,memA,rowA,cellsSc,List.cons_append,List.nil_append]
   simp -implicitDefEqProofs only [go_sem,↓reduceIte,Nat.reduceEqDiff,reduceCtorEq,List.forall_mem_cons,List.not_mem_nil,false_implies,implies_true,thaw1,Option.map_some,List.map_cons,List.map_nil]
   first | done | decide
  refine AW.rT (by rfl) fun K hK=>?_
  simp -implicitDefEqProofs only [go_sem,↓reduceIte,Nat.reduceAdd,Nat.reduceEqDiff,Nat.reduceLeDiff]
  apply hK;clear hK K
  rw [hx]
  refine AW.ret ?_
  simp -implicitDefEqProofs only [go_sem,↓reduceIte,Nat.reduceEqDiff,Nat.reduceLeDiff,e]
 simp only [mkS,mkT,mkM,memA,rowA,cellsSc,List.cons_append,List.nil_append]
 refine AW.rT (by rfl) fun K hK=>?_
 simp -implicitDefEqProofs only [go_sem,Nat.reduceAdd]
 apply hK;clear hK K
 refine AW.block ?_
 have y1 : [] ++ makeP S U (101 - 0) 0 [⟨a,b⟩] = makeP S U 101 0 [⟨a,b⟩]:=by rw [Nat.sub_zero,List.nil_append]
 refine AW.loop (fun x : List Pr × List (List Stp) × Nat=>mkS S U x.1 x.2.1 [(16,.p (.int .i64 (x.2.2 : Int)))]) (fun x=>x.2.2 ≤ x.1.length ∧ x.2.1.length = x.2.2 ∧ x.2.1 ++ makeP S U (101 - x.2.2) x.2.2 x.1 = makeP S U 101 0 [⟨a,b⟩] ∧ PairsOK S U x.1) (fun x=>101 - x.2.2) ([⟨a,b⟩],[],0) ?_ ⟨Nat.zero_le _,rfl,y1,ok0⟩ fun x hx=>?_
 ·simp only [mkS,mkT,mkM,memA,rowA,cellsSc,List.cons_append,List.nil_append]
  refine Ghost.sub ?_ ?_ <;> simp -implicitDefEqProofs only [go_sem,↓reduceIte,Nat.reduceEqDiff,reduceCtorEq,List.forall_mem_cons,List.not_mem_nil,false_implies,implies_true,and_self,labsIn_lift,List.all_cons,List.all_nil,Nat.reduceLT,labsInL,AV.labsIn]
  all_goals first | rfl | decide | skip
 clear M1 M2 e1 e2 AP ok0
 obtain ⟨l,ps,i⟩:=x
 obtain ⟨i1,i2,eE,okl⟩:=hx
 simp only at i1 i2 eE okl
 have hl100:=pairs_len okl RS.len.2.1 RU.len.2.1
 simp only [mkS,mkT,mkM,memA,rowA,cellsSc,List.cons_append,List.nil_append]
 refine AW.seq ?_
 by_cases hil : i < l.length
 case neg =>
  have hc1 : ((i : Int) < (l.length : Int)) = False:=eq_false (by omega)
  have eN : makeP S U (101 - i) i l = []:=by
   rw [show 101 - i = (100 - i) + 1 by omega,makeP,List.getElem?_eq_none (by omega)]
  rw [eN,List.append_nil] at eE
  refine AW.rT (by rfl) fun K hK=>?_
  simp -implicitDefEqProofs only [go_sem,↓reduceIte,Nat.reduceAdd,Nat.reduceEqDiff,reduceCtorEq,hc1,liftE_length,List.length_map]
  apply hK;clear hK K
  refine AW.cF rfl ?_
  refine AW.exit ?_
  simp only [andThen,inBlk,↓reduceIte]
  refine ⟨(l,ps),eE,?_⟩
  show Ghost _ _ (mkS S U l ps [])
  simp only [mkS,mkT,mkM,memA,rowA,cellsSc,List.cons_append,List.nil_append]
  refine Ghost.sub ?_ ?_ <;> simp -implicitDefEqProofs only [go_sem,↓reduceIte,Nat.reduceEqDiff,reduceCtorEq,List.forall_mem_cons,List.not_mem_nil,false_implies,implies_true,and_self,labsIn_lift,List.all_cons,List.all_nil,Nat.reduceLT,labsInL,AV.labsIn]
  all_goals first | rfl | decide | skip
 obtain ⟨p,hp⟩ : ∃ p,l[i]? = some p:=⟨_,List.getElem?_eq_getElem hil⟩
 have g1:=at_lift encPr hp
 have b0 : 0 ≤ (i : Int):=by omega
 have b1 : (i : Int) < (l.length : Int):=by omega
 have hc1 : ((i : Int) < (l.length : Int)) = True:=eq_true (by omega)
 have w1 : IntKind.wrap .i64 ((i : Int) + 1) = ((i + 1 : Nat) : Int):=by rw [w64] <;> omega
 have hh:=okl.here p (List.mem_of_getElem? hp)
 have hmo:=(msgOf_mem hh.1).1
 have hmn:=(msgOf_mem hh.2).1
 have M1:=check_Message S p.o (by have:=RS.len; omega)
 have M2:=check_Message U p.n (by have:=RU.len; omega)
 have e1 : firstP (fun x=>x.name == p.o) zMs S.msgs = (msgOf S p.o,true):=by rw [← hh.1]; rfl
 have e2 : firstP (fun x=>x.name == p.n) zMs U.msgs = (msgOf U p.n,true):=by rw [← hh.2]; rfl
 rw [e1] at M1
 rw [e2] at M2
 simp only [encSc,encMs] at M1 M2
 simp only [encPr,List.map_cons,List.map_nil] at g1
 have eN : makeP S U (101 - i) i l = (stepsP (msgOf S p.o) (msgOf U p.n) 500 1 l).1 :: makeP S U (100 - i) (i + 1) (stepsP (msgOf S p.o) (msgOf U p.n) 500 1 l).2:=by
  rw [show 101 - i = (100 - i) + 1 by omega,makeP,hp]
 rw [eN] at eE
 generalize hmo' : msgOf S p.o = mo at *
 generalize hmn' : msgOf U p.n = mn at *
 refine AW.rT (by rfl) fun K hK=>?_
 simp -implicitDefEqProofs only [go_sem,↓reduceIte,Nat.reduceAdd,Nat.reduceEqDiff,reduceCtorEq,hc1,liftE_length,List.length_map]
 apply hK;clear hK K
 refine AW.cT rfl ?_
 refine AW.skip ?_
 simp only [andThen]
 refine AW.seq ?_
 refine AW.block ?_
 refine AW.dT mixed (by rfl) (by decide +kernel) fun K hK=>?_
 simp -implicitDefEqProofs only [go_sem,↓reduceIte,Nat.reduceAdd,Nat.reduceEqDiff,Nat.reduceLeDiff,reduceCtorEq,g1,b0,b1,liftE_length,List.length_map]
 refine ⟨.pure _,M1,?_⟩
 try simp -implicitDefEqProofs only [go_sem,↓reduceIte,Nat.reduceAdd,Nat.reduceEqDiff,Nat.reduceLeDiff]
 refine ⟨by decide +kernel,?_⟩
 apply hK;clear hK K
 refine AW.dT mixed (by rfl) (by decide +kernel) fun K hK=>?_
 simp -implicitDefEqProofs only [go_sem,↓reduceIte,Nat.reduceAdd,Nat.reduceEqDiff,Nat.reduceLeDiff,reduceCtorEq,g1,b0,b1,liftE_length,List.length_map]
 refine ⟨.pure _,M2,?_⟩
 try simp -implicitDefEqProofs only [go_sem,↓reduceIte,Nat.reduceAdd,Nat.reduceEqDiff,Nat.reduceLeDiff]
 refine ⟨by decide +kernel,?_⟩
 apply hK;clear hK K
 refine AW.rT (by rfl) fun K hK=>?_
 simp -implicitDefEqProofs only [go_sem,Nat.reduceAdd]
 apply hK;clear hK K
 refine AW.ghost (s':=mkI S U mo mn l ps [] i []) (Ghost.trans (Ghost.nil (t:=21) (sz:=3) rfl) ?_) ?_
 ·simp only [mkI,mkT,mkM,memA,rowA,cellsSc,cellsMs,List.map_nil,liftE_nil,List.cons_append,List.nil_append]
  refine Ghost.ent (fun l=>if l = 8 then 28 else if l = 9 then 44 else if l = 10 then 48 else l) ?_ ?_ ?_ <;> simp -implicitDefEqProofs only [go_sem,↓reduceIte,Nat.reduceEqDiff,reduceCtorEq,List.forall_mem_cons,List.not_mem_nil,false_implies,implies_true,and_self,map_renL_lift,labsIn_lift,List.all_cons,List.all_nil,Nat.reduceLT,labsInL,AV.labsIn]
  all_goals first | rfl | decide | skip
 have SP : ∃ sp,sp = stepsP mo mn 500 1 l:=⟨_,rfl⟩
 obtain ⟨sp,hsp⟩:=SP
 rw [← hsp] at eE
 have okm : mo ∈ S.msgs ∧ mn ∈ U.msgs:=⟨hmo,hmn⟩
 refine AW.cut (fun x : List Pr × List Stp=>mkI S U mo mn x.1 ps x.2 i []) (fun x=>x.1 = sp.2 ∧ x.2 = sp.1 ∧ PairsOK S U x.1 ∧ i < x.1.length ∧ x.2.length ≤ 500) ?_ fun x hx=>?_
 rotate_left
 ·obtain ⟨l',st⟩:=x
  obtain ⟨h1,h2,okl',hil',hst⟩:=hx
  simp only at h1 h2 okl' hil' hst
  refine AW.ghost (s':=⟨ofL (mkT [(16,.p (.int .i64 (i : Int))),(21,.p (.slice (st.map encSt)))]),ofH (mkM S U l' ps),8⟩) ?_ ?_
  ·refine Ghost.trans (Ghost.freeze (lb:=10) (sz:=3) (ps:=st.map encSt) ?_ (unlift_liftE _)) ?_
   ·simp only [mkI,mkM,memA,rowA,cellsSc,List.cons_append,List.nil_append]
    simp -implicitDefEqProofs only [go_sem,↓reduceIte,Nat.reduceEqDiff,reduceCtorEq]
   ·simp only [mkI,mkT,mkM,memA,rowA,cellsSc,cellsMs,List.cons_append,List.nil_append]
    refine Ghost.sub ?_ ?_ <;> simp -implicitDefEqProofs only [go_sem,↓reduceIte,Nat.reduceEqDiff,reduceCtorEq,thaw,thaw1,Option.map_some,List.map_cons,List.map_nil,thaw_lift,mQ_labs,List.forall_mem_cons,List.not_mem_nil,false_implies,implies_true,and_self,labsIn_lift,List.all_cons,List.all_nil,Nat.reduceLT,labsInL,AV.labsIn]
    all_goals first | rfl | decide | skip
  simp only [mkT,mkM,memA,rowA,cellsSc,List.cons_append,List.nil_append]
  have hl1:=pairs_len okl' RS.len.2.1 RU.len.2.1
  have cn0 : 101 - (i + 1) = 100 - i:=by omega
  have m1 : 101 - (i + 1) < 101 - i:=by omega
  refine AW.rE (by rfl) fun K hK=>?_
  simp -implicitDefEqProofs only [go_sem,↓reduceIte,Nat.reduceAdd,Nat.reduceMul,Nat.reduceEqDiff,Nat.reduceLeDiff,reduceCtorEq]
  refine ⟨⟨by simp,by simp [oneAll,AV.one,PV.one],by simp⟩,by rw [liftE_length,List.length_map]; omega,?_⟩
  try simp -implicitDefEqProofs only [go_sem,↓reduceIte,Nat.reduceAdd,Nat.reduceMul,Nat.reduceEqDiff,Nat.reduceLeDiff,reduceCtorEq,Int.reduceToNat]
  apply hK;clear hK K
  simp only [andThen,inBlk]
  refine AW.rE (by rfl) fun K hK=>?_
  simp -implicitDefEqProofs only [go_sem,↓reduceIte,Nat.reduceAdd,Nat.reduceEqDiff,w1]
  apply hK;clear hK K
  refine ⟨(l',ps ++ [st],i + 1),⟨hil',by simp only [List.length_append,List.length_cons,List.length_nil]; omega,?_,okl'⟩,m1,?_⟩
  ·simp only [List.append_assoc,List.cons_append,List.nil_append]
   rw [cn0,h1,h2]
   exact eE
  ·show Ghost _ _ (mkS S U l' (ps ++ [st]) [(16,.p (.int .i64 ((i + 1 : Nat) : Int)))])
   simp only [mkS,mkT,mkM,memA,rowA,cellsSc,List.cons_append,List.nil_append]
   refine Ghost.ent (fun l=>if l = 7 then 12 else l) ?_ ?_ ?_ <;> simp -implicitDefEqProofs only [go_sem,↓reduceIte,Nat.reduceEqDiff,reduceCtorEq,encPt,List.map_append,liftE_append,List.map_cons,List.map_nil,liftE_cons,liftE_nil,List.forall_mem_cons,List.not_mem_nil,false_implies,implies_true,and_self,map_renL_lift,labsIn_lift,List.all_append,List.all_cons,List.all_nil,List.map_append,Nat.reduceLT,labsInL,AV.labsIn]
   all_goals first | rfl | decide | skip
 simp only [mkI,mkT,mkM,memA,rowA,cellsSc,cellsMs,List.cons_append,List.nil_append]
 refine AW.rT (by rfl) fun K hK=>?_
 simp -implicitDefEqProofs only [go_sem,Nat.reduceAdd]
 apply hK;clear hK K
 refine AW.block ?_
 have z0 : (501 - 1 : Nat) = 500:=rfl
 have z00 : ((1 : Nat) : Int) = 1:=rfl
 have z1 : [] ++ (stepsP mo mn (501 - 1) ((1 : Nat) : Int) l).1 = sp.1:=by rw [z0,z00,List.nil_append,hsp]
 have z2 : (stepsP mo mn (501 - 1) ((1 : Nat) : Int) l).2 = sp.2:=by rw [z0,z00,hsp]
 refine AW.loop (fun x : List Pr × List Stp × Nat=>mkI S U mo mn x.1 ps x.2.1 i [(22,.p (.int .i64 (x.2.2 : Int)))]) (fun x=>x.2.2 ≤ 501 ∧ 1 ≤ x.2.2 ∧ i < x.1.length ∧ x.2.1 ++ (stepsP mo mn (501 - x.2.2) (x.2.2 : Int) x.1).1 = sp.1 ∧ (stepsP mo mn (501 - x.2.2) (x.2.2 : Int) x.1).2 = sp.2 ∧ PairsOK S U x.1 ∧ x.2.1.length < x.2.2) (fun x=>501 - x.2.2) (l,[],1) ?_ ⟨Nat.le_of_ble_eq_true rfl,Nat.le_refl _,hil,z1,z2,okl,Nat.lt_succ_self _⟩ fun x hx=>?_
 ·simp only [mkI,mkT,mkM,memA,rowA,cellsSc,cellsMs,List.cons_append,List.nil_append]
  refine Ghost.sub ?_ ?_ <;> simp -implicitDefEqProofs only [go_sem,↓reduceIte,Nat.reduceEqDiff,reduceCtorEq,Int.cast_ofNat_Int,List.map_nil,liftE_nil,List.forall_mem_cons,List.not_mem_nil,false_implies,implies_true,and_self,labsIn_lift,List.all_cons,List.all_nil,Nat.reduceLT,labsInL,AV.labsIn]
  all_goals first | rfl | decide | skip
 clear okl hl100 g1 hc1 hil hp i1 M1 M2 hsp b0 b1
 obtain ⟨l,st,n⟩:=x
 obtain ⟨n1,n2,hil,q1,q2,okl,q3⟩:=hx
 simp only at n1 n2 hil q1 q2 okl q3
 have hl100:=pairs_len okl RS.len.2.1 RU.len.2.1
 simp only [mkI,mkT,mkM,memA,rowA,cellsSc,cellsMs,List.cons_append,List.nil_append]
 refine AW.seq ?_
 by_cases hn : n ≤ 500
 case neg =>
  have hc1 : ((n : Int) ≤ 500) = False:=eq_false (by omega)
  rw [show 501 - n = 0 by omega] at q1 q2
  refine AW.rT (by rfl) fun K hK=>?_
  simp -implicitDefEqProofs only [go_sem,↓reduceIte,Nat.reduceAdd,Nat.reduceEqDiff,hc1]
  apply hK;clear hK K
  refine AW.cF rfl ?_
  refine AW.exit ?_
  simp only [andThen,inBlk,↓reduceIte]
  refine ⟨(l,st),⟨q2,by rw [← q1]; exact (List.append_nil _).symm,okl,hil,by simp only; omega⟩,?_⟩
  show Ghost _ _ (mkI S U mo mn l ps st i [])
  simp only [mkI,mkT,mkM,memA,rowA,cellsSc,cellsMs,List.cons_append,List.nil_append]
  refine Ghost.sub ?_ ?_ <;> simp -implicitDefEqProofs only [go_sem,↓reduceIte,Nat.reduceEqDiff,reduceCtorEq,List.forall_mem_cons,List.not_mem_nil,false_implies,implies_true,and_self,labsIn_lift,List.all_cons,List.all_nil,Nat.reduceLT,labsInL,AV.labsIn]
  all_goals first | rfl | decide | skip
 have hc1 : ((n : Int) ≤ 500) = True:=eq_true (by omega)
 have w2 : IntKind.wrap .i64 ((n : Int) + 1) = ((n + 1 : Nat) : Int):=by rw [w64] <;> omega
 have no1:=(fit_msgs FS hmo).no
 have no2:=(fit_msgs FU hmn).no
 have ST:=adapt_tag S U mo mn (n : Int) l (by omega) (by omega) (by omega)
 rw [show 501 - n = (500 - n) + 1 by omega,stepsP] at q1 q2
 simp only at q1 q2
 refine AW.rT (by rfl) fun K hK=>?_
 simp -implicitDefEqProofs only [go_sem,↓reduceIte,Nat.reduceAdd,Nat.reduceEqDiff,hc1]
 apply hK;clear hK K
 refine AW.cT rfl ?_
 refine AW.skip ?_
 simp only [andThen]
 refine AW.seq ?_
 refine AW.block ?_
 refine AW.rR (SeqR.ev 4 (by rfl) (by decide) ?_)
 simp -implicitDefEqProofs only [go_sem,↓reduceIte,Nat.reduceAdd,Nat.reduceEqDiff,Nat.reduceLeDiff,reduceCtorEq]
 refine SeqR.call (fun k=>k + 3) rfl rfl ST ⟨?_,rfl,?_,rfl,rfl,rfl,rfl,rfl,memA_by (r:=0) rfl rfl⟩ ?_
 ·simp -implicitDefEqProofs only [go_sem,↓reduceIte,Nat.reduceEqDiff,argD,encMs]
 ·simp only [memA,rowA]
  simp -implicitDefEqProofs only [go_sem,↓reduceIte,Nat.reduceAdd,Nat.reduceEqDiff,reduceCtorEq,List.forall_mem_cons,List.not_mem_nil,false_implies,implies_true]
  first | done | decide
 refine SeqR.ev 6 (by rfl) (by decide) ?_
 simp -implicitDefEqProofs only [go_sem,↓reduceIte,Nat.reduceAdd,Nat.reduceEqDiff,Nat.reduceLeDiff,encSt,List.map_cons,List.map_nil]
 refine SeqR.last rfl ?_
 refine AW.ghost (s':=mkJ S U mo mn (stepLs mo mn (n : Int) l) ps st i n (stepA mo mn (n : Int) l).1 (stepA mo mn (n : Int) l).2) ?_ ?_
 ·simp only [mkJ,mkT,mkM,memA,rowA,cellsSc,cellsMs,List.cons_append,List.nil_append]
  refine Ghost.ent (fun l=>if l = 4 then 17 else if l = 5 then 18 else if l = 11 then 22 else l) ?_ ?_ ?_ <;> simp -implicitDefEqProofs only [go_sem,↓reduceIte,Nat.reduceAdd,Nat.reduceEqDiff,reduceCtorEq,lift2,goneU,newU,Nat.reduceSub,List.forall_mem_cons,List.not_mem_nil,false_implies,implies_true,and_self,map_renL_lift,labsIn_lift,List.all_cons,List.all_nil,Nat.reduceLT,labsInL,AV.labsIn]
  all_goals first | rfl | decide | skip
 have okl':=stepLs_ok RS RU hmo hmn (t:=(n : Int)) okl
 have hil' : i < (stepLs mo mn (n : Int) l).length:=by
  have:=List.getElem?_eq_getElem hil
  exact (List.getElem?_eq_some_iff.1 (pref_stepLs mo mn (n : Int) l i _ this)).1
 obtain ⟨l',hl'⟩ : ∃ l',l' = stepLs mo mn (n : Int) l:=⟨_,rfl⟩
 rw [← hl'] at okl' hil' q1 q2 ⊢
 simp only [mkJ,mkT,mkM,memA,rowA,cellsSc,cellsMs,List.cons_append,List.nil_append]
 have cs : ((n + 1 : Nat) : Int) = (n : Int) + 1:=by omega
 have cn : 501 - (n + 1) = 500 - n:=by omega
 have k1 : n + 1 ≤ 501:=by omega
 have k2 : 501 - (n + 1) < 501 - n:=by omega
 obtain ⟨so,ho⟩ : ∃ so,so = stepO mo mn (n : Int) l:=⟨_,rfl⟩
 rw [← ho] at q1
 by_cases hso : so = none
 ·rw [hso] at q1 ho
  simp only [Option.toList_none,List.nil_append] at q1
  have eA : (stepA mo mn (n : Int) l).2 = false:=by unfold stepA; rw [← ho]; rfl
  refine AW.rT (by rfl) fun K hK=>?_
  simp -implicitDefEqProofs only [go_sem,↓reduceIte,Nat.reduceAdd,Nat.reduceEqDiff,eA]
  apply hK;clear hK K
  refine AW.cF rfl ?_
  refine AW.skip ?_
  simp only [andThen,inBlk]
  refine AW.rE (by rfl) fun K hK=>?_
  simp -implicitDefEqProofs only [go_sem,↓reduceIte,Nat.reduceAdd,Nat.reduceEqDiff,w2]
  apply hK;clear hK K
  refine ⟨(l',st,n + 1),⟨k1,Nat.le_add_left 1 n,hil',?_,?_,okl',Nat.lt_succ_of_lt q3⟩,k2,?_⟩
  ·simp only
   rw [cn,cs]
   exact q1
  ·simp only
   rw [cn,cs]
   exact q2
  ·show Ghost _ _ (mkI S U mo mn l' ps st i [(22,.p (.int .i64 ((n + 1 : Nat) : Int)))])
   simp only [mkI,mkT,mkM,memA,rowA,cellsSc,cellsMs,List.cons_append,List.nil_append]
   refine Ghost.sub ?_ ?_ <;> simp -implicitDefEqProofs only [go_sem,↓reduceIte,Nat.reduceEqDiff,reduceCtorEq,List.forall_mem_cons,List.not_mem_nil,false_implies,implies_true,and_self,labsIn_lift,List.all_cons,List.all_nil,Nat.reduceLT,labsInL,AV.labsIn]
   all_goals first | rfl | decide | skip
 ·obtain ⟨s,hs⟩:=Option.ne_none_iff_exists'.1 hso
  rw [hs] at q1 ho
  simp only [Option.toList_some,List.cons_append,List.nil_append] at q1
  have eA : stepA mo mn (n : Int) l = (s,true):=by unfold stepA; rw [← ho]; rfl
  rw [eA]
  refine AW.rT (by rfl) fun K hK=>?_
  simp -implicitDefEqProofs only [go_sem,↓reduceIte,Nat.reduceAdd,Nat.reduceEqDiff]
  apply hK;clear hK K
  refine AW.cT rfl ?_
  refine AW.rE (by rfl) fun K hK=>?_
  simp -implicitDefEqProofs only [go_sem,↓reduceIte,Nat.reduceAdd,Nat.reduceMul,Nat.reduceEqDiff,Nat.reduceLeDiff,reduceCtorEq]
  refine ⟨⟨by simp,by simp [oneAll,AV.one,PV.one],by simp⟩,by rw [liftE_length,List.length_map]; omega,?_⟩
  try simp -implicitDefEqProofs only [go_sem,↓reduceIte,Nat.reduceAdd,Nat.reduceMul,Nat.reduceEqDiff,Nat.reduceLeDiff,reduceCtorEq,Int.reduceToNat]
  apply hK;clear hK K
  simp only [andThen,inBlk]
  refine AW.rE (by rfl) fun K hK=>?_
  simp -implicitDefEqProofs only [go_sem,↓reduceIte,Nat.reduceAdd,Nat.reduceEqDiff,w2]
  apply hK;clear hK K
  refine ⟨(l',st ++ [s],n + 1),⟨k1,Nat.le_add_left 1 n,hil',?_,?_,okl',by simp only [List.length_append,List.length_cons,List.length_nil]; omega⟩,k2,?_⟩
  ·simp only [List.append_assoc,List.cons_append,List.nil_append]
   rw [cn,cs]
   exact q1
  ·simp only
   rw [cn,cs]
   exact q2
  ·show Ghost _ _ (mkI S U mo mn l' ps (st ++ [s]) i [(22,.p (.int .i64 ((n + 1 : Nat) : Int)))])
   simp only [mkI,mkT,mkM,memA,rowA,cellsSc,cellsMs,List.cons_append,List.nil_append]
   refine Ghost.ent (fun l=>if l = 10 then 16 else l) ?_ ?_ ?_ <;> simp -implicitDefEqProofs only [go_sem,↓reduceIte,Nat.reduceEqDiff,reduceCtorEq,encSt,List.map_append,liftE_append,List.map_cons,List.map_nil,liftE_cons,liftE_nil,List.forall_mem_cons,List.not_mem_nil,false_implies,implies_true,and_self,map_renL_lift,labsIn_lift,List.all_append,List.all_cons,List.all_nil,List.map_append,Nat.reduceLT,labsInL,AV.labsIn]
   all_goals first | rfl | decide | skip
end Go.Aw
namespace Go.Aw
open Go.Proofs Go.RowKit
def rp1 (S : Sc) (i : Nat) : St:=⟨ofL [(1,.ptr 0 0 0),(3,.own 1),(4,.p (.int .i64 (i : Int)))],ofH [(0,.row 4 [cellsSc S]),(1,.row 1 (liftE (((S.msgs.take i).map Ms.name).map encS)))],2⟩
def rp2 (S : Sc) (i : Nat) : St:=⟨ofL [(1,.ptr 0 0 0),(3,.own 1),(6,.p (.int .i64 (i : Int)))],ofH [(0,.row 4 [cellsSc S]),(1,.row 1 (liftE ((S.msgs.map Ms.name ++ (S.enums.take i).map En.name).map encS)))],2⟩
def rp3 (S : Sc) (i : Nat) : St:=⟨ofL [(1,.ptr 0 0 0),(4,.own 1),(5,.p (.int .i64 (i : Int)))],ofH [(0,.row 4 [cellsSc S]),(1,.row 1 (liftE (((S.meths.take i).map Mt.name).map encS)))],2⟩
theorem ref07_parts (S : Sc) (L : LensS S) : PFn Tryz.prog 18 [.agg (encSc S)] (.int .i64 (partsC S)):=by
 refine PFn.of Tryz.func18 rfl (by decide) Tryz.ntmps18 Tryz.results18 (Nat.le_of_ble_eq_true rfl) ?_
 simp only [argsT,encSc]
 have Lm:=L.m
 have Le:=L.e
 refine AW.rT (by rfl) fun K hK=>?_
 simp -implicitDefEqProofs only [go_sem,Nat.reduceAdd]
 apply hK;clear hK K
 refine AW.rT (by rfl) fun K hK=>?_
 simp -implicitDefEqProofs only [go_sem,Nat.reduceAdd]
 apply hK;clear hK K
 refine AW.seq ?_
 refine AW.rT (by rfl) fun K hK=>?_
 simp -implicitDefEqProofs only [go_sem,Nat.reduceAdd]
 apply hK;clear hK K
 refine AW.block ?_
 refine AW.loop (rp1 S) (fun i=>i ≤ S.msgs.length ∧ partsC S = msgsC S (fun ns=>enumsC ns S.enums) ((S.msgs.take i).map Ms.name) (S.msgs.drop i)) (fun i=>S.msgs.length - i) 0 ?_ ⟨by omega,by simp [partsC]⟩ fun i hi=>?_
 ·refine Ghost.trans (Ghost.nil (t:=3) (sz:=1) rfl) ?_
  simp only [rp1,cellsSc]
  refine Ghost.ent (fun l=>if l = 0 then 0 else 4) ?_ ?_ ?_ <;> simp -implicitDefEqProofs only [go_sem,↓reduceIte,Nat.reduceEqDiff,reduceCtorEq,List.take_zero,List.map_nil,liftE_nil,List.forall_mem_cons,List.not_mem_nil,false_implies,implies_true,and_self,List.all_cons,List.all_nil,Nat.reduceLT,labsInL,AV.labsIn]
  all_goals first | rfl | decide | skip
 obtain ⟨i1,i2⟩:=hi
 simp only [rp1,cellsSc]
 refine AW.seq ?_
 by_cases hil : i < S.msgs.length
 ·obtain ⟨m,hm⟩ : ∃ m,S.msgs[i]? = some m:=⟨_,List.getElem?_eq_getElem hil⟩
  have ⟨hm1,hm2,hm3⟩:=at_map' encMs hm
  have hm2' : (i : Int) < (S.msgs.length : Int):=by omega
  have hc1 : ((i : Int) < (S.msgs.length : Int)) = True:=eq_true (by omega)
  have w1 : IntKind.wrap .i64 ((i : Int) + 1) = ((i + 1 : Nat) : Int):=by rw [w64] <;> omega
  rw [msgsC_at hm] at i2
  have hnx:=take_map_next Ms.name hm
  have hNl : ((S.msgs.take i).map Ms.name).length ≤ 1000000:=by rw [List.length_map,List.length_take]; omega
  generalize hN : (S.msgs.take i).map Ms.name = N at *
  have FR:=ref07_fresh N m.name (by omega) (L.msgs m (List.mem_of_getElem? hm)).1
  have CM:=ref07_message S m L.m L.e (L.msgs m (List.mem_of_getElem? hm))
  simp only [encSc,encMs] at CM
  refine AW.rT (by rfl) fun K hK=>?_
  simp -implicitDefEqProofs only [go_sem,↓reduceIte,Nat.reduceAdd,Nat.reduceEqDiff,hc1,List.length_map]
  apply hK;clear hK K
  refine AW.cT rfl ?_
  refine AW.skip ?_
  simp only [andThen]
  refine AW.seq ?_
  refine AW.block ?_
  refine AW.seq ?_
  cases ht : takesB N m.name with
  | false =>
   have hv : msgC S N m = 6:=by unfold msgC; rw [ht]; rfl
   rw [hv,if_neg (by decide)] at i2
   rw [ht] at FR
   refine AW.rT (by rfl) fun K hK=>?_
   simp -implicitDefEqProofs only [go_sem,↓reduceIte,Nat.reduceAdd,Nat.reduceEqDiff,hm1,hm2',hm3,encMs,List.length_map]
   refine ⟨.peek _,⟨FR,rfl⟩,?_⟩
   try simp -implicitDefEqProofs only [go_sem,Nat.reduceAdd]
   apply hK;clear hK K
   refine AW.cT rfl ?_
   refine AW.rT (by rfl) fun K hK=>?_
   simp -implicitDefEqProofs only [go_sem,Nat.reduceAdd]
   apply hK;clear hK K
   refine AW.ret ?_
   simp -implicitDefEqProofs only [go_sem,i2]
  | true =>
  have hv : msgC S N m = bodyC S m:=by unfold msgC; rw [ht]; rfl
  rw [hv] at i2
  rw [ht] at FR
  refine AW.rT (by rfl) fun K hK=>?_
  simp -implicitDefEqProofs only [go_sem,↓reduceIte,Nat.reduceAdd,Nat.reduceEqDiff,hm1,hm2',hm3,encMs,List.length_map]
  refine ⟨.peek _,⟨FR,rfl⟩,?_⟩
  try simp -implicitDefEqProofs only [go_sem,Nat.reduceAdd]
  apply hK;clear hK K
  refine AW.cF rfl ?_
  refine AW.skip ?_
  simp only [andThen]
  refine AW.rT (by rfl) fun K hK=>?_
  simp -implicitDefEqProofs only [go_sem,↓reduceIte,Nat.reduceAdd,Nat.reduceMul,Nat.reduceEqDiff,Nat.reduceLeDiff,reduceCtorEq,hm1,hm2',hm3,encMs,List.length_map]
  refine ⟨⟨by simp,by simp [oneAll,AV.one,PV.one],by simp⟩,by simp [liftE_length]; omega,?_⟩
  apply hK;clear hK K
  refine AW.dT mixed (by rfl) (by decide +kernel) fun K hK=>?_
  simp -implicitDefEqProofs only [go_sem,↓reduceIte,Nat.reduceAdd,Nat.reduceEqDiff,Nat.reduceLeDiff,reduceCtorEq,hm1,hm2',hm3,encMs,List.length_map]
  refine ⟨.pure _,CM,?_⟩
  try simp -implicitDefEqProofs only [go_sem,↓reduceIte,Nat.reduceAdd]
  refine ⟨heapOK_nil rfl,?_⟩
  apply hK;clear hK K
  by_cases hz : bodyC S m = 0
  ·have bz : (bodyC S m != 0) = false:=by simp [hz]
   rw [if_pos hz] at i2
   refine AW.rT (by rfl) fun K hK=>?_
   simp -implicitDefEqProofs only [go_sem,↓reduceIte,Nat.reduceAdd,bz]
   apply hK;clear hK K
   refine AW.cF rfl ?_
   refine AW.skip ?_
   simp only [andThen,inBlk]
   refine AW.rE (by rfl) fun K hK=>?_
   simp -implicitDefEqProofs only [go_sem,↓reduceIte,Nat.reduceAdd,Nat.reduceEqDiff,w1]
   apply hK;clear hK K
   refine ⟨i + 1,⟨by omega,by rw [hnx]; exact i2⟩,by omega,?_⟩
   rw [hnx]
   refine Ghost.ent (fun l=>if l = 0 then 0 else 24) ?_ ?_ ?_ <;> simp -implicitDefEqProofs only [go_sem,↓reduceIte,Nat.reduceEqDiff,reduceCtorEq,encS,List.map_append,liftE_append,liftE_cons,liftE_nil,List.forall_mem_cons,List.not_mem_nil,false_implies,implies_true,and_self,map_renL_lift,labsIn_lift,List.all_append,List.all_cons,List.all_nil,List.map_append,Nat.reduceLT,labsInL,AV.labsIn]
  ·have bz : (bodyC S m != 0) = true:=by simp [hz]
   rw [if_neg hz] at i2
   refine AW.rT (by rfl) fun K hK=>?_
   simp -implicitDefEqProofs only [go_sem,↓reduceIte,Nat.reduceAdd,bz]
   apply hK;clear hK K
   refine AW.cT rfl ?_
   refine AW.rT (by rfl) fun K hK=>?_
   simp -implicitDefEqProofs only [go_sem,↓reduceIte,Nat.reduceAdd,Nat.reduceEqDiff]
   apply hK;clear hK K
   refine AW.ret ?_
   simp -implicitDefEqProofs only [go_sem,i2]
 have hc1 : ((i : Int) < (S.msgs.length : Int)) = False:=eq_false (by omega)
 have ea : S.msgs.take i = S.msgs:=List.take_of_length_le (by omega)
 rw [List.drop_of_length_le (by omega),msgsC,ea] at i2
 rw [ea]
 clear ea hil
 refine AW.rT (by rfl) fun K hK=>?_
 simp -implicitDefEqProofs only [go_sem,↓reduceIte,Nat.reduceAdd,Nat.reduceEqDiff,hc1,List.length_map]
 apply hK;clear hK K
 refine AW.cF rfl ?_
 refine AW.exit ?_
 simp only [andThen,inBlk,↓reduceIte]
 refine AW.seq ?_
 refine AW.rT (by rfl) fun K hK=>?_
 simp -implicitDefEqProofs only [go_sem,Nat.reduceAdd]
 apply hK;clear hK K
 refine AW.block ?_
 refine AW.loop (rp2 S) (fun i=>i ≤ S.enums.length ∧ partsC S = enumsC (S.msgs.map Ms.name ++ (S.enums.take i).map En.name) (S.enums.drop i)) (fun i=>S.enums.length - i) 0 ?_ ⟨by omega,by simpa using i2⟩ fun j hj=>?_
 ·simp only [rp2,cellsSc]
  refine Ghost.sub ?_ ?_ <;> simp -implicitDefEqProofs only [go_sem,↓reduceIte,Nat.reduceEqDiff,List.take_zero,List.map_nil,List.append_nil,List.forall_mem_cons,List.not_mem_nil,false_implies,implies_true,and_self,labsIn_lift,List.all_cons,List.all_nil,Nat.reduceLT,labsInL,AV.labsIn]
  all_goals first | rfl | decide | skip
 clear i2 i1 hc1
 obtain ⟨j1,j2⟩:=hj
 simp only [rp2,cellsSc]
 refine AW.seq ?_
 by_cases hjl : j < S.enums.length
 case neg =>
  have hc1 : ((j : Int) < (S.enums.length : Int)) = False:=eq_false (by omega)
  rw [List.drop_of_length_le (by omega),enumsC] at j2
  refine AW.rT (by rfl) fun K hK=>?_
  simp -implicitDefEqProofs only [go_sem,↓reduceIte,Nat.reduceAdd,Nat.reduceEqDiff,hc1,List.length_map]
  apply hK;clear hK K
  refine AW.cF rfl ?_
  refine AW.exit ?_
  simp only [andThen,inBlk,↓reduceIte]
  refine AW.rT (by rfl) fun K hK=>?_
  simp -implicitDefEqProofs only [go_sem,Nat.reduceAdd]
  apply hK;clear hK K
  refine AW.ret ?_
  simp -implicitDefEqProofs only [go_sem,j2]
 obtain ⟨m,hm⟩ : ∃ m,S.enums[j]? = some m:=⟨_,List.getElem?_eq_getElem hjl⟩
 have ⟨hm1,hm2,hm3⟩:=at_map' encEn hm
 have hm2' : (j : Int) < (S.enums.length : Int):=by omega
 have hc1 : ((j : Int) < (S.enums.length : Int)) = True:=eq_true (by omega)
 have w1 : IntKind.wrap .i64 ((j : Int) + 1) = ((j + 1 : Nat) : Int):=by rw [w64] <;> omega
 rw [enumsC_at hm] at j2
 have hnx : S.msgs.map Ms.name ++ (S.enums.take (j + 1)).map En.name = (S.msgs.map Ms.name ++ (S.enums.take j).map En.name) ++ [m.name]:=by rw [take_map_next En.name hm,List.append_assoc]
 have hNl : (S.msgs.map Ms.name ++ (S.enums.take j).map En.name).length ≤ 2000000:=by simp; omega
 generalize hN : S.msgs.map Ms.name ++ (S.enums.take j).map En.name = N at *
 have FR:=ref07_fresh N m.name (by omega) (L.enums m (List.mem_of_getElem? hm)).1
 have CM:=ref07_enum m (L.enums m (List.mem_of_getElem? hm))
 simp only [encEn] at CM
 refine AW.rT (by rfl) fun K hK=>?_
 simp -implicitDefEqProofs only [go_sem,↓reduceIte,Nat.reduceAdd,Nat.reduceEqDiff,hc1,List.length_map]
 apply hK;clear hK K
 refine AW.cT rfl ?_
 refine AW.skip ?_
 simp only [andThen]
 refine AW.seq ?_
 refine AW.block ?_
 refine AW.seq ?_
 cases ht : takesB N m.name with
 | false =>
  have hv : enumC N m = 6:=by unfold enumC; rw [ht]; rfl
  rw [hv,if_neg (by decide)] at j2
  rw [ht] at FR
  refine AW.rT (by rfl) fun K hK=>?_
  simp -implicitDefEqProofs only [go_sem,↓reduceIte,Nat.reduceAdd,Nat.reduceEqDiff,hm1,hm2',hm3,encEn,List.length_map]
  refine ⟨.peek _,⟨FR,rfl⟩,?_⟩
  try simp -implicitDefEqProofs only [go_sem,Nat.reduceAdd]
  apply hK;clear hK K
  refine AW.cT rfl ?_
  refine AW.rT (by rfl) fun K hK=>?_
  simp -implicitDefEqProofs only [go_sem,Nat.reduceAdd]
  apply hK;clear hK K
  refine AW.ret ?_
  simp -implicitDefEqProofs only [go_sem,j2]
 | true =>
 have hv : enumC N m = enumBody m:=by unfold enumC; rw [ht]; rfl
 rw [hv] at j2
 rw [ht] at FR
 refine AW.rT (by rfl) fun K hK=>?_
 simp -implicitDefEqProofs only [go_sem,↓reduceIte,Nat.reduceAdd,Nat.reduceEqDiff,hm1,hm2',hm3,encEn,List.length_map]
 refine ⟨.peek _,⟨FR,rfl⟩,?_⟩
 try simp -implicitDefEqProofs only [go_sem,Nat.reduceAdd]
 apply hK;clear hK K
 refine AW.cF rfl ?_
 refine AW.skip ?_
 simp only [andThen]
 refine AW.rT (by rfl) fun K hK=>?_
 simp -implicitDefEqProofs only [go_sem,↓reduceIte,Nat.reduceAdd,Nat.reduceMul,Nat.reduceEqDiff,Nat.reduceLeDiff,reduceCtorEq,hm1,hm2',hm3,encEn,List.length_map]
 refine ⟨⟨by simp,by simp [oneAll,AV.one,PV.one],by simp⟩,by simp [liftE_length]; omega,?_⟩
 apply hK;clear hK K
 refine AW.rT (by rfl) fun K hK=>?_
 simp -implicitDefEqProofs only [go_sem,↓reduceIte,Nat.reduceAdd,Nat.reduceEqDiff,Nat.reduceLeDiff,reduceCtorEq,hm1,hm2',hm3,encEn,List.length_map]
 refine ⟨.pure _,CM,?_⟩
 try simp -implicitDefEqProofs only [go_sem,Nat.reduceAdd]
 apply hK;clear hK K
 by_cases hz : enumBody m = 0
 ·have bz : (enumBody m != 0) = false:=by simp [hz]
  rw [if_pos hz] at j2
  refine AW.rT (by rfl) fun K hK=>?_
  simp -implicitDefEqProofs only [go_sem,↓reduceIte,Nat.reduceAdd,bz]
  apply hK;clear hK K
  refine AW.cF rfl ?_
  refine AW.skip ?_
  simp only [andThen,inBlk]
  refine AW.rE (by rfl) fun K hK=>?_
  simp -implicitDefEqProofs only [go_sem,↓reduceIte,Nat.reduceAdd,Nat.reduceEqDiff,w1]
  apply hK;clear hK K
  refine ⟨j + 1,⟨by omega,by rw [hnx]; exact j2⟩,by omega,?_⟩
  rw [hnx]
  refine Ghost.ent (fun l=>if l = 0 then 0 else 24) ?_ ?_ ?_ <;> simp -implicitDefEqProofs only [go_sem,↓reduceIte,Nat.reduceEqDiff,reduceCtorEq,encS,List.map_append,liftE_append,liftE_cons,liftE_nil,List.forall_mem_cons,List.not_mem_nil,false_implies,implies_true,and_self,map_renL_lift,labsIn_lift,List.all_append,List.all_cons,List.all_nil,List.map_append,Nat.reduceLT,labsInL,AV.labsIn]
 ·have bz : (enumBody m != 0) = true:=by simp [hz]
  rw [if_neg hz] at j2
  refine AW.rT (by rfl) fun K hK=>?_
  simp -implicitDefEqProofs only [go_sem,↓reduceIte,Nat.reduceAdd,bz]
  apply hK;clear hK K
  refine AW.cT rfl ?_
  refine AW.rT (by rfl) fun K hK=>?_
  simp -implicitDefEqProofs only [go_sem,↓reduceIte,Nat.reduceAdd,Nat.reduceEqDiff]
  apply hK;clear hK K
  refine AW.ret ?_
  simp -implicitDefEqProofs only [go_sem,j2]
theorem ref07_Check (S : Sc) (L : LensS S) : PFn Tryz.prog 6 [.agg (encSc S)] (.int .i64 (checkC S)):=by
 refine PFn.of Tryz.func6 rfl (by decide) Tryz.ntmps6 Tryz.results6 (Nat.le_of_ble_eq_true rfl) ?_
 simp only [argsT,encSc]
 have Lt:=L.t
 refine AW.rT (by rfl) fun K hK=>?_
 simp -implicitDefEqProofs only [go_sem,Nat.reduceAdd]
 apply hK;clear hK K
 refine AW.seq ?_
 refine AW.block ?_
 cases hn : nameB S.name with
 | false =>
  have e : checkC S = 6:=by unfold checkC; rw [hn]; rfl
  refine AW.rT (by rfl) fun K hK=>?_
  simp -implicitDefEqProofs only [go_sem,↓reduceIte,Nat.reduceAdd,Nat.reduceEqDiff]
  refine ⟨.pure _,ref01_Name S.name L.name,?_⟩
  try simp -implicitDefEqProofs only [go_sem,Nat.reduceAdd,hn]
  apply hK;clear hK K
  refine AW.cT rfl ?_
  refine AW.rT (by rfl) fun K hK=>?_
  simp -implicitDefEqProofs only [go_sem,Nat.reduceAdd]
  apply hK;clear hK K
  refine AW.ret ?_
  simp -implicitDefEqProofs only [go_sem,e]
 | true =>
 have e0 : checkC S = if S.msgs.length = 0 then 12 else if S.msgs.length > 10 ∨ S.enums.length > 6 ∨ S.meths.length > 6 then 4 else if partsC S = 0 then methsC S [] S.meths else partsC S:=by unfold checkC; rw [hn,if_pos rfl]
 refine AW.rT (by rfl) fun K hK=>?_
 simp -implicitDefEqProofs only [go_sem,↓reduceIte,Nat.reduceAdd,Nat.reduceEqDiff]
 refine ⟨.pure _,ref01_Name S.name L.name,?_⟩
 try simp -implicitDefEqProofs only [go_sem,Nat.reduceAdd,hn]
 apply hK;clear hK K
 refine AW.cF rfl ?_
 by_cases c0 : S.msgs.length = 0
 ·have b0 : ((S.msgs.length : Int) == 0) = true:=by rw [beq_iff_eq]; omega
  rw [if_pos c0] at e0
  refine AW.rT (by rfl) fun K hK=>?_
  simp -implicitDefEqProofs only [go_sem,↓reduceIte,Nat.reduceAdd,Nat.reduceEqDiff,b0,List.length_map]
  apply hK;clear hK K
  refine AW.cT rfl ?_
  refine AW.rT (by rfl) fun K hK=>?_
  simp -implicitDefEqProofs only [go_sem,Nat.reduceAdd]
  apply hK;clear hK K
  refine AW.ret ?_
  simp -implicitDefEqProofs only [go_sem,e0]
 rw [if_neg c0] at e0
 have b0 : ((S.msgs.length : Int) == 0) = false:=beq_eq_false_iff_ne.2 (by omega)
 refine AW.rT (by rfl) fun K hK=>?_
 simp -implicitDefEqProofs only [go_sem,↓reduceIte,Nat.reduceAdd,Nat.reduceEqDiff,b0,List.length_map]
 apply hK;clear hK K
 refine AW.cF rfl ?_
 by_cases c1 : S.msgs.length > 10
 ·have b1 : ((S.msgs.length : Int) > 10) = True:=eq_true (by omega)
  rw [if_pos (.inl c1)] at e0
  refine AW.rT (by rfl) fun K hK=>?_
  simp -implicitDefEqProofs only [go_sem,↓reduceIte,Nat.reduceAdd,Nat.reduceEqDiff,b1,List.length_map]
  apply hK;clear hK K
  refine AW.cT rfl ?_
  refine AW.rT (by rfl) fun K hK=>?_
  simp -implicitDefEqProofs only [go_sem,Nat.reduceAdd]
  apply hK;clear hK K
  refine AW.ret ?_
  simp -implicitDefEqProofs only [go_sem,e0]
 have b1 : ((S.msgs.length : Int) > 10) = False:=eq_false (by omega)
 by_cases c2 : S.enums.length > 6
 ·have b2 : ((S.enums.length : Int) > 6) = True:=eq_true (by omega)
  rw [if_pos (.inr (.inl c2))] at e0
  refine AW.rT (by rfl) fun K hK=>?_
  simp -implicitDefEqProofs only [go_sem,↓reduceIte,Nat.reduceAdd,Nat.reduceEqDiff,b1,b2,List.length_map]
  apply hK;clear hK K
  refine AW.cT rfl ?_
  refine AW.rT (by rfl) fun K hK=>?_
  simp -implicitDefEqProofs only [go_sem,Nat.reduceAdd]
  apply hK;clear hK K
  refine AW.ret ?_
  simp -implicitDefEqProofs only [go_sem,e0]
 have b2 : ((S.enums.length : Int) > 6) = False:=eq_false (by omega)
 by_cases c3 : S.meths.length > 6
 ·have b3 : ((S.meths.length : Int) > 6) = True:=eq_true (by omega)
  rw [if_pos (.inr (.inr c3))] at e0
  refine AW.rT (by rfl) fun K hK=>?_
  simp -implicitDefEqProofs only [go_sem,↓reduceIte,Nat.reduceAdd,Nat.reduceEqDiff,b1,b2,b3,List.length_map]
  apply hK;clear hK K
  refine AW.cT rfl ?_
  refine AW.rT (by rfl) fun K hK=>?_
  simp -implicitDefEqProofs only [go_sem,Nat.reduceAdd]
  apply hK;clear hK K
  refine AW.ret ?_
  simp -implicitDefEqProofs only [go_sem,e0]
 have b3 : ((S.meths.length : Int) > 6) = False:=eq_false (by omega)
 rw [if_neg (by omega)] at e0
 refine AW.rT (by rfl) fun K hK=>?_
 simp -implicitDefEqProofs only [go_sem,↓reduceIte,Nat.reduceAdd,Nat.reduceEqDiff,b1,b2,b3,List.length_map]
 apply hK;clear hK K
 refine AW.cF rfl ?_
 refine AW.skip ?_
 simp only [andThen,inBlk]
 clear b1 b2 b3
 have PP:=ref07_parts S L
 simp only [encSc] at PP
 refine AW.seq ?_
 refine AW.rT (by rfl) fun K hK=>?_
 simp -implicitDefEqProofs only [go_sem,↓reduceIte,Nat.reduceAdd,Nat.reduceEqDiff,Nat.reduceLeDiff]
 refine ⟨.pure _,PP,?_⟩
 try simp -implicitDefEqProofs only [go_sem,Nat.reduceAdd]
 apply hK;clear hK K
 by_cases hz : partsC S = 0
 case neg =>
  have bz : (partsC S != 0) = true:=by simp [hz]
  rw [if_neg hz] at e0
  refine AW.rT (by rfl) fun K hK=>?_
  simp -implicitDefEqProofs only [go_sem,↓reduceIte,Nat.reduceAdd,bz]
  apply hK;clear hK K
  refine AW.cT rfl ?_
  refine AW.rT (by rfl) fun K hK=>?_
  simp -implicitDefEqProofs only [go_sem,↓reduceIte,Nat.reduceAdd,Nat.reduceEqDiff]
  apply hK;clear hK K
  refine AW.ret ?_
  simp -implicitDefEqProofs only [go_sem,e0]
 have bz : (partsC S != 0) = false:=by simp [hz]
 rw [if_pos hz] at e0
 refine AW.rT (by rfl) fun K hK=>?_
 simp -implicitDefEqProofs only [go_sem,↓reduceIte,Nat.reduceAdd,bz]
 apply hK;clear hK K
 refine AW.cF rfl ?_
 refine AW.skip ?_
 simp only [andThen]
 refine AW.rT (by rfl) fun K hK=>?_
 simp -implicitDefEqProofs only [go_sem,Nat.reduceAdd]
 apply hK;clear hK K
 refine AW.seq ?_
 refine AW.rT (by rfl) fun K hK=>?_
 simp -implicitDefEqProofs only [go_sem,Nat.reduceAdd]
 apply hK;clear hK K
 refine AW.block ?_
 refine AW.loop (rp3 S) (fun i=>i ≤ S.meths.length ∧ methsC S [] S.meths = methsC S ((S.meths.take i).map Mt.name) (S.meths.drop i)) (fun i=>S.meths.length - i) 0 ?_ ⟨by omega,by simp⟩ fun k hk=>?_
 ·refine Ghost.trans (Ghost.nil (t:=4) (sz:=1) rfl) ?_
  simp only [rp3,cellsSc]
  refine Ghost.ent (fun l=>if l = 0 then 0 else 36) ?_ ?_ ?_ <;> simp -implicitDefEqProofs only [go_sem,↓reduceIte,Nat.reduceEqDiff,reduceCtorEq,List.take_zero,List.map_nil,liftE_nil,List.forall_mem_cons,List.not_mem_nil,false_implies,implies_true,and_self,List.all_cons,List.all_nil,Nat.reduceLT,labsInL,AV.labsIn]
  all_goals first | rfl | decide | skip
 obtain ⟨k1,k2⟩:=hk
 simp only [rp3,cellsSc]
 refine AW.seq ?_
 by_cases hkl : k < S.meths.length
 case neg =>
  have hc1 : ((k : Int) < (S.meths.length : Int)) = False:=eq_false (by omega)
  rw [List.drop_of_length_le (by omega),methsC] at k2
  rw [k2] at e0
  refine AW.rT (by rfl) fun K hK=>?_
  simp -implicitDefEqProofs only [go_sem,↓reduceIte,Nat.reduceAdd,Nat.reduceEqDiff,hc1,List.length_map]
  apply hK;clear hK K
  refine AW.cF rfl ?_
  refine AW.exit ?_
  simp only [andThen,inBlk,↓reduceIte]
  refine AW.rT (by rfl) fun K hK=>?_
  simp -implicitDefEqProofs only [go_sem,Nat.reduceAdd]
  apply hK;clear hK K
  refine AW.ret ?_
  simp -implicitDefEqProofs only [go_sem,e0]
 obtain ⟨m,hm⟩ : ∃ m,S.meths[k]? = some m:=⟨_,List.getElem?_eq_getElem hkl⟩
 have ⟨hm1,hm2,hm3⟩:=at_map' encMt hm
 have hm2' : (k : Int) < (S.meths.length : Int):=by omega
 have hc1 : ((k : Int) < (S.meths.length : Int)) = True:=eq_true (by omega)
 have w1 : IntKind.wrap .i64 ((k : Int) + 1) = ((k + 1 : Nat) : Int):=by rw [w64] <;> omega
 rw [methsC_at hm] at k2
 have hnx:=take_map_next Mt.name hm
 have hNl : ((S.meths.take k).map Mt.name).length ≤ 1000000:=by rw [List.length_map,List.length_take]; omega
 generalize hN : (S.meths.take k).map Mt.name = N at *
 have FR:=ref07_fresh N m.name (by omega) (L.meths m (List.mem_of_getElem? hm))
 have M1:=ref07_Message S m.inn L.m
 have M2:=ref07_Message S m.out L.m
 simp only [encSc,encMs] at M1 M2
 have h1 : hasM S m.inn = (firstP (fun x=>x.name == m.inn) zMs S.msgs).2:=rfl
 have h2 : hasM S m.out = (firstP (fun x=>x.name == m.out) zMs S.msgs).2:=rfl
 rw [← h1] at M1
 rw [← h2] at M2
 refine AW.rT (by rfl) fun K hK=>?_
 simp -implicitDefEqProofs only [go_sem,↓reduceIte,Nat.reduceAdd,Nat.reduceEqDiff,hc1,List.length_map]
 apply hK;clear hK K
 refine AW.cT rfl ?_
 refine AW.skip ?_
 simp only [andThen]
 refine AW.seq ?_
 refine AW.block ?_
 refine AW.rT (by rfl) fun K hK=>?_
 simp -implicitDefEqProofs only [go_sem,↓reduceIte,Nat.reduceAdd,Nat.reduceEqDiff,Nat.reduceLeDiff,hm1,hm2',hm3,encMt,List.length_map]
 apply hK;clear hK K
 refine AW.seq ?_
 cases ht : takesB N m.name with
 | false =>
  rw [ht,if_neg (by simp)] at k2
  rw [k2] at e0
  rw [ht] at FR
  refine AW.rT (by rfl) fun K hK=>?_
  simp -implicitDefEqProofs only [go_sem,↓reduceIte,Nat.reduceAdd,Nat.reduceEqDiff]
  refine ⟨.peek _,⟨FR,rfl⟩,?_⟩
  try simp -implicitDefEqProofs only [go_sem,Nat.reduceAdd]
  apply hK;clear hK K
  refine AW.cT rfl ?_
  refine AW.rT (by rfl) fun K hK=>?_
  simp -implicitDefEqProofs only [go_sem,Nat.reduceAdd]
  apply hK;clear hK K
  refine AW.ret ?_
  simp -implicitDefEqProofs only [go_sem,e0]
 | true =>
 rw [ht,if_pos rfl] at k2
 rw [ht] at FR
 refine AW.rT (by rfl) fun K hK=>?_
 simp -implicitDefEqProofs only [go_sem,↓reduceIte,Nat.reduceAdd,Nat.reduceEqDiff]
 refine ⟨.peek _,⟨FR,rfl⟩,?_⟩
 try simp -implicitDefEqProofs only [go_sem,Nat.reduceAdd]
 apply hK;clear hK K
 refine AW.cF rfl ?_
 refine AW.skip ?_
 simp only [andThen]
 refine AW.rT (by rfl) fun K hK=>?_
 simp -implicitDefEqProofs only [go_sem,↓reduceIte,Nat.reduceAdd,Nat.reduceMul,Nat.reduceEqDiff,Nat.reduceLeDiff,reduceCtorEq]
 refine ⟨⟨by simp,by simp [oneAll,AV.one,PV.one],by simp⟩,by simp [liftE_length]; omega,?_⟩
 apply hK;clear hK K
 refine AW.rT (by rfl) fun K hK=>?_
 simp -implicitDefEqProofs only [go_sem,↓reduceIte,Nat.reduceAdd,Nat.reduceEqDiff,Nat.reduceLeDiff,reduceCtorEq]
 refine ⟨.pure _,M1,?_⟩
 try simp -implicitDefEqProofs only [go_sem,↓reduceIte,Nat.reduceAdd,Nat.reduceEqDiff,Nat.reduceLeDiff]
 apply hK;clear hK K
 refine AW.rT (by rfl) fun K hK=>?_
 simp -implicitDefEqProofs only [go_sem,↓reduceIte,Nat.reduceAdd,Nat.reduceEqDiff,Nat.reduceLeDiff,reduceCtorEq]
 refine ⟨.pure _,M2,?_⟩
 try simp -implicitDefEqProofs only [go_sem,↓reduceIte,Nat.reduceAdd,Nat.reduceEqDiff,Nat.reduceLeDiff]
 apply hK;clear hK K
 cases hi : hasM S m.inn with
 | false =>
  rw [hi,Bool.false_and,if_neg (by simp)] at k2
  rw [k2] at e0
  refine AW.rT (by rfl) fun K hK=>?_
  simp -implicitDefEqProofs only [go_sem,↓reduceIte,Nat.reduceAdd,Nat.reduceEqDiff]
  apply hK;clear hK K
  refine AW.cT rfl ?_
  refine AW.rT (by rfl) fun K hK=>?_
  simp -implicitDefEqProofs only [go_sem,Nat.reduceAdd]
  apply hK;clear hK K
  refine AW.ret ?_
  simp -implicitDefEqProofs only [go_sem,e0]
 | true =>
 cases ho : hasM S m.out with
 | false =>
  rw [hi,ho,if_neg (by simp)] at k2
  rw [k2] at e0
  refine AW.rT (by rfl) fun K hK=>?_
  simp -implicitDefEqProofs only [go_sem,↓reduceIte,Nat.reduceAdd,Nat.reduceEqDiff]
  apply hK;clear hK K
  refine AW.cT rfl ?_
  refine AW.rT (by rfl) fun K hK=>?_
  simp -implicitDefEqProofs only [go_sem,Nat.reduceAdd]
  apply hK;clear hK K
  refine AW.ret ?_
  simp -implicitDefEqProofs only [go_sem,e0]
 | true =>
  rw [hi,ho,if_pos (by rfl)] at k2
  refine AW.rT (by rfl) fun K hK=>?_
  simp -implicitDefEqProofs only [go_sem,↓reduceIte,Nat.reduceAdd,Nat.reduceEqDiff]
  apply hK;clear hK K
  refine AW.cF rfl ?_
  refine AW.skip ?_
  simp only [andThen,inBlk]
  refine AW.rE (by rfl) fun K hK=>?_
  simp -implicitDefEqProofs only [go_sem,↓reduceIte,Nat.reduceAdd,Nat.reduceEqDiff,w1]
  apply hK;clear hK K
  refine ⟨k + 1,⟨by omega,by rw [hnx]; exact k2⟩,by omega,?_⟩
  rw [hnx]
  refine Ghost.ent (fun l=>if l = 0 then 0 else 23) ?_ ?_ ?_ <;> simp -implicitDefEqProofs only [go_sem,↓reduceIte,Nat.reduceEqDiff,reduceCtorEq,encS,List.map_append,liftE_append,liftE_cons,liftE_nil,List.forall_mem_cons,List.not_mem_nil,false_implies,implies_true,and_self,map_renL_lift,labsIn_lift,List.all_append,List.all_cons,List.all_nil,List.map_append,Nat.reduceLT,labsInL,AV.labsIn]
end Go.Aw
namespace Go.Aw
open Go.Proofs Go.RowKit
theorem stepO_op {mo mn : Ms} {t : Int} {l : List Pr} (h : (fOf mo t).2 = true ∧ (fOf mn t).2 = true ∧ (fOf mo t).1.label = (fOf mn t).1.label) :
  stepO mo mn t l = if opK (fOf mo t).1 (fOf mn t).1 = 0 then none else some ⟨opK (fOf mo t).1 (fOf mn t).1,t,if (fOf mo t).1.ty.kind = 7 ∧ (fOf mn t).1.ty.kind = 7 then (placeP l (pairO mo mn t) : Int) else 0⟩:=by
 unfold stepO opK
 rw [if_pos h]
 by_cases c1 : (fOf mo t).1.ty.kind = 7 ∧ (fOf mn t).1.ty.kind = 7
 ·rw [if_pos c1,if_pos c1,if_pos c1]
  split <;> simp
 ·rw [if_neg c1,if_neg c1,if_neg c1]
  by_cases c2 : (fOf mo t).1.ty.kind = 2 ∧ (fOf mn t).1.ty.kind = 1
  ·have c3 : ¬ ((fOf mo t).1.ty.kind = (fOf mn t).1.ty.kind ∨ (fOf mo t).1.ty.kind = 1 ∧ (fOf mn t).1.ty.kind = 2):=by omega
   rw [if_pos c2,if_neg c3,if_pos c2]; simp
  ·rw [if_neg c2]
   by_cases c3 : (fOf mo t).1.ty.kind = (fOf mn t).1.ty.kind ∨ (fOf mo t).1.ty.kind = 1 ∧ (fOf mn t).1.ty.kind = 2
   ·rw [if_pos c3,if_pos c3]; simp
   ·rw [if_neg c3,if_neg c3,if_neg c2,if_pos rfl]
def kmS (S U : Sc) (l : List Pr) (ps : List (List Stp)) (m : List (Nat × AV)) : St:=⟨ofL ((4,.ptr 0 0 0) :: (5,.ptr 1 0 0) :: (14,.own 2) :: (15,.own 3) :: m),ofH [(0,.row 4 [cellsSc S]),(1,.row 4 [cellsSc U]),(2,.row 2 (liftE (l.map encPr))),(3,.row 1 (liftE (ps.map encPt)))],4⟩
def kmI (S U : Sc) (mo mn : Ms) (l : List Pr) (ps : List (List Stp)) (st : List Stp) (i : Nat) (m : List (Nat × AV)) : St:=⟨ofL ((4,.ptr 0 0 0) :: (5,.ptr 1 0 0) :: (14,.own 2) :: (15,.own 3) :: (16,.p (.int .i64 (i : Int))) :: (17,.ptr 4 0 0) :: (19,.ptr 5 0 0) :: (21,.own 6) :: m),ofH [(0,.row 4 [cellsSc S]),(1,.row 4 [cellsSc U]),(2,.row 2 (liftE (l.map encPr))),(3,.row 1 (liftE (ps.map encPt))),(4,.row 3 [cellsMs mo]),(5,.row 3 [cellsMs mn]),(6,.row 3 (liftE (st.map encSt)))],7⟩
def kmF (S U : Sc) (mo mn : Ms) (l : List Pr) (ps : List (List Stp)) (st : List Stp) (i : Nat) (n : Int) (f g : Fd) (m : List (Nat × AV)) : St:=⟨ofL ((4,.ptr 0 0 0) :: (5,.ptr 1 0 0) :: (14,.own 2) :: (15,.own 3) :: (16,.p (.int .i64 (i : Int))) :: (17,.ptr 4 0 0) :: (19,.ptr 5 0 0) :: (21,.own 6) :: (22,.p (.int .i64 n)) :: (23,.ptr 7 0 0) :: (25,.ptr 8 0 0) :: m),ofH [(0,.row 4 [cellsSc S]),(1,.row 4 [cellsSc U]),(2,.row 2 (liftE (l.map encPr))),(3,.row 1 (liftE (ps.map encPt))),(4,.row 3 [cellsMs mo]),(5,.row 3 [cellsMs mn]),(6,.row 3 (liftE (st.map encSt))),(7,.row 5 [[.p (.str f.name),.p (.int .i64 f.tag),.p (.int .i64 f.label),.p (.int .i64 f.ty.kind),.p (.str f.ty.name)]]),(8,.row 5 [[.p (.str g.name),.p (.int .i64 g.tag),.p (.int .i64 g.label),.p (.int .i64 g.ty.kind),.p (.str g.ty.name)]])],9⟩
def kmH (S U : Sc) (mo mn : Ms) (l : List Pr) (ps : List (List Stp)) (st : List Stp) (i : Nat) (n : Int) (f g : Fd) (k : Int) (m : List (Nat × AV)) : St:=⟨ofL ((4,.ptr 0 0 0) :: (5,.ptr 1 0 0) :: (14,.own 2) :: (15,.own 3) :: (16,.p (.int .i64 (i : Int))) :: (17,.ptr 4 0 0) :: (19,.ptr 5 0 0) :: (21,.own 6) :: (22,.p (.int .i64 n)) :: (23,.ptr 7 0 0) :: (25,.ptr 8 0 0) :: (27,.ptr 9 0 0) :: m),ofH [(0,.row 4 [cellsSc S]),(1,.row 4 [cellsSc U]),(2,.row 2 (liftE (l.map encPr))),(3,.row 1 (liftE (ps.map encPt))),(4,.row 3 [cellsMs mo]),(5,.row 3 [cellsMs mn]),(6,.row 3 (liftE (st.map encSt))),(7,.row 5 [[.p (.str f.name),.p (.int .i64 f.tag),.p (.int .i64 f.label),.p (.int .i64 f.ty.kind),.p (.str f.ty.name)]]),(8,.row 5 [[.p (.str g.name),.p (.int .i64 g.tag),.p (.int .i64 g.label),.p (.int .i64 g.ty.kind),.p (.str g.ty.name)]]),(9,.row 3 [[.p (.int .i64 k),.p (.int .i64 n),.p (.int .i64 0)]])],10⟩
def kmG (S U : Sc) (mo mn : Ms) (l : List Pr) (ps : List (List Stp)) (st : List Stp) (i : Nat) (n k s : Int) (m : List (Nat × AV)) : St:=⟨ofL ((4,.ptr 0 0 0) :: (5,.ptr 1 0 0) :: (14,.own 2) :: (15,.own 3) :: (16,.p (.int .i64 (i : Int))) :: (17,.ptr 4 0 0) :: (19,.ptr 5 0 0) :: (21,.own 6) :: (22,.p (.int .i64 n)) :: (27,.ptr 7 0 0) :: m),ofH [(0,.row 4 [cellsSc S]),(1,.row 4 [cellsSc U]),(2,.row 2 (liftE (l.map encPr))),(3,.row 1 (liftE (ps.map encPt))),(4,.row 3 [cellsMs mo]),(5,.row 3 [cellsMs mn]),(6,.row 3 (liftE (st.map encSt))),(7,.row 3 [[.p (.int .i64 k),.p (.int .i64 n),.p (.int .i64 s)]])],8⟩
theorem ref15_Make (S U : Sc) (LS : LensS S) (LU : LensS U) (a b : List UInt8) : PFn Tryz.prog 11 [.agg (encSc S),.agg (encSc U),.str a,.str b] (.tuple [.slice ((makeR S U a b).1.map encPt),.int .i64 (makeR S U a b).2]):=by
 refine PFn.of Tryz.func11 rfl (by decide) Tryz.ntmps11 Tryz.results11 (Nat.le_of_ble_eq_true rfl) ?_
 have C1:=ref07_Check S LS
 have C2:=ref07_Check U LU
 simp only [encSc] at C1 C2
 simp only [argsT,encSc]
 refine AW.rT (by rfl) fun K hK=>?_
 simp -implicitDefEqProofs only [go_sem,↓reduceIte,Nat.reduceAdd,Nat.reduceEqDiff]
 apply hK;clear hK K
 refine AW.seq ?_
 by_cases hS : checkC S = 0
 case neg =>
  have f1 : (checkC S != 0) = true:=by simp [hS]
  have e : makeR S U a b = ([],1):=by unfold makeR; rw [if_neg (fun h=>hS h.1)]
  refine AW.rT (by rfl) fun K hK=>?_
  simp -implicitDefEqProofs only [go_sem,↓reduceIte,Nat.reduceAdd,Nat.reduceEqDiff,Nat.reduceLeDiff,reduceCtorEq]
  refine ⟨.pure _,C1,?_⟩
  try simp -implicitDefEqProofs only [go_sem,↓reduceIte,Nat.reduceAdd,Nat.reduceEqDiff,f1]
  apply hK;clear hK K
  refine AW.cT rfl ?_
  refine AW.rT (by rfl) fun K hK=>?_
  simp -implicitDefEqProofs only [go_sem,Nat.reduceAdd]
  apply hK;clear hK K
  refine AW.ret ?_
  simp -implicitDefEqProofs only [go_sem,↓reduceIte,Nat.reduceEqDiff,e,List.map_nil]
 have f1 : (checkC S != 0) = false:=by simp [hS]
 by_cases hU : checkC U = 0
 case neg =>
  have f2 : (checkC U != 0) = true:=by simp [hU]
  have e : makeR S U a b = ([],1):=by unfold makeR; rw [if_neg (fun h=>hU h.2)]
  refine AW.rT (by rfl) fun K hK=>?_
  simp -implicitDefEqProofs only [go_sem,↓reduceIte,Nat.reduceAdd,Nat.reduceEqDiff,Nat.reduceLeDiff,reduceCtorEq]
  refine ⟨.pure _,C1,?_⟩
  try simp -implicitDefEqProofs only [go_sem,↓reduceIte,Nat.reduceAdd,Nat.reduceEqDiff,Nat.reduceLeDiff,f1]
  refine ⟨.pure _,C2,?_⟩
  try simp -implicitDefEqProofs only [go_sem,↓reduceIte,Nat.reduceAdd,Nat.reduceEqDiff,f2]
  apply hK;clear hK K
  refine AW.cT rfl ?_
  refine AW.rT (by rfl) fun K hK=>?_
  simp -implicitDefEqProofs only [go_sem,Nat.reduceAdd]
  apply hK;clear hK K
  refine AW.ret ?_
  simp -implicitDefEqProofs only [go_sem,↓reduceIte,Nat.reduceEqDiff,e,List.map_nil]
 have f2 : (checkC U != 0) = false:=by simp [hU]
 have RS:=right_of hS
 have RU:=right_of hU
 have FS:=check_fit.1 hS
 have FU:=check_fit.1 hU
 have M1:=ref07_Message S a (by have:=RS.len; omega)
 have M2:=ref07_Message U b (by have:=RU.len; omega)
 have e1 : firstP (fun x=>x.name == a) zMs S.msgs = (msgOf S a,hasM S a):=rfl
 have e2 : firstP (fun x=>x.name == b) zMs U.msgs = (msgOf U b,hasM U b):=rfl
 rw [e1] at M1
 rw [e2] at M2
 simp only [encSc,encMs] at M1 M2
 refine AW.rT (by rfl) fun K hK=>?_
 simp -implicitDefEqProofs only [go_sem,↓reduceIte,Nat.reduceAdd,Nat.reduceEqDiff,Nat.reduceLeDiff,reduceCtorEq]
 refine ⟨.pure _,C1,?_⟩
 try simp -implicitDefEqProofs only [go_sem,↓reduceIte,Nat.reduceAdd,Nat.reduceEqDiff,Nat.reduceLeDiff,f1]
 refine ⟨.pure _,C2,?_⟩
 try simp -implicitDefEqProofs only [go_sem,↓reduceIte,Nat.reduceAdd,Nat.reduceEqDiff,f2]
 apply hK;clear hK K
 refine AW.cF rfl ?_
 refine AW.skip ?_
 simp only [andThen]
 clear C1 C2
 refine AW.rT (by rfl) fun K hK=>?_
 simp -implicitDefEqProofs only [go_sem,↓reduceIte,Nat.reduceAdd,Nat.reduceEqDiff,Nat.reduceLeDiff,reduceCtorEq]
 refine ⟨.pure _,M1,?_⟩
 try simp -implicitDefEqProofs only [go_sem,↓reduceIte,Nat.reduceAdd,Nat.reduceEqDiff,Nat.reduceLeDiff]
 apply hK;clear hK K
 refine AW.rT (by rfl) fun K hK=>?_
 simp -implicitDefEqProofs only [go_sem,↓reduceIte,Nat.reduceAdd,Nat.reduceEqDiff,Nat.reduceLeDiff,reduceCtorEq]
 refine ⟨.pure _,M2,?_⟩
 try simp -implicitDefEqProofs only [go_sem,↓reduceIte,Nat.reduceAdd,Nat.reduceEqDiff,Nat.reduceLeDiff]
 apply hK;clear hK K
 refine AW.seq ?_
 cases ha : hasM S a with
 | false =>
  have e : makeR S U a b = ([],14):=by unfold makeR; rw [if_pos ⟨hS,hU⟩,if_neg (by rw [ha]; simp)]
  refine AW.rT (by rfl) fun K hK=>?_
  simp -implicitDefEqProofs only [go_sem,↓reduceIte,Nat.reduceAdd,Nat.reduceEqDiff]
  apply hK;clear hK K
  refine AW.cT rfl ?_
  refine AW.rT (by rfl) fun K hK=>?_
  simp -implicitDefEqProofs only [go_sem,Nat.reduceAdd]
  apply hK;clear hK K
  refine AW.ret ?_
  simp -implicitDefEqProofs only [go_sem,↓reduceIte,Nat.reduceEqDiff,e,List.map_nil]
 | true =>
 cases hb : hasM U b with
 | false =>
  have e : makeR S U a b = ([],14):=by unfold makeR; rw [if_pos ⟨hS,hU⟩,if_neg (by rw [hb]; simp)]
  refine AW.rT (by rfl) fun K hK=>?_
  simp -implicitDefEqProofs only [go_sem,↓reduceIte,Nat.reduceAdd,Nat.reduceEqDiff]
  apply hK;clear hK K
  refine AW.cT rfl ?_
  refine AW.rT (by rfl) fun K hK=>?_
  simp -implicitDefEqProofs only [go_sem,Nat.reduceAdd]
  apply hK;clear hK K
  refine AW.ret ?_
  simp -implicitDefEqProofs only [go_sem,↓reduceIte,Nat.reduceEqDiff,e,List.map_nil]
 | true =>
 have e : makeR S U a b = (makeP S U 101 0 [⟨a,b⟩],0):=by unfold makeR; rw [if_pos ⟨hS,hU⟩,if_pos ⟨ha,hb⟩]
 refine AW.rT (by rfl) fun K hK=>?_
 simp -implicitDefEqProofs only [go_sem,↓reduceIte,Nat.reduceAdd,Nat.reduceEqDiff]
 apply hK;clear hK K
 refine AW.cF rfl ?_
 refine AW.skip ?_
 simp only [andThen]
 refine AW.rT (by rfl) fun K hK=>?_
 simp -implicitDefEqProofs only [go_sem,↓reduceIte,Nat.reduceAdd,Nat.reduceMul,Nat.reduceEqDiff,Nat.reduceLeDiff,reduceCtorEq]
 apply hK;clear hK K
 refine AW.rT (by rfl) fun K hK=>?_
 simp -implicitDefEqProofs only [go_sem,Nat.reduceAdd]
 apply hK;clear hK K
 refine AW.ghost (s':=kmS S U [⟨a,b⟩] [] []) (Ghost.trans (Ghost.nil (t:=15) (sz:=1) rfl) ?_) ?_
 ·simp only [kmS,cellsSc,encPr,List.map_cons,List.map_nil,liftE_cons,liftE_nil]
  refine Ghost.ent (fun l=>if l = 2 then 39 else if l = 3 then 42 else l) ?_ ?_ ?_ <;> simp -implicitDefEqProofs only [go_sem,↓reduceIte,Nat.reduceEqDiff,reduceCtorEq,List.forall_mem_cons,List.not_mem_nil,false_implies,implies_true,and_self,List.all_cons,List.all_nil,Nat.reduceLT,labsInL,AV.labsIn]
  all_goals first | rfl | decide | skip
 have ok0 : PairsOK S U [⟨a,b⟩]:=⟨fun p hp=>by simp at hp; subst hp; exact ⟨ha,hb⟩,by simp⟩
 refine AW.cut (fun x : List Pr × List (List Stp)=>kmS S U x.1 x.2 []) (fun x=>x.2 = makeP S U 101 0 [⟨a,b⟩]) ?_ fun x hx=>?_
 rotate_left
 ·obtain ⟨l,ps⟩:=x
  simp only at hx
  refine AW.ghost (s':=⟨ofL [(15,.p (.slice (ps.map encPt)))],ofH [],4⟩) (Ghost.trans (Ghost.freeze (lb:=3) (sz:=1) (ps:=ps.map encPt) rfl (unlift_liftE _)) (Ghost.sub ?_ ?_)) ?_
  ·simp only [kmS]
   simp -implicitDefEqProofs only [go_sem,↓reduceIte,Nat.reduceEqDiff,List.forall_mem_cons,List.not_mem_nil,false_implies,implies_true,and_self,thaw,thaw1,Option.map_some]
   first | done | decide | exact ⟨⟨rfl,rfl⟩,rfl,rfl⟩
  ·intro x hx
   cases hx
  refine AW.rT (by rfl) fun K hK=>?_
  simp -implicitDefEqProofs only [go_sem,↓reduceIte,Nat.reduceAdd]
  apply hK;clear hK K
  rw [hx]
  refine AW.ret ?_
  simp -implicitDefEqProofs only [go_sem,↓reduceIte,Nat.reduceEqDiff,e]
 simp only [kmS,cellsSc]
 refine AW.rT (by rfl) fun K hK=>?_
 simp -implicitDefEqProofs only [go_sem,Nat.reduceAdd]
 apply hK;clear hK K
 refine AW.block ?_
 have y1 : [] ++ makeP S U (101 - 0) 0 [⟨a,b⟩] = makeP S U 101 0 [⟨a,b⟩]:=by rw [Nat.sub_zero,List.nil_append]
 refine AW.loop (fun x : List Pr × List (List Stp) × Nat=>kmS S U x.1 x.2.1 [(16,.p (.int .i64 (x.2.2 : Int)))]) (fun x=>x.2.2 ≤ x.1.length ∧ x.2.1.length = x.2.2 ∧ x.2.1 ++ makeP S U (101 - x.2.2) x.2.2 x.1 = makeP S U 101 0 [⟨a,b⟩] ∧ PairsOK S U x.1) (fun x=>101 - x.2.2) ([⟨a,b⟩],[],0) ?_ ⟨Nat.zero_le _,rfl,y1,ok0⟩ fun x hx=>?_
 ·simp only [kmS,cellsSc]
  refine Ghost.sub ?_ ?_ <;> simp -implicitDefEqProofs only [go_sem,↓reduceIte,Nat.reduceEqDiff,reduceCtorEq,List.forall_mem_cons,List.not_mem_nil,false_implies,implies_true,and_self,labsIn_lift,List.all_cons,List.all_nil,Nat.reduceLT,labsInL,AV.labsIn]
  all_goals first | rfl | decide | skip
 clear M1 M2 e1 e2 ok0
 obtain ⟨l,ps,i⟩:=x
 obtain ⟨i1,i2,eE,okl⟩:=hx
 simp only at i1 i2 eE okl
 have hl100:=pairs_len okl RS.len.2.1 RU.len.2.1
 simp only [kmS,cellsSc]
 refine AW.seq ?_
 by_cases hil : i < l.length
 case neg =>
  have hc1 : ((i : Int) < (l.length : Int)) = False:=eq_false (by omega)
  have eN : makeP S U (101 - i) i l = []:=by
   rw [show 101 - i = (100 - i) + 1 by omega,makeP,List.getElem?_eq_none (by omega)]
  rw [eN,List.append_nil] at eE
  refine AW.rT (by rfl) fun K hK=>?_
  simp -implicitDefEqProofs only [go_sem,↓reduceIte,Nat.reduceAdd,Nat.reduceEqDiff,reduceCtorEq,hc1,liftE_length,List.length_map]
  apply hK;clear hK K
  refine AW.cF rfl ?_
  refine AW.exit ?_
  simp only [andThen,inBlk,↓reduceIte]
  refine ⟨(l,ps),eE,?_⟩
  show Ghost _ _ (kmS S U l ps [])
  simp only [kmS,cellsSc]
  refine Ghost.sub ?_ ?_ <;> simp -implicitDefEqProofs only [go_sem,↓reduceIte,Nat.reduceEqDiff,reduceCtorEq,List.forall_mem_cons,List.not_mem_nil,false_implies,implies_true,and_self,labsIn_lift,List.all_cons,List.all_nil,Nat.reduceLT,labsInL,AV.labsIn]
  all_goals first | rfl | decide | skip
 obtain ⟨p,hp⟩ : ∃ p,l[i]? = some p:=⟨_,List.getElem?_eq_getElem hil⟩
 have g1:=at_lift encPr hp
 have b0 : 0 ≤ (i : Int):=by omega
 have b1 : (i : Int) < (l.length : Int):=by omega
 have hc1 : ((i : Int) < (l.length : Int)) = True:=eq_true (by omega)
 have w1 : IntKind.wrap .i64 ((i : Int) + 1) = ((i + 1 : Nat) : Int):=by rw [w64] <;> omega
 have hh:=okl.here p (List.mem_of_getElem? hp)
 have hmo:=(msgOf_mem hh.1).1
 have hmn:=(msgOf_mem hh.2).1
 have M1:=ref07_Message S p.o (by have:=RS.len; omega)
 have M2:=ref07_Message U p.n (by have:=RU.len; omega)
 have e1 : firstP (fun x=>x.name == p.o) zMs S.msgs = (msgOf S p.o,true):=by rw [← hh.1]; rfl
 have e2 : firstP (fun x=>x.name == p.n) zMs U.msgs = (msgOf U p.n,true):=by rw [← hh.2]; rfl
 rw [e1] at M1
 rw [e2] at M2
 simp only [encSc,encMs] at M1 M2
 simp only [encPr,List.map_cons,List.map_nil] at g1
 have eN : makeP S U (101 - i) i l = (stepsP (msgOf S p.o) (msgOf U p.n) 500 1 l).1 :: makeP S U (100 - i) (i + 1) (stepsP (msgOf S p.o) (msgOf U p.n) 500 1 l).2:=by
  rw [show 101 - i = (100 - i) + 1 by omega,makeP,hp]
 rw [eN] at eE
 generalize hmo' : msgOf S p.o = mo at *
 generalize hmn' : msgOf U p.n = mn at *
 refine AW.rT (by rfl) fun K hK=>?_
 simp -implicitDefEqProofs only [go_sem,↓reduceIte,Nat.reduceAdd,Nat.reduceEqDiff,reduceCtorEq,hc1,liftE_length,List.length_map]
 apply hK;clear hK K
 refine AW.cT rfl ?_
 refine AW.skip ?_
 simp only [andThen]
 refine AW.seq ?_
 refine AW.block ?_
 refine AW.dT mixed (by rfl) (by decide +kernel) fun K hK=>?_
 simp -implicitDefEqProofs only [go_sem,↓reduceIte,Nat.reduceAdd,Nat.reduceEqDiff,Nat.reduceLeDiff,reduceCtorEq,g1,b0,b1,liftE_length,List.length_map]
 refine ⟨.pure _,M1,?_⟩
 try simp -implicitDefEqProofs only [go_sem,↓reduceIte,Nat.reduceAdd,Nat.reduceEqDiff,Nat.reduceLeDiff]
 refine ⟨by decide +kernel,?_⟩
 apply hK;clear hK K
 refine AW.dT mixed (by rfl) (by decide +kernel) fun K hK=>?_
 simp -implicitDefEqProofs only [go_sem,↓reduceIte,Nat.reduceAdd,Nat.reduceEqDiff,Nat.reduceLeDiff,reduceCtorEq,g1,b0,b1,liftE_length,List.length_map]
 refine ⟨.pure _,M2,?_⟩
 try simp -implicitDefEqProofs only [go_sem,↓reduceIte,Nat.reduceAdd,Nat.reduceEqDiff,Nat.reduceLeDiff]
 refine ⟨by decide +kernel,?_⟩
 apply hK;clear hK K
 refine AW.rT (by rfl) fun K hK=>?_
 simp -implicitDefEqProofs only [go_sem,Nat.reduceAdd]
 apply hK;clear hK K
 refine AW.ghost (s':=kmI S U mo mn l ps [] i []) (Ghost.trans (Ghost.nil (t:=21) (sz:=3) rfl) ?_) ?_
 ·simp only [kmI,cellsSc,cellsMs,List.map_nil,liftE_nil]
  refine Ghost.ent (fun l=>if l = 4 then 18 else if l = 5 then 31 else if l = 6 then 35 else l) ?_ ?_ ?_ <;> simp -implicitDefEqProofs only [go_sem,↓reduceIte,Nat.reduceEqDiff,reduceCtorEq,List.forall_mem_cons,List.not_mem_nil,false_implies,implies_true,and_self,map_renL_lift,labsIn_lift,List.all_cons,List.all_nil,Nat.reduceLT,labsInL,AV.labsIn]
  all_goals first | rfl | decide | skip
 have SP : ∃ sp,sp = stepsP mo mn 500 1 l:=⟨_,rfl⟩
 obtain ⟨sp,hsp⟩:=SP
 rw [← hsp] at eE
 refine AW.cut (fun x : List Pr × List Stp=>kmI S U mo mn x.1 ps x.2 i []) (fun x=>x.1 = sp.2 ∧ x.2 = sp.1 ∧ PairsOK S U x.1 ∧ i < x.1.length ∧ x.2.length ≤ 500) ?_ fun x hx=>?_
 rotate_left
 ·obtain ⟨l',st⟩:=x
  obtain ⟨h1,h2,okl',hil',hst⟩:=hx
  simp only at h1 h2 okl' hil' hst
  refine AW.ghost (s':=kmS S U l' ps [(16,.p (.int .i64 (i : Int))),(21,.p (.slice (st.map encSt)))]) ?_ ?_
  ·refine Ghost.trans (Ghost.freeze (lb:=6) (sz:=3) (ps:=st.map encSt) ?_ (unlift_liftE _)) ?_
   ·simp only [kmI]
    simp -implicitDefEqProofs only [go_sem,↓reduceIte,Nat.reduceEqDiff,reduceCtorEq]
   ·simp only [kmI,kmS,cellsSc,cellsMs]
    refine Ghost.sub ?_ ?_ <;> simp -implicitDefEqProofs only [go_sem,↓reduceIte,Nat.reduceEqDiff,reduceCtorEq,thaw,thaw1,Option.map_some,List.map_cons,List.map_nil,thaw_lift,List.forall_mem_cons,List.not_mem_nil,false_implies,implies_true,and_self,labsIn_lift,List.all_cons,List.all_nil,Nat.reduceLT,labsInL,AV.labsIn]
    all_goals first | rfl | decide | skip
  simp only [kmS,cellsSc]
  have hl1:=pairs_len okl' RS.len.2.1 RU.len.2.1
  have cn0 : 101 - (i + 1) = 100 - i:=by omega
  have m1 : 101 - (i + 1) < 101 - i:=by omega
  refine AW.rE (by rfl) fun K hK=>?_
  simp -implicitDefEqProofs only [go_sem,↓reduceIte,Nat.reduceAdd,Nat.reduceMul,Nat.reduceEqDiff,Nat.reduceLeDiff,reduceCtorEq]
  refine ⟨⟨by simp,by simp [oneAll,AV.one,PV.one],by simp⟩,by rw [liftE_length,List.length_map]; omega,?_⟩
  try simp -implicitDefEqProofs only [go_sem,↓reduceIte,Nat.reduceAdd,Nat.reduceMul,Nat.reduceEqDiff,Nat.reduceLeDiff,reduceCtorEq,Int.reduceToNat]
  apply hK;clear hK K
  simp only [andThen,inBlk]
  refine AW.rE (by rfl) fun K hK=>?_
  simp -implicitDefEqProofs only [go_sem,↓reduceIte,Nat.reduceAdd,Nat.reduceEqDiff,w1]
  apply hK;clear hK K
  refine ⟨(l',ps ++ [st],i + 1),⟨hil',by simp only [List.length_append,List.length_cons,List.length_nil]; omega,?_,okl'⟩,m1,?_⟩
  ·simp only [List.append_assoc,List.cons_append,List.nil_append]
   rw [cn0,h1,h2]
   exact eE
  ·show Ghost _ _ (kmS S U l' (ps ++ [st]) [(16,.p (.int .i64 ((i + 1 : Nat) : Int)))])
   simp only [kmS,cellsSc]
   refine Ghost.ent (fun l=>if l = 3 then 7 else l) ?_ ?_ ?_ <;> simp -implicitDefEqProofs only [go_sem,↓reduceIte,Nat.reduceEqDiff,reduceCtorEq,encPt,List.map_append,liftE_append,List.map_cons,List.map_nil,liftE_cons,liftE_nil,List.forall_mem_cons,List.not_mem_nil,false_implies,implies_true,and_self,map_renL_lift,labsIn_lift,List.all_append,List.all_cons,List.all_nil,List.map_append,Nat.reduceLT,labsInL,AV.labsIn]
   all_goals first | rfl | decide | skip
 simp only [kmI,cellsSc,cellsMs]
 refine AW.rT (by rfl) fun K hK=>?_
 simp -implicitDefEqProofs only [go_sem,Nat.reduceAdd]
 apply hK;clear hK K
 refine AW.block ?_
 have z0 : (501 - 1 : Nat) = 500:=rfl
 have z00 : ((1 : Nat) : Int) = 1:=rfl
 have z1 : [] ++ (stepsP mo mn (501 - 1) ((1 : Nat) : Int) l).1 = sp.1:=by rw [z0,z00,List.nil_append,hsp]
 have z2 : (stepsP mo mn (501 - 1) ((1 : Nat) : Int) l).2 = sp.2:=by rw [z0,z00,hsp]
 refine AW.loop (fun x : List Pr × List Stp × Nat=>kmI S U mo mn x.1 ps x.2.1 i [(22,.p (.int .i64 (x.2.2 : Int)))]) (fun x=>x.2.2 ≤ 501 ∧ 1 ≤ x.2.2 ∧ i < x.1.length ∧ x.2.1 ++ (stepsP mo mn (501 - x.2.2) (x.2.2 : Int) x.1).1 = sp.1 ∧ (stepsP mo mn (501 - x.2.2) (x.2.2 : Int) x.1).2 = sp.2 ∧ PairsOK S U x.1 ∧ x.2.1.length < x.2.2) (fun x=>501 - x.2.2) (l,[],1) ?_ ⟨Nat.le_of_ble_eq_true rfl,Nat.le_refl _,hil,z1,z2,okl,Nat.lt_succ_self _⟩ fun x hx=>?_
 ·simp only [kmI,cellsSc,cellsMs]
  refine Ghost.sub ?_ ?_ <;> simp -implicitDefEqProofs only [go_sem,↓reduceIte,Nat.reduceEqDiff,reduceCtorEq,Int.cast_ofNat_Int,List.map_nil,liftE_nil,List.forall_mem_cons,List.not_mem_nil,false_implies,implies_true,and_self,labsIn_lift,List.all_cons,List.all_nil,Nat.reduceLT,labsInL,AV.labsIn]
  all_goals first | rfl | decide | skip
 clear okl hl100 g1 hc1 hil hp i1 M1 M2 hsp b0 b1 z1 z2
 obtain ⟨l,st,n⟩:=x
 obtain ⟨n1,n2,hil,q1,q2,okl,q3⟩:=hx
 simp only at n1 n2 hil q1 q2 okl q3
 have hl100:=pairs_len okl RS.len.2.1 RU.len.2.1
 simp only [kmI,cellsSc,cellsMs]
 refine AW.seq ?_
 by_cases hn : n ≤ 500
 case neg =>
  have hc1 : ((n : Int) ≤ 500) = False:=eq_false (by omega)
  rw [show 501 - n = 0 by omega] at q1 q2
  refine AW.rT (by rfl) fun K hK=>?_
  simp -implicitDefEqProofs only [go_sem,↓reduceIte,Nat.reduceAdd,Nat.reduceEqDiff,hc1]
  apply hK;clear hK K
  refine AW.cF rfl ?_
  refine AW.exit ?_
  simp only [andThen,inBlk,↓reduceIte]
  refine ⟨(l,st),⟨q2,by rw [← q1]; exact (List.append_nil _).symm,okl,hil,by simp only; omega⟩,?_⟩
  show Ghost _ _ (kmI S U mo mn l ps st i [])
  simp only [kmI,cellsSc,cellsMs]
  refine Ghost.sub ?_ ?_ <;> simp -implicitDefEqProofs only [go_sem,↓reduceIte,Nat.reduceEqDiff,reduceCtorEq,List.forall_mem_cons,List.not_mem_nil,false_implies,implies_true,and_self,labsIn_lift,List.all_cons,List.all_nil,Nat.reduceLT,labsInL,AV.labsIn]
  all_goals first | rfl | decide | skip
 have hc1 : ((n : Int) ≤ 500) = True:=eq_true (by omega)
 have w2 : IntKind.wrap .i64 ((n : Int) + 1) = ((n + 1 : Nat) : Int):=by rw [w64] <;> omega
 have no1:=(fit_msgs FS hmo).no
 have no2:=(fit_msgs FU hmn).no
 rw [show 501 - n = (500 - n) + 1 by omega,stepsP] at q1 q2
 simp only at q1 q2
 have okl':=stepLs_ok RS RU hmo hmn (t:=(n : Int)) okl
 have hil' : i < (stepLs mo mn (n : Int) l).length:=by
  have:=List.getElem?_eq_getElem hil
  exact (List.getElem?_eq_some_iff.1 (pref_stepLs mo mn (n : Int) l i _ this)).1
 have cs : ((n + 1 : Nat) : Int) = (n : Int) + 1:=by omega
 have cn : 501 - (n + 1) = 500 - n:=by omega
 have k1 : n + 1 ≤ 501:=by omega
 have k2 : 501 - (n + 1) < 501 - n:=by omega
 refine AW.rT (by rfl) fun K hK=>?_
 simp -implicitDefEqProofs only [go_sem,↓reduceIte,Nat.reduceAdd,Nat.reduceEqDiff,hc1]
 apply hK;clear hK K
 refine AW.cT rfl ?_
 refine AW.skip ?_
 simp only [andThen]
 refine AW.cut (fun _ : Unit=>kmI S U mo mn (stepLs mo mn (n : Int) l) ps (st ++ (stepO mo mn (n : Int) l).toList) i [(22,.p (.int .i64 (n : Int)))]) (fun _=>True) ?_ fun _ _=>?_
 rotate_left
 ·simp only [kmI,cellsSc,cellsMs]
  have hlen : (st ++ (stepO mo mn (n : Int) l).toList).length < n + 1:=by
   rw [List.length_append]
   have : (stepO mo mn (n : Int) l).toList.length ≤ 1:=by cases stepO mo mn (n : Int) l <;> simp
   omega
  refine AW.rE (by rfl) fun K hK=>?_
  simp -implicitDefEqProofs only [go_sem,↓reduceIte,Nat.reduceAdd,Nat.reduceEqDiff,w2]
  apply hK;clear hK K
  refine ⟨(stepLs mo mn (n : Int) l,st ++ (stepO mo mn (n : Int) l).toList,n + 1),⟨k1,Nat.le_add_left 1 n,hil',?_,?_,okl',hlen⟩,k2,?_⟩
  ·simp only [List.append_assoc]
   rw [cn,cs]
   exact q1
  ·simp only
   rw [cn,cs]
   exact q2
  ·show Ghost _ _ (kmI S U mo mn (stepLs mo mn (n : Int) l) ps (st ++ (stepO mo mn (n : Int) l).toList) i [(22,.p (.int .i64 ((n + 1 : Nat) : Int)))])
   simp only [kmI,cellsSc,cellsMs]
   refine Ghost.sub ?_ ?_ <;> simp -implicitDefEqProofs only [go_sem,↓reduceIte,Nat.reduceEqDiff,reduceCtorEq,List.forall_mem_cons,List.not_mem_nil,false_implies,implies_true,and_self,labsIn_lift,List.all_cons,List.all_nil,Nat.reduceLT,labsInL,AV.labsIn]
   all_goals first | rfl | decide | skip
 refine AW.block ?_
 have P1:=ref07_Field mo (n : Int) (by omega)
 have P2:=ref07_Field mn (n : Int) (by omega)
 have e1 : firstP (fun x=>x.tag == (n : Int)) zFd mo.fields = fOf mo (n : Int):=rfl
 have e2 : firstP (fun x=>x.tag == (n : Int)) zFd mn.fields = fOf mn (n : Int):=rfl
 rw [e1] at P1
 rw [e2] at P2
 have no : ¬ ((fOf mo (n : Int)).2 = true ∧ (fOf mn (n : Int)).2 = true ∧ (fOf mo (n : Int)).1.label = (fOf mn (n : Int)).1.label) → st ++ (stepO mo mn (n : Int) l).toList = st ∧ stepLs mo mn (n : Int) l = l:=fun h=>by
  have e : stepO mo mn (n : Int) l = none:=by unfold stepO; rw [if_neg h]
  have i : intoB mo mn (n : Int) = false:=by
   rw [Bool.eq_false_iff]
   intro q
   have:=intoB_spec q
   exact h ⟨this.1,this.2.1,this.2.2.1⟩
  unfold stepLs
  rw [e,i]
  exact ⟨List.append_nil _,rfl⟩
 have yes:=stepO_op (mo:=mo) (mn:=mn) (t:=(n : Int)) (l:=l)
 have into : stepLs mo mn (n : Int) l = if intoB mo mn (n : Int) = true then addP l (pairO mo mn (n : Int)) else l:=rfl
 have intoE : intoB mo mn (n : Int) = ((fOf mo (n : Int)).2 && (fOf mn (n : Int)).2 && ((fOf mo (n : Int)).1.label == (fOf mn (n : Int)).1.label) && ((fOf mo (n : Int)).1.ty.kind == 7) && ((fOf mn (n : Int)).1.ty.kind == 7)):=rfl
 have pE : pairO mo mn (n : Int) = ⟨(fOf mo (n : Int)).1.ty.name,(fOf mn (n : Int)).1.ty.name⟩:=rfl
 clear q1 q2
 obtain ⟨F1,hF1⟩ : ∃ F1,F1 = fOf mo (n : Int):=⟨_,rfl⟩
 obtain ⟨F2,hF2⟩ : ∃ F2,F2 = fOf mn (n : Int):=⟨_,rfl⟩
 rw [← hF1,← hF2] at no yes intoE pE
 rw [← hF1] at P1
 rw [← hF2] at P2
 obtain ⟨f,bf⟩:=F1
 obtain ⟨g,bg⟩:=F2
 simp only at no yes intoE pE P1 P2
 simp only [encMs,encFd] at P1 P2
 refine AW.rT (by rfl) fun K hK=>?_
 simp -implicitDefEqProofs only [go_sem,↓reduceIte,Nat.reduceAdd,Nat.reduceEqDiff,Nat.reduceLeDiff,reduceCtorEq]
 refine ⟨.pure _,P1,?_⟩
 try simp -implicitDefEqProofs only [go_sem,↓reduceIte,Nat.reduceAdd,Nat.reduceEqDiff,Nat.reduceLeDiff]
 apply hK;clear hK K
 refine AW.rT (by rfl) fun K hK=>?_
 simp -implicitDefEqProofs only [go_sem,↓reduceIte,Nat.reduceAdd,Nat.reduceEqDiff,Nat.reduceLeDiff,reduceCtorEq]
 refine ⟨.pure _,P2,?_⟩
 try simp -implicitDefEqProofs only [go_sem,↓reduceIte,Nat.reduceAdd,Nat.reduceEqDiff,Nat.reduceLeDiff]
 apply hK;clear hK K
 refine AW.ghost (s':=kmF S U mo mn l ps st i (n : Int) f g [(24,.p (.bool bf)),(26,.p (.bool bg))]) ?_ ?_
 ·simp only [kmF,cellsSc,cellsMs]
  refine Ghost.ent (fun l=>if l = 7 then 15 else if l = 8 then 24 else l) ?_ ?_ ?_ <;> simp -implicitDefEqProofs only [go_sem,↓reduceIte,Nat.reduceEqDiff,reduceCtorEq,List.forall_mem_cons,List.not_mem_nil,false_implies,implies_true,and_self,map_renL_lift,labsIn_lift,List.all_cons,List.all_nil,Nat.reduceLT,labsInL,AV.labsIn]
  all_goals first | rfl | decide | skip
 simp only [kmF,cellsSc,cellsMs]
 refine AW.seq ?_
 have skip1 : ∀ (b : Bool),stepLs mo mn (n : Int) l = l → st ++ (stepO mo mn (n : Int) l).toList = st → True:=fun _ _ _=>trivial
 by_cases c1 : bf = true
 case neg =>
  obtain ⟨x1,x2⟩:=no (fun h=>c1 h.1)
  have bF : bf = false:=by simpa using c1
  rw [bF,x1,x2]
  refine AW.rT (by rfl) fun K hK=>?_
  simp -implicitDefEqProofs only [go_sem,↓reduceIte,Nat.reduceAdd,Nat.reduceEqDiff]
  apply hK;clear hK K
  refine AW.cT rfl ?_
  refine AW.exit ?_
  simp only [andThen,inBlk,↓reduceIte]
  refine ⟨(),trivial,?_⟩
  show Ghost _ _ (kmI S U mo mn l ps st i [(22,.p (.int .i64 (n : Int)))])
  simp only [kmI,cellsSc,cellsMs]
  refine Ghost.sub ?_ ?_ <;> simp -implicitDefEqProofs only [go_sem,↓reduceIte,Nat.reduceEqDiff,reduceCtorEq,List.forall_mem_cons,List.not_mem_nil,false_implies,implies_true,and_self,labsIn_lift,List.all_cons,List.all_nil,Nat.reduceLT,labsInL,AV.labsIn]
  all_goals first | rfl | decide | skip
 by_cases c2 : bg = true
 case neg =>
  obtain ⟨x1,x2⟩:=no (fun h=>c2 h.2.1)
  have bG : bg = false:=by simpa using c2
  rw [c1,bG,x1,x2]
  refine AW.rT (by rfl) fun K hK=>?_
  simp -implicitDefEqProofs only [go_sem,↓reduceIte,Nat.reduceAdd,Nat.reduceEqDiff]
  apply hK;clear hK K
  refine AW.cT rfl ?_
  refine AW.exit ?_
  simp only [andThen,inBlk,↓reduceIte]
  refine ⟨(),trivial,?_⟩
  show Ghost _ _ (kmI S U mo mn l ps st i [(22,.p (.int .i64 (n : Int)))])
  simp only [kmI,cellsSc,cellsMs]
  refine Ghost.sub ?_ ?_ <;> simp -implicitDefEqProofs only [go_sem,↓reduceIte,Nat.reduceEqDiff,reduceCtorEq,List.forall_mem_cons,List.not_mem_nil,false_implies,implies_true,and_self,labsIn_lift,List.all_cons,List.all_nil,Nat.reduceLT,labsInL,AV.labsIn]
  all_goals first | rfl | decide | skip
 by_cases c3 : f.label = g.label
 case neg =>
  obtain ⟨x1,x2⟩:=no (fun h=>c3 h.2.2)
  have f3 : (f.label != g.label) = true:=by simp [c3]
  rw [c1,c2,x1,x2]
  refine AW.rT (by rfl) fun K hK=>?_
  simp -implicitDefEqProofs only [go_sem,↓reduceIte,Nat.reduceAdd,Nat.reduceEqDiff,reduceCtorEq,f3]
  apply hK;clear hK K
  refine AW.cT rfl ?_
  refine AW.exit ?_
  simp only [andThen,inBlk,↓reduceIte]
  refine ⟨(),trivial,?_⟩
  show Ghost _ _ (kmI S U mo mn l ps st i [(22,.p (.int .i64 (n : Int)))])
  simp only [kmI,cellsSc,cellsMs]
  refine Ghost.sub ?_ ?_ <;> simp -implicitDefEqProofs only [go_sem,↓reduceIte,Nat.reduceEqDiff,reduceCtorEq,List.forall_mem_cons,List.not_mem_nil,false_implies,implies_true,and_self,labsIn_lift,List.all_cons,List.all_nil,Nat.reduceLT,labsInL,AV.labsIn]
  all_goals first | rfl | decide | skip
 have f3 : (f.label != g.label) = false:=by simp [c3]
 have OP:=ref15_op f g
 simp only [encFd] at OP
 have yes':=yes ⟨c1,c2,c3⟩
 have into' : intoB mo mn (n : Int) = ((f.ty.kind == 7) && (g.ty.kind == 7)):=by rw [intoE,c1,c2,beq_iff_eq.2 c3]; rfl
 rw [into'] at into
 clear no yes intoE skip1
 rw [c1,c2]
 refine AW.rT (by rfl) fun K hK=>?_
 simp -implicitDefEqProofs only [go_sem,↓reduceIte,Nat.reduceAdd,Nat.reduceEqDiff,reduceCtorEq,f3]
 apply hK;clear hK K
 refine AW.cF rfl ?_
 refine AW.skip ?_
 simp only [andThen]
 refine AW.rT (by rfl) fun K hK=>?_
 simp -implicitDefEqProofs only [go_sem,↓reduceIte,Nat.reduceAdd,Nat.reduceEqDiff,Nat.reduceLeDiff,reduceCtorEq]
 refine ⟨.pure _,OP,?_⟩
 try simp -implicitDefEqProofs only [go_sem,↓reduceIte,Nat.reduceAdd,Nat.reduceEqDiff,Nat.reduceLeDiff]
 apply hK;clear hK K
 obtain ⟨k,hk⟩ : ∃ k,k = opK f g:=⟨_,rfl⟩
 rw [← hk] at yes' ⊢
 obtain ⟨l',hl'⟩ : ∃ l',l' = stepLs mo mn (n : Int) l:=⟨_,rfl⟩
 rw [← hl'] at into ⊢
 obtain ⟨sb,hsb⟩ : ∃ sb : Int,sb = (if f.ty.kind = 7 ∧ g.ty.kind = 7 then (placeP l (pairO mo mn (n : Int)) : Int) else 0):=⟨_,rfl⟩
 rw [← hsb] at yes'
 refine AW.cut (fun _ : Unit=>kmG S U mo mn l' ps st i (n : Int) k sb []) (fun _=>True) ?_ fun _ _=>?_
 rotate_left
 ·simp only [kmG,cellsSc,cellsMs]
  by_cases hk0 : k = 0
  ·rw [if_pos hk0] at yes'
   rw [yes',Option.toList_none,List.append_nil]
   have g0 : (k > 0) = False:=eq_false (by omega)
   refine AW.rT (by rfl) fun K hK=>?_
   simp -implicitDefEqProofs only [go_sem,↓reduceIte,Nat.reduceAdd,Nat.reduceEqDiff,reduceCtorEq,g0]
   apply hK;clear hK K
   refine AW.cF rfl ?_
   refine AW.skip ?_
   simp only [andThen,inBlk]
   refine ⟨(),trivial,?_⟩
   show Ghost _ _ (kmI S U mo mn l' ps st i [(22,.p (.int .i64 (n : Int)))])
   simp only [kmI,cellsSc,cellsMs]
   refine Ghost.sub ?_ ?_ <;> simp -implicitDefEqProofs only [go_sem,↓reduceIte,Nat.reduceEqDiff,reduceCtorEq,List.forall_mem_cons,List.not_mem_nil,false_implies,implies_true,and_self,labsIn_lift,List.all_cons,List.all_nil,Nat.reduceLT,labsInL,AV.labsIn]
   all_goals first | rfl | decide | skip
  ·rw [if_neg hk0] at yes'
   rw [yes',Option.toList_some]
   have kp : 0 < k:=by rw [hk]; rw [hk] at hk0; revert hk0; unfold opK; split <;> split <;> omega
   have g0 : (k > 0) = True:=eq_true kp
   refine AW.rT (by rfl) fun K hK=>?_
   simp -implicitDefEqProofs only [go_sem,↓reduceIte,Nat.reduceAdd,Nat.reduceEqDiff,reduceCtorEq,g0]
   apply hK;clear hK K
   refine AW.cT rfl ?_
   refine AW.rE (by rfl) fun K hK=>?_
   simp -implicitDefEqProofs only [go_sem,↓reduceIte,Nat.reduceAdd,Nat.reduceMul,Nat.reduceEqDiff,Nat.reduceLeDiff,reduceCtorEq]
   refine ⟨⟨by simp,by simp [oneAll,AV.one,PV.one],by simp⟩,by rw [liftE_length,List.length_map]; omega,?_⟩
   try simp -implicitDefEqProofs only [go_sem,↓reduceIte,Nat.reduceAdd,Nat.reduceMul,Nat.reduceEqDiff,Nat.reduceLeDiff,reduceCtorEq,Int.reduceToNat]
   apply hK;clear hK K
   simp only [andThen,inBlk]
   refine ⟨(),trivial,?_⟩
   show Ghost _ _ (kmI S U mo mn l' ps (st ++ [⟨k,(n : Int),sb⟩]) i [(22,.p (.int .i64 (n : Int)))])
   simp only [kmI,cellsSc,cellsMs]
   refine Ghost.ent (fun l=>if l = 6 then 14 else l) ?_ ?_ ?_ <;> simp -implicitDefEqProofs only [go_sem,↓reduceIte,Nat.reduceEqDiff,reduceCtorEq,encSt,List.map_append,liftE_append,List.map_cons,List.map_nil,liftE_cons,liftE_nil,List.forall_mem_cons,List.not_mem_nil,false_implies,implies_true,and_self,map_renL_lift,labsIn_lift,List.all_append,List.all_cons,List.all_nil,List.map_append,Nat.reduceLT,labsInL,AV.labsIn]
   all_goals first | rfl | decide | skip
 by_cases c7 : f.ty.kind = 7 ∧ g.ty.kind = 7
 case neg =>
  have i7 : ((f.ty.kind == 7) && (g.ty.kind == 7)) = false:=by
   rw [Bool.eq_false_iff]
   intro h
   rw [Bool.and_eq_true,beq_iff_eq,beq_iff_eq] at h
   exact c7 h
  rw [i7] at into
  rw [if_neg (by simp)] at into
  rw [if_neg c7] at hsb
  have kk : k = 0 ∨ k = 1 ∨ k = 2:=by
   rw [hk]
   unfold opK
   rw [if_neg c7]
   split
   ·omega
   ·split <;> omega
  have k3 : (k == 3) = false:=beq_eq_false_iff_ne.2 (by omega)
  have k4 : (k == 4) = false:=beq_eq_false_iff_ne.2 (by omega)
  refine AW.rT (by rfl) fun K hK=>?_
  simp -implicitDefEqProofs only [go_sem,↓reduceIte,Nat.reduceAdd,Nat.reduceEqDiff,k3,k4]
  apply hK;clear hK K
  refine AW.cF rfl ?_
  refine AW.skip ?_
  simp only [andThen]
  refine ⟨(),trivial,?_⟩
  show Ghost _ _ (kmG S U mo mn l' ps st i (n : Int) k sb [])
  rw [into,hsb]
  simp only [kmG,cellsSc,cellsMs]
  refine Ghost.ent (fun l=>if l = 7 then 27 else l) ?_ ?_ ?_ <;> simp -implicitDefEqProofs only [go_sem,↓reduceIte,Nat.reduceEqDiff,reduceCtorEq,List.forall_mem_cons,List.not_mem_nil,false_implies,implies_true,and_self,map_renL_lift,labsIn_lift,List.all_cons,List.all_nil,Nat.reduceLT,labsInL,AV.labsIn]
  all_goals first | rfl | decide | skip
 have i7 : ((f.ty.kind == 7) && (g.ty.kind == 7)) = true:=by rw [Bool.and_eq_true,beq_iff_eq,beq_iff_eq]; exact c7
 rw [i7] at into
 rw [if_pos rfl] at into
 rw [if_pos c7] at hsb
 refine AW.cut (fun _ : Unit=>kmH S U mo mn l ps st i (n : Int) f g k [(126,.p (.bool true))]) (fun _=>True) ?_ fun _ _=>?_
 ·have kk : k = 3 ∨ k = 4:=by
   rw [hk]
   unfold opK
   rw [if_pos c7]
   split <;> omega
  by_cases h3 : k = 3
  ·have k3 : (k == 3) = true:=beq_iff_eq.2 h3
   refine AW.rE (by rfl) fun K hK=>?_
   simp -implicitDefEqProofs only [go_sem,↓reduceIte,Nat.reduceAdd,Nat.reduceEqDiff,k3]
   apply hK;clear hK K
   refine ⟨(),trivial,?_⟩
   show Ghost _ _ (kmH S U mo mn l ps st i (n : Int) f g k [(126,.p (.bool true))])
   simp only [kmH,cellsSc,cellsMs]
   refine Ghost.ent (fun l=>if l = 9 then 27 else l) ?_ ?_ ?_ <;> simp -implicitDefEqProofs only [go_sem,↓reduceIte,Nat.reduceEqDiff,reduceCtorEq,List.forall_mem_cons,List.not_mem_nil,false_implies,implies_true,and_self,map_renL_lift,labsIn_lift,List.all_cons,List.all_nil,Nat.reduceLT,labsInL,AV.labsIn]
   done
  ·have k3 : (k == 3) = false:=beq_eq_false_iff_ne.2 h3
   have k4 : (k == 4) = true:=beq_iff_eq.2 (by omega)
   refine AW.rE (by rfl) fun K hK=>?_
   simp -implicitDefEqProofs only [go_sem,↓reduceIte,Nat.reduceAdd,Nat.reduceEqDiff,k3,k4]
   apply hK;clear hK K
   refine ⟨(),trivial,?_⟩
   show Ghost _ _ (kmH S U mo mn l ps st i (n : Int) f g k [(126,.p (.bool true))])
   simp only [kmH,cellsSc,cellsMs]
   refine Ghost.ent (fun l=>if l = 9 then 27 else l) ?_ ?_ ?_ <;> simp -implicitDefEqProofs only [go_sem,↓reduceIte,Nat.reduceEqDiff,reduceCtorEq,List.forall_mem_cons,List.not_mem_nil,false_implies,implies_true,and_self,map_renL_lift,labsIn_lift,List.all_cons,List.all_nil,Nat.reduceLT,labsInL,AV.labsIn]
   done
 simp only [kmH,cellsSc,cellsMs]
 refine AW.cT rfl ?_
 have PL:=ref15_place l (pairO mo mn (n : Int)) (by omega)
 have AD:=ref14_Add l (pairO mo mn (n : Int)) (by omega)
 rw [← into] at AD
 rw [← hsb] at PL
 rw [pE] at PL AD
 simp only [encPr] at PL AD
 refine AW.rT (by rfl) fun K hK=>?_
 simp -implicitDefEqProofs only [go_sem,↓reduceIte,Nat.reduceAdd,Nat.reduceEqDiff,Nat.reduceLeDiff,reduceCtorEq]
 apply hK;clear hK K
 refine AW.rT (by rfl) fun K hK=>?_
 simp -implicitDefEqProofs only [go_sem,↓reduceIte,Nat.reduceAdd,Nat.reduceEqDiff,Nat.reduceLeDiff,reduceCtorEq]
 refine ⟨.peek _,⟨PL,rfl⟩,?_⟩
 try simp -implicitDefEqProofs only [go_sem,↓reduceIte,Nat.reduceAdd,Nat.reduceEqDiff,Nat.reduceLeDiff,reduceCtorEq]
 apply hK;clear hK K
 refine AW.rRE (SeqR.ev 2 (by rfl) (by decide) ?_)
 simp -implicitDefEqProofs only [go_sem,↓reduceIte,Nat.reduceAdd,Nat.reduceEqDiff,Nat.reduceLeDiff]
 refine SeqR.call (fun _=>2) rfl rfl AD ⟨?_,rfl,?_,rfl,rfl,rfl,rfl,rfl,?_⟩ ?_
 ·simp -implicitDefEqProofs only [go_sem,↓reduceIte,Nat.reduceEqDiff,argD]
 ·simp -implicitDefEqProofs only [go_sem,↓reduceIte,Nat.reduceEqDiff,reduceCtorEq,List.forall_mem_cons,List.not_mem_nil,false_implies,implies_true]
  first | done | decide
 ·simp only [List.all_cons,List.all_nil,labsBy_lift]
  rfl
 refine SeqR.ev 1 (by rfl) (by decide) ?_
 simp -implicitDefEqProofs only [go_sem,Nat.reduceAdd]
 refine SeqR.last rfl ?_
 refine ⟨(),?_⟩
 show Ghost _ _ (kmG S U mo mn l' ps st i (n : Int) k sb [])
 simp only [kmG,cellsSc,cellsMs]
 refine Ghost.ent (fun l=>if l = 2 then 26 else if l = 7 then 9 else l) ?_ ?_ ?_ <;> simp -implicitDefEqProofs only [go_sem,↓reduceIte,Nat.reduceEqDiff,reduceCtorEq,lift2,goneU,newU,Nat.reduceSub,List.forall_mem_cons,List.not_mem_nil,false_implies,implies_true,and_self,map_renL_lift,labsIn_lift,List.all_cons,List.all_nil,Nat.reduceLT,labsInL,AV.labsIn]
 all_goals first | rfl | decide | skip
end Go.Aw
namespace Go.Aw.T
open Go.Proofs Go.RowKit
theorem same_of {a b : Tr} {f : FuncId} (h : PFn Tryz.prog f [.agg (encTr a),.agg (encTr b)] (.bool (sameT a b))) (e : a = b) : PFn Tryz.prog f [.agg (encTr a),.agg (encTr b)] (.bool true):=by
 rw [(sameT_iff a b).2 e] at h
 exact h
theorem runF_lens {P : List (List Stp)} (hP : progB P = true) : ∀ (t : Tr) (i : Nat),i < P.length → lensT t = true → rightT t = true → lensT (runF P t (i : Int)) = true:=by
 intro t
 induction h : SizeOf.sizeOf t using Nat.strongRecOn generalizing t with
 | _ sz ih =>
 subst h
 intro i hi hlt hrt
 obtain ⟨x,hx⟩ : ∃ x,P[i]? = some x:=⟨_,List.getElem?_eq_getElem hi⟩
 have hxm:=List.mem_of_getElem? hx
 have hPO : partO P (i : Int) = x:=by
  unfold partO
  rw [Int.toNat_natCast,List.getD_eq_getElem?_getD,hx]
  rfl
 have hre : rightE t.ents 0 = true:=by
  rcases right_kinds hrt with ⟨_,q⟩ | ⟨_,q⟩ | ⟨_,_,_,q,_⟩
  ·rw [q]
   show rightE [] 0 = true
   rw [rightE]
  ·rw [q]
   show rightE [] 0 = true
   rw [rightE]
  ·exact q
 obtain ⟨la1,la2,la3⟩:=lensT_mk hlt
 have x500:=prog_len hP hxm
 rw [runF_eq,hPO]
 have lE : ∀ {es : List (Int × List Tr)},(∀ e ∈ es,e.2.length ≤ 1000 ∧ lensTs e.2 = true) → lensE es = true:=by
  intro es
  induction es with
  | nil=>intro _; rw [lensE]
  | cons e es ih =>
   intro h
   obtain ⟨g,l⟩:=e
   obtain ⟨h1,h2⟩:=h (g,l) (List.mem_cons_self ..)
   rw [lensE,h2,ih fun y hy=>h y (List.mem_cons_of_mem _ hy)]
   simp
   exact h1
 have lTs : ∀ {l : List Tr},(∀ y ∈ l,lensT y = true) → lensTs l = true:=by
  intro l
  induction l with
  | nil=>intro _; rw [lensTs]
  | cons y l ih =>
   intro h
   rw [lensTs,h y (List.mem_cons_self ..),ih fun z hz=>h z (List.mem_cons_of_mem _ hz)]
   rfl
 have hlen : (x.flatMap (entF P t.ents)).length ≤ 1000:=by
  have:=outP_len P t x x.length
  unfold outP at this
  rw [List.take_length] at this
  omega
 rw [lensT]
 simp only [Bool.and_eq_true,decide_eq_true_eq]
 refine ⟨⟨by simp,hlen⟩,lE fun e he=>?_⟩
 obtain ⟨s,hs,he⟩:=List.mem_flatMap.1 he
 unfold entF at he
 split at he
 ·cases he
 ·rw [List.mem_singleton] at he
  subst he
  simp only
  obtain ⟨p1,p2,p3⟩:=prog_step hP hxm hs
  rcases getG_cases t.ents s.tag with hg | ⟨e',he',_,hg⟩
  ·rw [hg,stepF_none]
   exact ⟨by simp,by rw [lensTs]⟩
  ·rw [hg]
   obtain ⟨r1,r2,r3⟩:=rightE_in hre e' he'
   obtain ⟨ei,hei⟩:=List.getElem?_of_mem he'
   have ⟨le1,le2⟩:=lensE_at la3 hei
   have sl:=(lastL_len s e'.2).1
   unfold stepF
   split
   ·exact ⟨by simp,by rw [lensTs]⟩
   ·split
    ·exact ⟨by simp,by rw [lensTs]⟩
    ·refine ⟨by rw [List.length_map]; omega,lTs fun y hy=>?_⟩
     obtain ⟨z,hz,rfl⟩:=List.mem_map.1 hy
     have hz':=lastL_mem hz
     obtain ⟨zj,hzj⟩:=List.getElem?_of_mem hz'
     have lz:=lensTs_at le2 hzj
     unfold run1F
     split
     ·unfold clampT
      have:=lz
      cases z
      rw [lensT] at this ⊢
      exact this
     ·split
      ·rename_i o34
       obtain ⟨k,hsk,hkl⟩:=p3 o34
       rw [hsk]
       exact ih _ (size_ent hei hzj) z rfl k hkl lz (r3 z hz').2
      ·exact lz
theorem runP_lens {P : List (List Stp)} {t : Tr} (hlt : lensT t = true) : lensT (runP P t).1 = true:=by
 unfold runP
 split
 ·rfl
 ·rename_i h
  simp only [not_or] at h
  have hp : progB P = true:=by simpa using h.1
  have ho : okT t = true:=by simpa using h.2.2
  have hi : 0 < P.length:=by
   unfold progB at hp
   rw [Bool.and_eq_true,decide_eq_true_eq] at hp
   omega
  exact runF_lens hp t 0 hi hlt (ok_right ho)
end Go.Aw.T
namespace Go.Aw.T
open Go.Proofs Go.RowKit
theorem steps_lenM {mo mn : Ms} : ∀ (k : Nat) (t : Int) (l : List Pr),(stepsP mo mn k t l).1.length ≤ k
 | 0,t,l=>Nat.le_refl _
 | k + 1,t,l=>by
  rw [stepsP,List.length_append]
  have:=steps_lenM (mo:=mo) (mn:=mn) k (t + 1) (stepLs mo mn t l)
  have h : (stepO mo mn t l).toList.length ≤ 1:=by cases stepO mo mn t l <;> simp
  omega
theorem makeP_lenM (S U : Sc) : ∀ (n i : Nat) (l : List Pr),∀ x ∈ makeP S U n i l,x.length ≤ 500
 | 0,i,l=>fun x hx=>by cases hx
 | n + 1,i,l=>by
  rw [makeP]
  cases hp : l[i]? with
  | none=>exact fun x hx=>by cases hx
  | some p =>
   simp only
   intro x hx
   rcases List.mem_cons.1 hx with rfl | hx
   ·exact steps_lenM 500 1 l
   ·exact makeP_lenM S U n (i + 1) _ x hx
theorem law16_InterpMakes (S U : Sc) (p q : Int) (x : Tr) (B : bigS S) (BU : bigS U) (hp : -9223372036854775808 ≤ p) (hp' : p ≤ 9223372036854775807) (hq : -9223372036854775808 ≤ q) (hq' : q ≤ 9223372036854775807) : PFn Tryz.prog 3 [.agg (encSc S),.agg (encSc U),.int .i64 p,.int .i64 q,.agg (encTr x)] (.bool true):=by
 have CF:=law00_Few S B
 have CG:=law00_Few U BU
 have SM:=law00_Small x
 simp only [encSc] at CF CG
 rw [encTr_eq x] at SM
 refine PFn.of Tryz.func3 rfl (by decide) Tryz.ntmps3 Tryz.results3 (Nat.le_of_ble_eq_true rfl) ?_
 simp only [argsT]
 refine AW.rT (by rfl) fun K hK=>?_
 simp -implicitDefEqProofs only [go_sem,↓reduceIte,Nat.reduceAdd,Nat.reduceEqDiff,reduceCtorEq,encSc,encTr_eq x]
 apply hK;clear hK K
 refine AW.seq ?_
 cases hf : fewB S with
 | false =>
  rw [hf] at CF
  refine AW.rT (by rfl) fun K hK=>?_
  simp -implicitDefEqProofs only [go_sem,↓reduceIte,Nat.reduceAdd,Nat.reduceEqDiff,Nat.reduceLeDiff,reduceCtorEq]
  refine ⟨.pure _,CF,?_⟩
  try simp -implicitDefEqProofs only [go_sem,↓reduceIte,Nat.reduceAdd,Nat.reduceEqDiff]
  apply hK;clear hK K
  refine AW.cT rfl ?_
  refine AW.rT (by rfl) fun K hK=>?_
  simp -implicitDefEqProofs only [go_sem]
  refine ⟨.pure _,law16_awake,?_⟩
  try simp -implicitDefEqProofs only [go_sem,Nat.reduceAdd]
  apply hK;clear hK K
  refine AW.ret ?_
  simp -implicitDefEqProofs only [go_sem]
 | true =>
 rw [hf] at CF
 cases hg : fewB U with
 | false =>
  rw [hg] at CG
  refine AW.rT (by rfl) fun K hK=>?_
  simp -implicitDefEqProofs only [go_sem,↓reduceIte,Nat.reduceAdd,Nat.reduceEqDiff,Nat.reduceLeDiff,reduceCtorEq]
  refine ⟨.pure _,CF,?_⟩
  try simp -implicitDefEqProofs only [go_sem,↓reduceIte,Nat.reduceAdd,Nat.reduceEqDiff,Nat.reduceLeDiff]
  refine ⟨.pure _,CG,?_⟩
  try simp -implicitDefEqProofs only [go_sem,↓reduceIte,Nat.reduceAdd,Nat.reduceEqDiff]
  apply hK;clear hK K
  refine AW.cT rfl ?_
  refine AW.rT (by rfl) fun K hK=>?_
  simp -implicitDefEqProofs only [go_sem]
  refine ⟨.pure _,law16_awake,?_⟩
  try simp -implicitDefEqProofs only [go_sem,Nat.reduceAdd]
  apply hK;clear hK K
  refine AW.ret ?_
  simp -implicitDefEqProofs only [go_sem]
 | true =>
 rw [hg] at CG
 cases hs : smallB x with
 | false =>
  rw [hs] at SM
  refine AW.rT (by rfl) fun K hK=>?_
  simp -implicitDefEqProofs only [go_sem,↓reduceIte,Nat.reduceAdd,Nat.reduceEqDiff,Nat.reduceLeDiff,reduceCtorEq]
  refine ⟨.pure _,CF,?_⟩
  try simp -implicitDefEqProofs only [go_sem,↓reduceIte,Nat.reduceAdd,Nat.reduceEqDiff,Nat.reduceLeDiff]
  refine ⟨.pure _,CG,?_⟩
  try simp -implicitDefEqProofs only [go_sem,↓reduceIte,Nat.reduceAdd,Nat.reduceEqDiff,Nat.reduceLeDiff]
  refine ⟨.pure _,SM,?_⟩
  try simp -implicitDefEqProofs only [go_sem,↓reduceIte,Nat.reduceAdd,Nat.reduceEqDiff]
  apply hK;clear hK K
  refine AW.cT rfl ?_
  refine AW.rT (by rfl) fun K hK=>?_
  simp -implicitDefEqProofs only [go_sem]
  refine ⟨.pure _,law16_awake,?_⟩
  try simp -implicitDefEqProofs only [go_sem,Nat.reduceAdd]
  apply hK;clear hK K
  refine AW.ret ?_
  simp -implicitDefEqProofs only [go_sem]
 | true =>
 rw [hs] at SM
 have F:=few_spec hf
 have L:=F.lens
 have FU:=few_spec hg
 have LU:=FU.lens
 have C1:=ref07_Check S L
 have C2:=ref07_Check U LU
 simp only [encSc] at C1 C2
 by_cases h0 : checkC S = 0
 case neg =>
  have b0 : (checkC S != 0) = true:=by simpa using h0
  refine AW.rT (by rfl) fun K hK=>?_
  simp -implicitDefEqProofs only [go_sem,↓reduceIte,Nat.reduceAdd,Nat.reduceEqDiff,Nat.reduceLeDiff,reduceCtorEq]
  refine ⟨.pure _,CF,?_⟩
  try simp -implicitDefEqProofs only [go_sem,↓reduceIte,Nat.reduceAdd,Nat.reduceEqDiff,Nat.reduceLeDiff]
  refine ⟨.pure _,CG,?_⟩
  try simp -implicitDefEqProofs only [go_sem,↓reduceIte,Nat.reduceAdd,Nat.reduceEqDiff,Nat.reduceLeDiff]
  refine ⟨.pure _,SM,?_⟩
  try simp -implicitDefEqProofs only [go_sem,↓reduceIte,Nat.reduceAdd,Nat.reduceEqDiff,Nat.reduceLeDiff,reduceCtorEq]
  refine ⟨.pure _,C1,?_⟩
  try simp -implicitDefEqProofs only [go_sem,↓reduceIte,Nat.reduceAdd,Nat.reduceEqDiff,b0]
  apply hK;clear hK K
  refine AW.cT rfl ?_
  refine AW.rT (by rfl) fun K hK=>?_
  simp -implicitDefEqProofs only [go_sem]
  refine ⟨.pure _,law16_awake,?_⟩
  try simp -implicitDefEqProofs only [go_sem,Nat.reduceAdd]
  apply hK;clear hK K
  refine AW.ret ?_
  simp -implicitDefEqProofs only [go_sem]
 have b0 : (checkC S != 0) = false:=by simp [h0]
 by_cases h1 : checkC U = 0
 case neg =>
  have b1 : (checkC U != 0) = true:=by simpa using h1
  refine AW.rT (by rfl) fun K hK=>?_
  simp -implicitDefEqProofs only [go_sem,↓reduceIte,Nat.reduceAdd,Nat.reduceEqDiff,Nat.reduceLeDiff,reduceCtorEq]
  refine ⟨.pure _,CF,?_⟩
  try simp -implicitDefEqProofs only [go_sem,↓reduceIte,Nat.reduceAdd,Nat.reduceEqDiff,Nat.reduceLeDiff]
  refine ⟨.pure _,CG,?_⟩
  try simp -implicitDefEqProofs only [go_sem,↓reduceIte,Nat.reduceAdd,Nat.reduceEqDiff,Nat.reduceLeDiff]
  refine ⟨.pure _,SM,?_⟩
  try simp -implicitDefEqProofs only [go_sem,↓reduceIte,Nat.reduceAdd,Nat.reduceEqDiff,Nat.reduceLeDiff,reduceCtorEq]
  refine ⟨.pure _,C1,?_⟩
  try simp -implicitDefEqProofs only [go_sem,↓reduceIte,Nat.reduceAdd,Nat.reduceEqDiff,Nat.reduceLeDiff,b0]
  refine ⟨.pure _,C2,?_⟩
  try simp -implicitDefEqProofs only [go_sem,↓reduceIte,Nat.reduceAdd,Nat.reduceEqDiff,b1]
  apply hK;clear hK K
  refine AW.cT rfl ?_
  refine AW.rT (by rfl) fun K hK=>?_
  simp -implicitDefEqProofs only [go_sem]
  refine ⟨.pure _,law16_awake,?_⟩
  try simp -implicitDefEqProofs only [go_sem,Nat.reduceAdd]
  apply hK;clear hK K
  refine AW.ret ?_
  simp -implicitDefEqProofs only [go_sem]
 have b1 : (checkC U != 0) = false:=by simp [h1]
 refine AW.rT (by rfl) fun K hK=>?_
 simp -implicitDefEqProofs only [go_sem,↓reduceIte,Nat.reduceAdd,Nat.reduceEqDiff,Nat.reduceLeDiff,reduceCtorEq]
 refine ⟨.pure _,CF,?_⟩
 try simp -implicitDefEqProofs only [go_sem,↓reduceIte,Nat.reduceAdd,Nat.reduceEqDiff,Nat.reduceLeDiff]
 refine ⟨.pure _,CG,?_⟩
 try simp -implicitDefEqProofs only [go_sem,↓reduceIte,Nat.reduceAdd,Nat.reduceEqDiff,Nat.reduceLeDiff]
 refine ⟨.pure _,SM,?_⟩
 try simp -implicitDefEqProofs only [go_sem,↓reduceIte,Nat.reduceAdd,Nat.reduceEqDiff,Nat.reduceLeDiff,reduceCtorEq]
 refine ⟨.pure _,C1,?_⟩
 try simp -implicitDefEqProofs only [go_sem,↓reduceIte,Nat.reduceAdd,Nat.reduceEqDiff,Nat.reduceLeDiff,b0]
 refine ⟨.pure _,C2,?_⟩
 try simp -implicitDefEqProofs only [go_sem,↓reduceIte,Nat.reduceAdd,Nat.reduceEqDiff,b1]
 apply hK;clear hK K
 refine AW.cF rfl ?_
 refine AW.skip ?_
 simp only [andThen]
 have hlt:=smallB_lens hs
 have R:=right_of h0
 have RU:=right_of h1
 have hn:=R.len
 have hnu:=RU.len
 have CP:=Go.Aw.law00_Place p (S.msgs.length : Int) (by omega) (by omega) hp hp'
 have CQ:=Go.Aw.law00_Place q (U.msgs.length : Int) (by omega) (by omega) hq hq'
 obtain ⟨i,hi⟩:=Int.eq_ofNat_of_zero_le (Int.emod_nonneg p (show (S.msgs.length : Int) ≠ 0 by omega))
 obtain ⟨j,hj⟩:=Int.eq_ofNat_of_zero_le (Int.emod_nonneg q (show (U.msgs.length : Int) ≠ 0 by omega))
 have hi1:=Int.emod_lt_of_pos p (show (0 : Int) < (S.msgs.length : Int) by omega)
 have hj1:=Int.emod_lt_of_pos q (show (0 : Int) < (U.msgs.length : Int) by omega)
 rw [hi] at CP hi1
 rw [hj] at CQ hj1
 obtain ⟨m,hm⟩ : ∃ m,S.msgs[i]? = some m:=⟨_,List.getElem?_eq_getElem (by omega)⟩
 obtain ⟨n,hn'⟩ : ∃ m,U.msgs[j]? = some m:=⟨_,List.getElem?_eq_getElem (by omega)⟩
 have ⟨hm1,hm2,hm3⟩:=at_map' encMs hm
 have ⟨hn1,hn2,hn3⟩:=at_map' encMs hn'
 have hm2' : ((i : Int) < (S.msgs.length : Int)) = True:=eq_true (by omega)
 have hn2' : ((j : Int) < (U.msgs.length : Int)) = True:=eq_true (by omega)
 have SC:=law00_Schema S F
 have SU:=law00_Schema U FU
 have MK:=adapt_Make S U L LU m.name n.name
 have MR:=ref15_Make S U L LU m.name n.name
 have pl : ∀ y ∈ (makeR S U m.name n.name).1,y.length ≤ 1000000000000000:=fun y hy=>by
  unfold makeR at hy
  split at hy
  ·split at hy
   ·have hy : y ∈ makeP S U 101 0 [⟨m.name,n.name⟩]:=hy
    have:=makeP_lenM S U 101 0 _ y hy
    omega
   ·cases hy
  ·cases hy
 generalize (makeR S U m.name n.name).1 = P at *
 generalize (makeR S U m.name n.name).2 = er at *
 have CT:=law00_Tree x hlt
 have R1:=interp_Run P x hlt
 have R2:=ref16_Run P x hlt pl
 have S1:=same_of (ref09_Same (runP P x).1 (runP P x).1 (runP_lens hlt)) rfl
 generalize (runP P x).1 = z at *
 generalize (runP P x).2 = e at *
 generalize IntKind.wrap .i64 ((lookP P x : Nat) : Int) = w at *
 simp only [encSc,encTr_eq x,encTr_eq z] at SC SU MK MR CT R1 R2 S1
 have ee : (e == e) = true:=by simp
 have nn : (er != er) = false:=by simp
 refine AW.dT mixed (by rfl) (by decide +kernel) fun K hK=>?_
 simp -implicitDefEqProofs only [go_sem,↓reduceIte,Nat.reduceAdd,Nat.reduceEqDiff,reduceCtorEq,List.length_map]
 refine ⟨.pure _,CP,?_⟩
 try simp -implicitDefEqProofs only [go_sem,↓reduceIte,Nat.reduceAdd,Nat.reduceEqDiff,reduceCtorEq,hm1,hm2',hm3,encMs,List.length_map]
 refine ⟨.pure _,CQ,?_⟩
 try simp -implicitDefEqProofs only [go_sem,↓reduceIte,Nat.reduceAdd,Nat.reduceEqDiff,hn1,hn2',hn3,encMs,List.length_map]
 refine ⟨by decide +kernel,?_⟩
 apply hK;clear hK K
 refine AW.dT mixed (by rfl) (by decide +kernel) fun K hK=>?_
 simp -implicitDefEqProofs only [go_sem,↓reduceIte,Nat.reduceAdd,Nat.reduceEqDiff,Nat.reduceLeDiff,reduceCtorEq]
 refine ⟨.pure _,SC,?_⟩
 try simp -implicitDefEqProofs only [go_sem,↓reduceIte,Nat.reduceAdd,Nat.reduceEqDiff,Nat.reduceLeDiff]
 refine ⟨.pure _,SU,?_⟩
 try simp -implicitDefEqProofs only [go_sem,↓reduceIte,Nat.reduceAdd,Nat.reduceEqDiff]
 refine ⟨.pure _,MK,?_⟩
 try simp -implicitDefEqProofs only [go_sem,↓reduceIte,Nat.reduceAdd,Nat.reduceEqDiff,Nat.reduceLeDiff]
 refine ⟨by decide +kernel,?_⟩
 apply hK;clear hK K
 refine AW.rT (by rfl) fun K hK=>?_
 simp -implicitDefEqProofs only [go_sem,↓reduceIte,Nat.reduceAdd,Nat.reduceEqDiff,Nat.reduceLeDiff,reduceCtorEq]
 refine ⟨.pure _,MR,?_⟩
 try simp -implicitDefEqProofs only [go_sem,↓reduceIte,Nat.reduceAdd,Nat.reduceEqDiff]
 apply hK;clear hK K
 refine AW.seq ?_
 refine AW.rT (by rfl) fun K hK=>?_
 simp -implicitDefEqProofs only [go_sem,↓reduceIte,Nat.reduceAdd,Nat.reduceEqDiff,nn]
 apply hK;clear hK K
 refine AW.cF rfl ?_
 refine AW.skip ?_
 simp only [andThen]
 refine AW.dT mixed (by rfl) (by decide +kernel) fun K hK=>?_
 simp -implicitDefEqProofs only [go_sem,↓reduceIte,Nat.reduceAdd,Nat.reduceEqDiff,Nat.reduceLeDiff]
 refine ⟨.pure _,CT,?_⟩
 try simp -implicitDefEqProofs only [go_sem,↓reduceIte,Nat.reduceAdd,Nat.reduceEqDiff]
 refine ⟨.pure _,R1,?_⟩
 try simp -implicitDefEqProofs only [go_sem,↓reduceIte,Nat.reduceAdd,Nat.reduceEqDiff,Nat.reduceLeDiff]
 refine ⟨by decide +kernel,?_⟩
 apply hK;clear hK K
 refine AW.rT (by rfl) fun K hK=>?_
 simp -implicitDefEqProofs only [go_sem,↓reduceIte,Nat.reduceAdd,Nat.reduceEqDiff,Nat.reduceLeDiff]
 refine ⟨.pure _,R2,?_⟩
 try simp -implicitDefEqProofs only [go_sem,↓reduceIte,Nat.reduceAdd,Nat.reduceEqDiff,Nat.reduceLeDiff]
 apply hK;clear hK K
 refine AW.rT (by rfl) fun K hK=>?_
 simp -implicitDefEqProofs only [go_sem,↓reduceIte,Nat.reduceAdd,Nat.reduceEqDiff,Nat.reduceLeDiff]
 refine ⟨.pure _,S1,?_⟩
 try simp -implicitDefEqProofs only [go_sem,↓reduceIte,Nat.reduceAdd,Nat.reduceEqDiff,ee]
 refine ⟨.pure _,law16_awake,?_⟩
 try simp -implicitDefEqProofs only [go_sem,↓reduceIte,Nat.reduceAdd,Nat.reduceEqDiff]
 apply hK;clear hK K
 refine AW.ret ?_
 simp -implicitDefEqProofs only [go_sem]
end Go.Aw.T
namespace Go.Aw.T
open Go.RowKit Go.ChangeShapes
open Go.Proofs
variable {P : Program} {w : World}
def OpnB (B : Nat → Prop) (P : Program) (w : World) (t : TypeId) {α : Type} (e : α → List PV) (G : α → Prop) : Prop :=
 (∀ a,∀ p ∈ e a,p.one = true) ∧ ∀ (H : Type) (enc : TypeId × Value → H) (fuel : Nat),B fuel → ∀ (cs : List Value) (d : DataW H × List MemPlace),DataW.trod enc P w 0 (fun _=>true) true fuel t cs = some d →
  ∃ a,G a ∧ cs.length = (e a).length ∧ ∀ (j : Nat) u p,cs[j]? = some u → (e a)[j]? = some p → rep w (old w) u p
theorem OpnB.mapG {B : Nat → Prop} {t : TypeId} {α β : Type} {e : α → List PV} {G : α → Prop} {e' : β → List PV} {G' : β → Prop} (h : OpnB B P w t e G) (f : α → β) (he : ∀ a,e' (f a) = e a) (h1 : ∀ b,∀ p ∈ e' b,p.one = true) (hg : ∀ a,G a → G' (f a)) : OpnB B P w t e' G':=by
 refine ⟨h1,fun H enc fuel hB cs d hd=>?_⟩
 obtain ⟨a,g,l,r⟩:=h.2 H enc fuel hB cs d hd
 exact ⟨f a,hg a g,by rw [he]; exact l,by rw [he]; exact r⟩
theorem OpnB.mono {B B' : Nat → Prop} {t : TypeId} {α : Type} {e : α → List PV} {G : α → Prop} (h : OpnB B P w t e G) (hb : ∀ n,B' n → B n) : OpnB B' P w t e G:=⟨h.1,fun H enc fuel hB cs d hd=>h.2 H enc fuel (hb _ hB) cs d hd⟩
theorem Opn.toB {B : Nat → Prop} {t : TypeId} {α : Type} {e : α → List PV} {G : α → Prop} (h : Opn P w t e G) : OpnB B P w t e G:=⟨h.1,fun H enc fuel _ cs d hd=>h.2 H enc fuel cs d hd⟩
theorem opn_of_B {t : TypeId} {α : Type} {e : α → List PV} {G : α → Prop} (h : ∀ N,OpnB (fun n=>n < N) P w t e G) : Opn P w t e G:=⟨(h 0).1,fun H enc fuel cs d hd=>(h (fuel + 1)).2 H enc fuel (Nat.lt_succ_self _) cs d hd⟩
theorem opnB_slice {B : Nat → Prop} {t te : TypeId} {sz : Nat} {α : Type} {e : α → List PV} {G : α → Prop} (hu : P.underlying t = some (.slice te)) (hz : P.cellsOf te = sz) (hp : 0 < sz) (h : OpnB (fun n=>B (n + 1)) P w te e G) (hs : ∀ a,(e a).length = sz) :
  OpnB B P w t (fun l : List α=>[.slice (l.map e)]) (fun l=>l.length ≤ maxLen ∧ ∀ a ∈ l,G a):=by
 refine ⟨fun a p hp=>by simp at hp; subst hp; rfl,fun H enc fuel hB cs d hd=>?_⟩
 have one : ∀ (v : Value) (l : List α),rep w (old w) v (.slice (l.map e)) → ∀ (j : Nat) u p,[v][j]? = some u → ([PV.slice (l.map e)])[j]? = some p → rep w (old w) u p:=by
  intro v l hr j u p h1 h2
  cases j with
  | zero=>simp at h1 h2; subst h1; subst h2; exact hr
  | succ j=>simp at h1
 cases fuel with
 | zero=>simp [DataW.trod] at hd
 | succ n =>
  unfold DataW.trod at hd
  rw [hu] at hd
  split at hd <;> rename_i hh <;> try (cases hh; done)
  all_goals try cases hh
  ·exact ⟨[],⟨by simp,by simp⟩,rfl,one _ [] (.empty _ _)⟩
  ·rename_i a len cap
   dsimp only at hd
   split at hd
   ·rename_i hc
    obtain ⟨_,hlc,hcm⟩:=hc
    simp only [Option.bind_eq_some_iff] at hd
    obtain ⟨els,he,_⟩:=hd
    obtain ⟨hl,hg⟩:=mapM_get he
    have each : ∀ i,i < len → ∃ x : List Value × α,w.cells? 0 (a.add (i * sz)) sz = some x.1 ∧ G x.2 ∧ x.1.length = (e x.2).length ∧ ∀ (j : Nat) u p,x.1[j]? = some u → (e x.2)[j]? = some p → rep w (old w) u p:=by
     intro i hi
     obtain ⟨y,_,hy⟩:=hg i i (by simp [hi])
     obtain ⟨c,hc1,hc2⟩:=Option.bind_eq_some_iff.1 hy
     rw [hz] at hc1
     obtain ⟨b,g,l,r⟩:=h.2 H enc n hB c y hc2
     exact ⟨(c,b),hc1,g,l,r⟩
    obtain ⟨xs,hxl,hx⟩:=list_choose len each
    have hgl : (xs.map (·.2)).length ≤ maxLen ∧ ∀ b ∈ xs.map (·.2),G b:=by
     refine ⟨by rw [List.length_map,hxl]; exact Nat.le_trans hlc hcm,fun b hb=>?_⟩
     obtain ⟨x,hx1,rfl⟩:=List.mem_map.1 hb
     obtain ⟨i,hi⟩:=List.getElem?_of_mem hx1
     exact (hx i x hi).2.1
    refine ⟨xs.map (·.2),hgl,rfl,one _ _ ?_⟩
    rcases Nat.eq_zero_or_pos len with h0 | h0
    ·subst h0
     have : xs = []:=List.eq_nil_of_length_eq_zero hxl
     subst this
     exact .empty _ _
    ·obtain ⟨x0,hx0⟩ : ∃ x,xs[0]? = some x:=⟨_,List.getElem?_eq_getElem (by omega)⟩
     obtain ⟨c0,_,l0,_⟩:=hx 0 x0 hx0
     obtain ⟨_,cl0,cg0⟩:=World.cells?_some c0
     have q0:=cg0 0 hp
     rw [Nat.zero_mul] at q0
     have hadd : (a.add 0).add 0 = a:=by simp [Addr.add]
     rw [hadd,List.getElem?_eq_getElem (by omega)] at q0
     have hsp : a.spot = none ∧ a.block < w.heap.size:=by
      unfold World.cell? at q0
      split at q0
      ·rename_i hb
       split at q0
       ·cases q0
       ·rename_i hs'
        refine ⟨by simpa using hs',?_⟩
        rcases Nat.lt_or_ge a.block w.heap.size with h' | h'
        ·exact h'
        ·rw [Array.getElem?_eq_none h'] at hb; cases hb
      ·cases q0
     obtain ⟨b,o,sp⟩:=a
     obtain ⟨hsp,hbl⟩:=hsp
     dsimp only at hsp hbl
     subst hsp
     refine rep.slice (I:=old w) b o len cap sz ((xs.map (·.2)).map e) (fun i j=>((xs.getD i ([],x0.2)).1.getD j .nilIface)) (by simp [hxl]) hlc ?_ hbl ?_ ?_ ?_
     ·intro x hx
      simp only [List.map_map,List.mem_map] at hx
      obtain ⟨y,_,rfl⟩:=hx
      exact hs _
     ·intro x hx p hp'
      simp only [List.map_map,List.mem_map] at hx
      obtain ⟨y,_,rfl⟩:=hx
      exact h.1 _ _ hp'
     ·intro i x j p hi hj
      simp only [List.map_map,List.getElem?_map,Option.map_eq_some_iff] at hi
      obtain ⟨y,hy,rfl⟩:=hi
      obtain ⟨c1,_,l1,r1⟩:=hx i y hy
      obtain ⟨_,cl1,cg1⟩:=World.cells?_some c1
      have hjl : j < sz:=by rw [← hs y.2]; exact (List.getElem?_eq_some_iff.1 hj).1
      have:=cg1 j hjl
      have ea : ((⟨b,o,none⟩ : Addr).add (i * sz)).add j = ⟨b,o + (i * sz + j),none⟩:=by
       unfold Addr.add
       repeat' split
       all_goals simp <;> omega
      rw [ea,List.getElem?_eq_getElem (by omega)] at this
      rw [this]
      simp [List.getD,hy,List.getElem?_eq_getElem (show j < y.1.length by omega)]
     ·intro i x j p hi hj
      simp only [List.map_map,List.getElem?_map,Option.map_eq_some_iff] at hi
      obtain ⟨y,hy,rfl⟩:=hi
      obtain ⟨c1,_,l1,r1⟩:=hx i y hy
      obtain ⟨_,cl1,cg1⟩:=World.cells?_some c1
      have hjl : j < sz:=by rw [← hs y.2]; exact (List.getElem?_eq_some_iff.1 hj).1
      refine r1 j _ p ?_ hj
      simp [List.getD,hy,List.getElem?_eq_getElem (show j < y.1.length by omega)]
   ·cases hd
  all_goals cases hd
def OpnFB (B : Nat → Prop) (P : Program) (w : World) (off : Nat) (fs : List Field) {α : Type} (e : α → List PV) (G : α → Prop) : Prop :=
 (∀ a,∀ p ∈ e a,p.one = true) ∧ (∀ a,(e a).length = (fs.map fun f=>P.cellsOf f.type).sum) ∧ ∀ (H : Type) (enc : TypeId × Value → H) (n : Nat),B n → ∀ (cs : List Value) (xs : List (DataW H × List MemPlace)),
  fs.mapM (fun f=>DataW.trod enc P w 0 (fun _=>true) true n f.type ((cs.drop f.offset).take (P.cellsOf f.type))) = some xs →
  ∃ a,G a ∧ ∀ (j : Nat) u p,cs[off + j]? = some u → (e a)[j]? = some p → rep w (old w) u p
theorem opnFB_nil {B : Nat → Prop} {off : Nat} : OpnFB B P w off [] (fun _ : Unit=>[]) (fun _=>True) :=
 ⟨fun a p hp=>by simp at hp,fun a=>rfl,fun H enc n hB cs xs h=>⟨(),trivial,fun j u p h1 h2=>by simp at h2⟩⟩
theorem opnFB_cons {B : Nat → Prop} {off sz : Nat} {f : Field} {fs : List Field} {α β : Type} {e : α → List PV} {G : α → Prop} {e' : β → List PV} {G' : β → Prop} (ho : f.offset = off) (hz : P.cellsOf f.type = sz) (h : OpnB B P w f.type e G) (hs : ∀ a,(e a).length = sz) (h' : OpnFB B P w (off + sz) fs e' G') :
  OpnFB B P w off (f :: fs) (fun x : α × β=>e x.1 ++ e' x.2) (fun x=>G x.1 ∧ G' x.2):=by
 refine ⟨fun a p hp=>?_,fun a=>by simp [hs,hz,h'.2.1],fun H enc n hB cs xs hx=>?_⟩
 ·rcases List.mem_append.1 hp with hp | hp
  ·exact h.1 _ _ hp
  ·exact h'.1 _ _ hp
 ·simp only [List.mapM_cons,Option.bind_eq_bind,Option.bind_eq_some_iff,Option.pure_def,Option.some.injEq] at hx
  obtain ⟨y,hy,ys,hys,rfl⟩:=hx
  obtain ⟨a,ga,la,ra⟩:=h.2 H enc n hB _ y hy
  obtain ⟨b,gb,rb⟩:=h'.2.2 H enc n hB cs ys hys
  refine ⟨(a,b),⟨ga,gb⟩,fun j u p h1 h2=>?_⟩
  rcases Nat.lt_or_ge j sz with hj | hj
  ·rw [List.getElem?_append_left (by rw [hs]; exact hj)] at h2
   refine ra j u p ?_ h2
   rw [ho,hz,List.getElem?_take,if_pos hj,List.getElem?_drop]
   exact h1
  ·rw [List.getElem?_append_right (by rw [hs]; exact hj),hs] at h2
   exact rb (j - sz) u p (by rw [← h1]; congr 1; omega) h2
theorem opnB_struct {B : Nat → Prop} {t : TypeId} {fs : Array Field} {α : Type} {e : α → List PV} {G : α → Prop} (hu : P.underlying t = some (.struct fs)) (hz : P.cellsOf t = (fs.toList.map fun f=>P.cellsOf f.type).sum) (h : OpnFB (fun n=>B (n + 1)) P w 0 fs.toList e G) : OpnB B P w t e G:=by
 refine ⟨h.1,fun H enc fuel hB cs d hd=>?_⟩
 cases fuel with
 | zero=>simp [DataW.trod] at hd
 | succ n =>
  unfold DataW.trod at hd
  rw [hu] at hd
  split at hd <;> rename_i hh <;> try (cases hh; done)
  all_goals try cases hh
  all_goals try (cases hd; done)
  all_goals
   split at hd
   ·rename_i hl
    obtain ⟨xs,hx,_⟩:=Option.map_eq_some_iff.1 hd
    obtain ⟨a,ga,ra⟩:=h.2.2 H enc n hB _ xs hx
    exact ⟨a,ga,by rw [hl,hz,h.2.1],fun j u p h1 h2=>ra j u p (by rw [Nat.zero_add]; exact h1) h2⟩
   ·cases hd
inductive okTr : Tr → Prop
 | mk (k n : Int) (s : List UInt8) (es : List (Int × List Tr)) (rest : List Raw) : i64ok k → i64ok n → strOK s → es.length ≤ maxLen → (∀ e ∈ es,i64ok e.1) → (∀ e ∈ es,e.2.length ≤ maxLen) → (∀ e ∈ es,∀ x ∈ e.2,okTr x) → rest.length ≤ maxLen → (∀ r ∈ rest,rawOK r) → okTr (.mk k n s es rest)
theorem opn_tree (W : World) : Opn Tryz.prog W 30 encTr okTr:=by
 refine opn_of_B fun N=>?_
 induction N with
 | zero=>exact ⟨fun a p hp=>by rw [encTr_eq] at hp; simp at hp; rcases hp with rfl | rfl | rfl | rfl | rfl <;> rfl,fun H enc fuel hB=>absurd hB (Nat.not_lt_zero _)⟩
 | succ N ih => 
  have i3 : ∀ B : Nat → Prop,OpnB B Tryz.prog W 3 (fun n : Int=>[.int .i64 n]) i64ok:=fun B=>Opn.toB (opn_i64 W)
  have s9 : ∀ B : Nat → Prop,OpnB B Tryz.prog W 9 (fun s : List UInt8=>[.str s]) strOK:=fun B=>Opn.toB (opn_str Tryz.underlying9)
  have r22 : ∀ B : Nat → Prop,OpnB B Tryz.prog W 28 (fun l : List Raw=>[.slice (l.map encRaw)]) (fun l=>l.length ≤ maxLen ∧ ∀ a ∈ l,rawOK a):=fun B=>Opn.toB (opn_raws W)
  have c3 : Tryz.prog.cellsOf 3 = 1:=by kernel_rfl
  have c9 : Tryz.prog.cellsOf 9 = 1:=by kernel_rfl
  have c22 : Tryz.prog.cellsOf 28 = 1:=by kernel_rfl
  have c44 : Tryz.prog.cellsOf 27 = 1:=by kernel_rfl
  have c51 : Tryz.prog.cellsOf 74 = 1:=by kernel_rfl
  have ts : OpnB (fun n=>n + 1 + 1 + 1 < N + 1) Tryz.prog W 74 (fun l : List Tr=>[.slice (l.map encTr)]) (fun l=>l.length ≤ maxLen ∧ ∀ a ∈ l,okTr a) :=
   opnB_slice (sz:=5) Tryz.underlying74 (by kernel_rfl) (by decide) (ih.mono fun n h=>by omega) (fun a=>by rw [encTr_eq]; rfl)
  have en : OpnB (fun n=>n + 1 + 1 < N + 1) Tryz.prog W 76 encEn (fun e=>i64ok e.1 ∧ e.2.length ≤ maxLen ∧ ∀ a ∈ e.2,okTr a):=by
   refine OpnB.mapG (G:=fun x : Int × List Tr × Unit=>i64ok x.1 ∧ (x.2.1.length ≤ maxLen ∧ ∀ a ∈ x.2.1,okTr a) ∧ True) (opnB_struct Tryz.underlying76 (by kernel_rfl) ?_) (fun x : Int × List Tr × Unit=>((x.1,x.2.1) : Int × List Tr)) (fun a=>rfl) (fun b p hp=>by simp [encEn] at hp; rcases hp with rfl | rfl <;> rfl) (fun a h=>⟨h.1,h.2.1.1,h.2.1.2⟩)
   have f1 := opnFB_cons (B := fun n => n + 1 + 1 + 1 < N + 1) (P := Tryz.prog) (w := W) (off := 1) (f := { name := "Trees", type := 74, offset := 1, embedded := false, tag := "", pkgPath := "", byteOffset := 8 }) rfl c51 ts (fun _ => rfl) opnFB_nil
   have f0 := opnFB_cons (B := fun n => n + 1 + 1 + 1 < N + 1) (P := Tryz.prog) (w := W) (off := 0) (f := { name := "Tag", type := 3, offset := 0, embedded := false, tag := "", pkgPath := "", byteOffset := 0 }) rfl c3 (i3 _) (fun _ => rfl) f1
   exact f0
  have es : OpnB (fun n=>n + 1 < N + 1) Tryz.prog W 27 (fun l : List (Int × List Tr)=>[.slice (l.map encEn)]) (fun l=>l.length ≤ maxLen ∧ ∀ e ∈ l,i64ok e.1 ∧ e.2.length ≤ maxLen ∧ ∀ a ∈ e.2,okTr a) :=
   opnB_slice (sz:=2) Tryz.underlying27 (by kernel_rfl) (by decide) en (fun a=>rfl)
  refine OpnB.mapG (G:=fun x : Int × Int × List UInt8 × List (Int × List Tr) × List Raw × Unit=>i64ok x.1 ∧ i64ok x.2.1 ∧ strOK x.2.2.1 ∧ (x.2.2.2.1.length ≤ maxLen ∧ ∀ e ∈ x.2.2.2.1,i64ok e.1 ∧ e.2.length ≤ maxLen ∧ ∀ a ∈ e.2,okTr a) ∧ (x.2.2.2.2.1.length ≤ maxLen ∧ ∀ a ∈ x.2.2.2.2.1,rawOK a) ∧ True) (opnB_struct Tryz.underlying30 (by kernel_rfl) ?_)
   (fun x : Int × Int × List UInt8 × List (Int × List Tr) × List Raw × Unit=>Tr.mk x.1 x.2.1 x.2.2.1 x.2.2.2.1 x.2.2.2.2.1) (fun a=>encTr_eq _) (fun b p hp=>by rw [encTr_eq] at hp; simp at hp; rcases hp with rfl | rfl | rfl | rfl | rfl <;> rfl) ?_
  ·have f4 := opnFB_cons (B := fun n => n + 1 < N + 1) (P := Tryz.prog) (w := W) (off := 4) (f := { name := "Rest", type := 28, offset := 4, embedded := false, tag := "", pkgPath := "", byteOffset := 56 }) rfl c22 (r22 _) (fun _ => rfl) opnFB_nil
   have f3 := opnFB_cons (B := fun n => n + 1 < N + 1) (P := Tryz.prog) (w := W) (off := 3) (f := { name := "Entries", type := 27, offset := 3, embedded := false, tag := "", pkgPath := "", byteOffset := 32 }) rfl c44 es (fun _ => rfl) f4
   have f2 := opnFB_cons (B := fun n => n + 1 < N + 1) (P := Tryz.prog) (w := W) (off := 2) (f := { name := "S", type := 9, offset := 2, embedded := false, tag := "", pkgPath := "", byteOffset := 16 }) rfl c9 (s9 _) (fun _ => rfl) f3
   have f1 := opnFB_cons (B := fun n => n + 1 < N + 1) (P := Tryz.prog) (w := W) (off := 1) (f := { name := "N", type := 3, offset := 1, embedded := false, tag := "", pkgPath := "", byteOffset := 8 }) rfl c3 (i3 _) (fun _ => rfl) f2
   have f0 := opnFB_cons (B := fun n => n + 1 < N + 1) (P := Tryz.prog) (w := W) (off := 0) (f := { name := "Kind", type := 3, offset := 0, embedded := false, tag := "", pkgPath := "", byteOffset := 0 }) rfl c3 (i3 _) (fun _ => rfl) f1
   exact f0
  ·intro x h
   obtain ⟨h1,h2,h3,⟨h4,h5⟩,⟨h6,h7⟩,_⟩:=h
   exact .mk _ _ _ _ _ h1 h2 h3 h4 (fun e he=>(h5 e he).1) (fun e he=>(h5 e he).2.1) (fun e he=>(h5 e he).2.2) h6 h7
end Go.Aw.T
namespace Go.Aw.T
open Go.Proofs Go.RowKit Go.ChangeShapes
end Go.Aw.T
