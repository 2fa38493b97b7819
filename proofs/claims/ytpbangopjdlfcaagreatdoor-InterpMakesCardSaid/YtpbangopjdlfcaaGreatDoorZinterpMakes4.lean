/- What the law LawInterpMakes leans on, joined (part 4). -/
import Derived.Test.YtpbangopjdlfcaaGreatDoorZinterpMakes3
set_option linter.unusedSimpArgs false
set_option linter.unusedVariables false
set_option maxRecDepth 100000
set_option maxHeartbeats 8000000
namespace Go.Aw
open Go.Proofs
theorem w32 {n : Int} (h : -2147483648 ≤ n) (h' : n < 2147483648) : IntKind.wrap .i32 n = n:=by
 have e : (2 : Int) ^ 32 = 4294967296:=by decide
 have e' : (2 : Int) ^ (32 - 1) = 2147483648:=by decide
 simp only [IntKind.wrap,IntKind.bits,IntKind.signed,e,e',Bool.true_and,decide_eq_true_eq]
 split <;> omega
theorem bkI (s : List UInt8) (p : Nat) : (((s.getD p 0).toNat : Nat) : Int) = (bk s p : Int):=rfl
def tailN (s : List UInt8) (q : Nat) : Int:=if good s q then (bk s q : Int) - 128 else -1
theorem ref01_tail (s : List UInt8) (q : Nat) : PFn Tryz.prog 72 [.str s,.int .i64 (q : Int)] (.int .i64 (tailN s q)):=by
 refine PFn.of Tryz.func72 rfl (by decide) Tryz.ntmps72 Tryz.results72 (Nat.le_of_ble_eq_true rfl) ?_
 simp only [argsT]
 refine AW.rT (by rfl) fun K hK=>?_
 simp -implicitDefEqProofs only [go_sem]
 apply hK;clear hK K
 refine AW.seq ?_
 have hlt:=bk_lt s q
 by_cases h1 : q < s.length
 case neg =>
  have f1 : ((q : Int) ≥ (s.length : Int)) = True:=eq_true (by omega)
  have e : tailN s q = -1:=if_neg (fun h=>h1 h.1)
  refine AW.rT (by rfl) fun K hK=>?_
  simp -implicitDefEqProofs only [go_sem,↓reduceIte,Nat.reduceAdd,Nat.reduceEqDiff,reduceCtorEq,f1]
  apply hK;clear hK K
  refine AW.cT rfl ?_
  refine AW.rT (by rfl) fun K hK=>?_
  simp -implicitDefEqProofs only [go_sem,Nat.reduceAdd]
  apply hK;clear hK K
  refine AW.ret ?_
  simp -implicitDefEqProofs only [go_sem,e]
 have f1 : ((q : Int) ≥ (s.length : Int)) = False:=eq_false (by omega)
 have g1 : 0 ≤ (q : Int):=by omega
 have g2 : (q : Int) < (s.length : Int):=by omega
 by_cases h2 : bk s q < 128
 ·have f2 : ((bk s q : Int) < 128) = True:=eq_true (by omega)
  have e : tailN s q = -1:=if_neg (fun h=>by have:=h.2.1; omega)
  refine AW.rT (by rfl) fun K hK=>?_
  simp -implicitDefEqProofs only [go_sem,↓reduceIte,Nat.reduceAdd,Nat.reduceEqDiff,reduceCtorEq,f1,f2,g1,g2,bkI]
  apply hK;clear hK K
  refine AW.cT rfl ?_
  refine AW.rT (by rfl) fun K hK=>?_
  simp -implicitDefEqProofs only [go_sem,Nat.reduceAdd]
  apply hK;clear hK K
  refine AW.ret ?_
  simp -implicitDefEqProofs only [go_sem,e]
 have f2 : ((bk s q : Int) < 128) = False:=eq_false (by omega)
 by_cases h3 : bk s q > 191
 ·have f3 : ((bk s q : Int) > 191) = True:=eq_true (by omega)
  have e : tailN s q = -1:=if_neg (fun h=>by have:=h.2.2; omega)
  refine AW.rT (by rfl) fun K hK=>?_
  simp -implicitDefEqProofs only [go_sem,↓reduceIte,Nat.reduceAdd,Nat.reduceEqDiff,reduceCtorEq,f1,f2,f3,g1,g2,bkI]
  apply hK;clear hK K
  refine AW.cT rfl ?_
  refine AW.rT (by rfl) fun K hK=>?_
  simp -implicitDefEqProofs only [go_sem,Nat.reduceAdd]
  apply hK;clear hK K
  refine AW.ret ?_
  simp -implicitDefEqProofs only [go_sem,e]
 have f3 : ((bk s q : Int) > 191) = False:=eq_false (by omega)
 have e : tailN s q = (bk s q : Int) - 128:=if_pos ⟨h1,by omega,by omega⟩
 refine AW.rT (by rfl) fun K hK=>?_
 simp -implicitDefEqProofs only [go_sem,↓reduceIte,Nat.reduceAdd,Nat.reduceEqDiff,reduceCtorEq,f1,f2,f3,g1,g2,bkI]
 apply hK;clear hK K
 refine AW.cF rfl ?_
 refine AW.skip ?_
 simp only [andThen]
 have v1 : IntKind.wrap .i64 (bk s q : Int) = (bk s q : Int):=by rw [w64] <;> omega
 have v2 : IntKind.wrap .i64 ((bk s q : Int) - 128) = (bk s q : Int) - 128:=by rw [w64] <;> omega
 refine AW.rT (by rfl) fun K hK=>?_
 simp -implicitDefEqProofs only [go_sem,↓reduceIte,Nat.reduceAdd,Nat.reduceEqDiff,reduceCtorEq,g1,g2,bkI,v1,v2]
 apply hK;clear hK K
 refine AW.ret ?_
 simp -implicitDefEqProofs only [go_sem,e]
theorem vN_small {s : List UInt8} {p : Nat} {v : Int} (h0 : 0 ≤ v) (h1 : v < 32) {k : Nat} (hk : k ≤ 3) (h : ∀ j,1 ≤ j → j ≤ k → good s (p + j)) : 0 ≤ vN s p v k ∧ vN s p v k < 8388608:=by
 have b:=vN_bound h0 h1 k h
 have : (64 : Int) ^ k ≤ 64 ^ 3:=by
  match k,hk with
  | 0,_=>decide
  | 1,_=>decide
  | 2,_=>decide
  | 3,_=>decide
 have e : (64 : Int) ^ 3 = 262144:=by decide
 omega
theorem lead_bounds {b : Nat} (h : 192 ≤ b) (h' : b < 248) : 2 ≤ (leadN b).1 ∧ (leadN b).1 ≤ 4 ∧ 0 ≤ (leadN b).2.1 ∧ (leadN b).2.1 < 32 ∧ 0 ≤ (leadN b).2.2 ∧ (leadN b).2.2 ≤ 65536:=by
 unfold leadN
 repeat' split
 all_goals simp only
 all_goals omega
def nxS (s : List UInt8) (p : Nat) : St:=⟨ofL [(0,.p (.str s)),(1,.p (.int .i64 (p : Int))),(8,.p (.int .i64 ((leadN (bk s p)).1 : Int))),(9,.p (.int .i64 (leadN (bk s p)).2.1)),(10,.p (.int .i64 (leadN (bk s p)).2.2))],ofH [],0⟩
def nxL (s : List UInt8) (p k : Nat) : St:=⟨ofL [(0,.p (.str s)),(1,.p (.int .i64 (p : Int))),(8,.p (.int .i64 ((leadN (bk s p)).1 : Int))),(9,.p (.int .i64 (vN s p (leadN (bk s p)).2.1 k))),(10,.p (.int .i64 (leadN (bk s p)).2.2)),(11,.p (.int .i64 ((k + 1 : Nat) : Int)))],ofH [],0⟩
def nextT (s : List UInt8) (p : Nat) : PV:=.tuple [.int .i32 (resN (runeAt s p)).1,.int .i64 (resN (runeAt s p)).2.1,.bool (resN (runeAt s p)).2.2]
theorem ref01_Next (s : List UInt8) (p : Nat) (hp : p < s.length) (hl : s.length ≤ 1000000000) : PFn Tryz.prog 54 [.str s,.int .i64 (p : Int)] (nextT s p):=by
 refine PFn.of Tryz.func54 rfl (by decide) Tryz.ntmps54 Tryz.results54 (Nat.le_of_ble_eq_true rfl) ?_
 simp only [argsT,nextT]
 have hlt:=bk_lt s p
 have g0 : ((p : Int) < 0) = False:=eq_false (by omega)
 have g1 : 0 ≤ (p : Int):=by omega
 have g2 : (p : Int) < (s.length : Int):=by omega
 have g3 : ((p : Int) ≥ (s.length : Int)) = False:=eq_false (by omega)
 have v1 : IntKind.wrap .i64 (bk s p : Int) = (bk s p : Int):=by rw [w64] <;> omega
 have v2 : IntKind.wrap .i32 (bk s p : Int) = (bk s p : Int):=by rw [w32] <;> omega
 refine AW.rT (by rfl) fun K hK=>?_
 simp -implicitDefEqProofs only [go_sem,Nat.reduceAdd]
 apply hK;clear hK K
 refine AW.seq ?_
 refine AW.rT (by rfl) fun K hK=>?_
 simp -implicitDefEqProofs only [go_sem,↓reduceIte,Nat.reduceAdd,Nat.reduceEqDiff,reduceCtorEq,g0,g3]
 apply hK;clear hK K
 refine AW.cF rfl ?_
 refine AW.skip ?_
 simp only [andThen]
 refine AW.rT (by rfl) fun K hK=>?_
 simp -implicitDefEqProofs only [go_sem,↓reduceIte,Nat.reduceAdd,Nat.reduceEqDiff,reduceCtorEq,g1,g2,bkI,v1]
 apply hK;clear hK K
 refine AW.rT (by rfl) fun K hK=>?_
 simp -implicitDefEqProofs only [go_sem,↓reduceIte,Nat.reduceAdd,Nat.reduceEqDiff]
 apply hK;clear hK K
 refine AW.cut (fun _ : Unit=>nxS s p) (fun _=>192 ≤ bk s p ∧ bk s p < 248) ?_ fun _ hb=>?_
 ·refine AW.block ?_
  by_cases h1 : bk s p < 128
  ·have f1 : ((bk s p : Int) < 128) = True:=eq_true (by omega)
   have e:=next_ascii h1
   refine AW.rT (by rfl) fun K hK=>?_
   simp -implicitDefEqProofs only [go_sem,↓reduceIte,Nat.reduceAdd,Nat.reduceEqDiff,f1]
   apply hK;clear hK K
   refine AW.cT rfl ?_
   refine AW.rT (by rfl) fun K hK=>?_
   simp -implicitDefEqProofs only [go_sem,↓reduceIte,Nat.reduceAdd,Nat.reduceEqDiff,v2]
   apply hK;clear hK K
   refine AW.ret ?_
   simp -implicitDefEqProofs only [go_sem,↓reduceIte,Nat.reduceEqDiff,e]
  have f1 : ((bk s p : Int) < 128) = False:=eq_false (by omega)
  refine AW.rT (by rfl) fun K hK=>?_
  simp -implicitDefEqProofs only [go_sem,↓reduceIte,Nat.reduceAdd,Nat.reduceEqDiff,f1]
  apply hK;clear hK K
  refine AW.cF rfl ?_
  by_cases h2 : bk s p ≥ 192
  case neg =>
   have f2 : ((bk s p : Int) ≥ 192) = False:=eq_false (by omega)
   have f3 : ((bk s p : Int) ≥ 224) = False:=eq_false (by omega)
   have f4 : ((bk s p : Int) ≥ 240) = False:=eq_false (by omega)
   have e:=next_none (s:=s) (p:=p) (by omega) (.inl (by omega))
   refine AW.rT (by rfl) fun K hK=>?_
   simp -implicitDefEqProofs only [go_sem,↓reduceIte,Nat.reduceAdd,Nat.reduceEqDiff,f2]
   apply hK;clear hK K
   refine AW.cF rfl ?_
   refine AW.rT (by rfl) fun K hK=>?_
   simp -implicitDefEqProofs only [go_sem,↓reduceIte,Nat.reduceAdd,Nat.reduceEqDiff,f3]
   apply hK;clear hK K
   refine AW.cF rfl ?_
   refine AW.rT (by rfl) fun K hK=>?_
   simp -implicitDefEqProofs only [go_sem,↓reduceIte,Nat.reduceAdd,Nat.reduceEqDiff,f4]
   apply hK;clear hK K
   refine AW.cF rfl ?_
   refine AW.rT (by rfl) fun K hK=>?_
   simp -implicitDefEqProofs only [go_sem,Nat.reduceAdd]
   apply hK;clear hK K
   refine AW.ret ?_
   simp -implicitDefEqProofs only [go_sem,↓reduceIte,Nat.reduceEqDiff,e]
  have f2 : ((bk s p : Int) ≥ 192) = True:=eq_true (by omega)
  by_cases h3 : bk s p < 224
  ·have f3 : ((bk s p : Int) < 224) = True:=eq_true (by omega)
   have v3 : IntKind.wrap .i64 ((bk s p : Int) - 192) = (bk s p : Int) - 192:=by rw [w64] <;> omega
   have eL : leadN (bk s p) = (2,(bk s p : Int) - 192,128):=by unfold leadN; rw [if_pos h3]
   refine AW.rT (by rfl) fun K hK=>?_
   simp -implicitDefEqProofs only [go_sem,↓reduceIte,Nat.reduceAdd,Nat.reduceEqDiff,f2,f3]
   apply hK;clear hK K
   refine AW.cT rfl ?_
   refine AW.rE (by rfl) fun K hK=>?_
   simp -implicitDefEqProofs only [go_sem,↓reduceIte,Nat.reduceAdd,Nat.reduceEqDiff,v3]
   apply hK;clear hK K
   simp only [andThen,inBlk]
   refine ⟨(),⟨by omega,by omega⟩,?_⟩
   simp only [nxS]
   refine Ghost.sub ?_ ?_ <;> simp -implicitDefEqProofs only [go_sem,↓reduceIte,Nat.reduceEqDiff,reduceCtorEq,eL,List.forall_mem_cons,List.not_mem_nil,false_implies,implies_true,and_self,AV.labsIn]
   rfl
  have f3 : ((bk s p : Int) < 224) = False:=eq_false (by omega)
  have f4 : ((bk s p : Int) ≥ 224) = True:=eq_true (by omega)
  refine AW.rT (by rfl) fun K hK=>?_
  simp -implicitDefEqProofs only [go_sem,↓reduceIte,Nat.reduceAdd,Nat.reduceEqDiff,f2,f3]
  apply hK;clear hK K
  refine AW.cF rfl ?_
  by_cases h4 : bk s p < 240
  ·have f5 : ((bk s p : Int) < 240) = True:=eq_true (by omega)
   have v3 : IntKind.wrap .i64 ((bk s p : Int) - 224) = (bk s p : Int) - 224:=by rw [w64] <;> omega
   have eL : leadN (bk s p) = (3,(bk s p : Int) - 224,2048):=by unfold leadN; rw [if_neg h3,if_pos h4]
   refine AW.rT (by rfl) fun K hK=>?_
   simp -implicitDefEqProofs only [go_sem,↓reduceIte,Nat.reduceAdd,Nat.reduceEqDiff,f4,f5]
   apply hK;clear hK K
   refine AW.cT rfl ?_
   refine AW.rE (by rfl) fun K hK=>?_
   simp -implicitDefEqProofs only [go_sem,↓reduceIte,Nat.reduceAdd,Nat.reduceEqDiff,v3]
   apply hK;clear hK K
   simp only [andThen,inBlk]
   refine ⟨(),⟨by omega,by omega⟩,?_⟩
   simp only [nxS]
   refine Ghost.sub ?_ ?_ <;> simp -implicitDefEqProofs only [go_sem,↓reduceIte,Nat.reduceEqDiff,reduceCtorEq,eL,List.forall_mem_cons,List.not_mem_nil,false_implies,implies_true,and_self,AV.labsIn]
   rfl
  have f5 : ((bk s p : Int) < 240) = False:=eq_false (by omega)
  have f6 : ((bk s p : Int) ≥ 240) = True:=eq_true (by omega)
  refine AW.rT (by rfl) fun K hK=>?_
  simp -implicitDefEqProofs only [go_sem,↓reduceIte,Nat.reduceAdd,Nat.reduceEqDiff,f4,f5]
  apply hK;clear hK K
  refine AW.cF rfl ?_
  by_cases h5 : bk s p < 248
  ·have f7 : ((bk s p : Int) < 248) = True:=eq_true (by omega)
   have v3 : IntKind.wrap .i64 ((bk s p : Int) - 240) = (bk s p : Int) - 240:=by rw [w64] <;> omega
   have eL : leadN (bk s p) = (4,(bk s p : Int) - 240,65536):=by unfold leadN; rw [if_neg h3,if_neg h4]
   refine AW.rT (by rfl) fun K hK=>?_
   simp -implicitDefEqProofs only [go_sem,↓reduceIte,Nat.reduceAdd,Nat.reduceEqDiff,f6,f7]
   apply hK;clear hK K
   refine AW.cT rfl ?_
   refine AW.rE (by rfl) fun K hK=>?_
   simp -implicitDefEqProofs only [go_sem,↓reduceIte,Nat.reduceAdd,Nat.reduceEqDiff,v3]
   apply hK;clear hK K
   simp only [andThen,inBlk]
   refine ⟨(),⟨by omega,by omega⟩,?_⟩
   simp only [nxS]
   refine Ghost.sub ?_ ?_ <;> simp -implicitDefEqProofs only [go_sem,↓reduceIte,Nat.reduceEqDiff,reduceCtorEq,eL,List.forall_mem_cons,List.not_mem_nil,false_implies,implies_true,and_self,AV.labsIn]
   rfl
  ·have f7 : ((bk s p : Int) < 248) = False:=eq_false (by omega)
   have e:=next_none (s:=s) (p:=p) (by omega) (.inr (by omega))
   refine AW.rT (by rfl) fun K hK=>?_
   simp -implicitDefEqProofs only [go_sem,↓reduceIte,Nat.reduceAdd,Nat.reduceEqDiff,f6,f7]
   apply hK;clear hK K
   refine AW.cF rfl ?_
   refine AW.rT (by rfl) fun K hK=>?_
   simp -implicitDefEqProofs only [go_sem,Nat.reduceAdd]
   apply hK;clear hK K
   refine AW.ret ?_
   simp -implicitDefEqProofs only [go_sem,↓reduceIte,Nat.reduceEqDiff,e]
 simp only [nxS]
 obtain ⟨hb1,hb2⟩:=hb
 obtain ⟨n1,n2,n3,n4,n5,n6⟩:=lead_bounds hb1 hb2
 refine AW.seq ?_
 refine AW.rT (by rfl) fun K hK=>?_
 simp -implicitDefEqProofs only [go_sem]
 apply hK;clear hK K
 refine AW.block ?_
 refine AW.loop (nxL s p) (fun k=>k + 1 ≤ (leadN (bk s p)).1 ∧ ∀ j,1 ≤ j → j ≤ k → good s (p + j)) (fun k=>(leadN (bk s p)).1 - k) 0 ?_ ⟨by omega,fun j a b=>by omega⟩ fun k hk=>?_
 ·simp only [nxL,vN]
  refine Ghost.sub ?_ ?_ <;> simp -implicitDefEqProofs only [go_sem,↓reduceIte,Nat.reduceEqDiff,reduceCtorEq,List.forall_mem_cons,List.not_mem_nil,false_implies,implies_true,and_self,AV.labsIn]
  rfl
 obtain ⟨k1,k2⟩:=hk
 have vb:=vN_small (v:=(leadN (bk s p)).2.1) n3 n4 (k:=k) (by omega) k2
 simp only [nxL]
 refine AW.seq ?_
 by_cases hk : k + 1 < (leadN (bk s p)).1
 ·have c1 : (((k + 1 : Nat) : Int) < ((leadN (bk s p)).1 : Int)) = True:=eq_true (by omega)
  refine AW.rT (by rfl) fun K hK=>?_
  simp -implicitDefEqProofs only [go_sem,↓reduceIte,Nat.reduceAdd,Nat.reduceEqDiff,reduceCtorEq,c1]
  apply hK;clear hK K
  refine AW.cT rfl ?_
  refine AW.skip ?_
  simp only [andThen]
  refine AW.seq ?_
  refine AW.block ?_
  have v4 : IntKind.wrap .i64 ((p : Int) + ((k + 1 : Nat) : Int)) = ((p + (k + 1) : Nat) : Int):=by rw [w64] <;> omega
  refine AW.rT (by rfl) fun K hK=>?_
  simp -implicitDefEqProofs only [go_sem,↓reduceIte,Nat.reduceAdd,Nat.reduceEqDiff,reduceCtorEq,v4]
  refine ⟨.pure _,ref01_tail s (p + (k + 1)),?_⟩
  try simp -implicitDefEqProofs only [go_sem,Nat.reduceAdd]
  apply hK;clear hK K
  refine AW.seq ?_
  by_cases hg : good s (p + (k + 1))
  case neg =>
   have e : tailN s (p + (k + 1)) = -1:=if_neg hg
   have en:=next_bad hb1 hb2 (j:=k + 1) (by omega) hk hg
   have c2 : ((-1 : Int) < 0) = True:=by simp
   refine AW.rT (by rfl) fun K hK=>?_
   simp -implicitDefEqProofs only [go_sem,↓reduceIte,Nat.reduceAdd,e,c2]
   apply hK;clear hK K
   refine AW.cT rfl ?_
   refine AW.rT (by rfl) fun K hK=>?_
   simp -implicitDefEqProofs only [go_sem,Nat.reduceAdd]
   apply hK;clear hK K
   refine AW.ret ?_
   simp -implicitDefEqProofs only [go_sem,↓reduceIte,Nat.reduceEqDiff,en]
  have e : tailN s (p + (k + 1)) = (bk s (p + (k + 1)) : Int) - 128:=if_pos hg
  have hg' : p + (k + 1) < s.length ∧ 128 ≤ bk s (p + (k + 1)) ∧ bk s (p + (k + 1)) ≤ 191:=hg
  have c2 : ((bk s (p + (k + 1)) : Int) - 128 < 0) = False:=eq_false (by omega)
  have vb':=vN_small (v:=(leadN (bk s p)).2.1) n3 n4 (k:=k + 1) (by omega) (fun j a b=>by rcases Nat.lt_or_ge k j with h | h; (have : j = k + 1:=by omega); (subst this; exact hg); exact k2 j a h)
  have v5 : IntKind.wrap .i64 (64 * vN s p (leadN (bk s p)).2.1 k) = 64 * vN s p (leadN (bk s p)).2.1 k:=by rw [w64] <;> omega
  have v6 : IntKind.wrap .i64 (64 * vN s p (leadN (bk s p)).2.1 k + ((bk s (p + (k + 1)) : Int) - 128)) = vN s p (leadN (bk s p)).2.1 (k + 1):=by
   rw [w64] <;> simp only [vN] at vb' ⊢ <;> omega
  have v7 : IntKind.wrap .i64 (((k + 1 : Nat) : Int) + 1) = ((k + 1 + 1 : Nat) : Int):=by rw [w64] <;> omega
  refine AW.rT (by rfl) fun K hK=>?_
  simp -implicitDefEqProofs only [go_sem,↓reduceIte,Nat.reduceAdd,e,c2]
  apply hK;clear hK K
  refine AW.cF rfl ?_
  refine AW.skip ?_
  simp only [andThen]
  refine AW.rE (by rfl) fun K hK=>?_
  simp -implicitDefEqProofs only [go_sem,↓reduceIte,Nat.reduceAdd,Nat.reduceEqDiff,reduceCtorEq,v5,v6]
  apply hK;clear hK K
  simp only [andThen,inBlk]
  refine AW.rE (by rfl) fun K hK=>?_
  simp -implicitDefEqProofs only [go_sem,↓reduceIte,Nat.reduceAdd,Nat.reduceEqDiff,reduceCtorEq,v7]
  apply hK;clear hK K
  refine ⟨k + 1,⟨by omega,fun j a b=>by rcases Nat.lt_or_ge k j with h | h; (have : j = k + 1:=by omega); (subst this; exact hg); exact k2 j a h⟩,by omega,?_⟩
  refine Ghost.sub ?_ ?_ <;> simp -implicitDefEqProofs only [go_sem,↓reduceIte,Nat.reduceEqDiff,reduceCtorEq,List.forall_mem_cons,List.not_mem_nil,false_implies,implies_true,and_self,AV.labsIn]
 ·have c1 : (((k + 1 : Nat) : Int) < ((leadN (bk s p)).1 : Int)) = False:=eq_false (by omega)
  refine AW.rT (by rfl) fun K hK=>?_
  simp -implicitDefEqProofs only [go_sem,↓reduceIte,Nat.reduceAdd,Nat.reduceEqDiff,reduceCtorEq,c1]
  apply hK;clear hK K
  refine AW.cF rfl ?_
  refine AW.exit ?_
  simp only [andThen,inBlk,↓reduceIte]
  have ek : (leadN (bk s p)).1 - 1 = k:=by omega
  have en:=next_end hb1 hb2 (fun j a b=>k2 j a (by omega))
  rw [ek] at en
  refine AW.seq ?_
  generalize vN s p (leadN (bk s p)).2.1 k = v at *
  generalize (leadN (bk s p)).2.2 = lo at *
  by_cases d1 : v < lo
  ·rw [if_pos (.inl d1)] at en
   have f1 : (v < lo) = True:=eq_true d1
   refine AW.rT (by rfl) fun K hK=>?_
   simp -implicitDefEqProofs only [go_sem,↓reduceIte,Nat.reduceAdd,Nat.reduceEqDiff,reduceCtorEq,f1]
   apply hK;clear hK K
   refine AW.cT rfl ?_
   refine AW.rT (by rfl) fun K hK=>?_
   simp -implicitDefEqProofs only [go_sem,Nat.reduceAdd]
   apply hK;clear hK K
   refine AW.ret ?_
   simp -implicitDefEqProofs only [go_sem,↓reduceIte,Nat.reduceEqDiff,en]
  have f1 : (v < lo) = False:=eq_false d1
  by_cases d2 : v > 1114111
  ·rw [if_pos (.inr (.inl d2))] at en
   have f2 : (v > 1114111) = True:=eq_true d2
   refine AW.rT (by rfl) fun K hK=>?_
   simp -implicitDefEqProofs only [go_sem,↓reduceIte,Nat.reduceAdd,Nat.reduceEqDiff,reduceCtorEq,f1,f2]
   apply hK;clear hK K
   refine AW.cT rfl ?_
   refine AW.rT (by rfl) fun K hK=>?_
   simp -implicitDefEqProofs only [go_sem,Nat.reduceAdd]
   apply hK;clear hK K
   refine AW.ret ?_
   simp -implicitDefEqProofs only [go_sem,↓reduceIte,Nat.reduceEqDiff,en]
  have f2 : (v > 1114111) = False:=eq_false d2
  have v8 : IntKind.wrap .i32 v = v:=by rw [w32] <;> omega
  by_cases d3 : v ≥ 55296
  ·have f3 : (v ≥ 55296) = True:=eq_true d3
   by_cases d4 : v ≤ 57343
   ·rw [if_pos (.inr (.inr ⟨d3,d4⟩))] at en
    have f4 : (v ≤ 57343) = True:=eq_true d4
    refine AW.rT (by rfl) fun K hK=>?_
    simp -implicitDefEqProofs only [go_sem,↓reduceIte,Nat.reduceAdd,Nat.reduceEqDiff,reduceCtorEq,f1,f2,f3,f4]
    apply hK;clear hK K
    refine AW.cT rfl ?_
    refine AW.rT (by rfl) fun K hK=>?_
    simp -implicitDefEqProofs only [go_sem,Nat.reduceAdd]
    apply hK;clear hK K
    refine AW.ret ?_
    simp -implicitDefEqProofs only [go_sem,↓reduceIte,Nat.reduceEqDiff,en]
   ·rw [if_neg (by omega)] at en
    have f4 : (v ≤ 57343) = False:=eq_false d4
    refine AW.rT (by rfl) fun K hK=>?_
    simp -implicitDefEqProofs only [go_sem,↓reduceIte,Nat.reduceAdd,Nat.reduceEqDiff,reduceCtorEq,f1,f2,f3,f4]
    apply hK;clear hK K
    refine AW.cF rfl ?_
    refine AW.skip ?_
    simp only [andThen]
    refine AW.rT (by rfl) fun K hK=>?_
    simp -implicitDefEqProofs only [go_sem,↓reduceIte,Nat.reduceAdd,Nat.reduceEqDiff,reduceCtorEq,v8]
    apply hK;clear hK K
    refine AW.ret ?_
    simp -implicitDefEqProofs only [go_sem,↓reduceIte,Nat.reduceEqDiff,en]
  ·rw [if_neg (by omega)] at en
   have f3 : (v ≥ 55296) = False:=eq_false d3
   refine AW.rT (by rfl) fun K hK=>?_
   simp -implicitDefEqProofs only [go_sem,↓reduceIte,Nat.reduceAdd,Nat.reduceEqDiff,reduceCtorEq,f1,f2,f3]
   apply hK;clear hK K
   refine AW.cF rfl ?_
   refine AW.skip ?_
   simp only [andThen]
   refine AW.rT (by rfl) fun K hK=>?_
   simp -implicitDefEqProofs only [go_sem,↓reduceIte,Nat.reduceAdd,Nat.reduceEqDiff,reduceCtorEq,v8]
   apply hK;clear hK K
   refine AW.ret ?_
   simp -implicitDefEqProofs only [go_sem,↓reduceIte,Nat.reduceEqDiff,en]
end Go.Aw
namespace Go.Aw
open Go.Proofs Go.RowKit
theorem Fr.ofBelow {w w' : World} (h : Below w.heap.size w w') : Fr w (fun _=>False) w' :=
 ⟨h.os,h.tape,h.output,h.size,fun b hb _=>h.block b hb,fun b cur et p hb=>⟨cur,et,p,by
  rw [h.block b (Array.getElem?_eq_some_iff.1 hb).1]; exact hb,rfl⟩⟩
theorem utf8_decode (s : List UInt8) (h : s ≠ []) : PFn Tryz.prog 97 [.str s] (.tuple [.int .i32 ((runeAt s 0).1 : Int),.int .i64 ((runeAt s 0).2 : Int)]):=by
 refine ⟨by kernel_rfl,fun w I vals hs hr hI ht=>?_⟩
 have hs1 : vals.size = 1:=by rw [hs]; rfl
 have h0:=hr 0 _ _ (Array.getElem?_eq_getElem (by omega)) rfl
 have hv : vals = #[.string ⟨⟨s⟩⟩]:=by
  generalize e1 : vals[0] = v1 at h0
  cases h0
  apply Array.ext
  ·rw [hs1]; rfl
  ·intro i hi hi'
   have : i < 1:=by omega
   match i,this with
   | 0,_=>exact e1
 subst hv
 have hne : (⟨⟨s⟩⟩ : ByteArray).size ≠ 0:=by
  show s.length ≠ 0
  intro e
  exact h (List.length_eq_zero_iff.1 e)
 have e : Lib.decodeGo ⟨⟨s⟩⟩ = runeAt s 0:=by
  unfold Lib.decodeGo runeAt
  rw [if_neg hne]
 refine (Tryz.utf8_DecodeRuneInString ⟨⟨s⟩⟩ w ht.1).mono fun x w' ⟨he,hb⟩=>⟨_,he,Fr.ofBelow hb,?_⟩
 rw [e]
 refine .tuple rfl fun j u' q h1 h2=>?_
 match j,h1,h2 with
 | 0,h1,h2=>simp at h1 h2; subst h1; subst h2; exact .int _ _
 | 1,h1,h2=>simp at h1 h2; subst h1; subst h2; exact .int _ _
 | n + 2,h1,_=>simp at h1
theorem resN_cases (x : Nat × Nat) : (resN x = (0,0,false) ∧ x.1 = 65533 ∧ x.2 < 2) ∨ (resN x = ((x.1 : Int),(x.2 : Int),true) ∧ ¬ (x.1 = 65533 ∧ x.2 < 2)):=by
 unfold resN
 split
 ·rename_i h; exact .inl ⟨rfl,h⟩
 ·rename_i h; exact .inr ⟨rfl,h⟩
theorem runes_Next (s : List UInt8) (p : Nat) (hp : p < s.length) (hl : s.length ≤ 1000000000) : PFn Tryz.prog 89 [.str s,.int .i64 (p : Int)] (nextT s p):=by
 refine PFn.of Tryz.func89 rfl (by decide) Tryz.ntmps89 Tryz.results89 (Nat.le_of_ble_eq_true rfl) ?_
 simp only [argsT,nextT]
 have g0 : ((p : Int) < 0) = False:=eq_false (by omega)
 have g1 : 0 ≤ (p : Int):=by omega
 have g2 : (p : Int) ≤ (s.length : Int):=by omega
 have g3 : ((p : Int) ≥ (s.length : Int)) = False:=eq_false (by omega)
 have U:=utf8_decode (s.drop p) (by rw [Ne,List.drop_eq_nil_iff]; omega)
 rw [runeAt_drop] at U
 refine AW.rT (by rfl) fun K hK=>?_
 simp -implicitDefEqProofs only [go_sem,Nat.reduceAdd]
 apply hK;clear hK K
 refine AW.seq ?_
 refine AW.rT (by rfl) fun K hK=>?_
 simp -implicitDefEqProofs only [go_sem,↓reduceIte,Nat.reduceAdd,Nat.reduceEqDiff,reduceCtorEq,g0,g3]
 apply hK;clear hK K
 refine AW.cF rfl ?_
 refine AW.skip ?_
 simp only [andThen]
 refine AW.rT (by rfl) fun K hK=>?_
 simp -implicitDefEqProofs only [go_sem,↓reduceIte,Nat.reduceAdd,Nat.reduceEqDiff,reduceCtorEq,g1,g2,List.take_length,Int.le_refl]
 refine ⟨.pure _,U,?_⟩
 try simp -implicitDefEqProofs only [go_sem,↓reduceIte,Nat.reduceAdd,Nat.reduceEqDiff]
 apply hK;clear hK K
 refine AW.seq ?_
 generalize runeAt s p = x
 rcases resN_cases x with ⟨e,e1,e2⟩ | ⟨e,en⟩
 ·have f1 : ((x.1 : Int) == 65533) = true:=by simp; omega
  have f2 : ((x.2 : Int) < 2) = True:=eq_true (by omega)
  refine AW.rT (by rfl) fun K hK=>?_
  simp -implicitDefEqProofs only [go_sem,↓reduceIte,Nat.reduceAdd,Nat.reduceEqDiff,f1,f2]
  apply hK;clear hK K
  refine AW.cT rfl ?_
  refine AW.rT (by rfl) fun K hK=>?_
  simp -implicitDefEqProofs only [go_sem,Nat.reduceAdd]
  apply hK;clear hK K
  refine AW.ret ?_
  simp -implicitDefEqProofs only [go_sem,↓reduceIte,Nat.reduceEqDiff,e]
 ·by_cases e1 : x.1 = 65533
  ·have f1 : ((x.1 : Int) == 65533) = true:=by simp; omega
   have f2 : ((x.2 : Int) < 2) = False:=eq_false (by omega)
   refine AW.rT (by rfl) fun K hK=>?_
   simp -implicitDefEqProofs only [go_sem,↓reduceIte,Nat.reduceAdd,Nat.reduceEqDiff,f1,f2]
   apply hK;clear hK K
   refine AW.cF rfl ?_
   refine AW.skip ?_
   simp only [andThen]
   refine AW.rT (by rfl) fun K hK=>?_
   simp -implicitDefEqProofs only [go_sem,↓reduceIte,Nat.reduceAdd,Nat.reduceEqDiff]
   apply hK;clear hK K
   refine AW.ret ?_
   simp -implicitDefEqProofs only [go_sem,↓reduceIte,Nat.reduceEqDiff,e]
  ·have f1 : ((x.1 : Int) == 65533) = false:=by simp; omega
   refine AW.rT (by rfl) fun K hK=>?_
   simp -implicitDefEqProofs only [go_sem,↓reduceIte,Nat.reduceAdd,Nat.reduceEqDiff,f1]
   apply hK;clear hK K
   refine AW.cF rfl ?_
   refine AW.skip ?_
   simp only [andThen]
   refine AW.rT (by rfl) fun K hK=>?_
   simp -implicitDefEqProofs only [go_sem,↓reduceIte,Nat.reduceAdd,Nat.reduceEqDiff]
   apply hK;clear hK K
   refine AW.ret ?_
   simp -implicitDefEqProofs only [go_sem,↓reduceIte,Nat.reduceEqDiff,e]
def vaS (s : List UInt8) (p : Nat) : St:=⟨ofL [(0,.p (.str s)),(9,.it 0)],ofH [(0,.iter s p)],1⟩
theorem runes_end {s : List UInt8} {p : Nat} (h : ¬ p < s.length) : runesO s p = some []:=by rw [runesO_step,if_neg h]
theorem runes_bad {s : List UInt8} {p : Nat} (h : p < s.length) (hr : (resN (runeAt s p)).2.2 = false) : runesO s p = none:=by rw [runesO_step,if_pos h,if_neg (by rw [hr]; simp)]
theorem runes_ok {s : List UInt8} {p : Nat} (h : p < s.length) (hr : (resN (runeAt s p)).2.2 = true) : runesO s p = (runesO s (p + (runeAt s p).2)).map (((runeAt s p).1 : Int) :: ·):=by
 rw [runesO_step,if_pos h,if_pos hr]
 cases runesO s (p + (runeAt s p).2) <;> rfl
theorem runes_Valid (s : List UInt8) (hl : s.length ≤ 1000000000) : PFn Tryz.prog 74 [.str s] (.bool (runesO s 0).isSome):=by
 refine PFn.of Tryz.func74 rfl (by decide) Tryz.ntmps74 Tryz.results74 (Nat.le_of_ble_eq_true rfl) ?_
 simp only [argsT]
 refine AW.rT (by rfl) fun K hK=>?_
 simp -implicitDefEqProofs only [go_sem]
 apply hK;clear hK K
 refine AW.seq ?_
 refine AW.rT (by rfl) fun K hK=>?_
 simp -implicitDefEqProofs only [go_sem,↓reduceIte,Nat.reduceAdd,reduceCtorEq]
 apply hK;clear hK K
 refine AW.block ?_
 refine AW.loop (vaS s) (fun p=>p ≤ s.length ∧ (runesO s 0).isSome = (runesO s p).isSome) (fun p=>s.length - p) 0 ?_ ⟨by omega,rfl⟩ fun p hp=>?_
 ·simp only [vaS]
  refine Ghost.ent (fun _=>2) ?_ ?_ ?_ <;> simp -implicitDefEqProofs only [go_sem,↓reduceIte,reduceCtorEq,List.forall_mem_cons,List.not_mem_nil,false_implies,implies_true,and_self,Nat.reduceLT,AV.labsIn]
 obtain ⟨p1,p2⟩:=hp
 simp only [vaS]
 have wid:=runeAt_wid s p
 by_cases hp : p < s.length
 case neg =>
  have e : (runesO s 0).isSome = true:=by rw [p2,runes_end hp]; rfl
  refine AW.rT (by rfl) fun K hK=>?_
  simp -implicitDefEqProofs only [go_sem,↓reduceIte,Nat.reduceAdd,reduceCtorEq,hp]
  apply hK;clear hK K
  refine AW.seq ?_
  refine AW.cF rfl ?_
  refine AW.exit ?_
  simp only [andThen,inBlk,↓reduceIte]
  refine AW.rT (by rfl) fun K hK=>?_
  simp -implicitDefEqProofs only [go_sem,Nat.reduceAdd]
  apply hK;clear hK K
  refine AW.ret ?_
  simp -implicitDefEqProofs only [go_sem,e]
 have hin:=runeAt_in s p hp
 refine AW.rT (by rfl) fun K hK=>?_
 simp -implicitDefEqProofs only [go_sem,↓reduceIte,Nat.reduceAdd,reduceCtorEq,hp]
 apply hK;clear hK K
 refine AW.seq ?_
 refine AW.cT rfl ?_
 refine AW.skip ?_
 simp only [andThen]
 refine AW.block ?_
 refine AW.rT (by rfl) fun K hK=>?_
 simp -implicitDefEqProofs only [go_sem,↓reduceIte,Nat.reduceAdd,Nat.reduceEqDiff]
 apply hK;clear hK K
 refine AW.seq ?_
 have next : (resN (runeAt s p)).2.2 = true → (runesO s 0).isSome = (runesO s (p + (runeAt s p).2)).isSome:=fun h=>by rw [p2,runes_ok hp h,Option.isSome_map]
 by_cases h1 : (runeAt s p).1 = 65533
 case neg =>
  have f1 : (((runeAt s p).1 : Int) != 65533) = true:=by simp; omega
  have ok : (resN (runeAt s p)).2.2 = true:=by
   rcases resN_cases (runeAt s p) with ⟨e,e1,e2⟩ | ⟨e,en⟩
   ·exact absurd e1 h1
   ·rw [e]
  refine AW.rT (by rfl) fun K hK=>?_
  simp -implicitDefEqProofs only [go_sem,↓reduceIte,Nat.reduceAdd,f1]
  apply hK;clear hK K
  refine AW.cT rfl ?_
  refine AW.exit ?_
  simp only [andThen,inBlk,↓reduceIte]
  refine ⟨p + (runeAt s p).2,⟨hin,next ok⟩,by omega,?_⟩
  refine Ghost.sub ?_ ?_ <;> simp -implicitDefEqProofs only [go_sem,↓reduceIte,Nat.reduceEqDiff,reduceCtorEq,List.forall_mem_cons,List.not_mem_nil,false_implies,implies_true,and_self,Nat.reduceLT,AV.labsIn]
 have f1 : (((runeAt s p).1 : Int) != 65533) = false:=by simp; omega
 refine AW.rT (by rfl) fun K hK=>?_
 simp -implicitDefEqProofs only [go_sem,↓reduceIte,Nat.reduceAdd,f1]
 apply hK;clear hK K
 refine AW.cF rfl ?_
 refine AW.skip ?_
 simp only [andThen]
 have N:=runes_Next s p hp hl
 unfold nextT at N
 refine AW.rT (by rfl) fun K hK=>?_
 simp -implicitDefEqProofs only [go_sem,↓reduceIte,Nat.reduceAdd,Nat.reduceEqDiff,reduceCtorEq]
 refine ⟨.pure _,N,?_⟩
 try simp -implicitDefEqProofs only [go_sem,↓reduceIte,Nat.reduceAdd,Nat.reduceEqDiff]
 apply hK;clear hK K
 cases hb : (resN (runeAt s p)).2.2 with
 | true =>
  refine AW.rT (by rfl) fun K hK=>?_
  simp -implicitDefEqProofs only [go_sem,Nat.reduceAdd]
  apply hK;clear hK K
  refine AW.cF rfl ?_
  refine AW.skip ?_
  simp only [andThen,inBlk]
  refine ⟨p + (runeAt s p).2,⟨hin,next hb⟩,by omega,?_⟩
  refine Ghost.sub ?_ ?_ <;> simp -implicitDefEqProofs only [go_sem,↓reduceIte,Nat.reduceEqDiff,reduceCtorEq,List.forall_mem_cons,List.not_mem_nil,false_implies,implies_true,and_self,Nat.reduceLT,AV.labsIn]
 | false =>
  have e : (runesO s 0).isSome = false:=by rw [p2,runes_bad hp hb]; rfl
  refine AW.rT (by rfl) fun K hK=>?_
  simp -implicitDefEqProofs only [go_sem,Nat.reduceAdd]
  apply hK;clear hK K
  refine AW.cT rfl ?_
  refine AW.rT (by rfl) fun K hK=>?_
  simp -implicitDefEqProofs only [go_sem,Nat.reduceAdd]
  apply hK;clear hK K
  refine AW.ret ?_
  simp -implicitDefEqProofs only [go_sem,e]
def coS (s : List UInt8) (x : Nat × Nat) : St:=⟨ofL [(0,.p (.str s)),(8,.it 0),(3,.p (.int .i64 (x.2 : Int)))],ofH [(0,.iter s x.1)],1⟩
def countN (s : List UInt8) : Nat:=match runesO s 0 with | none=>0 | some l=>l.length
theorem runes_len (s : List UInt8) : ∀ (n p : Nat) (l : List Int),runesF s n p = some l → l.length ≤ n
 | 0,p,l,h=>by simp [runesF] at h; simp [h]
 | n + 1,p,l,h=>by
  rw [runesF] at h
  split at h
  ·split at h
   ·split at h
    ·rename_i l' hl
     injection h with h
     subst h
     have:=runes_len s n _ _ hl
     simp; omega
    ·cases h
   ·cases h
  ·injection h with h; subst h; simp
theorem runes_Count (s : List UInt8) (hl : s.length ≤ 1000000000) : PFn Tryz.prog 57 [.str s] (.int .i64 (countN s : Int)):=by
 refine PFn.of Tryz.func57 rfl (by decide) Tryz.ntmps57 Tryz.results57 (Nat.le_of_ble_eq_true rfl) ?_
 simp only [argsT]
 refine AW.rT (by rfl) fun K hK=>?_
 simp -implicitDefEqProofs only [go_sem]
 apply hK;clear hK K
 refine AW.seq ?_
 refine AW.rT (by rfl) fun K hK=>?_
 simp -implicitDefEqProofs only [go_sem,↓reduceIte,Nat.reduceAdd,reduceCtorEq]
 refine ⟨.pure _,runes_Valid s hl,?_⟩
 try simp -implicitDefEqProofs only [go_sem,Nat.reduceAdd]
 apply hK;clear hK K
 cases hr : runesO s 0 with
 | none =>
  have e : countN s = 0:=by unfold countN; rw [hr]
  have ei : (none : Option (List Int)).isSome = false:=rfl
  simp only [ei]
  refine AW.cT rfl ?_
  refine AW.rT (by rfl) fun K hK=>?_
  simp -implicitDefEqProofs only [go_sem,Nat.reduceAdd]
  apply hK;clear hK K
  refine AW.ret ?_
  simp -implicitDefEqProofs only [go_sem,e]
  rfl
 | some L =>
  have e : countN s = L.length:=by unfold countN; rw [hr]
  have hLl : L.length ≤ s.length:=by unfold runesO at hr; exact runes_len s _ _ _ hr
  have ei : (some L : Option (List Int)).isSome = true:=rfl
  simp only [ei]
  refine AW.cF rfl ?_
  refine AW.skip ?_
  simp only [andThen]
  refine AW.rT (by rfl) fun K hK=>?_
  simp -implicitDefEqProofs only [go_sem,Nat.reduceAdd]
  apply hK;clear hK K
  refine AW.seq ?_
  refine AW.rT (by rfl) fun K hK=>?_
  simp -implicitDefEqProofs only [go_sem,↓reduceIte,Nat.reduceAdd,reduceCtorEq]
  apply hK;clear hK K
  refine AW.block ?_
  refine AW.loop (coS s) (fun x=>x.1 ≤ s.length ∧ ∃ l,runesO s x.1 = some l ∧ x.2 + l.length = L.length) (fun x=>s.length - x.1) (0,0) ?_ ⟨by simp,L,hr,by simp⟩ fun x hx=>?_
  ·simp only [coS]
   refine Ghost.ent (fun _=>6) ?_ ?_ ?_ <;> simp -implicitDefEqProofs only [go_sem,↓reduceIte,Nat.reduceEqDiff,reduceCtorEq,List.forall_mem_cons,List.not_mem_nil,false_implies,implies_true,and_self,Nat.reduceLT,AV.labsIn]
   rfl
  obtain ⟨p,c⟩:=x
  obtain ⟨p1,l,p2,p3⟩:=hx
  dsimp only at p1 p2 p3
  simp only [coS]
  have wid:=runeAt_wid s p
  by_cases hp : p < s.length
  case neg =>
   rw [runes_end hp] at p2
   injection p2 with p2
   subst p2
   have e' : countN s = c:=by rw [e,← p3]; simp
   refine AW.rT (by rfl) fun K hK=>?_
   simp -implicitDefEqProofs only [go_sem,↓reduceIte,Nat.reduceAdd,reduceCtorEq,hp]
   apply hK;clear hK K
   refine AW.seq ?_
   refine AW.cF rfl ?_
   refine AW.exit ?_
   simp only [andThen,inBlk,↓reduceIte]
   refine AW.rT (by rfl) fun K hK=>?_
   simp -implicitDefEqProofs only [go_sem,↓reduceIte,Nat.reduceAdd,Nat.reduceEqDiff,reduceCtorEq]
   apply hK;clear hK K
   refine AW.ret ?_
   simp -implicitDefEqProofs only [go_sem,e']
  have hin:=runeAt_in s p hp
  refine AW.rT (by rfl) fun K hK=>?_
  simp -implicitDefEqProofs only [go_sem,↓reduceIte,Nat.reduceAdd,reduceCtorEq,hp]
  apply hK;clear hK K
  refine AW.seq ?_
  refine AW.cT rfl ?_
  refine AW.skip ?_
  simp only [andThen]
  refine AW.block ?_
  cases hb : (resN (runeAt s p)).2.2 with
  | false=>rw [runes_bad hp hb] at p2; cases p2
  | true =>
   rw [runes_ok hp hb,Option.map_eq_some_iff] at p2
   obtain ⟨l',q1,rfl⟩:=p2
   rw [List.length_cons] at p3
   have w1 : IntKind.wrap .i64 ((c : Int) + 1) = ((c + 1 : Nat) : Int):=by rw [w64] <;> omega
   refine AW.rE (by rfl) fun K hK=>?_
   simp -implicitDefEqProofs only [go_sem,↓reduceIte,Nat.reduceAdd,Nat.reduceEqDiff,reduceCtorEq,w1]
   apply hK;clear hK K
   simp only [andThen,inBlk]
   refine ⟨(p + (runeAt s p).2,c + 1),⟨hin,l',q1,by show c + 1 + l'.length = L.length; omega⟩,by show s.length - (p + (runeAt s p).2) < s.length - p; omega,?_⟩
   refine Ghost.sub ?_ ?_ <;> simp -implicitDefEqProofs only [go_sem,↓reduceIte,Nat.reduceEqDiff,reduceCtorEq,List.forall_mem_cons,List.not_mem_nil,false_implies,implies_true,and_self,Nat.reduceLT,AV.labsIn]
end Go.Aw
namespace Go.Aw
open Go.Proofs
theorem word_app (a : Int) (pre l : List Int) : wordB ((a :: pre) ++ l) = (wordB (a :: pre) && l.all fun x=>letterB x || digitB x):=by
 simp [wordB,List.all_append,Bool.and_assoc]
theorem word_next {pre : List Int} {r : Int} (h : pre = [] ∨ wordB pre = true) (hr : letterB r = true ∨ (pre ≠ [] ∧ digitB r = true)) : wordB (pre ++ [r]) = true:=by
 cases pre with
 | nil =>
  rcases hr with hr | ⟨hr,_⟩
  ·simp [wordB,hr]
  ·exact absurd rfl hr
 | cons a pre =>
  have h' : wordB (a :: pre) = true:=by
   rcases h with h | h
   ·cases h
   ·exact h
  rw [word_app,h']
  rcases hr with hr | ⟨_,hr⟩ <;> simp [hr]
theorem word_bad {pre l : List Int} {r : Int} (hr : letterB r = false) (hd : pre = [] ∨ digitB r = false) : wordB (pre ++ r :: l) = false:=by
 cases pre with
 | nil=>simp [wordB,hr]
 | cons a pre =>
  rw [word_app]
  rcases hd with hd | hd
  ·cases hd
  ·simp [hr,hd]
def naS (s : List UInt8) (p : Nat) : St:=⟨ofL [(0,.p (.str s)),(19,.it 0)],ofH [(0,.iter s p)],1⟩
theorem runes_Name (s : List UInt8) (hl : s.length ≤ 1000000000) : PFn Tryz.prog 41 [.str s] (.bool (nameB s)):=by
 refine PFn.of Tryz.func41 rfl (by decide) Tryz.ntmps41 Tryz.results41 (Nat.le_of_ble_eq_true rfl) ?_
 simp only [argsT]
 refine AW.rT (by rfl) fun K hK=>?_
 simp -implicitDefEqProofs only [go_sem]
 apply hK;clear hK K
 refine AW.rT (by rfl) fun K hK=>?_
 simp -implicitDefEqProofs only [go_sem,↓reduceIte,Nat.reduceAdd,reduceCtorEq]
 refine ⟨.pure _,runes_Count s hl,?_⟩
 try simp -implicitDefEqProofs only [go_sem,Nat.reduceAdd]
 apply hK;clear hK K
 refine AW.seq ?_
 by_cases h1 : countN s < 1
 ·have f1 : ((countN s : Int) < 1) = True:=eq_true (by omega)
  have e : nameB s = false:=by
   unfold countN at h1
   unfold nameB
   cases hr : runesO s 0 with
   | none=>rfl
   | some l =>
    rw [hr] at h1
    have : l = []:=List.length_eq_zero_iff.1 (by simpa using h1)
    subst this
    simp [wordB]
  refine AW.rT (by rfl) fun K hK=>?_
  simp -implicitDefEqProofs only [go_sem,↓reduceIte,Nat.reduceAdd,Nat.reduceEqDiff,f1]
  apply hK;clear hK K
  refine AW.cT rfl ?_
  refine AW.rT (by rfl) fun K hK=>?_
  simp -implicitDefEqProofs only [go_sem,Nat.reduceAdd]
  apply hK;clear hK K
  refine AW.ret ?_
  simp -implicitDefEqProofs only [go_sem,e]
 obtain ⟨L,hL⟩ : ∃ L,runesO s 0 = some L:=by
  unfold countN at h1
  cases hr : runesO s 0 with
  | none=>rw [hr] at h1; simp at h1
  | some l=>exact ⟨l,rfl⟩
 have hc0 : countN s = L.length:=by unfold countN; rw [hL]
 have eN : nameB s = (decide (L.length ≤ 20) && !keyB s && wordB L):=by unfold nameB; rw [hL]
 rw [hc0] at h1
 rw [hc0]
 have f1 : ((L.length : Int) < 1) = False:=eq_false (by omega)
 by_cases h2 : L.length > 20
 ·have f2 : ((L.length : Int) > 20) = True:=eq_true (by omega)
  have e : nameB s = false:=by rw [eN,decide_eq_false (by omega)]; rfl
  refine AW.rT (by rfl) fun K hK=>?_
  simp -implicitDefEqProofs only [go_sem,↓reduceIte,Nat.reduceAdd,Nat.reduceEqDiff,f1,f2]
  apply hK;clear hK K
  refine AW.cT rfl ?_
  refine AW.rT (by rfl) fun K hK=>?_
  simp -implicitDefEqProofs only [go_sem,Nat.reduceAdd]
  apply hK;clear hK K
  refine AW.ret ?_
  simp -implicitDefEqProofs only [go_sem,e]
 have f2 : ((L.length : Int) > 20) = False:=eq_false (by omega)
 rw [decide_eq_true (by omega),Bool.true_and] at eN
 refine AW.rT (by rfl) fun K hK=>?_
 simp -implicitDefEqProofs only [go_sem,↓reduceIte,Nat.reduceAdd,Nat.reduceEqDiff,reduceCtorEq,f1,f2]
 refine ⟨.pure _,runes_Key s,?_⟩
 try simp -implicitDefEqProofs only [go_sem,↓reduceIte,Nat.reduceAdd,Nat.reduceEqDiff]
 apply hK;clear hK K
 cases hk : keyB s with
 | true =>
  rw [hk] at eN
  have e : nameB s = false:=eN
  refine AW.cT rfl ?_
  refine AW.rT (by rfl) fun K hK=>?_
  simp -implicitDefEqProofs only [go_sem,Nat.reduceAdd]
  apply hK;clear hK K
  refine AW.ret ?_
  simp -implicitDefEqProofs only [go_sem,e]
 | false =>
  rw [hk] at eN
  have eN : nameB s = wordB L:=eN
  refine AW.cF rfl ?_
  refine AW.skip ?_
  simp only [andThen]
  refine AW.seq ?_
  refine AW.rT (by rfl) fun K hK=>?_
  simp -implicitDefEqProofs only [go_sem,↓reduceIte,Nat.reduceAdd,reduceCtorEq]
  apply hK;clear hK K
  refine AW.block ?_
  refine AW.loop (naS s) (fun p=>p ≤ s.length ∧ ∃ pre l,L = pre ++ l ∧ runesO s p = some l ∧ (p = 0 ↔ pre = []) ∧ (pre = [] ∨ wordB pre = true)) (fun p=>s.length - p) 0 ?_ ⟨by omega,[],L,rfl,hL,by simp,.inl rfl⟩ fun p hp=>?_
  ·simp only [naS]
   refine Ghost.ent (fun _=>15) ?_ ?_ ?_ <;> simp -implicitDefEqProofs only [go_sem,↓reduceIte,reduceCtorEq,List.forall_mem_cons,List.not_mem_nil,false_implies,implies_true,and_self,Nat.reduceLT,AV.labsIn]
  obtain ⟨p1,pre,l,p2,p3,p4,p5⟩:=hp
  simp only [naS]
  have wid:=runeAt_wid s p
  by_cases hp : p < s.length
  case neg =>
   rw [runes_end hp] at p3
   injection p3 with p3
   subst p3
   have e : nameB s = true:=by
    rw [eN,p2]
    rcases p5 with rfl | h
    ·rw [p2] at h1; simp at h1
    ·simpa using h
   refine AW.rT (by rfl) fun K hK=>?_
   simp -implicitDefEqProofs only [go_sem,↓reduceIte,Nat.reduceAdd,reduceCtorEq,hp]
   apply hK;clear hK K
   refine AW.seq ?_
   refine AW.cF rfl ?_
   refine AW.exit ?_
   simp only [andThen,inBlk,↓reduceIte]
   refine AW.rT (by rfl) fun K hK=>?_
   simp -implicitDefEqProofs only [go_sem,Nat.reduceAdd]
   apply hK;clear hK K
   refine AW.ret ?_
   simp -implicitDefEqProofs only [go_sem,e]
  have hin:=runeAt_in s p hp
  obtain ⟨l',q1,rfl⟩ : ∃ l',runesO s (p + (runeAt s p).2) = some l' ∧ ((runeAt s p).1 : Int) :: l' = l:=by
   cases hb : (resN (runeAt s p)).2.2 with
   | false=>rw [runes_bad hp hb] at p3; cases p3
   | true=>rwa [runes_ok hp hb,Option.map_eq_some_iff] at p3
  have again : letterB ((runeAt s p).1 : Int) = true ∨ (pre ≠ [] ∧ digitB ((runeAt s p).1 : Int) = true) → (p + (runeAt s p).2 ≤ s.length ∧ ∃ pre l,L = pre ++ l ∧ runesO s (p + (runeAt s p).2) = some l ∧ (p + (runeAt s p).2 = 0 ↔ pre = []) ∧ (pre = [] ∨ wordB pre = true)) :=
   fun h=>⟨hin,pre ++ [((runeAt s p).1 : Int)],l',by rw [p2]; simp,q1,⟨fun h=>by omega,fun h=>by simp at h⟩,.inr (word_next p5 h)⟩
  refine AW.rT (by rfl) fun K hK=>?_
  simp -implicitDefEqProofs only [go_sem,↓reduceIte,Nat.reduceAdd,reduceCtorEq,hp]
  apply hK;clear hK K
  refine AW.seq ?_
  refine AW.cT rfl ?_
  refine AW.skip ?_
  simp only [andThen]
  refine AW.block ?_
  refine AW.rT (by rfl) fun K hK=>?_
  simp -implicitDefEqProofs only [go_sem,↓reduceIte,Nat.reduceAdd,Nat.reduceEqDiff]
  apply hK;clear hK K
  cases h3 : letterB ((runeAt s p).1 : Int) with
  | true =>
   refine AW.rT (by rfl) fun K hK=>?_
   simp -implicitDefEqProofs only [go_sem,Nat.reduceAdd]
   refine ⟨.pure _,runes_Letter ((runeAt s p).1 : Int),?_⟩
   try simp -implicitDefEqProofs only [go_sem,↓reduceIte,Nat.reduceAdd,Nat.reduceEqDiff,h3]
   apply hK;clear hK K
   refine AW.cF rfl ?_
   refine AW.skip ?_
   simp only [andThen,inBlk]
   refine ⟨p + (runeAt s p).2,again (.inl h3),by omega,?_⟩
   refine Ghost.sub ?_ ?_ <;> simp -implicitDefEqProofs only [go_sem,↓reduceIte,Nat.reduceEqDiff,reduceCtorEq,List.forall_mem_cons,List.not_mem_nil,false_implies,implies_true,and_self,Nat.reduceLT,AV.labsIn]
  | false =>
   by_cases h4 : p = 0
   ·have f4 : ((p : Int) == 0) = true:=by simp; omega
    have e : nameB s = false:=by rw [eN,p2]; exact word_bad h3 (.inl (p4.1 h4))
    refine AW.rT (by rfl) fun K hK=>?_
    simp -implicitDefEqProofs only [go_sem,Nat.reduceAdd]
    refine ⟨.pure _,runes_Letter ((runeAt s p).1 : Int),?_⟩
    try simp -implicitDefEqProofs only [go_sem,↓reduceIte,Nat.reduceAdd,Nat.reduceEqDiff,h3,f4]
    apply hK;clear hK K
    refine AW.cT rfl ?_
    refine AW.rT (by rfl) fun K hK=>?_
    simp -implicitDefEqProofs only [go_sem,Nat.reduceAdd]
    apply hK;clear hK K
    refine AW.ret ?_
    simp -implicitDefEqProofs only [go_sem,e]
   ·have f4 : ((p : Int) == 0) = false:=by simp; omega
    cases h5 : digitB ((runeAt s p).1 : Int) with
    | true =>
     refine AW.rT (by rfl) fun K hK=>?_
     simp -implicitDefEqProofs only [go_sem,Nat.reduceAdd]
     refine ⟨.pure _,runes_Letter ((runeAt s p).1 : Int),?_⟩
     try simp -implicitDefEqProofs only [go_sem,↓reduceIte,Nat.reduceAdd,Nat.reduceEqDiff,h3,f4]
     refine ⟨.pure _,runes_Digit ((runeAt s p).1 : Int),?_⟩
     try simp -implicitDefEqProofs only [go_sem,↓reduceIte,Nat.reduceAdd,Nat.reduceEqDiff,h5]
     apply hK;clear hK K
     refine AW.cF rfl ?_
     refine AW.skip ?_
     simp only [andThen,inBlk]
     refine ⟨p + (runeAt s p).2,again (.inr ⟨fun h=>h4 (p4.2 h),h5⟩),by omega,?_⟩
     refine Ghost.sub ?_ ?_ <;> simp -implicitDefEqProofs only [go_sem,↓reduceIte,Nat.reduceEqDiff,reduceCtorEq,List.forall_mem_cons,List.not_mem_nil,false_implies,implies_true,and_self,Nat.reduceLT,AV.labsIn]
    | false =>
     have e : nameB s = false:=by rw [eN,p2]; exact word_bad h3 (.inr h5)
     refine AW.rT (by rfl) fun K hK=>?_
     simp -implicitDefEqProofs only [go_sem,Nat.reduceAdd]
     refine ⟨.pure _,runes_Letter ((runeAt s p).1 : Int),?_⟩
     try simp -implicitDefEqProofs only [go_sem,↓reduceIte,Nat.reduceAdd,Nat.reduceEqDiff,h3,f4]
     refine ⟨.pure _,runes_Digit ((runeAt s p).1 : Int),?_⟩
     try simp -implicitDefEqProofs only [go_sem,↓reduceIte,Nat.reduceAdd,Nat.reduceEqDiff,h5]
     apply hK;clear hK K
     refine AW.cT rfl ?_
     refine AW.rT (by rfl) fun K hK=>?_
     simp -implicitDefEqProofs only [go_sem,Nat.reduceAdd]
     apply hK;clear hK K
     refine AW.ret ?_
     simp -implicitDefEqProofs only [go_sem,e]
def encR (r : Int) : List PV:=[.int .i32 r]
def allR (s : List UInt8) : List Int × Bool:=match runesO s 0 with | none=>([],false) | some l=>(l,true)
def alS (s : List UInt8) (x : List Int × Nat) : St:=⟨ofL [(0,.p (.str s)),(4,.own 0),(5,.p (.int .i64 (x.2 : Int)))],ofH [(0,.row 1 (liftE (x.1.map encR)))],1⟩
theorem ref01_All (s : List UInt8) (hl : s.length ≤ 1000000000) : PFn Tryz.prog 35 [.str s] (.tuple [.slice ((allR s).1.map encR),.bool (allR s).2]):=by
 refine PFn.of Tryz.func35 rfl (by decide) Tryz.ntmps35 Tryz.results35 (Nat.le_of_ble_eq_true rfl) ?_
 simp only [argsT]
 refine AW.rT (by rfl) fun K hK=>?_
 simp -implicitDefEqProofs only [go_sem,Nat.reduceAdd]
 apply hK;clear hK K
 refine AW.rT (by rfl) fun K hK=>?_
 simp -implicitDefEqProofs only [go_sem,Nat.reduceAdd]
 apply hK;clear hK K
 refine AW.seq ?_
 refine AW.rT (by rfl) fun K hK=>?_
 simp -implicitDefEqProofs only [go_sem,Nat.reduceAdd]
 apply hK;clear hK K
 refine AW.block ?_
 refine AW.loop (alS s) (fun x=>x.2 ≤ s.length ∧ x.1.length ≤ x.2 ∧ runesO s 0 = (runesO s x.2).map (x.1 ++ ·)) (fun x=>s.length - x.2) ([],0) ?_ ⟨by simp,by simp,by cases runesO s 0 <;> rfl⟩ fun x hx=>?_
 ·refine Ghost.trans (Ghost.nil (t:=4) (sz:=1) rfl) ?_
  simp only [alS]
  refine Ghost.ent (fun _=>4) ?_ ?_ ?_ <;> simp -implicitDefEqProofs only [go_sem,↓reduceIte,reduceCtorEq,liftE,List.forall_mem_cons,List.not_mem_nil,false_implies,implies_true,and_self,List.all_nil,Nat.reduceLT,AV.labsIn]
  rfl
 obtain ⟨out,p⟩:=x
 obtain ⟨p1,p2,p3⟩:=hx
 dsimp only at p1 p2 p3
 simp only [alS]
 have wid:=runeAt_wid s p
 refine AW.seq ?_
 by_cases hp : p < s.length
 case neg =>
  have c1 : ((p : Int) < (s.length : Int)) = False:=eq_false (by omega)
  rw [runes_end hp] at p3
  have e : allR s = (out,true):=by unfold allR; rw [p3]; simp
  refine AW.rT (by rfl) fun K hK=>?_
  simp -implicitDefEqProofs only [go_sem,↓reduceIte,Nat.reduceAdd,Nat.reduceEqDiff,reduceCtorEq,c1]
  apply hK;clear hK K
  refine AW.cF rfl ?_
  refine AW.exit ?_
  simp only [andThen,inBlk,↓reduceIte]
  refine AW.rT (by rfl) fun K hK=>?_
  simp -implicitDefEqProofs only [go_sem,↓reduceIte,Nat.reduceAdd,Nat.reduceEqDiff,reduceCtorEq]
  apply hK;clear hK K
  refine AW.ret ?_
  simp -implicitDefEqProofs only [go_sem,↓reduceIte,Nat.reduceEqDiff,e]
 have c1 : ((p : Int) < (s.length : Int)) = True:=eq_true (by omega)
 have hin:=runeAt_in s p hp
 refine AW.rT (by rfl) fun K hK=>?_
 simp -implicitDefEqProofs only [go_sem,↓reduceIte,Nat.reduceAdd,Nat.reduceEqDiff,reduceCtorEq,c1]
 apply hK;clear hK K
 refine AW.cT rfl ?_
 refine AW.skip ?_
 simp only [andThen]
 refine AW.block ?_
 have N:=ref01_Next s p hp hl
 unfold nextT at N
 refine AW.rT (by rfl) fun K hK=>?_
 simp -implicitDefEqProofs only [go_sem,↓reduceIte,Nat.reduceAdd,Nat.reduceEqDiff,reduceCtorEq]
 refine ⟨.pure _,N,?_⟩
 try simp -implicitDefEqProofs only [go_sem,↓reduceIte,Nat.reduceAdd,Nat.reduceEqDiff]
 apply hK;clear hK K
 refine AW.seq ?_
 rcases resN_cases (runeAt s p) with ⟨er,_,_⟩ | ⟨er,_⟩
 ·rw [runes_bad hp (by rw [er])] at p3
  have e : allR s = ([],false):=by unfold allR; rw [p3]; rfl
  refine AW.rT (by rfl) fun K hK=>?_
  simp -implicitDefEqProofs only [go_sem,Nat.reduceAdd,er]
  apply hK;clear hK K
  refine AW.cT rfl ?_
  refine AW.rT (by rfl) fun K hK=>?_
  simp -implicitDefEqProofs only [go_sem,Nat.reduceAdd]
  apply hK;clear hK K
  refine AW.ret ?_
  simp -implicitDefEqProofs only [go_sem,↓reduceIte,Nat.reduceEqDiff,e]
 ·rw [runes_ok hp (by rw [er])] at p3
  refine AW.rT (by rfl) fun K hK=>?_
  simp -implicitDefEqProofs only [go_sem,Nat.reduceAdd,er]
  apply hK;clear hK K
  refine AW.cF rfl ?_
  refine AW.skip ?_
  simp only [andThen]
  refine AW.rT (by rfl) fun K hK=>?_
  simp -implicitDefEqProofs only [go_sem,↓reduceIte,Nat.reduceAdd,Nat.reduceMul,Nat.reduceEqDiff,Nat.reduceLeDiff,reduceCtorEq]
  refine ⟨⟨by simp,by simp [oneAll,AV.one,PV.one],by simp⟩,by simp [liftE_length]; omega,?_⟩
  apply hK;clear hK K
  have w1 : IntKind.wrap .i64 ((p : Int) + ((runeAt s p).2 : Int)) = ((p + (runeAt s p).2 : Nat) : Int):=by rw [w64] <;> omega
  refine AW.rE (by rfl) fun K hK=>?_
  simp -implicitDefEqProofs only [go_sem,↓reduceIte,Nat.reduceAdd,Nat.reduceEqDiff,reduceCtorEq,w1]
  apply hK;clear hK K
  simp only [andThen,inBlk]
  refine ⟨(out ++ [((runeAt s p).1 : Int)],p + (runeAt s p).2),⟨hin,by simp; omega,?_⟩,by show s.length - (p + (runeAt s p).2) < s.length - p; omega,?_⟩
  ·rw [p3]
   cases runesO s (p + (runeAt s p).2) <;> simp
  ·simp only []
   refine Ghost.ent (fun _=>20) ?_ ?_ ?_ <;> simp -implicitDefEqProofs only [go_sem,↓reduceIte,Nat.reduceEqDiff,reduceCtorEq,encR,List.map_append,liftE_append,liftE_cons,liftE_nil,List.forall_mem_cons,List.not_mem_nil,false_implies,implies_true,and_self,map_renL_lift,labsIn_lift,List.all_append,List.all_cons,List.all_nil,List.map_append,Nat.reduceLT,labsInL,AV.labsIn]
def rnS (s : List UInt8) (l : List Int) (i : Nat) : St:=⟨ofL [(0,.p (.str s)),(3,.p (.slice (l.map encR))),(5,.p (.int .i64 (i : Int)))],ofH [],0⟩
theorem ref01_Name (s : List UInt8) (hl : s.length ≤ 1000000000) : PFn Tryz.prog 17 [.str s] (.bool (nameB s)):=by
 refine PFn.of Tryz.func17 rfl (by decide) Tryz.ntmps17 Tryz.results17 (Nat.le_of_ble_eq_true rfl) ?_
 simp only [argsT]
 have i0 : ((0 : Int) ≤ 0) = True:=by simp
 refine AW.rT (by rfl) fun K hK=>?_
 simp -implicitDefEqProofs only [go_sem]
 apply hK;clear hK K
 refine AW.rT (by rfl) fun K hK=>?_
 simp -implicitDefEqProofs only [go_sem,↓reduceIte,Nat.reduceAdd,reduceCtorEq]
 refine ⟨.pure _,ref01_All s hl,?_⟩
 try simp -implicitDefEqProofs only [go_sem,↓reduceIte,Nat.reduceAdd,Nat.reduceEqDiff]
 apply hK;clear hK K
 refine AW.seq ?_
 cases hr : runesO s 0 with
 | none =>
  have e : nameB s = false:=by unfold nameB; rw [hr]
  have ea : allR s = ([],false):=by unfold allR; rw [hr]
  refine AW.rT (by rfl) fun K hK=>?_
  simp -implicitDefEqProofs only [go_sem,↓reduceIte,Nat.reduceAdd,Nat.reduceEqDiff,ea]
  apply hK;clear hK K
  refine AW.cT rfl ?_
  refine AW.rT (by rfl) fun K hK=>?_
  simp -implicitDefEqProofs only [go_sem,Nat.reduceAdd]
  apply hK;clear hK K
  refine AW.ret ?_
  simp -implicitDefEqProofs only [go_sem,e]
 | some L =>
  have eN : nameB s = (decide (L.length ≤ 20) && !keyB s && wordB L):=by unfold nameB; rw [hr]
  have ea : allR s = (L,true):=by unfold allR; rw [hr]
  rw [ea]
  cases L with
  | nil =>
   have e : nameB s = false:=by rw [eN]; simp [wordB]
   have f1 : ((0 : Int) < 1) = True:=by simp
   refine AW.rT (by rfl) fun K hK=>?_
   simp -implicitDefEqProofs only [go_sem,↓reduceIte,Nat.reduceAdd,Nat.reduceEqDiff,f1,List.map_nil,List.length_nil,Int.cast_ofNat_Int]
   apply hK;clear hK K
   refine AW.cT rfl ?_
   refine AW.rT (by rfl) fun K hK=>?_
   simp -implicitDefEqProofs only [go_sem,Nat.reduceAdd]
   apply hK;clear hK K
   refine AW.ret ?_
   simp -implicitDefEqProofs only [go_sem,e]
  | cons a L' =>
   generalize hLe : a :: L' = L at *
   have ha : L[0]? = some a:=by rw [← hLe]; rfl
   have hln : 1 ≤ L.length:=by rw [← hLe]; simp
   have ⟨x1,x2,x3⟩:=at_map' encR ha
   have x2' : (0 : Int) < (L.length : Int):=by omega
   have f1 : ((L.length : Int) < 1) = False:=eq_false (by omega)
   by_cases h2 : L.length > 20
   ·have f2 : ((L.length : Int) > 20) = True:=eq_true (by omega)
    have e : nameB s = false:=by rw [eN,decide_eq_false (by omega)]; rfl
    refine AW.rT (by rfl) fun K hK=>?_
    simp -implicitDefEqProofs only [go_sem,↓reduceIte,Nat.reduceAdd,Nat.reduceEqDiff,f1,f2,List.length_map]
    apply hK;clear hK K
    refine AW.cT rfl ?_
    refine AW.rT (by rfl) fun K hK=>?_
    simp -implicitDefEqProofs only [go_sem,Nat.reduceAdd]
    apply hK;clear hK K
    refine AW.ret ?_
    simp -implicitDefEqProofs only [go_sem,e]
   have f2 : ((L.length : Int) > 20) = False:=eq_false (by omega)
   rw [decide_eq_true (by omega),Bool.true_and] at eN
   have hw : wordB L = (letterB a && L'.all fun x=>letterB x || digitB x):=by rw [← hLe]; rfl
   have x3' : (L.map encR).getD 0 [] = [.int .i32 a]:=x3
   cases h3 : letterB a with
   | false =>
    have e : nameB s = false:=by rw [eN,hw,h3]; simp
    refine AW.rT (by rfl) fun K hK=>?_
    simp -implicitDefEqProofs only [go_sem,↓reduceIte,Nat.reduceAdd,Nat.reduceEqDiff,Int.reduceToNat,f1,f2,List.length_map,i0,x2',x3']
    refine ⟨.pure _,ref01_Letter a,?_⟩
    try simp -implicitDefEqProofs only [go_sem,↓reduceIte,Nat.reduceAdd,Nat.reduceEqDiff,h3]
    apply hK;clear hK K
    refine AW.cT rfl ?_
    refine AW.rT (by rfl) fun K hK=>?_
    simp -implicitDefEqProofs only [go_sem,Nat.reduceAdd]
    apply hK;clear hK K
    refine AW.ret ?_
    simp -implicitDefEqProofs only [go_sem,e]
   | true =>
   cases hk : keyB s with
   | true =>
    have e : nameB s = false:=by rw [eN,hk]; simp
    refine AW.rT (by rfl) fun K hK=>?_
    simp -implicitDefEqProofs only [go_sem,↓reduceIte,Nat.reduceAdd,Nat.reduceEqDiff,Int.reduceToNat,f1,f2,List.length_map,i0,x2',x3']
    refine ⟨.pure _,ref01_Letter a,?_⟩
    try simp -implicitDefEqProofs only [go_sem,↓reduceIte,Nat.reduceAdd,Nat.reduceEqDiff,reduceCtorEq,h3]
    refine ⟨.pure _,ref01_Key s,?_⟩
    try simp -implicitDefEqProofs only [go_sem,↓reduceIte,Nat.reduceAdd,Nat.reduceEqDiff,hk]
    apply hK;clear hK K
    refine AW.cT rfl ?_
    refine AW.rT (by rfl) fun K hK=>?_
    simp -implicitDefEqProofs only [go_sem,Nat.reduceAdd]
    apply hK;clear hK K
    refine AW.ret ?_
    simp -implicitDefEqProofs only [go_sem,e]
   | false =>
    have eN : nameB s = L.all fun x=>letterB x || digitB x:=by rw [eN,hk,hw,h3,← hLe]; simp [h3]
    refine AW.rT (by rfl) fun K hK=>?_
    simp -implicitDefEqProofs only [go_sem,↓reduceIte,Nat.reduceAdd,Nat.reduceEqDiff,Int.reduceToNat,f1,f2,List.length_map,i0,x2',x3']
    refine ⟨.pure _,ref01_Letter a,?_⟩
    try simp -implicitDefEqProofs only [go_sem,↓reduceIte,Nat.reduceAdd,Nat.reduceEqDiff,reduceCtorEq,h3]
    refine ⟨.pure _,ref01_Key s,?_⟩
    try simp -implicitDefEqProofs only [go_sem,↓reduceIte,Nat.reduceAdd,Nat.reduceEqDiff,hk]
    apply hK;clear hK K
    refine AW.cF rfl ?_
    refine AW.skip ?_
    simp only [andThen]
    refine AW.seq ?_
    refine AW.rT (by rfl) fun K hK=>?_
    simp -implicitDefEqProofs only [go_sem,Nat.reduceAdd]
    apply hK;clear hK K
    refine AW.block ?_
    refine AW.loop (rnS s L) (fun i=>i ≤ L.length ∧ (L.take i).all (fun x=>letterB x || digitB x) = true) (fun i=>L.length - i) 1 ?_ ⟨hln,by rw [← hLe]; simp [h3]⟩ fun i hi=>?_
    ·simp only [rnS]
     refine Ghost.sub ?_ ?_ <;> simp -implicitDefEqProofs only [go_sem,↓reduceIte,Nat.reduceEqDiff,reduceCtorEq,List.forall_mem_cons,List.not_mem_nil,false_implies,implies_true,and_self,AV.labsIn]
     rfl
    obtain ⟨i1,i2⟩:=hi
    simp only [rnS]
    refine AW.seq ?_
    by_cases hil : i < L.length
    case neg =>
     rw [List.take_of_length_le (by omega)] at i2
     have e : nameB s = true:=by rw [eN]; exact i2
     have c1 : ((i : Int) < (L.length : Int)) = False:=eq_false (by omega)
     refine AW.rT (by rfl) fun K hK=>?_
     simp -implicitDefEqProofs only [go_sem,↓reduceIte,Nat.reduceAdd,Nat.reduceEqDiff,reduceCtorEq,c1,List.length_map]
     apply hK;clear hK K
     refine AW.cF rfl ?_
     refine AW.exit ?_
     simp only [andThen,inBlk,↓reduceIte]
     refine AW.rT (by rfl) fun K hK=>?_
     simp -implicitDefEqProofs only [go_sem,Nat.reduceAdd]
     apply hK;clear hK K
     refine AW.ret ?_
     simp -implicitDefEqProofs only [go_sem,e]
    obtain ⟨r,hr⟩ : ∃ r,L[i]? = some r:=⟨_,List.getElem?_eq_getElem hil⟩
    have ⟨y1,y2,y3⟩:=at_map' encR hr
    have y3' : (L.map encR).getD i [] = [.int .i32 r]:=y3
    have c1 : ((i : Int) < (L.length : Int)) = True:=eq_true (by omega)
    have w1 : IntKind.wrap .i64 ((i : Int) + 1) = ((i + 1 : Nat) : Int):=by rw [w64] <;> omega
    refine AW.rT (by rfl) fun K hK=>?_
    simp -implicitDefEqProofs only [go_sem,↓reduceIte,Nat.reduceAdd,Nat.reduceEqDiff,reduceCtorEq,c1,List.length_map]
    apply hK;clear hK K
    refine AW.cT rfl ?_
    refine AW.skip ?_
    simp only [andThen]
    refine AW.seq ?_
    refine AW.block ?_
    cases h4 : letterB r with
    | true =>
     refine AW.rT (by rfl) fun K hK=>?_
     simp -implicitDefEqProofs only [go_sem,↓reduceIte,Nat.reduceAdd,Nat.reduceEqDiff,reduceCtorEq,y1,y3',c1,List.length_map]
     refine ⟨.pure _,ref01_Letter r,?_⟩
     try simp -implicitDefEqProofs only [go_sem,↓reduceIte,Nat.reduceAdd,Nat.reduceEqDiff,h4]
     apply hK;clear hK K
     refine AW.cF rfl ?_
     refine AW.skip ?_
     simp only [andThen,inBlk]
     refine AW.rE (by rfl) fun K hK=>?_
     simp -implicitDefEqProofs only [go_sem,↓reduceIte,Nat.reduceAdd,Nat.reduceEqDiff,reduceCtorEq,w1]
     apply hK;clear hK K
     refine ⟨i + 1,⟨by omega,all_next hr i2 (by rw [h4]; rfl)⟩,by omega,?_⟩
     refine Ghost.sub ?_ ?_ <;> simp -implicitDefEqProofs only [go_sem,↓reduceIte,Nat.reduceEqDiff,reduceCtorEq,List.forall_mem_cons,List.not_mem_nil,false_implies,implies_true,and_self,AV.labsIn]
    | false =>
    cases h5 : digitB r with
    | true =>
     refine AW.rT (by rfl) fun K hK=>?_
     simp -implicitDefEqProofs only [go_sem,↓reduceIte,Nat.reduceAdd,Nat.reduceEqDiff,reduceCtorEq,y1,y3',c1,List.length_map]
     refine ⟨.pure _,ref01_Letter r,?_⟩
     try simp -implicitDefEqProofs only [go_sem,↓reduceIte,Nat.reduceAdd,Nat.reduceEqDiff,reduceCtorEq,h4,y1,y3',c1,List.length_map]
     refine ⟨.pure _,ref01_Digit r,?_⟩
     try simp -implicitDefEqProofs only [go_sem,↓reduceIte,Nat.reduceAdd,Nat.reduceEqDiff,h5]
     apply hK;clear hK K
     refine AW.cF rfl ?_
     refine AW.skip ?_
     simp only [andThen,inBlk]
     refine AW.rE (by rfl) fun K hK=>?_
     simp -implicitDefEqProofs only [go_sem,↓reduceIte,Nat.reduceAdd,Nat.reduceEqDiff,reduceCtorEq,w1]
     apply hK;clear hK K
     refine ⟨i + 1,⟨by omega,all_next hr i2 (by rw [h4,h5]; rfl)⟩,by omega,?_⟩
     refine Ghost.sub ?_ ?_ <;> simp -implicitDefEqProofs only [go_sem,↓reduceIte,Nat.reduceEqDiff,reduceCtorEq,List.forall_mem_cons,List.not_mem_nil,false_implies,implies_true,and_self,AV.labsIn]
    | false =>
     have e : nameB s = false:=by rw [eN]; exact all_not hr (by rw [h4,h5]; rfl)
     refine AW.rT (by rfl) fun K hK=>?_
     simp -implicitDefEqProofs only [go_sem,↓reduceIte,Nat.reduceAdd,Nat.reduceEqDiff,reduceCtorEq,y1,y3',c1,List.length_map]
     refine ⟨.pure _,ref01_Letter r,?_⟩
     try simp -implicitDefEqProofs only [go_sem,↓reduceIte,Nat.reduceAdd,Nat.reduceEqDiff,reduceCtorEq,h4,y1,y3',c1,List.length_map]
     refine ⟨.pure _,ref01_Digit r,?_⟩
     try simp -implicitDefEqProofs only [go_sem,↓reduceIte,Nat.reduceAdd,Nat.reduceEqDiff,h5]
     apply hK;clear hK K
     refine AW.cT rfl ?_
     refine AW.rT (by rfl) fun K hK=>?_
     simp -implicitDefEqProofs only [go_sem,Nat.reduceAdd]
     apply hK;clear hK K
     refine AW.ret ?_
     simp -implicitDefEqProofs only [go_sem,e]
end Go.Aw
namespace Go.Aw
open Go.Proofs Go.RowKit
theorem first_of {α : Type} {q : α → Bool} : ∀ {l : List α},l.any q = true → ∃ i a,l[i]? = some a ∧ q a = true ∧ ∀ (j : Nat) b,j < i → l[j]? = some b → q b = false
 | [],h=>by simp at h
 | a :: l,h=>by
  cases hq : q a with
  | true=>exact ⟨0,a,rfl,hq,fun j b hj=>by omega⟩
  | false =>
   rw [List.any_cons,hq,Bool.false_or] at h
   obtain ⟨i,x,h1,h2,h3⟩:=first_of h
   refine ⟨i + 1,x,by simpa using h1,h2,fun j b hj hb=>?_⟩
   cases j with
   | zero=>simp at hb; subst hb; exact hq
   | succ j=>exact h3 j b (by omega) (by simpa using hb)
theorem mapAt_none {α : Type} {f : α → PV × AV} {l : List α} {p : PV} {q : α → Bool} (hq : ∀ a,keyEq p (f a).1 = some (q a)) (h : l.any q = false) : MapAt (l.map f) p none:=by
 intro e he
 obtain ⟨a,ha,rfl⟩:=List.mem_map.1 he
 rw [hq]
 have:=List.any_eq_false.1 h a ha
 simpa using this
theorem mapAt_some {α : Type} {f : α → PV × AV} {l : List α} {p : PV} {q : α → Bool} (hq : ∀ a,keyEq p (f a).1 = some (q a)) {i : Nat} {a : α} (h1 : l[i]? = some a) (h2 : q a = true) (h3 : ∀ (j : Nat) b,j < i → l[j]? = some b → q b = false) : MapAt (l.map f) p (some (i,(f a).2)):=by
 refine ⟨f a,by simp [h1],rfl,by rw [hq,h2],fun j e' hj he=>?_⟩
 rw [List.getElem?_map,Option.map_eq_some_iff] at he
 obtain ⟨b,hb,rfl⟩:=he
 rw [hq,h3 j b hj hb]
def setM (ns : List (List UInt8)) : List (PV × PV):=ns.map fun k=>(.str k,.bool true)
def mS (ns : List (List UInt8)) : List (PV × AV):=ns.map fun k=>(.str k,.p (.bool true))
theorem lift_setM (ns : List (List UInt8)) : liftM (setM ns) = mS ns:=by simp [liftM,setM,mS]
theorem contains_any {α : Type} [BEq α] (l : List α) (k : α) : l.contains k = l.any (k == ·):=by
 induction l with
 | nil=>rfl
 | cons a l ih=>rw [List.contains_cons,List.any_cons,ih]
theorem mS_no {ns : List (List UInt8)} {k : List UInt8} (h : ns.contains k = false) : MapAt (mS ns) (.str k) none :=
 mapAt_none (q:=fun a=>k == a) (fun a=>rfl) (by rw [← contains_any]; exact h)
theorem mS_yes {ns : List (List UInt8)} {k : List UInt8} (h : ns.contains k = true) : ∃ i : Nat,MapAt (mS ns) (.str k) (some (i,.p (.bool true))):=by
 rw [contains_any] at h
 obtain ⟨i,a,h1,h2,h3⟩:=first_of h
 exact ⟨i,mapAt_some (q:=fun a=>k == a) (fun a=>rfl) h1 h2 h3⟩
theorem mS_add (ns : List (List UInt8)) (k : List UInt8) : mS ns ++ [(.str k,.p (.bool true))] = mS (ns ++ [k]):=by simp [mS]
theorem mS_nil : mS [] = []:=rfl
theorem mS_ren (ns : List (List UInt8)) (ρ : Nat → Nat) : (mS ns).map (fun e=>(e.1,AV.ren ρ e.2)) = mS ns:=by
 simp [mS,AV.ren]
theorem mS_labs (ns : List (List UInt8)) (n : Nat) : (mS ns).all (fun e=>AV.labsIn n e.2) = true:=by
 simp [mS,AV.labsIn]
def mI (ts : List Int) : List (PV × AV):=ts.map fun k=>(.int .i64 k,.p (.bool true))
theorem mI_no {ts : List Int} {k : Int} (h : ts.contains k = false) : MapAt (mI ts) (.int .i64 k) none :=
 mapAt_none (q:=fun a=>k == a) (fun a=>by simp [keyEq]) (by rw [← contains_any]; exact h)
theorem mI_yes {ts : List Int} {k : Int} (h : ts.contains k = true) : ∃ i : Nat,MapAt (mI ts) (.int .i64 k) (some (i,.p (.bool true))):=by
 rw [contains_any] at h
 obtain ⟨i,a,h1,h2,h3⟩:=first_of h
 exact ⟨i,mapAt_some (q:=fun a=>k == a) (fun a=>by simp [keyEq]) h1 h2 h3⟩
theorem mI_add (ts : List Int) (k : Int) : mI ts ++ [(.int .i64 k,.p (.bool true))] = mI (ts ++ [k]):=by simp [mI]
theorem mI_nil : mI [] = []:=rfl
theorem mI_ren (ts : List Int) (ρ : Nat → Nat) : (mI ts).map (fun e=>(e.1,AV.ren ρ e.2)) = mI ts:=by
 simp [mI,AV.ren]
theorem mI_labs (ts : List Int) (n : Nat) : (mI ts).all (fun e=>AV.labsIn n e.2) = true:=by
 simp [mI,AV.labsIn]
attribute [go_sem] mS_ren mS_labs mI_ren mI_labs
theorem keyS (k : List UInt8) : KeyT Tryz.prog 9 (.str k):=key_str Tryz.underlying9 k
theorem keyI (k : Int) : KeyT Tryz.prog 3 (.int .i64 k):=key_int Tryz.underlying3 k
def takesB (ns : List (List UInt8)) (k : List UInt8) : Bool:=nameB k && !ns.contains k
def tagB (t : Int) : Bool:=decide (1 ≤ t ∧ t ≤ 500)
theorem check_tag (t : Int) : PFn Tryz.prog 61 [.int .i64 t] (.bool (tagB t)):=by
 refine PFn.of Tryz.func61 rfl (by decide) Tryz.ntmps61 Tryz.results61 (Nat.le_of_ble_eq_true rfl) ?_
 simp only [argsT]
 refine AW.rT (by rfl) fun K hK=>?_
 simp -implicitDefEqProofs only [go_sem]
 apply hK;clear hK K
 by_cases h1 : t ≥ 1
 ·have f1 : (t ≥ 1) = True:=eq_true h1
  by_cases h2 : t ≤ 500
  ·have f2 : (t ≤ 500) = True:=eq_true h2
   have e : tagB t = true:=decide_eq_true ⟨h1,h2⟩
   refine AW.rT (by rfl) fun K hK=>?_
   simp -implicitDefEqProofs only [go_sem,↓reduceIte,Nat.reduceAdd,Nat.reduceEqDiff,reduceCtorEq,f1,f2]
   apply hK;clear hK K
   refine AW.ret ?_
   simp -implicitDefEqProofs only [go_sem,e]
  ·have f2 : (t ≤ 500) = False:=eq_false h2
   have e : tagB t = false:=decide_eq_false (fun h=>h2 h.2)
   refine AW.rT (by rfl) fun K hK=>?_
   simp -implicitDefEqProofs only [go_sem,↓reduceIte,Nat.reduceAdd,Nat.reduceEqDiff,reduceCtorEq,f1,f2]
   apply hK;clear hK K
   refine AW.ret ?_
   simp -implicitDefEqProofs only [go_sem,e]
 ·have f1 : (t ≥ 1) = False:=eq_false h1
  have e : tagB t = false:=decide_eq_false (fun h=>h1 h.1)
  refine AW.rT (by rfl) fun K hK=>?_
  simp -implicitDefEqProofs only [go_sem,↓reduceIte,Nat.reduceAdd,Nat.reduceEqDiff,reduceCtorEq,f1]
  apply hK;clear hK K
  refine AW.ret ?_
  simp -implicitDefEqProofs only [go_sem,e]
def takeN (ns : List (List UInt8)) (k : List UInt8) : List (List UInt8):=if takesB ns k = true then ns ++ [k] else ns
theorem check_takes (ns : List (List UInt8)) (k : List UInt8) (hl : k.length ≤ 1000000000) :
  LFn Tryz.prog 44 [.map (setM ns),.v (.str k)] [some (.map (setM (takeN ns k))),none] (.bool (takesB ns k)):=by
 refine LFn.of Tryz.func44 rfl (by decide) Tryz.ntmps44 Tryz.results44 (Nat.le_of_ble_eq_true rfl) rfl fun val=>?_
 simp only [laT,laH,laPins,LA.av,List.length_cons,List.length_nil,lift_setM]
 refine AW.rT (by rfl) fun K hK=>?_
 simp -implicitDefEqProofs only [go_sem,Nat.reduceAdd]
 apply hK;clear hK K
 refine AW.seq ?_
 cases hk : nameB k with
 | false =>
  have e : takesB ns k = false:=by unfold takesB; rw [hk]; rfl
  have e2 : takeN ns k = ns:=by unfold takeN; rw [e]; rfl
  refine AW.rT (by rfl) fun K hK=>?_
  simp -implicitDefEqProofs only [go_sem,↓reduceIte,Nat.reduceAdd,Nat.reduceEqDiff]
  refine ⟨.pure _,runes_Name k hl,?_⟩
  try simp -implicitDefEqProofs only [go_sem,↓reduceIte,Nat.reduceAdd,Nat.reduceEqDiff,hk]
  apply hK;clear hK K
  refine AW.cT rfl ?_
  refine AW.rT (by rfl) fun K hK=>?_
  simp -implicitDefEqProofs only [go_sem,Nat.reduceAdd]
  apply hK;clear hK K
  refine AW.ret (show _ ∧ ((∃ l,_ ∧ _) ∧ True) from ⟨?_,⟨0,?_,?_⟩,trivial⟩) <;> simp -implicitDefEqProofs only [go_sem,↓reduceIte,reduceCtorEq,e,e2,lift_setM]
 | true =>
 cases hn : ns.contains k with
 | true =>
  have e : takesB ns k = false:=by unfold takesB; rw [hk,hn]; rfl
  have e2 : takeN ns k = ns:=by unfold takeN; rw [e]; rfl
  obtain ⟨i,hm⟩:=mS_yes hn
  refine AW.rT (by rfl) fun K hK=>?_
  simp -implicitDefEqProofs only [go_sem,↓reduceIte,Nat.reduceAdd,Nat.reduceEqDiff]
  refine ⟨.pure _,runes_Name k hl,?_⟩
  try simp -implicitDefEqProofs only [go_sem,↓reduceIte,Nat.reduceAdd,Nat.reduceEqDiff,reduceCtorEq,hk]
  refine ⟨keyS k,_,hm,_,rfl,?_⟩
  try simp -implicitDefEqProofs only [go_sem,↓reduceIte,Nat.reduceAdd,Nat.reduceMul,Nat.reduceEqDiff,Nat.reduceLeDiff,reduceCtorEq,Int.reduceToNat]
  apply hK;clear hK K
  refine AW.cT rfl ?_
  refine AW.rT (by rfl) fun K hK=>?_
  simp -implicitDefEqProofs only [go_sem,Nat.reduceAdd]
  apply hK;clear hK K
  refine AW.ret (show _ ∧ ((∃ l,_ ∧ _) ∧ True) from ⟨?_,⟨0,?_,?_⟩,trivial⟩) <;> simp -implicitDefEqProofs only [go_sem,↓reduceIte,reduceCtorEq,e,e2,lift_setM]
 | false =>
  have e : takesB ns k = true:=by unfold takesB; rw [hk,hn]; rfl
  have e2 : takeN ns k = ns ++ [k]:=by unfold takeN; rw [e]; rfl
  have hm:=mS_no hn
  refine AW.rT (by rfl) fun K hK=>?_
  simp -implicitDefEqProofs only [go_sem,↓reduceIte,Nat.reduceAdd,Nat.reduceEqDiff]
  refine ⟨.pure _,runes_Name k hl,?_⟩
  try simp -implicitDefEqProofs only [go_sem,↓reduceIte,Nat.reduceAdd,Nat.reduceEqDiff,reduceCtorEq,hk]
  refine ⟨keyS k,_,hm,_,rfl,?_⟩
  try simp -implicitDefEqProofs only [go_sem,↓reduceIte,Nat.reduceAdd,Nat.reduceMul,Nat.reduceEqDiff,Nat.reduceLeDiff,reduceCtorEq,Int.reduceToNat]
  apply hK;clear hK K
  refine AW.cF rfl ?_
  refine AW.skip ?_
  simp only [andThen]
  refine AW.rT (by rfl) fun K hK=>?_
  simp -implicitDefEqProofs only [go_sem,↓reduceIte,Nat.reduceAdd,Nat.reduceEqDiff,reduceCtorEq]
  refine ⟨keyS k,_,hm,?_⟩
  try simp -implicitDefEqProofs only [go_sem]
  apply hK;clear hK K
  refine AW.rT (by rfl) fun K hK=>?_
  simp -implicitDefEqProofs only [go_sem,Nat.reduceAdd]
  apply hK;clear hK K
  refine AW.ret (show _ ∧ ((∃ l,_ ∧ _) ∧ True) from ⟨?_,⟨0,?_,?_⟩,trivial⟩) <;> simp -implicitDefEqProofs only [go_sem,↓reduceIte,reduceCtorEq,e,e2,lift_setM,mS_add]
theorem frS_eq {ns : List (List UInt8)} {k : List UInt8} (h : ns.all (fun n=>!(n == k)) = true) : ns.contains k = false:=by
 rw [contains_any,List.any_eq_false]
 intro x hx
 have:=List.all_eq_true.1 h x hx
 simp at this ⊢
 intro e
 exact this e.symm
def frS (ns : List (List UInt8)) (k : List UInt8) (i : Nat) : St:=⟨ofL [(0,.p (.str k)),(1,.p (.slice (ns.map encS))),(5,.p (.int .i64 (i : Int)))],ofH [],0⟩
theorem ref07_fresh (ns : List (List UInt8)) (k : List UInt8) (hn : ns.length ≤ 2000000) (hl : k.length ≤ 1000000000) : PFn Tryz.prog 19 [.str k,.slice (ns.map encS)] (.bool (takesB ns k)):=by
 refine PFn.of Tryz.func19 rfl (by decide) Tryz.ntmps19 Tryz.results19 (Nat.le_of_ble_eq_true rfl) ?_
 simp only [argsT]
 refine AW.rT (by rfl) fun K hK=>?_
 simp -implicitDefEqProofs only [go_sem]
 apply hK;clear hK K
 refine AW.seq ?_
 refine AW.rT (by rfl) fun K hK=>?_
 simp -implicitDefEqProofs only [go_sem,Nat.reduceAdd]
 apply hK;clear hK K
 refine AW.block ?_
 refine AW.loop (frS ns k) (fun i=>i ≤ ns.length ∧ (ns.take i).all (fun n=>!(n == k)) = true) (fun i=>ns.length - i) 0 ?_ (by simp) fun i hi=>?_
 ·simp only [frS]
  refine Ghost.sub ?_ ?_ <;> simp -implicitDefEqProofs only [go_sem,↓reduceIte,Nat.reduceEqDiff,reduceCtorEq,List.forall_mem_cons,List.not_mem_nil,false_implies,implies_true,and_self,AV.labsIn]
  rfl
 obtain ⟨g1,g2⟩:=hi
 simp only [frS]
 refine AW.seq ?_
 by_cases hil : i < ns.length
 case neg =>
  have hc1 : ((i : Int) < (ns.length : Int)) = False:=eq_false (by omega)
  rw [List.take_of_length_le (by omega)] at g2
  have e : takesB ns k = nameB k:=by unfold takesB; rw [frS_eq g2]; simp
  refine AW.rT (by rfl) fun K hK=>?_
  simp -implicitDefEqProofs only [go_sem,↓reduceIte,Nat.reduceAdd,Nat.reduceEqDiff,reduceCtorEq,hc1,List.length_map]
  apply hK;clear hK K
  refine AW.cF rfl ?_
  refine AW.exit ?_
  simp only [andThen,inBlk,↓reduceIte]
  refine AW.rT (by rfl) fun K hK=>?_
  simp -implicitDefEqProofs only [go_sem,↓reduceIte,Nat.reduceAdd,reduceCtorEq]
  refine ⟨.pure _,ref01_Name k hl,?_⟩
  try simp -implicitDefEqProofs only [go_sem,Nat.reduceAdd]
  apply hK;clear hK K
  refine AW.ret ?_
  simp -implicitDefEqProofs only [go_sem,e]
 obtain ⟨e,he⟩ : ∃ e,ns[i]? = some e:=⟨_,List.getElem?_eq_getElem hil⟩
 have ⟨he1,he2,he3⟩:=at_map' encS he
 have he3' : (ns.map encS).getD i [] = [.str e]:=he3
 have hc1 : ((i : Int) < (ns.length : Int)) = True:=eq_true (by omega)
 refine AW.rT (by rfl) fun K hK=>?_
 simp -implicitDefEqProofs only [go_sem,↓reduceIte,Nat.reduceAdd,Nat.reduceEqDiff,reduceCtorEq,hc1,List.length_map]
 apply hK;clear hK K
 refine AW.cT rfl ?_
 refine AW.skip ?_
 simp only [andThen]
 refine AW.seq ?_
 refine AW.block ?_
 cases hk : (e == k) with
 | true =>
  have hck : ns.contains k = true:=by
   have : e = k:=by simpa using hk
   subst this
   rw [List.contains_iff_mem]
   exact List.mem_of_getElem? he
  have ek : takesB ns k = false:=by unfold takesB; rw [hck]; simp
  refine AW.rT (by rfl) fun K hK=>?_
  simp -implicitDefEqProofs only [go_sem,↓reduceIte,Nat.reduceAdd,Nat.reduceEqDiff,reduceCtorEq,he1,he3',hc1,List.length_map,hk]
  apply hK;clear hK K
  refine AW.cT rfl ?_
  refine AW.rT (by rfl) fun K hK=>?_
  simp -implicitDefEqProofs only [go_sem,Nat.reduceAdd]
  apply hK;clear hK K
  refine AW.ret ?_
  simp -implicitDefEqProofs only [go_sem,ek]
 | false =>
  refine AW.rT (by rfl) fun K hK=>?_
  simp -implicitDefEqProofs only [go_sem,↓reduceIte,Nat.reduceAdd,Nat.reduceEqDiff,reduceCtorEq,he1,he3',hc1,List.length_map,hk]
  apply hK;clear hK K
  refine AW.cF rfl ?_
  refine AW.skip ?_
  simp only [andThen,inBlk]
  have w1 : IntKind.wrap .i64 ((i : Int) + 1) = ((i + 1 : Nat) : Int):=by rw [w64] <;> omega
  refine AW.rE (by rfl) fun K hK=>?_
  simp -implicitDefEqProofs only [go_sem,↓reduceIte,Nat.reduceAdd,Nat.reduceEqDiff,reduceCtorEq,w1]
  apply hK;clear hK K
  refine ⟨i + 1,⟨by omega,all_next he g2 (by rw [hk]; rfl)⟩,by omega,?_⟩
  refine Ghost.sub ?_ ?_ <;> simp -implicitDefEqProofs only [go_sem,↓reduceIte,Nat.reduceEqDiff,reduceCtorEq,List.forall_mem_cons,List.not_mem_nil,false_implies,implies_true,and_self,AV.labsIn]
end Go.Aw
namespace Go.Aw
open Go.Proofs Go.RowKit
theorem res_no {l : List Int} {k : Int} (h : l.all (fun n=>!(n == k)) = true) : l.contains k = false:=by
 rw [contains_any,List.any_eq_false]
 intro x hx
 have:=List.all_eq_true.1 h x hx
 simp at this ⊢
 intro e
 exact this e.symm
def st40 (m : Ms) (k : Int) (i : Nat) : St:=⟨ofL [(1,.p (.int .i64 k)),(2,.ptr 0 0 0),(5,.p (.int .i64 (i : Int)))],ofH [(0,.row 3 [cellsMs m])],1⟩
theorem ref07_Reserved (m : Ms) (k : Int) (hl : m.res.length ≤ 1000000) : PFn Tryz.prog 55 [.agg (encMs m),.int .i64 k] (.bool (m.res.contains k)):=by
 refine PFn.of Tryz.func55 rfl (by decide) Tryz.ntmps55 Tryz.results55 (Nat.le_of_ble_eq_true rfl) ?_
 simp only [argsT,encMs]
 refine AW.rT (by rfl) fun K hK=>?_
 simp -implicitDefEqProofs only [go_sem,Nat.reduceAdd]
 apply hK;clear hK K
 refine AW.seq ?_
 refine AW.rT (by rfl) fun K hK=>?_
 simp -implicitDefEqProofs only [go_sem,Nat.reduceAdd]
 apply hK;clear hK K
 refine AW.block ?_
 refine AW.loop (st40 m k) (fun i=>i ≤ m.res.length ∧ (m.res.take i).all (fun n=>!(n == k)) = true) (fun i=>m.res.length - i) 0 ?_ (by simp) fun i hi=>?_
 ·simp only [st40,cellsMs]
  refine Ghost.sub ?_ ?_ <;> simp -implicitDefEqProofs only [go_sem,↓reduceIte,Nat.reduceEqDiff,List.forall_mem_cons,List.not_mem_nil,false_implies,implies_true,and_self,List.all_cons,List.all_nil,Nat.reduceLT,labsInL,AV.labsIn]
  rfl
 obtain ⟨g1,g2⟩:=hi
 simp only [st40,cellsMs]
 refine AW.seq ?_
 by_cases hil : i < m.res.length
 case neg =>
  have hc1 : ((i : Int) < (m.res.length : Int)) = False:=eq_false (by omega)
  rw [List.take_of_length_le (by omega)] at g2
  have e:=res_no g2
  refine AW.rT (by rfl) fun K hK=>?_
  simp -implicitDefEqProofs only [go_sem,↓reduceIte,Nat.reduceAdd,Nat.reduceEqDiff,hc1,List.length_map]
  apply hK;clear hK K
  refine AW.cF rfl ?_
  refine AW.exit ?_
  simp only [andThen,inBlk,↓reduceIte]
  refine AW.rT (by rfl) fun K hK=>?_
  simp -implicitDefEqProofs only [go_sem,Nat.reduceAdd]
  apply hK;clear hK K
  refine AW.ret ?_
  simp -implicitDefEqProofs only [go_sem,e]
 obtain ⟨e,he⟩ : ∃ e,m.res[i]? = some e:=⟨_,List.getElem?_eq_getElem hil⟩
 have ⟨he1,he2,he3⟩:=at_map' encI he
 have he3' : (m.res.map encI).getD i [] = [.int .i64 e]:=he3
 have hc1 : ((i : Int) < (m.res.length : Int)) = True:=eq_true (by omega)
 refine AW.rT (by rfl) fun K hK=>?_
 simp -implicitDefEqProofs only [go_sem,↓reduceIte,Nat.reduceAdd,Nat.reduceEqDiff,hc1,List.length_map]
 apply hK;clear hK K
 refine AW.cT rfl ?_
 refine AW.skip ?_
 simp only [andThen]
 refine AW.seq ?_
 refine AW.block ?_
 cases hk : (e == k) with
 | true =>
  have ek : m.res.contains k = true:=by
   have : e = k:=by simpa using hk
   subst this
   rw [List.contains_iff_mem]
   exact List.mem_of_getElem? he
  refine AW.rT (by rfl) fun K hK=>?_
  simp -implicitDefEqProofs only [go_sem,↓reduceIte,Nat.reduceAdd,Nat.reduceEqDiff,he1,he3',hc1,List.length_map,hk]
  apply hK;clear hK K
  refine AW.cT rfl ?_
  refine AW.rT (by rfl) fun K hK=>?_
  simp -implicitDefEqProofs only [go_sem,Nat.reduceAdd]
  apply hK;clear hK K
  refine AW.ret ?_
  simp -implicitDefEqProofs only [go_sem,ek]
 | false =>
  refine AW.rT (by rfl) fun K hK=>?_
  simp -implicitDefEqProofs only [go_sem,↓reduceIte,Nat.reduceAdd,Nat.reduceEqDiff,he1,he3',hc1,List.length_map,hk]
  apply hK;clear hK K
  refine AW.cF rfl ?_
  refine AW.skip ?_
  simp only [andThen,inBlk]
  have w1 : IntKind.wrap .i64 ((i : Int) + 1) = ((i + 1 : Nat) : Int):=by rw [w64] <;> omega
  refine AW.rE (by rfl) fun K hK=>?_
  simp -implicitDefEqProofs only [go_sem,↓reduceIte,Nat.reduceAdd,Nat.reduceEqDiff,w1]
  apply hK;clear hK K
  refine ⟨i + 1,⟨by omega,all_next he g2 (by rw [hk]; rfl)⟩,by omega,?_⟩
  refine Ghost.sub ?_ ?_ <;> simp -implicitDefEqProofs only [go_sem,↓reduceIte,Nat.reduceEqDiff,List.forall_mem_cons,List.not_mem_nil,false_implies,implies_true,and_self,List.all_cons,List.all_nil,Nat.reduceLT,labsInL,AV.labsIn]
theorem rep_ty {w : World} {I : Nat → Prop} {u : Value} {r : Ty} (h : rep w I u (.agg (encTy r))) : u = .agg #[.int .i64 r.kind,.string ⟨⟨r.name⟩⟩]:=by
 cases h with
 | agg hs hr =>
 rename_i vs
 have hsz : vs.size = 2:=by rw [hs]; rfl
 have h0:=hr 0 _ _ (Array.getElem?_eq_getElem (by omega)) rfl
 have h1:=hr 1 _ _ (Array.getElem?_eq_getElem (by omega)) rfl
 generalize e0 : vs[0] = v0 at h0
 generalize e1 : vs[1] = v1 at h1
 cases h0; cases h1
 congr 1
 apply Array.ext
 ·rw [hsz]; rfl
 ·intro i hi hi'
  have : i < 2:=by simpa using hi'
  match i,this with
  | 0,_=>exact e0
  | 1,_=>exact e1
theorem eq46 (x y : Ty) (w : World) : (Op.equalIn 10000 57 (.agg #[.int .i64 x.kind,.string ⟨⟨x.name⟩⟩]) (.agg #[.int .i64 y.kind,.string ⟨⟨y.name⟩⟩])).run Tryz.prog w = .ok (decide (x = y)) w:=by
 have u3:=Tryz.underlying3
 have u9:=Tryz.underlying9
 have a3:=Tryz.isAgg3
 have a9:=Tryz.isAgg9
 have z3:=Tryz.sizeOf3
 have z9:=Tryz.sizeOf9
 have hS : Tryz.prog.underlying 57 = some (.struct (Tryz.prog.fieldsOf 57)):=by kernel_rfl
 have hp : Tryz.prog.stoodInHeld 57 = false:=by kernel_rfl
 rw [show (10000 : Nat) = 9999 + 1 from rfl,run_equalIn_agg w 9999 57 _ _ hS hp]
 simp only [Program.fieldsOf,Tryz.underlying57]
 go_simp
 obtain ⟨a0,a1⟩:=x
 obtain ⟨b0,b1⟩:=y
 simp only [Ty.mk.injEq]
 by_cases h0 : a0 = b0 <;> by_cases h1 : a1 = b1 <;> simp [h0,h1]
theorem eqP_ty (x y : Ty) : EqP Tryz.prog 57 (.agg (encTy x)) (.agg (encTy y)) (decide (x = y)):=by
 intro w I u v hu hv
 rw [rep_ty hu,rep_ty hv]
 refine ⟨?_,?_,fun op a b=>run_eqGuard_agg _ op 57 a b _ _ (by kernel_rfl)⟩
 ·rw [run_eql_struct,eq46]; rfl
 ·rw [run_neq_struct,eq46]; rfl
def labelB (n : Int) : Bool:=decide (1 ≤ n ∧ n ≤ 3)
def kindB (S : Sc) (y : Ty) : Bool:=if y.kind = 6 then (firstP (fun x=>x.name == y.name) zEn S.enums).2 else if y.kind = 7 then (firstP (fun x=>x.name == y.name) zMs S.msgs).2 else decide (1 ≤ y.kind ∧ y.kind ≤ 5) && (y.name == [])
def fieldB (S : Sc) (f : Fd) : Bool:=labelB f.label && kindB S f.ty
theorem kind_cases (k : Int) : k < 1 ∨ k = 1 ∨ k = 2 ∨ k = 3 ∨ k = 4 ∨ k = 5 ∨ k = 6 ∨ k = 7 ∨ 7 < k:=by omega
theorem label_cases (k : Int) : k < 1 ∨ (1 ≤ k ∧ k ≤ 3) ∨ 3 < k:=by omega
def kdS (S : Sc) (y : Ty) (b : Bool) : St:=⟨ofL [(2,.ptr 0 0 0),(3,.ptr 1 0 0),(10,.p (.int .i64 y.kind)),(11,.p (.bool b))],ofH [(0,.row 4 [cellsSc S]),(1,.row 2 [[.p (.int .i64 y.kind),.p (.str y.name)]])],2⟩
theorem ref07_kind (S : Sc) (y : Ty) (h1 : S.msgs.length ≤ 1000000) (h2 : S.enums.length ≤ 1000000) : PFn Tryz.prog 56 [.agg (encSc S),.agg (encTy y)] (.bool (kindB S y)):=by
 refine PFn.of Tryz.func56 rfl (by decide) Tryz.ntmps56 Tryz.results56 (Nat.le_of_ble_eq_true rfl) ?_
 simp only [argsT,encSc,encTy]
 refine AW.rT (by rfl) fun K hK=>?_
 simp -implicitDefEqProofs only [go_sem,↓reduceIte,Nat.reduceAdd,Nat.reduceEqDiff]
 apply hK;clear hK K
 refine AW.seq ?_
 refine AW.rT (by rfl) fun K hK=>?_
 simp -implicitDefEqProofs only [go_sem,↓reduceIte,Nat.reduceAdd,Nat.reduceEqDiff]
 apply hK;clear hK K
 refine AW.block ?_
 refine AW.cut (fun _ : Unit=>kdS S y (decide (1 ≤ y.kind ∧ y.kind ≤ 5))) (fun _=>True) ?_ fun _ _=>?_
 ·rcases kind_cases y.kind with hk | hk | hk | hk | hk | hk | hk | hk | hk
  ·skip
   have k1 : (y.kind == 1) = false:=by simp; omega
   have k2 : (y.kind == 2) = false:=by simp; omega
   have k3 : (y.kind == 3) = false:=by simp; omega
   have k4 : (y.kind == 4) = false:=by simp; omega
   have k5 : (y.kind == 5) = false:=by simp; omega
   have e : decide (1 ≤ y.kind ∧ y.kind ≤ 5) = false:=decide_eq_false (by omega)
   refine AW.rT (by rfl) fun K hK=>?_
   simp -implicitDefEqProofs only [go_sem,↓reduceIte,Nat.reduceAdd,k1]
   apply hK;clear hK K
   refine AW.cF rfl ?_
   refine AW.rT (by rfl) fun K hK=>?_
   simp -implicitDefEqProofs only [go_sem,↓reduceIte,Nat.reduceAdd,Nat.reduceEqDiff,k2]
   apply hK;clear hK K
   refine AW.cF rfl ?_
   refine AW.rT (by rfl) fun K hK=>?_
   simp -implicitDefEqProofs only [go_sem,↓reduceIte,Nat.reduceAdd,Nat.reduceEqDiff,k3]
   apply hK;clear hK K
   refine AW.cF rfl ?_
   refine AW.rT (by rfl) fun K hK=>?_
   simp -implicitDefEqProofs only [go_sem,↓reduceIte,Nat.reduceAdd,Nat.reduceEqDiff,k4]
   apply hK;clear hK K
   refine AW.cF rfl ?_
   refine AW.rE (by rfl) fun K hK=>?_
   simp -implicitDefEqProofs only [go_sem,↓reduceIte,Nat.reduceAdd,Nat.reduceEqDiff,k5]
   apply hK;clear hK K
   simp only [andThen]
   refine ⟨(),trivial,?_⟩
   simp only [kdS,cellsSc]
   refine Ghost.sub ?_ ?_ <;> simp -implicitDefEqProofs only [go_sem,↓reduceIte,Nat.reduceEqDiff,reduceCtorEq,e,List.forall_mem_cons,List.not_mem_nil,false_implies,implies_true,and_self,List.all_cons,List.all_nil,Nat.reduceLT,labsInL,AV.labsIn]
  ·skip
   have k1 : (y.kind == 1) = true:=by simp; omega
   have e : decide (1 ≤ y.kind ∧ y.kind ≤ 5) = true:=decide_eq_true (by omega)
   refine AW.rT (by rfl) fun K hK=>?_
   simp -implicitDefEqProofs only [go_sem,↓reduceIte,Nat.reduceAdd,k1]
   apply hK;clear hK K
   refine AW.cT rfl ?_
   refine AW.skip ?_
   simp only [andThen]
   refine ⟨(),trivial,?_⟩
   simp only [kdS,cellsSc]
   refine Ghost.sub ?_ ?_ <;> simp -implicitDefEqProofs only [go_sem,↓reduceIte,Nat.reduceEqDiff,reduceCtorEq,e,List.forall_mem_cons,List.not_mem_nil,false_implies,implies_true,and_self,List.all_cons,List.all_nil,Nat.reduceLT,labsInL,AV.labsIn]
  ·skip
   have k1 : (y.kind == 1) = false:=by simp; omega
   have k2 : (y.kind == 2) = true:=by simp; omega
   have e : decide (1 ≤ y.kind ∧ y.kind ≤ 5) = true:=decide_eq_true (by omega)
   refine AW.rT (by rfl) fun K hK=>?_
   simp -implicitDefEqProofs only [go_sem,↓reduceIte,Nat.reduceAdd,k1]
   apply hK;clear hK K
   refine AW.cF rfl ?_
   refine AW.rT (by rfl) fun K hK=>?_
   simp -implicitDefEqProofs only [go_sem,↓reduceIte,Nat.reduceAdd,Nat.reduceEqDiff,k2]
   apply hK;clear hK K
   refine AW.cT rfl ?_
   refine AW.skip ?_
   simp only [andThen]
   refine ⟨(),trivial,?_⟩
   simp only [kdS,cellsSc]
   refine Ghost.sub ?_ ?_ <;> simp -implicitDefEqProofs only [go_sem,↓reduceIte,Nat.reduceEqDiff,reduceCtorEq,e,List.forall_mem_cons,List.not_mem_nil,false_implies,implies_true,and_self,List.all_cons,List.all_nil,Nat.reduceLT,labsInL,AV.labsIn]
  ·skip
   have k1 : (y.kind == 1) = false:=by simp; omega
   have k2 : (y.kind == 2) = false:=by simp; omega
   have k3 : (y.kind == 3) = true:=by simp; omega
   have e : decide (1 ≤ y.kind ∧ y.kind ≤ 5) = true:=decide_eq_true (by omega)
   refine AW.rT (by rfl) fun K hK=>?_
   simp -implicitDefEqProofs only [go_sem,↓reduceIte,Nat.reduceAdd,k1]
   apply hK;clear hK K
   refine AW.cF rfl ?_
   refine AW.rT (by rfl) fun K hK=>?_
   simp -implicitDefEqProofs only [go_sem,↓reduceIte,Nat.reduceAdd,Nat.reduceEqDiff,k2]
   apply hK;clear hK K
   refine AW.cF rfl ?_
   refine AW.rT (by rfl) fun K hK=>?_
   simp -implicitDefEqProofs only [go_sem,↓reduceIte,Nat.reduceAdd,Nat.reduceEqDiff,k3]
   apply hK;clear hK K
   refine AW.cT rfl ?_
   refine AW.skip ?_
   simp only [andThen]
   refine ⟨(),trivial,?_⟩
   simp only [kdS,cellsSc]
   refine Ghost.sub ?_ ?_ <;> simp -implicitDefEqProofs only [go_sem,↓reduceIte,Nat.reduceEqDiff,reduceCtorEq,e,List.forall_mem_cons,List.not_mem_nil,false_implies,implies_true,and_self,List.all_cons,List.all_nil,Nat.reduceLT,labsInL,AV.labsIn]
  ·skip
   have k1 : (y.kind == 1) = false:=by simp; omega
   have k2 : (y.kind == 2) = false:=by simp; omega
   have k3 : (y.kind == 3) = false:=by simp; omega
   have k4 : (y.kind == 4) = true:=by simp; omega
   have e : decide (1 ≤ y.kind ∧ y.kind ≤ 5) = true:=decide_eq_true (by omega)
   refine AW.rT (by rfl) fun K hK=>?_
   simp -implicitDefEqProofs only [go_sem,↓reduceIte,Nat.reduceAdd,k1]
   apply hK;clear hK K
   refine AW.cF rfl ?_
   refine AW.rT (by rfl) fun K hK=>?_
   simp -implicitDefEqProofs only [go_sem,↓reduceIte,Nat.reduceAdd,Nat.reduceEqDiff,k2]
   apply hK;clear hK K
   refine AW.cF rfl ?_
   refine AW.rT (by rfl) fun K hK=>?_
   simp -implicitDefEqProofs only [go_sem,↓reduceIte,Nat.reduceAdd,Nat.reduceEqDiff,k3]
   apply hK;clear hK K
   refine AW.cF rfl ?_
   refine AW.rT (by rfl) fun K hK=>?_
   simp -implicitDefEqProofs only [go_sem,↓reduceIte,Nat.reduceAdd,Nat.reduceEqDiff,k4]
   apply hK;clear hK K
   refine AW.cT rfl ?_
   refine AW.skip ?_
   simp only [andThen]
   refine ⟨(),trivial,?_⟩
   simp only [kdS,cellsSc]
   refine Ghost.sub ?_ ?_ <;> simp -implicitDefEqProofs only [go_sem,↓reduceIte,Nat.reduceEqDiff,reduceCtorEq,e,List.forall_mem_cons,List.not_mem_nil,false_implies,implies_true,and_self,List.all_cons,List.all_nil,Nat.reduceLT,labsInL,AV.labsIn]
  ·skip
   have k1 : (y.kind == 1) = false:=by simp; omega
   have k2 : (y.kind == 2) = false:=by simp; omega
   have k3 : (y.kind == 3) = false:=by simp; omega
   have k4 : (y.kind == 4) = false:=by simp; omega
   have k5 : (y.kind == 5) = true:=by simp; omega
   have e : decide (1 ≤ y.kind ∧ y.kind ≤ 5) = true:=decide_eq_true (by omega)
   refine AW.rT (by rfl) fun K hK=>?_
   simp -implicitDefEqProofs only [go_sem,↓reduceIte,Nat.reduceAdd,k1]
   apply hK;clear hK K
   refine AW.cF rfl ?_
   refine AW.rT (by rfl) fun K hK=>?_
   simp -implicitDefEqProofs only [go_sem,↓reduceIte,Nat.reduceAdd,Nat.reduceEqDiff,k2]
   apply hK;clear hK K
   refine AW.cF rfl ?_
   refine AW.rT (by rfl) fun K hK=>?_
   simp -implicitDefEqProofs only [go_sem,↓reduceIte,Nat.reduceAdd,Nat.reduceEqDiff,k3]
   apply hK;clear hK K
   refine AW.cF rfl ?_
   refine AW.rT (by rfl) fun K hK=>?_
   simp -implicitDefEqProofs only [go_sem,↓reduceIte,Nat.reduceAdd,Nat.reduceEqDiff,k4]
   apply hK;clear hK K
   refine AW.cF rfl ?_
   refine AW.rE (by rfl) fun K hK=>?_
   simp -implicitDefEqProofs only [go_sem,↓reduceIte,Nat.reduceAdd,Nat.reduceEqDiff,k5]
   apply hK;clear hK K
   simp only [andThen]
   refine ⟨(),trivial,?_⟩
   simp only [kdS,cellsSc]
   refine Ghost.sub ?_ ?_ <;> simp -implicitDefEqProofs only [go_sem,↓reduceIte,Nat.reduceEqDiff,reduceCtorEq,e,List.forall_mem_cons,List.not_mem_nil,false_implies,implies_true,and_self,List.all_cons,List.all_nil,Nat.reduceLT,labsInL,AV.labsIn]
  ·skip
   have k1 : (y.kind == 1) = false:=by simp; omega
   have k2 : (y.kind == 2) = false:=by simp; omega
   have k3 : (y.kind == 3) = false:=by simp; omega
   have k4 : (y.kind == 4) = false:=by simp; omega
   have k5 : (y.kind == 5) = false:=by simp; omega
   have e : decide (1 ≤ y.kind ∧ y.kind ≤ 5) = false:=decide_eq_false (by omega)
   refine AW.rT (by rfl) fun K hK=>?_
   simp -implicitDefEqProofs only [go_sem,↓reduceIte,Nat.reduceAdd,k1]
   apply hK;clear hK K
   refine AW.cF rfl ?_
   refine AW.rT (by rfl) fun K hK=>?_
   simp -implicitDefEqProofs only [go_sem,↓reduceIte,Nat.reduceAdd,Nat.reduceEqDiff,k2]
   apply hK;clear hK K
   refine AW.cF rfl ?_
   refine AW.rT (by rfl) fun K hK=>?_
   simp -implicitDefEqProofs only [go_sem,↓reduceIte,Nat.reduceAdd,Nat.reduceEqDiff,k3]
   apply hK;clear hK K
   refine AW.cF rfl ?_
   refine AW.rT (by rfl) fun K hK=>?_
   simp -implicitDefEqProofs only [go_sem,↓reduceIte,Nat.reduceAdd,Nat.reduceEqDiff,k4]
   apply hK;clear hK K
   refine AW.cF rfl ?_
   refine AW.rE (by rfl) fun K hK=>?_
   simp -implicitDefEqProofs only [go_sem,↓reduceIte,Nat.reduceAdd,Nat.reduceEqDiff,k5]
   apply hK;clear hK K
   simp only [andThen]
   refine ⟨(),trivial,?_⟩
   simp only [kdS,cellsSc]
   refine Ghost.sub ?_ ?_ <;> simp -implicitDefEqProofs only [go_sem,↓reduceIte,Nat.reduceEqDiff,reduceCtorEq,e,List.forall_mem_cons,List.not_mem_nil,false_implies,implies_true,and_self,List.all_cons,List.all_nil,Nat.reduceLT,labsInL,AV.labsIn]
  ·skip
   have k1 : (y.kind == 1) = false:=by simp; omega
   have k2 : (y.kind == 2) = false:=by simp; omega
   have k3 : (y.kind == 3) = false:=by simp; omega
   have k4 : (y.kind == 4) = false:=by simp; omega
   have k5 : (y.kind == 5) = false:=by simp; omega
   have e : decide (1 ≤ y.kind ∧ y.kind ≤ 5) = false:=decide_eq_false (by omega)
   refine AW.rT (by rfl) fun K hK=>?_
   simp -implicitDefEqProofs only [go_sem,↓reduceIte,Nat.reduceAdd,k1]
   apply hK;clear hK K
   refine AW.cF rfl ?_
   refine AW.rT (by rfl) fun K hK=>?_
   simp -implicitDefEqProofs only [go_sem,↓reduceIte,Nat.reduceAdd,Nat.reduceEqDiff,k2]
   apply hK;clear hK K
   refine AW.cF rfl ?_
   refine AW.rT (by rfl) fun K hK=>?_
   simp -implicitDefEqProofs only [go_sem,↓reduceIte,Nat.reduceAdd,Nat.reduceEqDiff,k3]
   apply hK;clear hK K
   refine AW.cF rfl ?_
   refine AW.rT (by rfl) fun K hK=>?_
   simp -implicitDefEqProofs only [go_sem,↓reduceIte,Nat.reduceAdd,Nat.reduceEqDiff,k4]
   apply hK;clear hK K
   refine AW.cF rfl ?_
   refine AW.rE (by rfl) fun K hK=>?_
   simp -implicitDefEqProofs only [go_sem,↓reduceIte,Nat.reduceAdd,Nat.reduceEqDiff,k5]
   apply hK;clear hK K
   simp only [andThen]
   refine ⟨(),trivial,?_⟩
   simp only [kdS,cellsSc]
   refine Ghost.sub ?_ ?_ <;> simp -implicitDefEqProofs only [go_sem,↓reduceIte,Nat.reduceEqDiff,reduceCtorEq,e,List.forall_mem_cons,List.not_mem_nil,false_implies,implies_true,and_self,List.all_cons,List.all_nil,Nat.reduceLT,labsInL,AV.labsIn]
  ·skip
   have k1 : (y.kind == 1) = false:=by simp; omega
   have k2 : (y.kind == 2) = false:=by simp; omega
   have k3 : (y.kind == 3) = false:=by simp; omega
   have k4 : (y.kind == 4) = false:=by simp; omega
   have k5 : (y.kind == 5) = false:=by simp; omega
   have e : decide (1 ≤ y.kind ∧ y.kind ≤ 5) = false:=decide_eq_false (by omega)
   refine AW.rT (by rfl) fun K hK=>?_
   simp -implicitDefEqProofs only [go_sem,↓reduceIte,Nat.reduceAdd,k1]
   apply hK;clear hK K
   refine AW.cF rfl ?_
   refine AW.rT (by rfl) fun K hK=>?_
   simp -implicitDefEqProofs only [go_sem,↓reduceIte,Nat.reduceAdd,Nat.reduceEqDiff,k2]
   apply hK;clear hK K
   refine AW.cF rfl ?_
   refine AW.rT (by rfl) fun K hK=>?_
   simp -implicitDefEqProofs only [go_sem,↓reduceIte,Nat.reduceAdd,Nat.reduceEqDiff,k3]
   apply hK;clear hK K
   refine AW.cF rfl ?_
   refine AW.rT (by rfl) fun K hK=>?_
   simp -implicitDefEqProofs only [go_sem,↓reduceIte,Nat.reduceAdd,Nat.reduceEqDiff,k4]
   apply hK;clear hK K
   refine AW.cF rfl ?_
   refine AW.rE (by rfl) fun K hK=>?_
   simp -implicitDefEqProofs only [go_sem,↓reduceIte,Nat.reduceAdd,Nat.reduceEqDiff,k5]
   apply hK;clear hK K
   simp only [andThen]
   refine ⟨(),trivial,?_⟩
   simp only [kdS,cellsSc]
   refine Ghost.sub ?_ ?_ <;> simp -implicitDefEqProofs only [go_sem,↓reduceIte,Nat.reduceEqDiff,reduceCtorEq,e,List.forall_mem_cons,List.not_mem_nil,false_implies,implies_true,and_self,List.all_cons,List.all_nil,Nat.reduceLT,labsInL,AV.labsIn]
 simp only [kdS,cellsSc]
 by_cases hin : 1 ≤ y.kind ∧ y.kind ≤ 5
 ·have e : kindB S y = (y.name == []):=by
   unfold kindB
   rw [if_neg (by omega),if_neg (by omega),decide_eq_true hin,Bool.true_and]
  rw [decide_eq_true hin]
  refine AW.cT rfl ?_
  refine AW.rT (by rfl) fun K hK=>?_
  simp -implicitDefEqProofs only [go_sem,↓reduceIte,Nat.reduceAdd]
  apply hK;clear hK K
  refine AW.ret ?_
  simp -implicitDefEqProofs only [go_sem,e]
 rw [decide_eq_false hin]
 refine AW.cF rfl ?_
 by_cases h6 : y.kind = 6
 ·have k6 : (y.kind == 6) = true:=by simp; omega
  have e : kindB S y = (firstP (fun x=>x.name == y.name) zEn S.enums).2:=by unfold kindB; rw [if_pos h6]
  have C:=ref07_Enum S y.name h2
  simp only [encSc,encEn] at C
  refine AW.rT (by rfl) fun K hK=>?_
  simp -implicitDefEqProofs only [go_sem,↓reduceIte,Nat.reduceAdd,Nat.reduceEqDiff,k6]
  apply hK;clear hK K
  refine AW.cT rfl ?_
  refine AW.rT (by rfl) fun K hK=>?_
  simp -implicitDefEqProofs only [go_sem,↓reduceIte,Nat.reduceAdd,Nat.reduceEqDiff,Nat.reduceLeDiff]
  refine ⟨.pure _,C,?_⟩
  try simp -implicitDefEqProofs only [go_sem,↓reduceIte,Nat.reduceAdd,Nat.reduceEqDiff,Nat.reduceLeDiff]
  apply hK;clear hK K
  refine AW.rT (by rfl) fun K hK=>?_
  simp -implicitDefEqProofs only [go_sem,Nat.reduceAdd]
  apply hK;clear hK K
  refine AW.ret ?_
  simp -implicitDefEqProofs only [go_sem,e]
 have k6 : (y.kind == 6) = false:=by simp; omega
 refine AW.rT (by rfl) fun K hK=>?_
 simp -implicitDefEqProofs only [go_sem,↓reduceIte,Nat.reduceAdd,Nat.reduceEqDiff,k6]
 apply hK;clear hK K
 refine AW.cF rfl ?_
 by_cases h7 : y.kind = 7
 ·have k7 : (y.kind == 7) = true:=by simp; omega
  have e : kindB S y = (firstP (fun x=>x.name == y.name) zMs S.msgs).2:=by unfold kindB; rw [if_neg h6,if_pos h7]
  have C:=ref07_Message S y.name h1
  simp only [encSc,encMs] at C
  refine AW.rT (by rfl) fun K hK=>?_
  simp -implicitDefEqProofs only [go_sem,↓reduceIte,Nat.reduceAdd,Nat.reduceEqDiff,k7]
  apply hK;clear hK K
  refine AW.cT rfl ?_
  refine AW.rT (by rfl) fun K hK=>?_
  simp -implicitDefEqProofs only [go_sem,↓reduceIte,Nat.reduceAdd,Nat.reduceEqDiff,Nat.reduceLeDiff]
  refine ⟨.pure _,C,?_⟩
  try simp -implicitDefEqProofs only [go_sem,↓reduceIte,Nat.reduceAdd,Nat.reduceEqDiff,Nat.reduceLeDiff]
  apply hK;clear hK K
  refine AW.rT (by rfl) fun K hK=>?_
  simp -implicitDefEqProofs only [go_sem,Nat.reduceAdd]
  apply hK;clear hK K
  refine AW.ret ?_
  simp -implicitDefEqProofs only [go_sem,e]
 have k7 : (y.kind == 7) = false:=by simp; omega
 have e : kindB S y = false:=by unfold kindB; rw [if_neg h6,if_neg h7,decide_eq_false hin]; rfl
 refine AW.rT (by rfl) fun K hK=>?_
 simp -implicitDefEqProofs only [go_sem,↓reduceIte,Nat.reduceAdd,Nat.reduceEqDiff,k7]
 apply hK;clear hK K
 refine AW.cF rfl ?_
 refine AW.skip ?_
 simp only [andThen,inBlk]
 refine AW.rT (by rfl) fun K hK=>?_
 simp -implicitDefEqProofs only [go_sem,Nat.reduceAdd]
 apply hK;clear hK K
 refine AW.ret ?_
 simp -implicitDefEqProofs only [go_sem,e]
def fiS (S : Sc) (f : Fd) : St:=⟨ofL [(2,.ptr 0 0 0),(3,.ptr 1 0 0),(5,.p (.bool (labelB f.label)))],ofH [(0,.row 4 [cellsSc S]),(1,.row 5 [[.p (.str f.name),.p (.int .i64 f.tag),.p (.int .i64 f.label),.p (.int .i64 f.ty.kind),.p (.str f.ty.name)]])],2⟩
theorem check_field (S : Sc) (f : Fd) (h1 : S.msgs.length ≤ 1000000) (h2 : S.enums.length ≤ 1000000) : PFn Tryz.prog 62 [.agg (encSc S),.agg (encFd f)] (.bool (fieldB S f)):=by
 refine PFn.of Tryz.func62 rfl (by decide) Tryz.ntmps62 Tryz.results62 (Nat.le_of_ble_eq_true rfl) ?_
 simp only [argsT,encSc,encFd]
 refine AW.rT (by rfl) fun K hK=>?_
 simp -implicitDefEqProofs only [go_sem,↓reduceIte,Nat.reduceAdd,Nat.reduceEqDiff]
 apply hK;clear hK K
 refine AW.cut (fun _ : Unit=>fiS S f) (fun _=>True) ?_ fun _ _=>?_
 ·rcases label_cases f.label with hl | hl | hl
  ·have f1 : (f.label ≥ 1) = False:=eq_false (by omega)
   have e : labelB f.label = false:=decide_eq_false (by omega)
   refine AW.rE (by rfl) fun K hK=>?_
   simp -implicitDefEqProofs only [go_sem,↓reduceIte,Nat.reduceAdd,Nat.reduceEqDiff,f1]
   apply hK;clear hK K
   simp only [andThen]
   refine ⟨(),trivial,?_⟩
   simp only [fiS,cellsSc]
   refine Ghost.sub ?_ ?_ <;> simp -implicitDefEqProofs only [go_sem,↓reduceIte,Nat.reduceEqDiff,reduceCtorEq,e,List.forall_mem_cons,List.not_mem_nil,false_implies,implies_true,and_self,List.all_cons,List.all_nil,Nat.reduceLT,labsInL,AV.labsIn]
  ·have f1 : (f.label ≥ 1) = True:=eq_true (by omega)
   have f2 : (f.label ≤ 3) = True:=eq_true (by omega)
   have e : labelB f.label = true:=decide_eq_true (by omega)
   refine AW.rE (by rfl) fun K hK=>?_
   simp -implicitDefEqProofs only [go_sem,↓reduceIte,Nat.reduceAdd,Nat.reduceEqDiff,f1,f2]
   apply hK;clear hK K
   simp only [andThen]
   refine ⟨(),trivial,?_⟩
   simp only [fiS,cellsSc]
   refine Ghost.sub ?_ ?_ <;> simp -implicitDefEqProofs only [go_sem,↓reduceIte,Nat.reduceEqDiff,reduceCtorEq,e,List.forall_mem_cons,List.not_mem_nil,false_implies,implies_true,and_self,List.all_cons,List.all_nil,Nat.reduceLT,labsInL,AV.labsIn]
  ·have f1 : (f.label ≥ 1) = True:=eq_true (by omega)
   have f2 : (f.label ≤ 3) = False:=eq_false (by omega)
   have e : labelB f.label = false:=decide_eq_false (by omega)
   refine AW.rE (by rfl) fun K hK=>?_
   simp -implicitDefEqProofs only [go_sem,↓reduceIte,Nat.reduceAdd,Nat.reduceEqDiff,f1,f2]
   apply hK;clear hK K
   simp only [andThen]
   refine ⟨(),trivial,?_⟩
   simp only [fiS,cellsSc]
   refine Ghost.sub ?_ ?_ <;> simp -implicitDefEqProofs only [go_sem,↓reduceIte,Nat.reduceEqDiff,reduceCtorEq,e,List.forall_mem_cons,List.not_mem_nil,false_implies,implies_true,and_self,List.all_cons,List.all_nil,Nat.reduceLT,labsInL,AV.labsIn]
 simp only [fiS,cellsSc]
 refine AW.seq ?_
 refine AW.rT (by rfl) fun K hK=>?_
 simp -implicitDefEqProofs only [go_sem,↓reduceIte,Nat.reduceAdd]
 apply hK;clear hK K
 refine AW.block ?_
 by_cases h6 : f.ty.kind = 6
 ·have k6 : (f.ty.kind == 6) = true:=by simp; omega
  have e : fieldB S f = (labelB f.label && (firstP (fun x=>x.name == f.ty.name) zEn S.enums).2):=by unfold fieldB kindB; rw [if_pos h6]
  have C:=check_Enum S f.ty.name h2
  simp only [encSc,encEn] at C
  refine AW.rT (by rfl) fun K hK=>?_
  simp -implicitDefEqProofs only [go_sem,↓reduceIte,Nat.reduceAdd,k6]
  apply hK;clear hK K
  refine AW.cT rfl ?_
  refine AW.rT (by rfl) fun K hK=>?_
  simp -implicitDefEqProofs only [go_sem,↓reduceIte,Nat.reduceAdd,Nat.reduceEqDiff,Nat.reduceLeDiff]
  refine ⟨.pure _,C,?_⟩
  try simp -implicitDefEqProofs only [go_sem,↓reduceIte,Nat.reduceAdd,Nat.reduceEqDiff,Nat.reduceLeDiff]
  apply hK;clear hK K
  cases hb : labelB f.label with
  | true =>
   rw [hb,Bool.true_and] at e
   refine AW.rT (by rfl) fun K hK=>?_
   simp -implicitDefEqProofs only [go_sem,↓reduceIte,Nat.reduceAdd,Nat.reduceEqDiff]
   apply hK;clear hK K
   refine AW.ret ?_
   simp -implicitDefEqProofs only [go_sem,e]
  | false =>
   rw [hb,Bool.false_and] at e
   refine AW.rT (by rfl) fun K hK=>?_
   simp -implicitDefEqProofs only [go_sem,↓reduceIte,Nat.reduceAdd,Nat.reduceEqDiff]
   apply hK;clear hK K
   refine AW.ret ?_
   simp -implicitDefEqProofs only [go_sem,e]
 have k6 : (f.ty.kind == 6) = false:=by simp; omega
 refine AW.rT (by rfl) fun K hK=>?_
 simp -implicitDefEqProofs only [go_sem,↓reduceIte,Nat.reduceAdd,k6]
 apply hK;clear hK K
 refine AW.cF rfl ?_
 by_cases h7 : f.ty.kind = 7
 ·have k7 : (f.ty.kind == 7) = true:=by simp; omega
  have e : fieldB S f = (labelB f.label && (firstP (fun x=>x.name == f.ty.name) zMs S.msgs).2):=by unfold fieldB kindB; rw [if_neg h6,if_pos h7]
  have C:=check_Message S f.ty.name h1
  simp only [encSc,encMs] at C
  refine AW.rT (by rfl) fun K hK=>?_
  simp -implicitDefEqProofs only [go_sem,↓reduceIte,Nat.reduceAdd,Nat.reduceEqDiff,k7]
  apply hK;clear hK K
  refine AW.cT rfl ?_
  refine AW.rT (by rfl) fun K hK=>?_
  simp -implicitDefEqProofs only [go_sem,↓reduceIte,Nat.reduceAdd,Nat.reduceEqDiff,Nat.reduceLeDiff]
  refine ⟨.pure _,C,?_⟩
  try simp -implicitDefEqProofs only [go_sem,↓reduceIte,Nat.reduceAdd,Nat.reduceEqDiff,Nat.reduceLeDiff]
  apply hK;clear hK K
  cases hb : labelB f.label with
  | true =>
   rw [hb,Bool.true_and] at e
   refine AW.rT (by rfl) fun K hK=>?_
   simp -implicitDefEqProofs only [go_sem,↓reduceIte,Nat.reduceAdd,Nat.reduceEqDiff]
   apply hK;clear hK K
   refine AW.ret ?_
   simp -implicitDefEqProofs only [go_sem,e]
  | false =>
   rw [hb,Bool.false_and] at e
   refine AW.rT (by rfl) fun K hK=>?_
   simp -implicitDefEqProofs only [go_sem,↓reduceIte,Nat.reduceAdd,Nat.reduceEqDiff]
   apply hK;clear hK K
   refine AW.ret ?_
   simp -implicitDefEqProofs only [go_sem,e]
 have k7 : (f.ty.kind == 7) = false:=by simp; omega
 have e : fieldB S f = (labelB f.label && (decide (1 ≤ f.ty.kind ∧ f.ty.kind ≤ 5) && (f.ty.name == []))):=by unfold fieldB kindB; rw [if_neg h6,if_neg h7]
 refine AW.rT (by rfl) fun K hK=>?_
 simp -implicitDefEqProofs only [go_sem,↓reduceIte,Nat.reduceAdd,Nat.reduceEqDiff,k7]
 apply hK;clear hK K
 refine AW.cF rfl ?_
 refine AW.skip ?_
 simp only [andThen,inBlk]
 cases hb : labelB f.label with
 | false =>
  rw [hb,Bool.false_and] at e
  refine AW.rT (by rfl) fun K hK=>?_
  simp -implicitDefEqProofs only [go_sem,↓reduceIte,Nat.reduceAdd,Nat.reduceEqDiff]
  apply hK;clear hK K
  refine AW.ret ?_
  simp -implicitDefEqProofs only [go_sem,e]
 | true =>
 rw [hb,Bool.true_and] at e
 by_cases h3 : f.ty.kind ≥ 1
 case neg =>
  have f1 : (f.ty.kind ≥ 1) = False:=eq_false h3
  rw [decide_eq_false (by omega),Bool.false_and] at e
  refine AW.rT (by rfl) fun K hK=>?_
  simp -implicitDefEqProofs only [go_sem,↓reduceIte,Nat.reduceAdd,Nat.reduceEqDiff,f1]
  apply hK;clear hK K
  refine AW.ret ?_
  simp -implicitDefEqProofs only [go_sem,e]
 have f1 : (f.ty.kind ≥ 1) = True:=eq_true h3
 have E:=eqP_ty f.ty ⟨f.ty.kind,[]⟩
 simp only [encTy] at E
 have ee : decide (f.ty = ⟨f.ty.kind,[]⟩) = (f.ty.name == []):=by
  rw [Bool.eq_iff_iff]
  cases f with
  | mk a b c d=>cases d; simp
 rw [ee] at E
 cases hn : (f.ty.name == ([] : List UInt8)) with
 | false =>
  rw [hn] at E
  rw [hn,Bool.and_false] at e
  refine AW.rT (by rfl) fun K hK=>?_
  simp -implicitDefEqProofs only [go_sem,↓reduceIte,Nat.reduceAdd,Nat.reduceEqDiff,Nat.reduceLeDiff,f1]
  refine ⟨_,E,?_⟩
  try simp -implicitDefEqProofs only [go_sem,↓reduceIte,Nat.reduceAdd,Nat.reduceEqDiff]
  apply hK;clear hK K
  refine AW.ret ?_
  simp -implicitDefEqProofs only [go_sem,e]
 | true =>
  rw [hn] at E
  rw [hn,Bool.and_true] at e
  by_cases h4 : f.ty.kind < 6
  ·have f2 : (f.ty.kind < 6) = True:=eq_true h4
   rw [decide_eq_true (by omega)] at e
   refine AW.rT (by rfl) fun K hK=>?_
   simp -implicitDefEqProofs only [go_sem,↓reduceIte,Nat.reduceAdd,Nat.reduceEqDiff,Nat.reduceLeDiff,f1]
   refine ⟨_,E,?_⟩
   try simp -implicitDefEqProofs only [go_sem,↓reduceIte,Nat.reduceAdd,Nat.reduceEqDiff,f2]
   apply hK;clear hK K
   refine AW.ret ?_
   simp -implicitDefEqProofs only [go_sem,e]
  ·have f2 : (f.ty.kind < 6) = False:=eq_false h4
   rw [decide_eq_false (by omega)] at e
   refine AW.rT (by rfl) fun K hK=>?_
   simp -implicitDefEqProofs only [go_sem,↓reduceIte,Nat.reduceAdd,Nat.reduceEqDiff,Nat.reduceLeDiff,f1]
   refine ⟨_,E,?_⟩
   try simp -implicitDefEqProofs only [go_sem,↓reduceIte,Nat.reduceAdd,Nat.reduceEqDiff,f2]
   apply hK;clear hK K
   refine AW.ret ?_
   simp -implicitDefEqProofs only [go_sem,e]
end Go.Aw
namespace Go.Aw
open Go.Proofs Go.RowKit
def resBad (us : List Int) : List Int → Bool
 | []=>false
 | t :: l=>if (tagB t && !us.contains t) = true then resBad (us ++ [t]) l else true
theorem resBad_at {l : List Int} {i : Nat} {t : Int} {us : List Int} (h : l[i]? = some t) : resBad us (l.drop i) = if (tagB t && !us.contains t) = true then resBad (us ++ [t]) (l.drop (i + 1)) else true:=by
 rw [List.drop_eq_getElem_cons (List.getElem?_eq_some_iff.1 h).1,(List.getElem?_eq_some_iff.1 h).2,resBad]
def fldsC (S : Sc) (ns : List (List UInt8)) (us : List Int) : List Fd → Int
 | []=>0
 | f :: l=>if takesB ns f.name = true then (if (tagB f.tag && !us.contains f.tag) = true then (if fieldB S f = true then fldsC S (ns ++ [f.name]) (us ++ [f.tag]) l else 8) else 7) else 6
theorem fldsC_at {S : Sc} {l : List Fd} {i : Nat} {f : Fd} {ns : List (List UInt8)} {us : List Int} (h : l[i]? = some f) :
  fldsC S ns us (l.drop i) = if takesB ns f.name = true then (if (tagB f.tag && !us.contains f.tag) = true then (if fieldB S f = true then fldsC S (ns ++ [f.name]) (us ++ [f.tag]) (l.drop (i + 1)) else 8) else 7) else 6:=by
 rw [List.drop_eq_getElem_cons (List.getElem?_eq_some_iff.1 h).1,(List.getElem?_eq_some_iff.1 h).2,fldsC]
def bodyC (S : Sc) (m : Ms) : Int:=if m.fields.length > 16 ∨ m.res.length > 32 then 4 else if resBad [] m.res = true then 7 else fldsC S [] m.res m.fields
def msgC (S : Sc) (ns : List (List UInt8)) (m : Ms) : Int:=if takesB ns m.name = true then bodyC S m else 6
theorem take_map_next {α β : Type} (g : α → β) {l : List α} {i : Nat} {a : α} (h : l[i]? = some a) : (l.take (i + 1)).map g = (l.take i).map g ++ [g a]:=by
 rw [List.take_add_one,h]; simp
def me1 (S : Sc) (m : Ms) (ns : List (List UInt8)) (i : Nat) : St:=⟨ofL [(1,.map 1),(3,.ptr 0 0 0),(5,.ptr 2 0 0),(7,.map 3),(32,.p (.slice (m.res.map encI))),(33,.p (.int .i64 (m.res.length : Int))),(34,.p (.int .i64 (i : Int)))],
 ofH [(0,.row 4 [cellsSc S]),(1,.map (mS ns)),(2,.row 3 [cellsMs m]),(3,.map (mI (m.res.take i)))],4⟩
def me2 (S : Sc) (m : Ms) (ns : List (List UInt8)) (i : Nat) : St:=⟨ofL [(1,.map 1),(3,.ptr 0 0 0),(7,.map 3),(10,.map 4),(51,.p (.slice (m.fields.map encFd))),(52,.p (.int .i64 (m.fields.length : Int))),(53,.p (.int .i64 (i : Int)))],
 ofH [(0,.row 4 [cellsSc S]),(1,.map (mS ns)),(3,.map (mI (m.res ++ (m.fields.take i).map Fd.tag))),(4,.map (mS ((m.fields.take i).map Fd.name)))],5⟩
def lensF (m : Ms) : Prop:=m.name.length ≤ 1000000000 ∧ ∀ f ∈ m.fields,f.name.length ≤ 1000000000
theorem check_message (S : Sc) (ns : List (List UInt8)) (m : Ms) (h1 : S.msgs.length ≤ 1000000) (h2 : S.enums.length ≤ 1000000) (hm : lensF m) :
  LFn Tryz.prog 42 [.v (.agg (encSc S)),.map (setM ns),.v (.agg (encMs m))] [none,some (.map (setM (takeN ns m.name))),none] (.int .i64 (msgC S ns m)):=by
 refine LFn.of Tryz.func42 rfl (by decide) Tryz.ntmps42 Tryz.results42 (Nat.le_of_ble_eq_true rfl) rfl fun val=>?_
 simp only [laT,laH,laPins,LA.av,List.length_cons,List.length_nil,lift_setM,encSc,encMs]
 refine AW.rT (by rfl) fun K hK=>?_
 simp -implicitDefEqProofs only [go_sem,↓reduceIte,Nat.reduceAdd,Nat.reduceEqDiff,reduceCtorEq]
 apply hK;clear hK K
 refine AW.seq ?_
 refine AW.block ?_
 have TK:=check_takes ns m.name hm.1
 cases ht : takesB ns m.name with
 | false =>
  have e : msgC S ns m = 6:=by unfold msgC; rw [ht]; rfl
  have e2 : takeN ns m.name = ns:=by unfold takeN; rw [ht]; rfl
  rw [ht,e2] at TK
  refine AW.rT (by rfl) fun K hK=>?_
  simp -implicitDefEqProofs only [go_sem,↓reduceIte,Nat.reduceAdd,Nat.reduceEqDiff]
  refine ⟨.lend [some 1,none] [.map (setM ns),.v (.str m.name)] [some (.map (setM ns)),none] (.bool false),⟨TK,rfl,?_⟩,?_⟩
  ·simp -implicitDefEqProofs only [go_sem,↓reduceIte,Nat.reduceEqDiff,lift_setM]
  try simp -implicitDefEqProofs only [go_sem,Nat.reduceAdd,lift_setM]
  apply hK;clear hK K
  refine AW.cond _ (by simp -implicitDefEqProofs only [go_sem]; rfl) (fun hc=>?_) (fun hc=>?_)
  rotate_left
  ·simp at hc
  refine AW.rT (by rfl) fun K hK=>?_
  simp -implicitDefEqProofs only [go_sem,Nat.reduceAdd]
  apply hK;clear hK K
  refine AW.ret (show _ ∧ ((∃ l,_ ∧ _) ∧ True) from ⟨?_,⟨1,?_,?_⟩,trivial⟩) <;> simp -implicitDefEqProofs only [go_sem,↓reduceIte,Nat.reduceEqDiff,e,e2,lift_setM]
 | true =>
 have e0 : msgC S ns m = bodyC S m:=by unfold msgC; rw [ht]; rfl
 have e2 : takeN ns m.name = ns ++ [m.name]:=by unfold takeN; rw [ht]; rfl
 rw [ht,e2] at TK
 refine AW.rT (by rfl) fun K hK=>?_
 simp -implicitDefEqProofs only [go_sem,↓reduceIte,Nat.reduceAdd,Nat.reduceEqDiff]
 refine ⟨.lend [some 1,none] [.map (setM ns),.v (.str m.name)] [some (.map (setM (ns ++ [m.name]))),none] (.bool true),⟨TK,rfl,?_⟩,?_⟩
 ·simp -implicitDefEqProofs only [go_sem,↓reduceIte,Nat.reduceEqDiff,lift_setM]
 try simp -implicitDefEqProofs only [go_sem,Nat.reduceAdd,lift_setM]
 apply hK;clear hK K
 refine AW.cond _ (by simp -implicitDefEqProofs only [go_sem]; rfl) (fun hc=>?_) (fun hc=>?_)
 ·simp at hc
 generalize ns ++ [m.name] = ns' at *
 by_cases c1 : m.fields.length > 16
 ·have b1 : ((m.fields.length : Int) > 16) = True:=eq_true (by omega)
  have e : msgC S ns m = 4:=by rw [e0]; unfold bodyC; rw [if_pos (.inl c1)]
  refine AW.rT (by rfl) fun K hK=>?_
  simp -implicitDefEqProofs only [go_sem,↓reduceIte,Nat.reduceAdd,Nat.reduceEqDiff,b1,List.length_map]
  apply hK;clear hK K
  refine AW.cond _ (by simp -implicitDefEqProofs only [go_sem]; rfl) (fun hc=>?_) (fun hc=>?_)
  rotate_left
  ·simp at hc
  refine AW.rT (by rfl) fun K hK=>?_
  simp -implicitDefEqProofs only [go_sem,Nat.reduceAdd]
  apply hK;clear hK K
  refine AW.ret (show _ ∧ ((∃ l,_ ∧ _) ∧ True) from ⟨?_,⟨1,?_,?_⟩,trivial⟩) <;> simp -implicitDefEqProofs only [go_sem,↓reduceIte,Nat.reduceEqDiff,e,e2,lift_setM]
 have b1 : ((m.fields.length : Int) > 16) = False:=eq_false (by omega)
 by_cases c2 : m.res.length > 32
 ·have b2 : ((m.res.length : Int) > 32) = True:=eq_true (by omega)
  have e : msgC S ns m = 4:=by rw [e0]; unfold bodyC; rw [if_pos (.inr c2)]
  refine AW.rT (by rfl) fun K hK=>?_
  simp -implicitDefEqProofs only [go_sem,↓reduceIte,Nat.reduceAdd,Nat.reduceEqDiff,b1,b2,List.length_map]
  apply hK;clear hK K
  refine AW.cond _ (by simp -implicitDefEqProofs only [go_sem]; rfl) (fun hc=>?_) (fun hc=>?_)
  rotate_left
  ·simp at hc
  refine AW.rT (by rfl) fun K hK=>?_
  simp -implicitDefEqProofs only [go_sem,Nat.reduceAdd]
  apply hK;clear hK K
  refine AW.ret (show _ ∧ ((∃ l,_ ∧ _) ∧ True) from ⟨?_,⟨1,?_,?_⟩,trivial⟩) <;> simp -implicitDefEqProofs only [go_sem,↓reduceIte,Nat.reduceEqDiff,e,e2,lift_setM]
 have b2 : ((m.res.length : Int) > 32) = False:=eq_false (by omega)
 refine AW.rT (by rfl) fun K hK=>?_
 simp -implicitDefEqProofs only [go_sem,↓reduceIte,Nat.reduceAdd,Nat.reduceEqDiff,b1,b2,List.length_map]
 apply hK;clear hK K
 refine AW.cond _ (by simp -implicitDefEqProofs only [go_sem]; rfl) (fun hc=>?_) (fun hc=>?_)
 ·simp at hc
 refine AW.skip ?_
 simp only [andThen,inBlk]
 have e0 : msgC S ns m = if resBad [] m.res = true then 7 else fldsC S [] m.res m.fields:=by rw [e0]; unfold bodyC; rw [if_neg (by omega)]
 refine AW.rT (by rfl) fun K hK=>?_
 simp -implicitDefEqProofs only [go_sem,Nat.reduceAdd]
 apply hK;clear hK K
 refine AW.seq ?_
 refine AW.rT (by rfl) fun K hK=>?_
 simp -implicitDefEqProofs only [go_sem,↓reduceIte,Nat.reduceAdd,Nat.reduceEqDiff,List.length_map]
 apply hK;clear hK K
 refine AW.block ?_
 refine AW.loop (me1 S m ns') (fun i=>i ≤ m.res.length ∧ resBad [] m.res = resBad (m.res.take i) (m.res.drop i)) (fun i=>m.res.length - i) 0 ?_ ⟨by omega,by rw [List.drop_zero,List.take_zero]⟩ fun i hi=>?_
 ·simp only [me1,cellsSc,cellsMs]
  refine Ghost.ent (fun l=>if l = 0 then 3 else if l = 1 then 1 else if l = 2 then 4 else 23) ?_ ?_ ?_ <;> simp -implicitDefEqProofs only [go_sem,↓reduceIte,Nat.reduceEqDiff,reduceCtorEq,List.take_zero,mI_nil,List.forall_mem_cons,List.not_mem_nil,false_implies,implies_true,and_self,List.all_cons,List.all_nil,Nat.reduceLT,labsInL,AV.labsIn]
  all_goals first | rfl | decide | skip
 obtain ⟨i1,i2⟩:=hi
 simp only [me1,cellsSc,cellsMs]
 by_cases hil : i < m.res.length
 case neg =>
  have hc1 : ((i : Int) < (m.res.length : Int)) = False:=eq_false (by omega)
  rw [List.take_of_length_le (by omega),List.drop_of_length_le (by omega),resBad] at i2
  rw [i2,if_neg (by simp)] at e0
  refine AW.rT (by rfl) fun K hK=>?_
  simp -implicitDefEqProofs only [go_sem,↓reduceIte,Nat.reduceAdd,Nat.reduceEqDiff,hc1]
  apply hK;clear hK K
  refine AW.seq ?_
  refine AW.cond _ (by simp -implicitDefEqProofs only [go_sem]; rfl) (fun hc=>?_) (fun hc=>?_)
  ·simp at hc
  refine AW.exit ?_
  simp only [andThen,inBlk,↓reduceIte]
  refine AW.rT (by rfl) fun K hK=>?_
  simp -implicitDefEqProofs only [go_sem,Nat.reduceAdd]
  apply hK;clear hK K
  refine AW.seq ?_
  refine AW.rT (by rfl) fun K hK=>?_
  simp -implicitDefEqProofs only [go_sem,↓reduceIte,Nat.reduceAdd,Nat.reduceEqDiff,reduceCtorEq,List.length_map]
  apply hK;clear hK K
  refine AW.block ?_
  refine AW.loop (me2 S m ns') (fun i=>i ≤ m.fields.length ∧ fldsC S [] m.res m.fields = fldsC S ((m.fields.take i).map Fd.name) (m.res ++ (m.fields.take i).map Fd.tag) (m.fields.drop i)) (fun i=>m.fields.length - i) 0 ?_ ⟨by omega,by simp⟩ fun i hi=>?_
  ·simp only [me2,cellsSc]
   have er : m.res.take i = m.res:=List.take_of_length_le (by omega)
   refine Ghost.ent (fun l=>if l = 0 then 0 else if l = 1 then 1 else if l = 3 then 3 else 5) ?_ ?_ ?_ <;> simp -implicitDefEqProofs only [go_sem,↓reduceIte,Nat.reduceEqDiff,reduceCtorEq,List.take_zero,List.map_nil,List.append_nil,mS_nil,er,List.forall_mem_cons,List.not_mem_nil,false_implies,implies_true,and_self,List.all_cons,List.all_nil,Nat.reduceLT,labsInL,AV.labsIn]
   all_goals first | rfl | decide | skip
  rename_i i0 _ _ _
  obtain ⟨j1,j2⟩:=hi
  simp only [me2,cellsSc]
  by_cases hjl : i < m.fields.length
  case neg =>
   have hc1 : ((i : Int) < (m.fields.length : Int)) = False:=eq_false (by omega)
   rw [List.drop_of_length_le (by omega),fldsC] at j2
   rw [j2] at e0
   refine AW.rT (by rfl) fun K hK=>?_
   simp -implicitDefEqProofs only [go_sem,↓reduceIte,Nat.reduceAdd,Nat.reduceEqDiff,hc1]
   apply hK;clear hK K
   refine AW.seq ?_
   refine AW.cond _ (by simp -implicitDefEqProofs only [go_sem]; rfl) (fun hc=>?_) (fun hc=>?_)
   ·simp at hc
   refine AW.exit ?_
   simp only [andThen,inBlk,↓reduceIte]
   refine AW.rT (by rfl) fun K hK=>?_
   simp -implicitDefEqProofs only [go_sem,Nat.reduceAdd]
   apply hK;clear hK K
   refine AW.ret (show _ ∧ ((∃ l,_ ∧ _) ∧ True) from ⟨?_,⟨1,?_,?_⟩,trivial⟩) <;> simp -implicitDefEqProofs only [go_sem,↓reduceIte,Nat.reduceEqDiff,e0,e2,lift_setM]
  obtain ⟨f,hf⟩ : ∃ f,m.fields[i]? = some f:=⟨_,List.getElem?_eq_getElem hjl⟩
  have ⟨hf1,hf2,hf3⟩:=at_map' encFd hf
  have hc1 : ((i : Int) < (m.fields.length : Int)) = True:=eq_true (by omega)
  have w1 : IntKind.wrap .i64 ((i : Int) + 1) = ((i + 1 : Nat) : Int):=by rw [w64] <;> omega
  rw [fldsC_at hf] at j2
  have hnx:=take_map_next Fd.name hf
  have htx:=take_map_next Fd.tag hf
  generalize hN : (m.fields.take i).map Fd.name = N at *
  generalize hT : m.res ++ (m.fields.take i).map Fd.tag = T at *
  have TK:=check_takes N f.name (hm.2 f (List.mem_of_getElem? hf))
  refine AW.rT (by rfl) fun K hK=>?_
  simp -implicitDefEqProofs only [go_sem,↓reduceIte,Nat.reduceAdd,Nat.reduceEqDiff,hc1]
  apply hK;clear hK K
  refine AW.seq ?_
  refine AW.cond _ (by simp -implicitDefEqProofs only [go_sem]; rfl) (fun hc=>?_) (fun hc=>?_)
  rotate_left
  ·simp at hc
  refine AW.skip ?_
  simp only [andThen]
  refine AW.seq ?_
  refine AW.block ?_
  refine AW.rT (by rfl) fun K hK=>?_
  simp -implicitDefEqProofs only [go_sem,↓reduceIte,Nat.reduceAdd,Nat.reduceEqDiff,Nat.reduceLeDiff,hf1,hf3,hc1,encFd,List.length_map]
  apply hK;clear hK K
  refine AW.seq ?_
  refine AW.block ?_
  cases ht2 : takesB N f.name with
  | false =>
   have e3 : takeN N f.name = N:=by unfold takeN; rw [ht2]; rfl
   rw [ht2,e3] at TK
   rw [ht2,if_neg (by simp)] at j2
   rw [j2] at e0
   refine AW.rT (by rfl) fun K hK=>?_
   simp -implicitDefEqProofs only [go_sem,↓reduceIte,Nat.reduceAdd,Nat.reduceEqDiff]
   refine ⟨.lend [some 4,none] [.map (setM N),.v (.str f.name)] [some (.map (setM N)),none] (.bool false),⟨TK,rfl,?_⟩,?_⟩
   ·simp -implicitDefEqProofs only [go_sem,↓reduceIte,Nat.reduceEqDiff,reduceCtorEq,lift_setM]
   try simp -implicitDefEqProofs only [go_sem,Nat.reduceAdd,lift_setM]
   apply hK;clear hK K
   refine AW.cond _ (by simp -implicitDefEqProofs only [go_sem]; rfl) (fun hc=>?_) (fun hc=>?_)
   rotate_left
   ·simp at hc
   refine AW.rT (by rfl) fun K hK=>?_
   simp -implicitDefEqProofs only [go_sem,Nat.reduceAdd]
   apply hK;clear hK K
   refine AW.ret (show _ ∧ ((∃ l,_ ∧ _) ∧ True) from ⟨?_,⟨1,?_,?_⟩,trivial⟩) <;> simp -implicitDefEqProofs only [go_sem,↓reduceIte,Nat.reduceEqDiff,e0,e2,lift_setM]
  | true =>
  have e3 : takeN N f.name = N ++ [f.name]:=by unfold takeN; rw [ht2]; rfl
  rw [ht2,e3] at TK
  rw [ht2,if_pos rfl] at j2
  refine AW.rT (by rfl) fun K hK=>?_
  simp -implicitDefEqProofs only [go_sem,↓reduceIte,Nat.reduceAdd,Nat.reduceEqDiff]
  refine ⟨.lend [some 4,none] [.map (setM N),.v (.str f.name)] [some (.map (setM (N ++ [f.name]))),none] (.bool true),⟨TK,rfl,?_⟩,?_⟩
  ·simp -implicitDefEqProofs only [go_sem,↓reduceIte,Nat.reduceEqDiff,reduceCtorEq,lift_setM]
  try simp -implicitDefEqProofs only [go_sem,Nat.reduceAdd,lift_setM]
  apply hK;clear hK K
  refine AW.cond _ (by simp -implicitDefEqProofs only [go_sem]; rfl) (fun hc=>?_) (fun hc=>?_)
  ·simp at hc
  cases htg : tagB f.tag with
  | false =>
   rw [htg,Bool.false_and,if_neg (by simp)] at j2
   rw [j2] at e0
   refine AW.rT (by rfl) fun K hK=>?_
   simp -implicitDefEqProofs only [go_sem,↓reduceIte,Nat.reduceAdd,Nat.reduceEqDiff]
   refine ⟨.pure _,check_tag f.tag,?_⟩
   try simp -implicitDefEqProofs only [go_sem,↓reduceIte,Nat.reduceAdd,Nat.reduceEqDiff,htg]
   apply hK;clear hK K
   refine AW.cond _ (by simp -implicitDefEqProofs only [go_sem]; rfl) (fun hc=>?_) (fun hc=>?_)
   rotate_left
   ·simp at hc
   refine AW.rT (by rfl) fun K hK=>?_
   simp -implicitDefEqProofs only [go_sem,Nat.reduceAdd]
   apply hK;clear hK K
   refine AW.ret (show _ ∧ ((∃ l,_ ∧ _) ∧ True) from ⟨?_,⟨1,?_,?_⟩,trivial⟩) <;> simp -implicitDefEqProofs only [go_sem,↓reduceIte,Nat.reduceEqDiff,e0,e2,lift_setM]
  | true =>
  cases hus : T.contains f.tag with
  | true =>
   rw [htg,hus,if_neg (by simp)] at j2
   rw [j2] at e0
   obtain ⟨q,hq⟩:=mI_yes hus
   refine AW.rT (by rfl) fun K hK=>?_
   simp -implicitDefEqProofs only [go_sem,↓reduceIte,Nat.reduceAdd,Nat.reduceEqDiff]
   refine ⟨.pure _,check_tag f.tag,?_⟩
   try simp -implicitDefEqProofs only [go_sem,↓reduceIte,Nat.reduceAdd,Nat.reduceEqDiff,reduceCtorEq,htg]
   refine ⟨keyI f.tag,_,hq,_,rfl,?_⟩
   try simp -implicitDefEqProofs only [go_sem,↓reduceIte,Nat.reduceAdd,Nat.reduceMul,Nat.reduceEqDiff,Nat.reduceLeDiff,reduceCtorEq,Int.reduceToNat]
   apply hK;clear hK K
   refine AW.cond _ (by simp -implicitDefEqProofs only [go_sem]; rfl) (fun hc=>?_) (fun hc=>?_)
   rotate_left
   ·simp at hc
   refine AW.rT (by rfl) fun K hK=>?_
   simp -implicitDefEqProofs only [go_sem,Nat.reduceAdd]
   apply hK;clear hK K
   refine AW.ret (show _ ∧ ((∃ l,_ ∧ _) ∧ True) from ⟨?_,⟨1,?_,?_⟩,trivial⟩) <;> simp -implicitDefEqProofs only [go_sem,↓reduceIte,Nat.reduceEqDiff,e0,e2,lift_setM]
  | false =>
  rw [htg,hus,if_pos (by simp)] at j2
  have hq:=mI_no hus
  refine AW.rT (by rfl) fun K hK=>?_
  simp -implicitDefEqProofs only [go_sem,↓reduceIte,Nat.reduceAdd,Nat.reduceEqDiff]
  refine ⟨.pure _,check_tag f.tag,?_⟩
  try simp -implicitDefEqProofs only [go_sem,↓reduceIte,Nat.reduceAdd,Nat.reduceEqDiff,reduceCtorEq,htg]
  refine ⟨keyI f.tag,_,hq,_,rfl,?_⟩
  try simp -implicitDefEqProofs only [go_sem,↓reduceIte,Nat.reduceAdd,Nat.reduceMul,Nat.reduceEqDiff,Nat.reduceLeDiff,reduceCtorEq,Int.reduceToNat]
  apply hK;clear hK K
  refine AW.cond _ (by simp -implicitDefEqProofs only [go_sem]; rfl) (fun hc=>?_) (fun hc=>?_)
  ·simp at hc
  have CF:=check_field S f h1 h2
  simp only [encSc,encFd] at CF
  refine AW.rT (by rfl) fun K hK=>?_
  simp -implicitDefEqProofs only [go_sem,↓reduceIte,Nat.reduceAdd,Nat.reduceEqDiff,Nat.reduceLeDiff,reduceCtorEq]
  refine ⟨.pure _,CF,?_⟩
  try simp -implicitDefEqProofs only [go_sem,Nat.reduceAdd]
  apply hK;clear hK K
  cases hfb : fieldB S f with
  | false =>
   rw [hfb,if_neg (by simp)] at j2
   rw [j2] at e0
   refine AW.cond _ (by simp -implicitDefEqProofs only [go_sem]; rfl) (fun hc=>?_) (fun hc=>?_)
   rotate_left
   ·simp at hc
   refine AW.rT (by rfl) fun K hK=>?_
   simp -implicitDefEqProofs only [go_sem,Nat.reduceAdd]
   apply hK;clear hK K
   refine AW.ret (show _ ∧ ((∃ l,_ ∧ _) ∧ True) from ⟨?_,⟨1,?_,?_⟩,trivial⟩) <;> simp -implicitDefEqProofs only [go_sem,↓reduceIte,Nat.reduceEqDiff,e0,e2,lift_setM]
  | true =>
   rw [hfb,if_pos rfl] at j2
   refine AW.cond _ (by simp -implicitDefEqProofs only [go_sem]; rfl) (fun hc=>?_) (fun hc=>?_)
   ·simp at hc
   refine AW.skip ?_
   simp only [andThen,inBlk]
   refine AW.rE (by rfl) fun K hK=>?_
   simp -implicitDefEqProofs only [go_sem,↓reduceIte,Nat.reduceAdd,Nat.reduceEqDiff,reduceCtorEq]
   refine ⟨keyI f.tag,_,hq,?_⟩
   try simp -implicitDefEqProofs only [go_sem]
   apply hK;clear hK K
   simp only [andThen,inBlk]
   refine AW.rE (by rfl) fun K hK=>?_
   simp -implicitDefEqProofs only [go_sem,↓reduceIte,Nat.reduceAdd,Nat.reduceEqDiff,w1]
   apply hK;clear hK K
   refine ⟨i + 1,⟨by omega,by rw [hnx,htx,← List.append_assoc,hT]; exact j2⟩,by omega,?_⟩
   rw [hnx,htx,← List.append_assoc,hT]
   refine Ghost.sub ?_ ?_ <;> simp -implicitDefEqProofs only [go_sem,↓reduceIte,Nat.reduceEqDiff,reduceCtorEq,mI_add,List.forall_mem_cons,List.not_mem_nil,false_implies,implies_true,and_self,List.all_cons,List.all_nil,Nat.reduceLT,labsInL,AV.labsIn]
 obtain ⟨t,ht⟩ : ∃ t,m.res[i]? = some t:=⟨_,List.getElem?_eq_getElem hil⟩
 have ⟨ht1,ht2,ht3⟩:=at_map' encI ht
 have ht3' : (m.res.map encI).getD i [] = [.int .i64 t]:=ht3
 have hc1 : ((i : Int) < (m.res.length : Int)) = True:=eq_true (by omega)
 have w1 : IntKind.wrap .i64 ((i : Int) + 1) = ((i + 1 : Nat) : Int):=by rw [w64] <;> omega
 rw [resBad_at ht] at i2
 have hnx : m.res.take (i + 1) = m.res.take i ++ [t]:=by rw [List.take_add_one,ht]; rfl
 refine AW.rT (by rfl) fun K hK=>?_
 simp -implicitDefEqProofs only [go_sem,↓reduceIte,Nat.reduceAdd,Nat.reduceEqDiff,hc1]
 apply hK;clear hK K
 refine AW.seq ?_
 refine AW.cond _ (by simp -implicitDefEqProofs only [go_sem]; rfl) (fun hc=>?_) (fun hc=>?_)
 rotate_left
 ·simp at hc
 refine AW.skip ?_
 simp only [andThen]
 refine AW.seq ?_
 refine AW.block ?_
 refine AW.rT (by rfl) fun K hK=>?_
 simp -implicitDefEqProofs only [go_sem,↓reduceIte,Nat.reduceAdd,Nat.reduceEqDiff,ht1,ht3',hc1,List.length_map]
 apply hK;clear hK K
 refine AW.seq ?_
 cases htg : tagB t with
 | false =>
  rw [htg,Bool.false_and,if_neg (by simp)] at i2
  rw [i2,if_pos rfl] at e0
  refine AW.rT (by rfl) fun K hK=>?_
  simp -implicitDefEqProofs only [go_sem,Nat.reduceAdd]
  refine ⟨.pure _,check_tag t,?_⟩
  try simp -implicitDefEqProofs only [go_sem,↓reduceIte,Nat.reduceAdd,Nat.reduceEqDiff,htg]
  apply hK;clear hK K
  refine AW.cond _ (by simp -implicitDefEqProofs only [go_sem]; rfl) (fun hc=>?_) (fun hc=>?_)
  rotate_left
  ·simp at hc
  refine AW.rT (by rfl) fun K hK=>?_
  simp -implicitDefEqProofs only [go_sem,Nat.reduceAdd]
  apply hK;clear hK K
  refine AW.ret (show _ ∧ ((∃ l,_ ∧ _) ∧ True) from ⟨?_,⟨1,?_,?_⟩,trivial⟩) <;> simp -implicitDefEqProofs only [go_sem,↓reduceIte,Nat.reduceEqDiff,e0,e2,lift_setM]
 | true =>
 cases hus : (m.res.take i).contains t with
 | true =>
  rw [htg,hus,if_neg (by simp)] at i2
  rw [i2,if_pos rfl] at e0
  obtain ⟨q,hq⟩:=mI_yes hus
  refine AW.rT (by rfl) fun K hK=>?_
  simp -implicitDefEqProofs only [go_sem,Nat.reduceAdd]
  refine ⟨.pure _,check_tag t,?_⟩
  try simp -implicitDefEqProofs only [go_sem,↓reduceIte,Nat.reduceAdd,Nat.reduceEqDiff,reduceCtorEq,htg]
  refine ⟨keyI t,_,hq,_,rfl,?_⟩
  try simp -implicitDefEqProofs only [go_sem,↓reduceIte,Nat.reduceAdd,Nat.reduceMul,Nat.reduceEqDiff,Nat.reduceLeDiff,reduceCtorEq,Int.reduceToNat]
  apply hK;clear hK K
  refine AW.cond _ (by simp -implicitDefEqProofs only [go_sem]; rfl) (fun hc=>?_) (fun hc=>?_)
  rotate_left
  ·simp at hc
  refine AW.rT (by rfl) fun K hK=>?_
  simp -implicitDefEqProofs only [go_sem,Nat.reduceAdd]
  apply hK;clear hK K
  refine AW.ret (show _ ∧ ((∃ l,_ ∧ _) ∧ True) from ⟨?_,⟨1,?_,?_⟩,trivial⟩) <;> simp -implicitDefEqProofs only [go_sem,↓reduceIte,Nat.reduceEqDiff,e0,e2,lift_setM]
 | false =>
  rw [htg,hus,if_pos (by simp)] at i2
  have hq:=mI_no hus
  refine AW.rT (by rfl) fun K hK=>?_
  simp -implicitDefEqProofs only [go_sem,Nat.reduceAdd]
  refine ⟨.pure _,check_tag t,?_⟩
  try simp -implicitDefEqProofs only [go_sem,↓reduceIte,Nat.reduceAdd,Nat.reduceEqDiff,reduceCtorEq,htg]
  refine ⟨keyI t,_,hq,_,rfl,?_⟩
  try simp -implicitDefEqProofs only [go_sem,↓reduceIte,Nat.reduceAdd,Nat.reduceMul,Nat.reduceEqDiff,Nat.reduceLeDiff,reduceCtorEq,Int.reduceToNat]
  apply hK;clear hK K
  refine AW.cond _ (by simp -implicitDefEqProofs only [go_sem]; rfl) (fun hc=>?_) (fun hc=>?_)
  ·simp at hc
  refine AW.skip ?_
  simp only [andThen]
  refine AW.rE (by rfl) fun K hK=>?_
  simp -implicitDefEqProofs only [go_sem,↓reduceIte,Nat.reduceAdd,Nat.reduceEqDiff,reduceCtorEq]
  refine ⟨keyI t,_,hq,?_⟩
  try simp -implicitDefEqProofs only [go_sem]
  apply hK;clear hK K
  simp only [andThen,inBlk]
  refine AW.rE (by rfl) fun K hK=>?_
  simp -implicitDefEqProofs only [go_sem,↓reduceIte,Nat.reduceAdd,Nat.reduceEqDiff,w1]
  apply hK;clear hK K
  refine ⟨i + 1,⟨by omega,by rw [hnx]; exact i2⟩,by omega,?_⟩
  rw [hnx]
  refine Ghost.sub ?_ ?_ <;> simp -implicitDefEqProofs only [go_sem,↓reduceIte,Nat.reduceEqDiff,reduceCtorEq,mI_add,List.forall_mem_cons,List.not_mem_nil,false_implies,implies_true,and_self,List.all_cons,List.all_nil,Nat.reduceLT,labsInL,AV.labsIn]
end Go.Aw
namespace Go.Aw
open Go.Proofs Go.RowKit
def rm1 (S : Sc) (m : Ms) (i : Nat) : St:=⟨ofL [(2,.ptr 0 0 0),(3,.ptr 1 0 0),(5,.p (.int .i64 (i : Int)))],ofH [(0,.row 4 [cellsSc S]),(1,.row 3 [cellsMs m])],2⟩
def rm2 (S : Sc) (m : Ms) (i : Nat) : St:=⟨ofL [(2,.ptr 0 0 0),(3,.ptr 1 0 0),(6,.own 2),(7,.p (.int .i64 (i : Int)))],ofH [(0,.row 4 [cellsSc S]),(1,.row 3 [cellsMs m]),(2,.row 1 (liftE (((m.fields.take i).map Fd.name).map encS)))],3⟩
theorem found_tag {l : List Fd} {i : Nat} {t : Int} : (firstP (fun x : Fd=>x.tag == t) zFd (l.take i)).2 = ((l.take i).map Fd.tag).contains t:=by
 rw [contains_any,List.any_map]
 unfold firstP
 cases h : (l.take i).find? fun x=>x.tag == t with
 | none =>
  rw [List.find?_eq_none] at h
  symm
  rw [List.any_eq_false]
  intro x hx
  have:=h x hx
  simp at this ⊢
  intro e
  exact this e.symm
 | some x =>
  symm
  rw [List.any_eq_true]
  exact ⟨x,List.mem_of_find?_eq_some h,by have:=List.find?_some h; simp at this ⊢; exact this.symm⟩
theorem tag_split (t : Int) : t < 1 ∨ 500 < t ∨ (1 ≤ t ∧ t ≤ 500):=by omega
theorem len_encI {l : List Int} : ∀ y ∈ List.map encI l,1 = y.length:=by
 intro y hy
 obtain ⟨a,_,rfl⟩:=List.mem_map.1 hy
 rfl
theorem len_encFd {l : List Fd} : ∀ y ∈ List.map encFd l,5 = y.length:=by
 intro y hy
 obtain ⟨a,_,rfl⟩:=List.mem_map.1 hy
 rfl
theorem ref07_message (S : Sc) (m : Ms) (h1 : S.msgs.length ≤ 1000000) (h2 : S.enums.length ≤ 1000000) (hm : lensF m) :
  PFn Tryz.prog 39 [.agg (encSc S),.agg (encMs m)] (.int .i64 (bodyC S m)):=by
 refine PFn.of Tryz.func39 rfl (by decide) Tryz.ntmps39 Tryz.results39 (Nat.le_of_ble_eq_true rfl) ?_
 simp only [argsT,encSc,encMs]
 refine AW.rT (by rfl) fun K hK=>?_
 simp -implicitDefEqProofs only [go_sem,↓reduceIte,Nat.reduceAdd,Nat.reduceEqDiff]
 apply hK;clear hK K
 refine AW.seq ?_
 by_cases c1 : m.fields.length > 16
 ·have b1 : ((m.fields.length : Int) > 16) = True:=eq_true (by omega)
  have e : bodyC S m = 4:=by unfold bodyC; rw [if_pos (.inl c1)]
  refine AW.rT (by rfl) fun K hK=>?_
  simp -implicitDefEqProofs only [go_sem,↓reduceIte,Nat.reduceAdd,Nat.reduceEqDiff,b1,List.length_map]
  apply hK;clear hK K
  refine AW.cT rfl ?_
  refine AW.rT (by rfl) fun K hK=>?_
  simp -implicitDefEqProofs only [go_sem,Nat.reduceAdd]
  apply hK;clear hK K
  refine AW.ret ?_
  simp -implicitDefEqProofs only [go_sem,e]
 have b1 : ((m.fields.length : Int) > 16) = False:=eq_false (by omega)
 by_cases c2 : m.res.length > 32
 ·have b2 : ((m.res.length : Int) > 32) = True:=eq_true (by omega)
  have e : bodyC S m = 4:=by unfold bodyC; rw [if_pos (.inr c2)]
  refine AW.rT (by rfl) fun K hK=>?_
  simp -implicitDefEqProofs only [go_sem,↓reduceIte,Nat.reduceAdd,Nat.reduceEqDiff,b1,b2,List.length_map]
  apply hK;clear hK K
  refine AW.cT rfl ?_
  refine AW.rT (by rfl) fun K hK=>?_
  simp -implicitDefEqProofs only [go_sem,Nat.reduceAdd]
  apply hK;clear hK K
  refine AW.ret ?_
  simp -implicitDefEqProofs only [go_sem,e]
 have b2 : ((m.res.length : Int) > 32) = False:=eq_false (by omega)
 refine AW.rT (by rfl) fun K hK=>?_
 simp -implicitDefEqProofs only [go_sem,↓reduceIte,Nat.reduceAdd,Nat.reduceEqDiff,b1,b2,List.length_map]
 apply hK;clear hK K
 refine AW.cF rfl ?_
 refine AW.skip ?_
 simp only [andThen]
 have e0 : bodyC S m = if resBad [] m.res = true then 7 else fldsC S [] m.res m.fields:=by unfold bodyC; rw [if_neg (by omega)]
 refine AW.seq ?_
 refine AW.rT (by rfl) fun K hK=>?_
 simp -implicitDefEqProofs only [go_sem,Nat.reduceAdd]
 apply hK;clear hK K
 refine AW.block ?_
 refine AW.loop (rm1 S m) (fun i=>i ≤ m.res.length ∧ resBad [] m.res = resBad (m.res.take i) (m.res.drop i)) (fun i=>m.res.length - i) 0 ?_ ⟨by omega,by rw [List.drop_zero,List.take_zero]⟩ fun i hi=>?_
 ·simp only [rm1,cellsSc,cellsMs]
  refine Ghost.sub ?_ ?_ <;> simp -implicitDefEqProofs only [go_sem,↓reduceIte,Nat.reduceEqDiff,reduceCtorEq,List.forall_mem_cons,List.not_mem_nil,false_implies,implies_true,and_self,List.all_cons,List.all_nil,Nat.reduceLT,labsInL,AV.labsIn]
  rfl
 obtain ⟨i1,i2⟩:=hi
 simp only [rm1,cellsSc,cellsMs]
 refine AW.seq ?_
 by_cases hil : i < m.res.length
 case neg =>
  have hc1 : ((i : Int) < (m.res.length : Int)) = False:=eq_false (by omega)
  rw [List.take_of_length_le (by omega),List.drop_of_length_le (by omega),resBad] at i2
  rw [i2,if_neg (by simp)] at e0
  clear hil
  refine AW.rT (by rfl) fun K hK=>?_
  simp -implicitDefEqProofs only [go_sem,↓reduceIte,Nat.reduceAdd,Nat.reduceEqDiff,hc1,List.length_map]
  apply hK;clear hK K
  refine AW.cF rfl ?_
  refine AW.exit ?_
  simp only [andThen,inBlk,↓reduceIte]
  refine AW.rT (by rfl) fun K hK=>?_
  simp -implicitDefEqProofs only [go_sem,Nat.reduceAdd]
  apply hK;clear hK K
  refine AW.seq ?_
  refine AW.rT (by rfl) fun K hK=>?_
  simp -implicitDefEqProofs only [go_sem,Nat.reduceAdd]
  apply hK;clear hK K
  refine AW.block ?_
  refine AW.loop (rm2 S m) (fun i=>i ≤ m.fields.length ∧ fldsC S [] m.res m.fields = fldsC S ((m.fields.take i).map Fd.name) (m.res ++ (m.fields.take i).map Fd.tag) (m.fields.drop i)) (fun i=>m.fields.length - i) 0 ?_ ⟨by omega,by simp⟩ fun j hj=>?_
  ·refine Ghost.trans (Ghost.nil (t:=6) (sz:=1) rfl) ?_
   simp only [rm2,cellsSc,cellsMs]
   refine Ghost.ent (fun l=>if l = 2 then 9 else l) ?_ ?_ ?_ <;> simp -implicitDefEqProofs only [go_sem,↓reduceIte,Nat.reduceEqDiff,reduceCtorEq,List.take_zero,List.map_nil,liftE_nil,List.forall_mem_cons,List.not_mem_nil,false_implies,implies_true,and_self,List.all_cons,List.all_nil,Nat.reduceLT,labsInL,AV.labsIn]
   all_goals first | rfl | decide | skip
  obtain ⟨j1,j2⟩:=hj
  simp only [rm2,cellsSc,cellsMs]
  refine AW.seq ?_
  by_cases hjl : j < m.fields.length
  case neg =>
   have hc2 : ((j : Int) < (m.fields.length : Int)) = False:=eq_false (by omega)
   rw [List.drop_of_length_le (by omega),fldsC] at j2
   rw [j2] at e0
   refine AW.rT (by rfl) fun K hK=>?_
   simp -implicitDefEqProofs only [go_sem,↓reduceIte,Nat.reduceAdd,Nat.reduceEqDiff,hc2,List.length_map]
   apply hK;clear hK K
   refine AW.cF rfl ?_
   refine AW.exit ?_
   simp only [andThen,inBlk,↓reduceIte]
   refine AW.rT (by rfl) fun K hK=>?_
   simp -implicitDefEqProofs only [go_sem,Nat.reduceAdd]
   apply hK;clear hK K
   refine AW.ret ?_
   simp -implicitDefEqProofs only [go_sem,e0]
  obtain ⟨f,hf⟩ : ∃ f,m.fields[j]? = some f:=⟨_,List.getElem?_eq_getElem hjl⟩
  have ⟨hf1,hf2,hf3⟩:=at_map' encFd hf
  have hc2 : ((j : Int) < (m.fields.length : Int)) = True:=eq_true (by omega)
  have hj3 : ((j : Int) ≤ (m.fields.length : Int)):=by omega
  have w1 : IntKind.wrap .i64 ((j : Int) + 1) = ((j + 1 : Nat) : Int):=by rw [w64] <;> omega
  rw [fldsC_at hf] at j2
  have hnx:=take_map_next Fd.name hf
  have htx:=take_map_next Fd.tag hf
  have hft:=found_tag (l:=m.fields) (i:=j) (t:=f.tag)
  have hNl : ((m.fields.take j).map Fd.name).length ≤ 1000000:=by rw [List.length_map,List.length_take]; omega
  have CFd:=ref07_Field ⟨[],m.fields.take j,[]⟩ f.tag (by show (m.fields.take j).length ≤ 1000000; rw [List.length_take]; omega)
  have CRs:=ref07_Reserved m f.tag (by omega)
  have eF : encMs ⟨[],m.fields.take j,[]⟩ = [.str [],.slice ((m.fields.map encFd).take j),.slice []]:=by simp [encMs,List.map_take]
  rw [eF] at CFd
  simp only [encMs,encFd] at CRs CFd
  generalize hN : (m.fields.take j).map Fd.name = N at *
  generalize hT : (m.fields.take j).map Fd.tag = T at *
  have FR:=ref07_fresh N f.name (by omega) (hm.2 f (List.mem_of_getElem? hf))
  refine AW.rT (by rfl) fun K hK=>?_
  simp -implicitDefEqProofs only [go_sem,↓reduceIte,Nat.reduceAdd,Nat.reduceEqDiff,hc2,List.length_map]
  apply hK;clear hK K
  refine AW.cT rfl ?_
  refine AW.skip ?_
  simp only [andThen]
  refine AW.seq ?_
  refine AW.block ?_
  refine AW.rT (by rfl) fun K hK=>?_
  simp -implicitDefEqProofs only [go_sem,↓reduceIte,Nat.reduceAdd,Nat.reduceEqDiff,Nat.reduceLeDiff,hf1,hf3,hc2,encFd,List.length_map]
  apply hK;clear hK K
  refine AW.seq ?_
  cases ht2 : takesB N f.name with
  | false =>
   rw [ht2] at FR
   rw [ht2,if_neg (by simp)] at j2
   rw [j2] at e0
   refine AW.rT (by rfl) fun K hK=>?_
   simp -implicitDefEqProofs only [go_sem,↓reduceIte,Nat.reduceAdd,Nat.reduceEqDiff,reduceCtorEq]
   refine ⟨.peek _,⟨FR,rfl⟩,?_⟩
   try simp -implicitDefEqProofs only [go_sem,Nat.reduceAdd]
   apply hK;clear hK K
   refine AW.cT rfl ?_
   refine AW.rT (by rfl) fun K hK=>?_
   simp -implicitDefEqProofs only [go_sem,Nat.reduceAdd]
   apply hK;clear hK K
   refine AW.ret ?_
   simp -implicitDefEqProofs only [go_sem,e0]
  | true =>
  rw [ht2] at FR
  rw [ht2,if_pos rfl] at j2
  refine AW.rT (by rfl) fun K hK=>?_
  simp -implicitDefEqProofs only [go_sem,↓reduceIte,Nat.reduceAdd,Nat.reduceEqDiff,reduceCtorEq]
  refine ⟨.peek _,⟨FR,rfl⟩,?_⟩
  try simp -implicitDefEqProofs only [go_sem,Nat.reduceAdd]
  apply hK;clear hK K
  refine AW.cF rfl ?_
  refine AW.skip ?_
  simp only [andThen]
  refine AW.rT (by rfl) fun K hK=>?_
  simp -implicitDefEqProofs only [go_sem,↓reduceIte,Nat.reduceAdd,Nat.reduceMul,Nat.reduceEqDiff,Nat.reduceLeDiff,reduceCtorEq]
  refine ⟨⟨by simp,by simp [oneAll,AV.one,PV.one],by simp⟩,by simp [liftE_length]; omega,?_⟩
  apply hK;clear hK K
  refine AW.seq ?_
  refine AW.dT mixed (by rfl) (by decide +kernel) fun K hK=>?_
  simp -implicitDefEqProofs only [go_sem,↓reduceIte,Nat.reduceAdd,Nat.reduceEqDiff,Nat.reduceLeDiff,hj3,List.length_map]
  refine ⟨len_encFd,by simp,⟨by simp,by simp <;> omega⟩,?_⟩
  refine ⟨.pure _,CFd,?_⟩
  try simp -implicitDefEqProofs only [go_sem,↓reduceIte,Nat.reduceAdd,Nat.reduceEqDiff,Nat.reduceLeDiff]
  refine ⟨by decide +kernel,?_⟩
  apply hK;clear hK K
  cases hTc : T.contains f.tag with
  | true =>
   have hb : (tagB f.tag && !(m.res ++ T).contains f.tag) = false:=by
    have : (m.res ++ T).contains f.tag = true:=by
     rw [List.contains_iff_mem] at hTc ⊢
     exact List.mem_append_right _ hTc
    rw [this]; simp
   rw [hb,if_neg (by simp)] at j2
   rw [j2] at e0
   rw [hTc] at hft
   refine AW.rT (by rfl) fun K hK=>?_
   simp -implicitDefEqProofs only [go_sem,↓reduceIte,Nat.reduceAdd,Nat.reduceEqDiff,hft]
   apply hK;clear hK K
   refine AW.cT rfl ?_
   refine AW.rT (by rfl) fun K hK=>?_
   simp -implicitDefEqProofs only [go_sem,Nat.reduceAdd]
   apply hK;clear hK K
   refine AW.ret ?_
   simp -implicitDefEqProofs only [go_sem,e0]
  | false =>
  rw [hTc] at hft
  rcases tag_split f.tag with htg | htg | htg
  ·have hb : tagB f.tag = false:=decide_eq_false (by omega)
   rw [hb,Bool.false_and,if_neg (by simp)] at j2
   rw [j2] at e0
   have f1 : (f.tag < 1) = True:=eq_true htg
   refine AW.rT (by rfl) fun K hK=>?_
   simp -implicitDefEqProofs only [go_sem,↓reduceIte,Nat.reduceAdd,Nat.reduceEqDiff,hft,f1]
   apply hK;clear hK K
   refine AW.cT rfl ?_
   refine AW.rT (by rfl) fun K hK=>?_
   simp -implicitDefEqProofs only [go_sem,Nat.reduceAdd]
   apply hK;clear hK K
   refine AW.ret ?_
   simp -implicitDefEqProofs only [go_sem,e0]
  ·have hb : tagB f.tag = false:=decide_eq_false (by omega)
   rw [hb,Bool.false_and,if_neg (by simp)] at j2
   rw [j2] at e0
   have f1 : (f.tag < 1) = False:=eq_false (by omega)
   have f2 : (f.tag > 500) = True:=eq_true htg
   refine AW.rT (by rfl) fun K hK=>?_
   simp -implicitDefEqProofs only [go_sem,↓reduceIte,Nat.reduceAdd,Nat.reduceEqDiff,hft,f1,f2]
   apply hK;clear hK K
   refine AW.cT rfl ?_
   refine AW.rT (by rfl) fun K hK=>?_
   simp -implicitDefEqProofs only [go_sem,Nat.reduceAdd]
   apply hK;clear hK K
   refine AW.ret ?_
   simp -implicitDefEqProofs only [go_sem,e0]
  have hb : tagB f.tag = true:=decide_eq_true htg
  rw [hb,Bool.true_and] at j2
  have f1 : (f.tag < 1) = False:=eq_false (by omega)
  have f2 : (f.tag > 500) = False:=eq_false (by omega)
  cases hRc : m.res.contains f.tag with
  | true =>
   have hb : (m.res ++ T).contains f.tag = true:=by
    rw [List.contains_iff_mem] at hRc ⊢
    exact List.mem_append_left _ hRc
   rw [hb,if_neg (by simp)] at j2
   rw [j2] at e0
   refine AW.rT (by rfl) fun K hK=>?_
   simp -implicitDefEqProofs only [go_sem,↓reduceIte,Nat.reduceAdd,Nat.reduceEqDiff,Nat.reduceLeDiff,hft,f1,f2]
   refine ⟨.pure _,CRs,?_⟩
   try simp -implicitDefEqProofs only [go_sem,↓reduceIte,Nat.reduceAdd,Nat.reduceEqDiff,hRc]
   apply hK;clear hK K
   refine AW.cT rfl ?_
   refine AW.rT (by rfl) fun K hK=>?_
   simp -implicitDefEqProofs only [go_sem,Nat.reduceAdd]
   apply hK;clear hK K
   refine AW.ret ?_
   simp -implicitDefEqProofs only [go_sem,e0]
  | false =>
  have hb : (m.res ++ T).contains f.tag = false:=by
   rw [contains_any] at hRc hTc ⊢
   rw [List.any_append,hRc,hTc]; rfl
  rw [hb,if_pos (by simp)] at j2
  refine AW.rT (by rfl) fun K hK=>?_
  simp -implicitDefEqProofs only [go_sem,↓reduceIte,Nat.reduceAdd,Nat.reduceEqDiff,Nat.reduceLeDiff,hft,f1,f2]
  refine ⟨.pure _,CRs,?_⟩
  try simp -implicitDefEqProofs only [go_sem,↓reduceIte,Nat.reduceAdd,Nat.reduceEqDiff,hRc]
  apply hK;clear hK K
  refine AW.cF rfl ?_
  refine AW.skip ?_
  simp only [andThen]
  rcases label_cases f.label with hlb | hlb | hlb
  ·have hb : fieldB S f = false:=by
    have : labelB f.label = false:=decide_eq_false (by omega)
    unfold fieldB; rw [this]; rfl
   rw [hb,if_neg (by simp)] at j2
   rw [j2] at e0
   have g1 : (f.label < 1) = True:=eq_true hlb
   refine AW.rT (by rfl) fun K hK=>?_
   simp -implicitDefEqProofs only [go_sem,↓reduceIte,Nat.reduceAdd,Nat.reduceEqDiff,g1]
   apply hK;clear hK K
   refine AW.cT rfl ?_
   refine AW.rT (by rfl) fun K hK=>?_
   simp -implicitDefEqProofs only [go_sem,Nat.reduceAdd]
   apply hK;clear hK K
   refine AW.ret ?_
   simp -implicitDefEqProofs only [go_sem,e0]
  rotate_left
  ·have hb : fieldB S f = false:=by
    have : labelB f.label = false:=decide_eq_false (by omega)
    unfold fieldB; rw [this]; rfl
   rw [hb,if_neg (by simp)] at j2
   rw [j2] at e0
   have g1 : (f.label < 1) = False:=eq_false (by omega)
   have g2 : (f.label > 3) = True:=eq_true hlb
   refine AW.rT (by rfl) fun K hK=>?_
   simp -implicitDefEqProofs only [go_sem,↓reduceIte,Nat.reduceAdd,Nat.reduceEqDiff,g1,g2]
   apply hK;clear hK K
   refine AW.cT rfl ?_
   refine AW.rT (by rfl) fun K hK=>?_
   simp -implicitDefEqProofs only [go_sem,Nat.reduceAdd]
   apply hK;clear hK K
   refine AW.ret ?_
   simp -implicitDefEqProofs only [go_sem,e0]
  have hb : fieldB S f = kindB S f.ty:=by
   have : labelB f.label = true:=decide_eq_true hlb
   unfold fieldB; rw [this]; rfl
  rw [hb] at j2
  have g1 : (f.label < 1) = False:=eq_false (by omega)
  have g2 : (f.label > 3) = False:=eq_false (by omega)
  have CK:=ref07_kind S f.ty h1 h2
  simp only [encSc,encTy] at CK
  refine AW.rT (by rfl) fun K hK=>?_
  simp -implicitDefEqProofs only [go_sem,↓reduceIte,Nat.reduceAdd,Nat.reduceEqDiff,Nat.reduceLeDiff,reduceCtorEq,g1,g2]
  refine ⟨.pure _,CK,?_⟩
  try simp -implicitDefEqProofs only [go_sem,↓reduceIte,Nat.reduceAdd,Nat.reduceEqDiff]
  cases hk : kindB S f.ty with
  | false =>
   rw [hk,if_neg (by simp)] at j2
   rw [j2] at e0
   simp -implicitDefEqProofs only [go_sem]
   apply hK;clear hK K
   refine AW.cT rfl ?_
   refine AW.rT (by rfl) fun K hK=>?_
   simp -implicitDefEqProofs only [go_sem,Nat.reduceAdd]
   apply hK;clear hK K
   refine AW.ret ?_
   simp -implicitDefEqProofs only [go_sem,e0]
  | true =>
   rw [hk,if_pos rfl] at j2
   simp -implicitDefEqProofs only [go_sem]
   apply hK;clear hK K
   refine AW.cF rfl ?_
   refine AW.skip ?_
   simp only [andThen,inBlk]
   refine AW.rE (by rfl) fun K hK=>?_
   simp -implicitDefEqProofs only [go_sem,↓reduceIte,Nat.reduceAdd,Nat.reduceEqDiff,w1]
   apply hK;clear hK K
   refine ⟨j + 1,⟨by omega,by rw [hnx,htx,← List.append_assoc]; exact j2⟩,by omega,?_⟩
   rw [hnx]
   refine Ghost.ent (fun l=>if l = 2 then 24 else l) ?_ ?_ ?_ <;> simp -implicitDefEqProofs only [go_sem,↓reduceIte,Nat.reduceEqDiff,reduceCtorEq,encS,List.map_append,liftE_append,liftE_cons,liftE_nil,List.forall_mem_cons,List.not_mem_nil,false_implies,implies_true,and_self,map_renL_lift,labsIn_lift,List.all_append,List.all_cons,List.all_nil,List.map_append,Nat.reduceLT,labsInL,AV.labsIn]
 obtain ⟨t,ht⟩ : ∃ t,m.res[i]? = some t:=⟨_,List.getElem?_eq_getElem hil⟩
 have ⟨ht1,ht2,ht3⟩:=at_map' encI ht
 have ht3' : (m.res.map encI).getD i [] = [.int .i64 t]:=ht3
 have hc1 : ((i : Int) < (m.res.length : Int)) = True:=eq_true (by omega)
 have hi3 : ((i : Int) ≤ (m.res.length : Int)):=by omega
 have w1 : IntKind.wrap .i64 ((i : Int) + 1) = ((i + 1 : Nat) : Int):=by rw [w64] <;> omega
 rw [resBad_at ht] at i2
 have hnx : m.res.take (i + 1) = m.res.take i ++ [t]:=by rw [List.take_add_one,ht]; rfl
 have CRs:=ref07_Reserved ⟨[],[],m.res.take i⟩ t (by show (m.res.take i).length ≤ 1000000; rw [List.length_take]; omega)
 have eF : encMs ⟨[],[],m.res.take i⟩ = [.str [],.slice [],.slice ((m.res.map encI).take i)]:=by simp [encMs,List.map_take]
 rw [eF] at CRs
 refine AW.rT (by rfl) fun K hK=>?_
 simp -implicitDefEqProofs only [go_sem,↓reduceIte,Nat.reduceAdd,Nat.reduceEqDiff,hc1,List.length_map]
 apply hK;clear hK K
 refine AW.cT rfl ?_
 refine AW.skip ?_
 simp only [andThen]
 refine AW.seq ?_
 refine AW.block ?_
 rcases tag_split t with htg | htg | htg
 ·have hb : tagB t = false:=decide_eq_false (by omega)
  rw [hb,Bool.false_and,if_neg (by simp)] at i2
  rw [i2,if_pos rfl] at e0
  have f1 : (t < 1) = True:=eq_true htg
  refine AW.dT mixed (by rfl) (by decide +kernel) fun K hK=>?_
  simp -implicitDefEqProofs only [go_sem,↓reduceIte,Nat.reduceAdd,Nat.reduceEqDiff,ht1,ht3',hc1,List.length_map,f1]
  refine ⟨heapOK_nil rfl,?_⟩
  apply hK;clear hK K
  refine AW.cT rfl ?_
  refine AW.rT (by rfl) fun K hK=>?_
  simp -implicitDefEqProofs only [go_sem,Nat.reduceAdd]
  apply hK;clear hK K
  refine AW.ret ?_
  simp -implicitDefEqProofs only [go_sem,e0]
 ·have hb : tagB t = false:=decide_eq_false (by omega)
  rw [hb,Bool.false_and,if_neg (by simp)] at i2
  rw [i2,if_pos rfl] at e0
  have f1 : (t < 1) = False:=eq_false (by omega)
  have f2 : (t > 500) = True:=eq_true htg
  refine AW.dT mixed (by rfl) (by decide +kernel) fun K hK=>?_
  simp -implicitDefEqProofs only [go_sem,↓reduceIte,Nat.reduceAdd,Nat.reduceEqDiff,ht1,ht3',hc1,List.length_map,f1,f2]
  refine ⟨heapOK_nil rfl,?_⟩
  apply hK;clear hK K
  refine AW.cT rfl ?_
  refine AW.rT (by rfl) fun K hK=>?_
  simp -implicitDefEqProofs only [go_sem,Nat.reduceAdd]
  apply hK;clear hK K
  refine AW.ret ?_
  simp -implicitDefEqProofs only [go_sem,e0]
 have hb : tagB t = true:=decide_eq_true htg
 rw [hb,Bool.true_and] at i2
 have f1 : (t < 1) = False:=eq_false (by omega)
 have f2 : (t > 500) = False:=eq_false (by omega)
 cases hus : (m.res.take i).contains t with
 | true =>
  rw [hus,if_neg (by simp)] at i2
  rw [i2,if_pos rfl] at e0
  refine AW.dT mixed (by rfl) (by decide +kernel) fun K hK=>?_
  simp -implicitDefEqProofs only [go_sem,↓reduceIte,Nat.reduceAdd,Nat.reduceEqDiff,Nat.reduceLeDiff,ht1,ht3',hc1,List.length_map,f1,f2]
  refine ⟨len_encI,by simp,⟨by simp,by simp <;> omega⟩,?_⟩
  try simp -implicitDefEqProofs only [go_sem,↓reduceIte,Nat.reduceAdd,Nat.reduceMul,Nat.reduceEqDiff,Nat.reduceLeDiff,reduceCtorEq,Int.reduceToNat,ht1,ht2,ht3',hc1,List.length_map,f1,f2]
  refine ⟨.pure _,CRs,?_⟩
  try simp -implicitDefEqProofs only [go_sem,↓reduceIte,Nat.reduceAdd,Nat.reduceEqDiff,hus]
  refine ⟨heapOK_nil rfl,?_⟩
  apply hK;clear hK K
  refine AW.cT rfl ?_
  refine AW.rT (by rfl) fun K hK=>?_
  simp -implicitDefEqProofs only [go_sem,Nat.reduceAdd]
  apply hK;clear hK K
  refine AW.ret ?_
  simp -implicitDefEqProofs only [go_sem,e0]
 | false =>
  rw [hus,if_pos (by simp)] at i2
  refine AW.dT mixed (by rfl) (by decide +kernel) fun K hK=>?_
  simp -implicitDefEqProofs only [go_sem,↓reduceIte,Nat.reduceAdd,Nat.reduceEqDiff,Nat.reduceLeDiff,ht1,ht3',hc1,List.length_map,f1,f2]
  refine ⟨len_encI,by simp,⟨by simp,by simp <;> omega⟩,?_⟩
  try simp -implicitDefEqProofs only [go_sem,↓reduceIte,Nat.reduceAdd,Nat.reduceMul,Nat.reduceEqDiff,Nat.reduceLeDiff,reduceCtorEq,Int.reduceToNat,ht1,ht2,ht3',hc1,List.length_map,f1,f2]
  refine ⟨.pure _,CRs,?_⟩
  try simp -implicitDefEqProofs only [go_sem,↓reduceIte,Nat.reduceAdd,Nat.reduceEqDiff,hus]
  refine ⟨heapOK_nil rfl,?_⟩
  apply hK;clear hK K
  refine AW.cF rfl ?_
  refine AW.skip ?_
  simp only [andThen,inBlk]
  refine AW.rE (by rfl) fun K hK=>?_
  simp -implicitDefEqProofs only [go_sem,↓reduceIte,Nat.reduceAdd,Nat.reduceEqDiff,w1]
  apply hK;clear hK K
  refine ⟨i + 1,⟨by omega,by rw [hnx]; exact i2⟩,by omega,?_⟩
  refine Ghost.sub ?_ ?_ <;> simp -implicitDefEqProofs only [go_sem,↓reduceIte,Nat.reduceEqDiff,List.forall_mem_cons,List.not_mem_nil,false_implies,implies_true,and_self,List.all_cons,List.all_nil,Nat.reduceLT,labsInL,AV.labsIn]
end Go.Aw
namespace Go.Aw
open Go.Proofs Go.RowKit
def numB (n : Int) : Bool:=decide (0 ≤ n ∧ n ≤ 2147483647)
def valsC (ns : List (List UInt8)) (us : List Int) : List Nm → Int
 | []=>0
 | v :: l=>if takesB ns v.name = true then (if (numB v.n && !us.contains v.n) = true then valsC (ns ++ [v.name]) (us ++ [v.n]) l else 11) else 6
theorem valsC_at {l : List Nm} {i : Nat} {v : Nm} {ns : List (List UInt8)} {us : List Int} (h : l[i]? = some v) :
  valsC ns us (l.drop i) = if takesB ns v.name = true then (if (numB v.n && !us.contains v.n) = true then valsC (ns ++ [v.name]) (us ++ [v.n]) (l.drop (i + 1)) else 11) else 6:=by
 rw [List.drop_eq_getElem_cons (List.getElem?_eq_some_iff.1 h).1,(List.getElem?_eq_some_iff.1 h).2,valsC]
def enumBody (e : En) : Int:=if e.vals.length > 16 then 4 else if (e.vals.any fun v=>v.n == 0) = true then valsC [] [] e.vals else 12
def enumC (ns : List (List UInt8)) (e : En) : Int:=if takesB ns e.name = true then enumBody e else 6
def lensV (e : En) : Prop:=e.name.length ≤ 1000000000 ∧ ∀ v ∈ e.vals,v.name.length ≤ 1000000000
def zeroB (e : En) (i : Nat) : Bool:=(e.vals.take i).any fun v=>v.n == 0
theorem zeroB_next {e : En} {i : Nat} {v : Nm} (h : e.vals[i]? = some v) : zeroB e (i + 1) = (zeroB e i || v.n == 0):=by
 unfold zeroB
 rw [List.take_add_one,h,List.any_append]
 simp
theorem num_split (n : Int) : n < 0 ∨ 2147483647 < n ∨ (0 ≤ n ∧ n ≤ 2147483647):=by omega
def en1 (e : En) (ns : List (List UInt8)) (i : Nat) : St:=⟨ofL [(0,.map 0),(3,.ptr 1 0 0),(5,.p (.bool (zeroB e i))),(24,.p (.slice (e.vals.map encNm))),(25,.p (.int .i64 (e.vals.length : Int))),(26,.p (.int .i64 (i : Int)))],
 ofH [(0,.map (mS ns)),(1,.row 2 [cellsEn e])],2⟩
def en2 (e : En) (ns : List (List UInt8)) (i : Nat) : St:=⟨ofL [(0,.map 0),(8,.map 1),(9,.map 2),(42,.p (.slice (e.vals.map encNm))),(43,.p (.int .i64 (e.vals.length : Int))),(44,.p (.int .i64 (i : Int)))],
 ofH [(0,.map (mS ns)),(1,.map (mS ((e.vals.take i).map Nm.name))),(2,.map (mI ((e.vals.take i).map Nm.n)))],3⟩
theorem check_enum (ns : List (List UInt8)) (e : En) (hm : lensV e) :
  LFn Tryz.prog 43 [.map (setM ns),.v (.agg (encEn e))] [some (.map (setM (takeN ns e.name))),none] (.int .i64 (enumC ns e)):=by
 refine LFn.of Tryz.func43 rfl (by decide) Tryz.ntmps43 Tryz.results43 (Nat.le_of_ble_eq_true rfl) rfl fun val=>?_
 simp only [laT,laH,laPins,LA.av,List.length_cons,List.length_nil,lift_setM,encEn]
 refine AW.rT (by rfl) fun K hK=>?_
 simp -implicitDefEqProofs only [go_sem,↓reduceIte,Nat.reduceAdd]
 apply hK;clear hK K
 refine AW.seq ?_
 refine AW.block ?_
 have TK:=check_takes ns e.name hm.1
 cases ht : takesB ns e.name with
 | false =>
  have er : enumC ns e = 6:=by unfold enumC; rw [ht]; rfl
  have e2 : takeN ns e.name = ns:=by unfold takeN; rw [ht]; rfl
  rw [ht,e2] at TK
  refine AW.rT (by rfl) fun K hK=>?_
  simp -implicitDefEqProofs only [go_sem,↓reduceIte,Nat.reduceAdd,Nat.reduceEqDiff,reduceCtorEq]
  refine ⟨.lend [some 0,none] [.map (setM ns),.v (.str e.name)] [some (.map (setM ns)),none] (.bool false),⟨TK,rfl,?_⟩,?_⟩
  ·simp -implicitDefEqProofs only [go_sem,↓reduceIte,Nat.reduceEqDiff,reduceCtorEq,lift_setM]
  try simp -implicitDefEqProofs only [go_sem,Nat.reduceAdd,lift_setM]
  apply hK;clear hK K
  refine AW.cT rfl ?_
  refine AW.rT (by rfl) fun K hK=>?_
  simp -implicitDefEqProofs only [go_sem,Nat.reduceAdd]
  apply hK;clear hK K
  refine AW.ret (show _ ∧ ((∃ l,_ ∧ _) ∧ True) from ⟨?_,⟨0,?_,?_⟩,trivial⟩) <;> simp -implicitDefEqProofs only [go_sem,↓reduceIte,reduceCtorEq,er,e2,lift_setM]
 | true =>
 have e0 : enumC ns e = enumBody e:=by unfold enumC; rw [ht]; rfl
 have e2 : takeN ns e.name = ns ++ [e.name]:=by unfold takeN; rw [ht]; rfl
 rw [ht,e2] at TK
 refine AW.rT (by rfl) fun K hK=>?_
 simp -implicitDefEqProofs only [go_sem,↓reduceIte,Nat.reduceAdd,Nat.reduceEqDiff,reduceCtorEq]
 refine ⟨.lend [some 0,none] [.map (setM ns),.v (.str e.name)] [some (.map (setM (ns ++ [e.name]))),none] (.bool true),⟨TK,rfl,?_⟩,?_⟩
 ·simp -implicitDefEqProofs only [go_sem,↓reduceIte,Nat.reduceEqDiff,reduceCtorEq,lift_setM]
 try simp -implicitDefEqProofs only [go_sem,Nat.reduceAdd,lift_setM]
 apply hK;clear hK K
 refine AW.cF rfl ?_
 generalize ns ++ [e.name] = ns' at *
 by_cases c1 : e.vals.length > 16
 ·have b1 : ((e.vals.length : Int) > 16) = True:=eq_true (by omega)
  have er : enumC ns e = 4:=by rw [e0]; unfold enumBody; rw [if_pos c1]
  refine AW.rT (by rfl) fun K hK=>?_
  simp -implicitDefEqProofs only [go_sem,↓reduceIte,Nat.reduceAdd,Nat.reduceEqDiff,reduceCtorEq,b1,List.length_map]
  apply hK;clear hK K
  refine AW.cT rfl ?_
  refine AW.rT (by rfl) fun K hK=>?_
  simp -implicitDefEqProofs only [go_sem,Nat.reduceAdd]
  apply hK;clear hK K
  refine AW.ret (show _ ∧ ((∃ l,_ ∧ _) ∧ True) from ⟨?_,⟨0,?_,?_⟩,trivial⟩) <;> simp -implicitDefEqProofs only [go_sem,↓reduceIte,reduceCtorEq,er,e2,lift_setM]
 have b1 : ((e.vals.length : Int) > 16) = False:=eq_false (by omega)
 have e0 : enumC ns e = if (e.vals.any fun v=>v.n == 0) = true then valsC [] [] e.vals else 12:=by rw [e0]; unfold enumBody; rw [if_neg c1]
 refine AW.rT (by rfl) fun K hK=>?_
 simp -implicitDefEqProofs only [go_sem,↓reduceIte,Nat.reduceAdd,Nat.reduceEqDiff,reduceCtorEq,b1,List.length_map]
 apply hK;clear hK K
 refine AW.cF rfl ?_
 refine AW.skip ?_
 simp only [andThen,inBlk]
 refine AW.rT (by rfl) fun K hK=>?_
 simp -implicitDefEqProofs only [go_sem,Nat.reduceAdd]
 apply hK;clear hK K
 refine AW.seq ?_
 refine AW.rT (by rfl) fun K hK=>?_
 simp -implicitDefEqProofs only [go_sem,↓reduceIte,Nat.reduceAdd,Nat.reduceEqDiff,reduceCtorEq,List.length_map]
 apply hK;clear hK K
 refine AW.block ?_
 refine AW.loop (en1 e ns') (fun i=>i ≤ e.vals.length) (fun i=>e.vals.length - i) 0 ?_ (by omega) fun i i1=>?_
 ·simp only [en1,cellsEn]
  refine Ghost.ent (fun l=>if l = 0 then 0 else 2) ?_ ?_ ?_ <;> simp -implicitDefEqProofs only [go_sem,↓reduceIte,Nat.reduceEqDiff,reduceCtorEq,zeroB,List.take_zero,List.any_nil,List.forall_mem_cons,List.not_mem_nil,false_implies,implies_true,and_self,List.all_cons,List.all_nil,Nat.reduceLT,labsInL,AV.labsIn]
  all_goals first | rfl | decide | skip
 simp only [en1,cellsEn]
 by_cases hil : i < e.vals.length
 case neg =>
  have hc1 : ((i : Int) < (e.vals.length : Int)) = False:=eq_false (by omega)
  have ez : zeroB e i = e.vals.any fun v=>v.n == 0:=by unfold zeroB; rw [List.take_of_length_le (by omega)]
  rw [← ez] at e0
  clear hil
  refine AW.rT (by rfl) fun K hK=>?_
  simp -implicitDefEqProofs only [go_sem,↓reduceIte,Nat.reduceAdd,Nat.reduceEqDiff,reduceCtorEq,hc1]
  apply hK;clear hK K
  refine AW.seq ?_
  refine AW.cF rfl ?_
  refine AW.exit ?_
  simp only [andThen,inBlk,↓reduceIte]
  refine AW.seq ?_
  cases hz : zeroB e i with
  | false =>
   rw [hz,if_neg (by simp)] at e0
   refine AW.rT (by rfl) fun K hK=>?_
   simp -implicitDefEqProofs only [go_sem,↓reduceIte,Nat.reduceAdd,Nat.reduceEqDiff,reduceCtorEq]
   apply hK;clear hK K
   refine AW.cT rfl ?_
   refine AW.rT (by rfl) fun K hK=>?_
   simp -implicitDefEqProofs only [go_sem,Nat.reduceAdd]
   apply hK;clear hK K
   refine AW.ret (show _ ∧ ((∃ l,_ ∧ _) ∧ True) from ⟨?_,⟨0,?_,?_⟩,trivial⟩) <;> simp -implicitDefEqProofs only [go_sem,↓reduceIte,reduceCtorEq,e0,e2,lift_setM]
  | true =>
  rw [hz,if_pos rfl] at e0
  refine AW.rT (by rfl) fun K hK=>?_
  simp -implicitDefEqProofs only [go_sem,↓reduceIte,Nat.reduceAdd,Nat.reduceEqDiff,reduceCtorEq]
  apply hK;clear hK K
  refine AW.cF rfl ?_
  refine AW.skip ?_
  simp only [andThen]
  refine AW.rT (by rfl) fun K hK=>?_
  simp -implicitDefEqProofs only [go_sem,↓reduceIte,Nat.reduceAdd,Nat.reduceEqDiff]
  apply hK;clear hK K
  refine AW.seq ?_
  refine AW.rT (by rfl) fun K hK=>?_
  simp -implicitDefEqProofs only [go_sem,↓reduceIte,Nat.reduceAdd,Nat.reduceEqDiff,reduceCtorEq,List.length_map]
  apply hK;clear hK K
  refine AW.block ?_
  refine AW.loop (en2 e ns') (fun i=>i ≤ e.vals.length ∧ valsC [] [] e.vals = valsC ((e.vals.take i).map Nm.name) ((e.vals.take i).map Nm.n) (e.vals.drop i)) (fun i=>e.vals.length - i) 0 ?_ ⟨by omega,by simp⟩ fun j hj=>?_
  ·simp only [en2]
   refine Ghost.ent (fun l=>if l = 0 then 0 else if l = 1 then 5 else 6) ?_ ?_ ?_ <;> simp -implicitDefEqProofs only [go_sem,↓reduceIte,Nat.reduceEqDiff,reduceCtorEq,List.take_zero,List.map_nil,mS_nil,mI_nil,List.forall_mem_cons,List.not_mem_nil,false_implies,implies_true,and_self,List.all_nil,Nat.reduceLT,AV.labsIn]
   all_goals first | rfl | decide | skip
  obtain ⟨j1,j2⟩:=hj
  simp only [en2]
  by_cases hjl : j < e.vals.length
  case neg =>
   have hc1 : ((j : Int) < (e.vals.length : Int)) = False:=eq_false (by omega)
   rw [List.drop_of_length_le (by omega),valsC] at j2
   rw [j2] at e0
   refine AW.rT (by rfl) fun K hK=>?_
   simp -implicitDefEqProofs only [go_sem,↓reduceIte,Nat.reduceAdd,Nat.reduceEqDiff,reduceCtorEq,hc1]
   apply hK;clear hK K
   refine AW.seq ?_
   refine AW.cF rfl ?_
   refine AW.exit ?_
   simp only [andThen,inBlk,↓reduceIte]
   refine AW.rT (by rfl) fun K hK=>?_
   simp -implicitDefEqProofs only [go_sem,Nat.reduceAdd]
   apply hK;clear hK K
   refine AW.ret (show _ ∧ ((∃ l,_ ∧ _) ∧ True) from ⟨?_,⟨0,?_,?_⟩,trivial⟩) <;> simp -implicitDefEqProofs only [go_sem,↓reduceIte,reduceCtorEq,e0,e2,lift_setM]
  obtain ⟨v,hv⟩ : ∃ v,e.vals[j]? = some v:=⟨_,List.getElem?_eq_getElem hjl⟩
  have ⟨hv1,hv2,hv3⟩:=at_map' encNm hv
  have hc1 : ((j : Int) < (e.vals.length : Int)) = True:=eq_true (by omega)
  have w1 : IntKind.wrap .i64 ((j : Int) + 1) = ((j + 1 : Nat) : Int):=by rw [w64] <;> omega
  rw [valsC_at hv] at j2
  have hnx:=take_map_next Nm.name hv
  have htx:=take_map_next Nm.n hv
  generalize hN : (e.vals.take j).map Nm.name = N at *
  generalize hT : (e.vals.take j).map Nm.n = T at *
  have TK:=check_takes N v.name (hm.2 v (List.mem_of_getElem? hv))
  refine AW.rT (by rfl) fun K hK=>?_
  simp -implicitDefEqProofs only [go_sem,↓reduceIte,Nat.reduceAdd,Nat.reduceEqDiff,reduceCtorEq,hc1]
  apply hK;clear hK K
  refine AW.seq ?_
  refine AW.cT rfl ?_
  refine AW.skip ?_
  simp only [andThen]
  refine AW.seq ?_
  refine AW.block ?_
  refine AW.rT (by rfl) fun K hK=>?_
  simp -implicitDefEqProofs only [go_sem,↓reduceIte,Nat.reduceAdd,Nat.reduceEqDiff,Nat.reduceLeDiff,reduceCtorEq,hv1,hv3,hc1,encNm,List.length_map]
  apply hK;clear hK K
  refine AW.seq ?_
  refine AW.block ?_
  cases ht2 : takesB N v.name with
  | false =>
   have e3 : takeN N v.name = N:=by unfold takeN; rw [ht2]; rfl
   rw [ht2,e3] at TK
   rw [ht2,if_neg (by simp)] at j2
   rw [j2] at e0
   refine AW.rT (by rfl) fun K hK=>?_
   simp -implicitDefEqProofs only [go_sem,↓reduceIte,Nat.reduceAdd,Nat.reduceEqDiff,reduceCtorEq]
   refine ⟨.lend [some 1,none] [.map (setM N),.v (.str v.name)] [some (.map (setM N)),none] (.bool false),⟨TK,rfl,?_⟩,?_⟩
   ·simp -implicitDefEqProofs only [go_sem,↓reduceIte,Nat.reduceEqDiff,lift_setM]
   try simp -implicitDefEqProofs only [go_sem,Nat.reduceAdd,lift_setM]
   apply hK;clear hK K
   refine AW.cT rfl ?_
   refine AW.rT (by rfl) fun K hK=>?_
   simp -implicitDefEqProofs only [go_sem,Nat.reduceAdd]
   apply hK;clear hK K
   refine AW.ret (show _ ∧ ((∃ l,_ ∧ _) ∧ True) from ⟨?_,⟨0,?_,?_⟩,trivial⟩) <;> simp -implicitDefEqProofs only [go_sem,↓reduceIte,reduceCtorEq,e0,e2,lift_setM]
  | true =>
  have e3 : takeN N v.name = N ++ [v.name]:=by unfold takeN; rw [ht2]; rfl
  rw [ht2,e3] at TK
  rw [ht2,if_pos rfl] at j2
  refine AW.rT (by rfl) fun K hK=>?_
  simp -implicitDefEqProofs only [go_sem,↓reduceIte,Nat.reduceAdd,Nat.reduceEqDiff,reduceCtorEq]
  refine ⟨.lend [some 1,none] [.map (setM N),.v (.str v.name)] [some (.map (setM (N ++ [v.name]))),none] (.bool true),⟨TK,rfl,?_⟩,?_⟩
  ·simp -implicitDefEqProofs only [go_sem,↓reduceIte,Nat.reduceEqDiff,lift_setM]
  try simp -implicitDefEqProofs only [go_sem,Nat.reduceAdd,lift_setM]
  apply hK;clear hK K
  refine AW.cF rfl ?_
  rcases num_split v.n with hnb | hnb | hnb
  ·have hb : numB v.n = false:=decide_eq_false (by omega)
   rw [hb,Bool.false_and,if_neg (by simp)] at j2
   rw [j2] at e0
   have f1 : (v.n < 0) = True:=eq_true hnb
   refine AW.rT (by rfl) fun K hK=>?_
   simp -implicitDefEqProofs only [go_sem,↓reduceIte,Nat.reduceAdd,Nat.reduceEqDiff,f1]
   apply hK;clear hK K
   refine AW.cT rfl ?_
   refine AW.rT (by rfl) fun K hK=>?_
   simp -implicitDefEqProofs only [go_sem,Nat.reduceAdd]
   apply hK;clear hK K
   refine AW.ret (show _ ∧ ((∃ l,_ ∧ _) ∧ True) from ⟨?_,⟨0,?_,?_⟩,trivial⟩) <;> simp -implicitDefEqProofs only [go_sem,↓reduceIte,reduceCtorEq,e0,e2,lift_setM]
  ·have hb : numB v.n = false:=decide_eq_false (by omega)
   rw [hb,Bool.false_and,if_neg (by simp)] at j2
   rw [j2] at e0
   have f1 : (v.n < 0) = False:=eq_false (by omega)
   have f2 : (v.n > 2147483647) = True:=eq_true hnb
   refine AW.rT (by rfl) fun K hK=>?_
   simp -implicitDefEqProofs only [go_sem,↓reduceIte,Nat.reduceAdd,Nat.reduceEqDiff,f1,f2]
   apply hK;clear hK K
   refine AW.cT rfl ?_
   refine AW.rT (by rfl) fun K hK=>?_
   simp -implicitDefEqProofs only [go_sem,Nat.reduceAdd]
   apply hK;clear hK K
   refine AW.ret (show _ ∧ ((∃ l,_ ∧ _) ∧ True) from ⟨?_,⟨0,?_,?_⟩,trivial⟩) <;> simp -implicitDefEqProofs only [go_sem,↓reduceIte,reduceCtorEq,e0,e2,lift_setM]
  have hb : numB v.n = true:=decide_eq_true hnb
  rw [hb,Bool.true_and] at j2
  have f1 : (v.n < 0) = False:=eq_false (by omega)
  have f2 : (v.n > 2147483647) = False:=eq_false (by omega)
  cases hus : T.contains v.n with
  | true =>
   rw [hus,if_neg (by simp)] at j2
   rw [j2] at e0
   obtain ⟨q,hq⟩:=mI_yes hus
   refine AW.rT (by rfl) fun K hK=>?_
   simp -implicitDefEqProofs only [go_sem,↓reduceIte,Nat.reduceAdd,Nat.reduceEqDiff,reduceCtorEq,f1,f2]
   refine ⟨keyI v.n,_,hq,_,rfl,?_⟩
   try simp -implicitDefEqProofs only [go_sem,↓reduceIte,Nat.reduceAdd,Nat.reduceMul,Nat.reduceEqDiff,Nat.reduceLeDiff,reduceCtorEq,Int.reduceToNat]
   apply hK;clear hK K
   refine AW.cT rfl ?_
   refine AW.rT (by rfl) fun K hK=>?_
   simp -implicitDefEqProofs only [go_sem,Nat.reduceAdd]
   apply hK;clear hK K
   refine AW.ret (show _ ∧ ((∃ l,_ ∧ _) ∧ True) from ⟨?_,⟨0,?_,?_⟩,trivial⟩) <;> simp -implicitDefEqProofs only [go_sem,↓reduceIte,reduceCtorEq,e0,e2,lift_setM]
  | false =>
   rw [hus,if_pos (by simp)] at j2
   have hq:=mI_no hus
   refine AW.rT (by rfl) fun K hK=>?_
   simp -implicitDefEqProofs only [go_sem,↓reduceIte,Nat.reduceAdd,Nat.reduceEqDiff,reduceCtorEq,f1,f2]
   refine ⟨keyI v.n,_,hq,_,rfl,?_⟩
   try simp -implicitDefEqProofs only [go_sem,↓reduceIte,Nat.reduceAdd,Nat.reduceMul,Nat.reduceEqDiff,Nat.reduceLeDiff,reduceCtorEq,Int.reduceToNat]
   apply hK;clear hK K
   refine AW.cF rfl ?_
   refine AW.skip ?_
   simp only [andThen,inBlk]
   refine AW.rE (by rfl) fun K hK=>?_
   simp -implicitDefEqProofs only [go_sem,↓reduceIte,Nat.reduceAdd,Nat.reduceEqDiff,reduceCtorEq]
   refine ⟨keyI v.n,_,hq,?_⟩
   try simp -implicitDefEqProofs only [go_sem]
   apply hK;clear hK K
   simp only [andThen,inBlk]
   refine AW.rE (by rfl) fun K hK=>?_
   simp -implicitDefEqProofs only [go_sem,↓reduceIte,Nat.reduceAdd,Nat.reduceEqDiff,reduceCtorEq,w1]
   apply hK;clear hK K
   refine ⟨j + 1,⟨by omega,by rw [hnx,htx]; exact j2⟩,by omega,?_⟩
   rw [hnx,htx]
   refine Ghost.sub ?_ ?_ <;> simp -implicitDefEqProofs only [go_sem,↓reduceIte,Nat.reduceEqDiff,reduceCtorEq,mI_add,List.forall_mem_cons,List.not_mem_nil,false_implies,implies_true,and_self,Nat.reduceLT,AV.labsIn]
 obtain ⟨v,hv⟩ : ∃ v,e.vals[i]? = some v:=⟨_,List.getElem?_eq_getElem hil⟩
 have ⟨hv1,hv2,hv3⟩:=at_map' encNm hv
 have hc1 : ((i : Int) < (e.vals.length : Int)) = True:=eq_true (by omega)
 have w1 : IntKind.wrap .i64 ((i : Int) + 1) = ((i + 1 : Nat) : Int):=by rw [w64] <;> omega
 have hz:=zeroB_next hv
 refine AW.rT (by rfl) fun K hK=>?_
 simp -implicitDefEqProofs only [go_sem,↓reduceIte,Nat.reduceAdd,Nat.reduceEqDiff,reduceCtorEq,hc1]
 apply hK;clear hK K
 refine AW.seq ?_
 refine AW.cT rfl ?_
 refine AW.skip ?_
 simp only [andThen]
 refine AW.seq ?_
 refine AW.block ?_
 refine AW.rT (by rfl) fun K hK=>?_
 simp -implicitDefEqProofs only [go_sem,↓reduceIte,Nat.reduceAdd,Nat.reduceEqDiff,Nat.reduceLeDiff,reduceCtorEq,hv1,hv3,hc1,encNm,List.length_map]
 apply hK;clear hK K
 cases hb : zeroB e i with
 | true =>
  rw [hb,Bool.true_or] at hz
  refine AW.rE (by rfl) fun K hK=>?_
  simp -implicitDefEqProofs only [go_sem,↓reduceIte,Nat.reduceAdd,Nat.reduceEqDiff,reduceCtorEq]
  apply hK;clear hK K
  simp only [andThen,inBlk]
  refine AW.rE (by rfl) fun K hK=>?_
  simp -implicitDefEqProofs only [go_sem,↓reduceIte,Nat.reduceAdd,Nat.reduceEqDiff,reduceCtorEq,w1]
  apply hK;clear hK K
  refine ⟨i + 1,by omega,by omega,?_⟩
  refine Ghost.sub ?_ ?_ <;> simp -implicitDefEqProofs only [go_sem,↓reduceIte,Nat.reduceEqDiff,reduceCtorEq,hz,List.forall_mem_cons,List.not_mem_nil,false_implies,implies_true,and_self,List.all_cons,List.all_nil,Nat.reduceLT,labsInL,AV.labsIn]
 | false =>
  rw [hb,Bool.false_or] at hz
  refine AW.rE (by rfl) fun K hK=>?_
  simp -implicitDefEqProofs only [go_sem,↓reduceIte,Nat.reduceAdd,Nat.reduceEqDiff,reduceCtorEq]
  apply hK;clear hK K
  simp only [andThen,inBlk]
  refine AW.rE (by rfl) fun K hK=>?_
  simp -implicitDefEqProofs only [go_sem,↓reduceIte,Nat.reduceAdd,Nat.reduceEqDiff,reduceCtorEq,w1]
  apply hK;clear hK K
  refine ⟨i + 1,by omega,by omega,?_⟩
  refine Ghost.sub ?_ ?_ <;> simp -implicitDefEqProofs only [go_sem,↓reduceIte,Nat.reduceEqDiff,reduceCtorEq,hz,List.forall_mem_cons,List.not_mem_nil,false_implies,implies_true,and_self,List.all_cons,List.all_nil,Nat.reduceLT,labsInL,AV.labsIn]
def re1 (e : En) (i : Nat) : St:=⟨ofL [(1,.ptr 0 0 0),(3,.p (.bool (zeroB e i))),(4,.p (.int .i64 (i : Int)))],ofH [(0,.row 2 [cellsEn e])],1⟩
def re2 (e : En) (i : Nat) : St:=⟨ofL [(1,.ptr 0 0 0),(5,.own 1),(6,.p (.int .i64 (i : Int)))],ofH [(0,.row 2 [cellsEn e]),(1,.row 1 (liftE (((e.vals.take i).map Nm.name).map encS)))],2⟩
def re3 (e : En) (v : Nm) (ns : List (List UInt8)) (i k : Nat) : St:=⟨ofL [(1,.ptr 0 0 0),(5,.own 1),(6,.p (.int .i64 (i : Int))),(7,.ptr 2 0 0),(8,.p (.int .i64 (k : Int)))],ofH [(0,.row 2 [cellsEn e]),(1,.row 1 (liftE (ns.map encS))),(2,.row 2 [[.p (.str v.name),.p (.int .i64 v.n)]])],3⟩
theorem ref07_enum (e : En) (hm : lensV e) : PFn Tryz.prog 40 [.agg (encEn e)] (.int .i64 (enumBody e)):=by
 refine PFn.of Tryz.func40 rfl (by decide) Tryz.ntmps40 Tryz.results40 (Nat.le_of_ble_eq_true rfl) ?_
 simp only [argsT,encEn]
 refine AW.rT (by rfl) fun K hK=>?_
 simp -implicitDefEqProofs only [go_sem,Nat.reduceAdd]
 apply hK;clear hK K
 refine AW.seq ?_
 by_cases c1 : e.vals.length > 16
 ·have b1 : ((e.vals.length : Int) > 16) = True:=eq_true (by omega)
  have er : enumBody e = 4:=by unfold enumBody; rw [if_pos c1]
  refine AW.rT (by rfl) fun K hK=>?_
  simp -implicitDefEqProofs only [go_sem,↓reduceIte,Nat.reduceAdd,Nat.reduceEqDiff,b1,List.length_map]
  apply hK;clear hK K
  refine AW.cT rfl ?_
  refine AW.rT (by rfl) fun K hK=>?_
  simp -implicitDefEqProofs only [go_sem,Nat.reduceAdd]
  apply hK;clear hK K
  refine AW.ret ?_
  simp -implicitDefEqProofs only [go_sem,er]
 have b1 : ((e.vals.length : Int) > 16) = False:=eq_false (by omega)
 have e0 : enumBody e = if (e.vals.any fun v=>v.n == 0) = true then valsC [] [] e.vals else 12:=by unfold enumBody; rw [if_neg c1]
 refine AW.rT (by rfl) fun K hK=>?_
 simp -implicitDefEqProofs only [go_sem,↓reduceIte,Nat.reduceAdd,Nat.reduceEqDiff,b1,List.length_map]
 apply hK;clear hK K
 refine AW.cF rfl ?_
 refine AW.skip ?_
 simp only [andThen]
 refine AW.rT (by rfl) fun K hK=>?_
 simp -implicitDefEqProofs only [go_sem,Nat.reduceAdd]
 apply hK;clear hK K
 refine AW.seq ?_
 refine AW.rT (by rfl) fun K hK=>?_
 simp -implicitDefEqProofs only [go_sem,Nat.reduceAdd]
 apply hK;clear hK K
 refine AW.block ?_
 refine AW.loop (re1 e) (fun i=>i ≤ e.vals.length) (fun i=>e.vals.length - i) 0 ?_ (by omega) fun i i1=>?_
 ·simp only [re1,cellsEn]
  refine Ghost.sub ?_ ?_ <;> simp -implicitDefEqProofs only [go_sem,↓reduceIte,Nat.reduceEqDiff,zeroB,List.take_zero,List.any_nil,List.forall_mem_cons,List.not_mem_nil,false_implies,implies_true,and_self,List.all_cons,List.all_nil,Nat.reduceLT,labsInL,AV.labsIn]
  all_goals first | rfl | decide | skip
 simp only [re1,cellsEn]
 refine AW.seq ?_
 by_cases hil : i < e.vals.length
 case neg =>
  have hc1 : ((i : Int) < (e.vals.length : Int)) = False:=eq_false (by omega)
  have ez : zeroB e i = e.vals.any fun v=>v.n == 0:=by unfold zeroB; rw [List.take_of_length_le (by omega)]
  rw [← ez] at e0
  clear hil
  refine AW.rT (by rfl) fun K hK=>?_
  simp -implicitDefEqProofs only [go_sem,↓reduceIte,Nat.reduceAdd,Nat.reduceEqDiff,hc1,List.length_map]
  apply hK;clear hK K
  refine AW.cF rfl ?_
  refine AW.exit ?_
  simp only [andThen,inBlk,↓reduceIte]
  refine AW.seq ?_
  cases hz : zeroB e i with
  | false =>
   rw [hz,if_neg (by simp)] at e0
   refine AW.rT (by rfl) fun K hK=>?_
   simp -implicitDefEqProofs only [go_sem,↓reduceIte,Nat.reduceAdd,Nat.reduceEqDiff]
   apply hK;clear hK K
   refine AW.cT rfl ?_
   refine AW.rT (by rfl) fun K hK=>?_
   simp -implicitDefEqProofs only [go_sem,Nat.reduceAdd]
   apply hK;clear hK K
   refine AW.ret ?_
   simp -implicitDefEqProofs only [go_sem,e0]
  | true =>
  rw [hz,if_pos rfl] at e0
  refine AW.rT (by rfl) fun K hK=>?_
  simp -implicitDefEqProofs only [go_sem,↓reduceIte,Nat.reduceAdd,Nat.reduceEqDiff]
  apply hK;clear hK K
  refine AW.cF rfl ?_
  refine AW.skip ?_
  simp only [andThen]
  refine AW.rT (by rfl) fun K hK=>?_
  simp -implicitDefEqProofs only [go_sem,Nat.reduceAdd]
  apply hK;clear hK K
  refine AW.seq ?_
  refine AW.rT (by rfl) fun K hK=>?_
  simp -implicitDefEqProofs only [go_sem,Nat.reduceAdd]
  apply hK;clear hK K
  refine AW.block ?_
  refine AW.loop (re2 e) (fun i=>i ≤ e.vals.length ∧ valsC [] [] e.vals = valsC ((e.vals.take i).map Nm.name) ((e.vals.take i).map Nm.n) (e.vals.drop i)) (fun i=>e.vals.length - i) 0 ?_ ⟨by omega,by simp⟩ fun j hj=>?_
  ·refine Ghost.trans (Ghost.nil (t:=5) (sz:=1) rfl) ?_
   simp only [re2,cellsEn]
   refine Ghost.ent (fun l=>if l = 0 then 0 else 10) ?_ ?_ ?_ <;> simp -implicitDefEqProofs only [go_sem,↓reduceIte,Nat.reduceEqDiff,reduceCtorEq,List.take_zero,List.map_nil,liftE_nil,List.forall_mem_cons,List.not_mem_nil,false_implies,implies_true,and_self,List.all_cons,List.all_nil,Nat.reduceLT,labsInL,AV.labsIn]
   all_goals first | rfl | decide | skip
  obtain ⟨j1,j2⟩:=hj
  simp only [re2,cellsEn]
  refine AW.seq ?_
  by_cases hjl : j < e.vals.length
  case neg =>
   have hc1 : ((j : Int) < (e.vals.length : Int)) = False:=eq_false (by omega)
   rw [List.drop_of_length_le (by omega),valsC] at j2
   rw [j2] at e0
   refine AW.rT (by rfl) fun K hK=>?_
   simp -implicitDefEqProofs only [go_sem,↓reduceIte,Nat.reduceAdd,Nat.reduceEqDiff,hc1,List.length_map]
   apply hK;clear hK K
   refine AW.cF rfl ?_
   refine AW.exit ?_
   simp only [andThen,inBlk,↓reduceIte]
   refine AW.rT (by rfl) fun K hK=>?_
   simp -implicitDefEqProofs only [go_sem,Nat.reduceAdd]
   apply hK;clear hK K
   refine AW.ret ?_
   simp -implicitDefEqProofs only [go_sem,e0]
  obtain ⟨v,hv⟩ : ∃ v,e.vals[j]? = some v:=⟨_,List.getElem?_eq_getElem hjl⟩
  have ⟨hv1,hv2,hv3⟩:=at_map' encNm hv
  have hc1 : ((j : Int) < (e.vals.length : Int)) = True:=eq_true (by omega)
  have w1 : IntKind.wrap .i64 ((j : Int) + 1) = ((j + 1 : Nat) : Int):=by rw [w64] <;> omega
  rw [valsC_at hv] at j2
  have hnx:=take_map_next Nm.name hv
  have htx:=take_map_next Nm.n hv
  have hNl : ((e.vals.take j).map Nm.name).length ≤ 1000000:=by rw [List.length_map,List.length_take]; omega
  generalize hN : (e.vals.take j).map Nm.name = N at *
  generalize hT : (e.vals.take j).map Nm.n = T at *
  have FR:=ref07_fresh N v.name (by omega) (hm.2 v (List.mem_of_getElem? hv))
  refine AW.rT (by rfl) fun K hK=>?_
  simp -implicitDefEqProofs only [go_sem,↓reduceIte,Nat.reduceAdd,Nat.reduceEqDiff,hc1,List.length_map]
  apply hK;clear hK K
  refine AW.cT rfl ?_
  refine AW.skip ?_
  simp only [andThen]
  refine AW.seq ?_
  refine AW.block ?_
  refine AW.rT (by rfl) fun K hK=>?_
  simp -implicitDefEqProofs only [go_sem,↓reduceIte,Nat.reduceAdd,Nat.reduceEqDiff,Nat.reduceLeDiff,hv1,hv3,hc1,encNm,List.length_map]
  apply hK;clear hK K
  refine AW.seq ?_
  cases ht2 : takesB N v.name with
  | false =>
   rw [ht2] at FR
   rw [ht2,if_neg (by simp)] at j2
   rw [j2] at e0
   refine AW.rT (by rfl) fun K hK=>?_
   simp -implicitDefEqProofs only [go_sem,↓reduceIte,Nat.reduceAdd,Nat.reduceEqDiff]
   refine ⟨.peek _,⟨FR,rfl⟩,?_⟩
   try simp -implicitDefEqProofs only [go_sem,Nat.reduceAdd]
   apply hK;clear hK K
   refine AW.cT rfl ?_
   refine AW.rT (by rfl) fun K hK=>?_
   simp -implicitDefEqProofs only [go_sem,Nat.reduceAdd]
   apply hK;clear hK K
   refine AW.ret ?_
   simp -implicitDefEqProofs only [go_sem,e0]
  | true =>
  rw [ht2] at FR
  rw [ht2,if_pos rfl] at j2
  refine AW.rT (by rfl) fun K hK=>?_
  simp -implicitDefEqProofs only [go_sem,↓reduceIte,Nat.reduceAdd,Nat.reduceEqDiff]
  refine ⟨.peek _,⟨FR,rfl⟩,?_⟩
  try simp -implicitDefEqProofs only [go_sem,Nat.reduceAdd]
  apply hK;clear hK K
  refine AW.cF rfl ?_
  refine AW.skip ?_
  simp only [andThen]
  refine AW.rT (by rfl) fun K hK=>?_
  simp -implicitDefEqProofs only [go_sem,↓reduceIte,Nat.reduceAdd,Nat.reduceMul,Nat.reduceEqDiff,Nat.reduceLeDiff,reduceCtorEq]
  refine ⟨⟨by simp,by simp [oneAll,AV.one,PV.one],by simp⟩,by simp [liftE_length]; omega,?_⟩
  apply hK;clear hK K
  refine AW.seq ?_
  rcases num_split v.n with hnb | hnb | hnb
  ·have hb : numB v.n = false:=decide_eq_false (by omega)
   rw [hb,Bool.false_and,if_neg (by simp)] at j2
   rw [j2] at e0
   have f1 : (v.n < 0) = True:=eq_true hnb
   refine AW.rT (by rfl) fun K hK=>?_
   simp -implicitDefEqProofs only [go_sem,↓reduceIte,Nat.reduceAdd,Nat.reduceEqDiff,f1]
   apply hK;clear hK K
   refine AW.cT rfl ?_
   refine AW.rT (by rfl) fun K hK=>?_
   simp -implicitDefEqProofs only [go_sem,Nat.reduceAdd]
   apply hK;clear hK K
   refine AW.ret ?_
   simp -implicitDefEqProofs only [go_sem,e0]
  ·have hb : numB v.n = false:=decide_eq_false (by omega)
   rw [hb,Bool.false_and,if_neg (by simp)] at j2
   rw [j2] at e0
   have f1 : (v.n < 0) = False:=eq_false (by omega)
   have f2 : (v.n > 2147483647) = True:=eq_true hnb
   refine AW.rT (by rfl) fun K hK=>?_
   simp -implicitDefEqProofs only [go_sem,↓reduceIte,Nat.reduceAdd,Nat.reduceEqDiff,f1,f2]
   apply hK;clear hK K
   refine AW.cT rfl ?_
   refine AW.rT (by rfl) fun K hK=>?_
   simp -implicitDefEqProofs only [go_sem,Nat.reduceAdd]
   apply hK;clear hK K
   refine AW.ret ?_
   simp -implicitDefEqProofs only [go_sem,e0]
  have hb : numB v.n = true:=decide_eq_true hnb
  rw [hb,Bool.true_and] at j2
  have f1 : (v.n < 0) = False:=eq_false (by omega)
  have f2 : (v.n > 2147483647) = False:=eq_false (by omega)
  refine AW.rT (by rfl) fun K hK=>?_
  simp -implicitDefEqProofs only [go_sem,↓reduceIte,Nat.reduceAdd,Nat.reduceEqDiff,f1,f2]
  apply hK;clear hK K
  refine AW.cF rfl ?_
  refine AW.skip ?_
  simp only [andThen]
  refine AW.rT (by rfl) fun K hK=>?_
  simp -implicitDefEqProofs only [go_sem,Nat.reduceAdd]
  apply hK;clear hK K
  refine AW.block ?_
  refine AW.loop (re3 e v (N ++ [v.name]) j) (fun k=>k ≤ j ∧ (T.take k).all (fun n=>!(n == v.n)) = true) (fun k=>j - k) 0 ?_ ⟨by omega,by simp⟩ fun k hk=>?_
  ·simp only [re3,cellsEn]
   refine Ghost.ent (fun l=>if l = 0 then 0 else if l = 1 then 23 else 12) ?_ ?_ ?_ <;> simp -implicitDefEqProofs only [go_sem,↓reduceIte,Nat.reduceEqDiff,reduceCtorEq,encS,List.map_append,liftE_append,List.map_cons,List.map_nil,liftE_cons,liftE_nil,List.forall_mem_cons,List.not_mem_nil,false_implies,implies_true,and_self,map_renL_lift,labsIn_lift,List.all_append,List.all_cons,List.all_nil,List.map_append,Nat.reduceLT,labsInL,AV.labsIn]
   all_goals first | rfl | decide | skip
  obtain ⟨k1,k2⟩:=hk
  simp only [re3,cellsEn]
  have hTl : T.length = j:=by rw [← hT,List.length_map,List.length_take]; omega
  refine AW.seq ?_
  by_cases hkl : k < j
  case neg =>
   have hc2 : ((k : Int) < (j : Int)) = False:=eq_false (by omega)
   rw [List.take_of_length_le (by omega)] at k2
   rw [res_no k2,if_pos (by simp)] at j2
   refine AW.rT (by rfl) fun K hK=>?_
   simp -implicitDefEqProofs only [go_sem,↓reduceIte,Nat.reduceAdd,Nat.reduceEqDiff,hc2]
   apply hK;clear hK K
   refine AW.cF rfl ?_
   refine AW.exit ?_
   simp only [andThen,inBlk,↓reduceIte]
   refine AW.rE (by rfl) fun K hK=>?_
   simp -implicitDefEqProofs only [go_sem,↓reduceIte,Nat.reduceAdd,Nat.reduceEqDiff,w1]
   apply hK;clear hK K
   refine ⟨j + 1,⟨by omega,by rw [hnx,htx]; exact j2⟩,by omega,?_⟩
   rw [hnx]
   refine Ghost.sub ?_ ?_ <;> simp -implicitDefEqProofs only [go_sem,↓reduceIte,Nat.reduceEqDiff,List.forall_mem_cons,List.not_mem_nil,false_implies,implies_true,and_self,labsIn_lift,List.all_cons,List.all_nil,Nat.reduceLT,labsInL,AV.labsIn]
  have hc2 : ((k : Int) < (j : Int)) = True:=eq_true (by omega)
  obtain ⟨x,hx⟩ : ∃ x,e.vals[k]? = some x:=⟨_,List.getElem?_eq_getElem (by omega)⟩
  have ⟨hx1,hx2,hx3⟩:=at_map' encNm hx
  have hx2' : (k : Int) < (e.vals.length : Int):=by omega
  have hTx : T[k]? = some x.n:=by rw [← hT,List.getElem?_map,List.getElem?_take,if_pos hkl,hx]; rfl
  have w2 : IntKind.wrap .i64 ((k : Int) + 1) = ((k + 1 : Nat) : Int):=by rw [w64] <;> omega
  refine AW.rT (by rfl) fun K hK=>?_
  simp -implicitDefEqProofs only [go_sem,↓reduceIte,Nat.reduceAdd,Nat.reduceEqDiff,hc2]
  apply hK;clear hK K
  refine AW.cT rfl ?_
  refine AW.skip ?_
  simp only [andThen]
  refine AW.seq ?_
  refine AW.block ?_
  cases hq : (x.n == v.n) with
  | true =>
   have hus : T.contains v.n = true:=by
    have : x.n = v.n:=by simpa using hq
    rw [List.contains_iff_mem,← this]
    exact List.mem_of_getElem? hTx
   rw [hus,if_neg (by simp)] at j2
   rw [j2] at e0
   refine AW.dT mixed (by rfl) (by decide +kernel) fun K hK=>?_
   simp -implicitDefEqProofs only [go_sem,↓reduceIte,Nat.reduceAdd,Nat.reduceEqDiff,reduceCtorEq,hx1,hx2',hx3,encNm,List.length_map,hq]
   refine ⟨heapOK_nil rfl,?_⟩
   apply hK;clear hK K
   refine AW.cT rfl ?_
   refine AW.rT (by rfl) fun K hK=>?_
   simp -implicitDefEqProofs only [go_sem,Nat.reduceAdd]
   apply hK;clear hK K
   refine AW.ret ?_
   simp -implicitDefEqProofs only [go_sem,e0]
  | false =>
   refine AW.dT mixed (by rfl) (by decide +kernel) fun K hK=>?_
   simp -implicitDefEqProofs only [go_sem,↓reduceIte,Nat.reduceAdd,Nat.reduceEqDiff,reduceCtorEq,hx1,hx2',hx3,encNm,List.length_map,hq]
   refine ⟨heapOK_nil rfl,?_⟩
   apply hK;clear hK K
   refine AW.cF rfl ?_
   refine AW.skip ?_
   simp only [andThen,inBlk]
   refine AW.rE (by rfl) fun K hK=>?_
   simp -implicitDefEqProofs only [go_sem,↓reduceIte,Nat.reduceAdd,Nat.reduceEqDiff,w2]
   apply hK;clear hK K
   refine ⟨k + 1,⟨by omega,all_next hTx k2 (by rw [hq]; rfl)⟩,by omega,?_⟩
   refine Ghost.sub ?_ ?_ <;> simp -implicitDefEqProofs only [go_sem,↓reduceIte,Nat.reduceEqDiff,reduceCtorEq,List.forall_mem_cons,List.not_mem_nil,false_implies,implies_true,and_self,labsIn_lift,List.all_cons,List.all_nil,Nat.reduceLT,labsInL,AV.labsIn]
 obtain ⟨v,hv⟩ : ∃ v,e.vals[i]? = some v:=⟨_,List.getElem?_eq_getElem hil⟩
 have ⟨hv1,hv2,hv3⟩:=at_map' encNm hv
 have hv2' : (i : Int) < (e.vals.length : Int):=by omega
 have hc1 : ((i : Int) < (e.vals.length : Int)) = True:=eq_true (by omega)
 have w1 : IntKind.wrap .i64 ((i : Int) + 1) = ((i + 1 : Nat) : Int):=by rw [w64] <;> omega
 have hz:=zeroB_next hv
 refine AW.rT (by rfl) fun K hK=>?_
 simp -implicitDefEqProofs only [go_sem,↓reduceIte,Nat.reduceAdd,Nat.reduceEqDiff,hc1,List.length_map]
 apply hK;clear hK K
 refine AW.cT rfl ?_
 refine AW.skip ?_
 simp only [andThen]
 refine AW.seq ?_
 refine AW.block ?_
 cases hb : zeroB e i with
 | true =>
  rw [hb,Bool.true_or] at hz
  refine AW.rE (by rfl) fun K hK=>?_
  simp -implicitDefEqProofs only [go_sem,↓reduceIte,Nat.reduceAdd,Nat.reduceEqDiff]
  apply hK;clear hK K
  simp only [andThen,inBlk]
  refine AW.rE (by rfl) fun K hK=>?_
  simp -implicitDefEqProofs only [go_sem,↓reduceIte,Nat.reduceAdd,Nat.reduceEqDiff,w1]
  apply hK;clear hK K
  refine ⟨i + 1,by omega,by omega,?_⟩
  refine Ghost.sub ?_ ?_ <;> simp -implicitDefEqProofs only [go_sem,↓reduceIte,Nat.reduceEqDiff,hz,List.forall_mem_cons,List.not_mem_nil,false_implies,implies_true,and_self,List.all_cons,List.all_nil,Nat.reduceLT,labsInL,AV.labsIn]
 | false =>
  rw [hb,Bool.false_or] at hz
  refine AW.rE (by rfl) fun K hK=>?_
  simp -implicitDefEqProofs only [go_sem,↓reduceIte,Nat.reduceAdd,Nat.reduceEqDiff,hv1,hv2',hv3,encNm,List.length_map]
  apply hK;clear hK K
  simp only [andThen,inBlk]
  refine AW.rE (by rfl) fun K hK=>?_
  simp -implicitDefEqProofs only [go_sem,↓reduceIte,Nat.reduceAdd,Nat.reduceEqDiff,w1]
  apply hK;clear hK K
  refine ⟨i + 1,by omega,by omega,?_⟩
  refine Ghost.sub ?_ ?_ <;> simp -implicitDefEqProofs only [go_sem,↓reduceIte,Nat.reduceEqDiff,hz,List.forall_mem_cons,List.not_mem_nil,false_implies,implies_true,and_self,List.all_cons,List.all_nil,Nat.reduceLT,labsInL,AV.labsIn]
end Go.Aw
namespace Go.Aw
open Go.Proofs Go.RowKit
def msgsC (S : Sc) (K : List (List UInt8) → Int) (ns : List (List UInt8)) : List Ms → Int
 | []=>K ns
 | m :: l=>if msgC S ns m = 0 then msgsC S K (ns ++ [m.name]) l else msgC S ns m
def enumsC (ns : List (List UInt8)) : List En → Int
 | []=>0
 | e :: l=>if enumC ns e = 0 then enumsC (ns ++ [e.name]) l else enumC ns e
def partsC (S : Sc) : Int:=msgsC S (fun ns=>enumsC ns S.enums) [] S.msgs
def hasM (S : Sc) (k : List UInt8) : Bool:=(firstP (fun x=>x.name == k) zMs S.msgs).2
def methsC (S : Sc) (ns : List (List UInt8)) : List Mt → Int
 | []=>0
 | t :: l=>if takesB ns t.name = true then (if (hasM S t.inn && hasM S t.out) = true then methsC S (ns ++ [t.name]) l else 8) else 6
def checkC (S : Sc) : Int:=if nameB S.name = true then (if S.msgs.length = 0 then 12 else if S.msgs.length > 10 ∨ S.enums.length > 6 ∨ S.meths.length > 6 then 4 else if partsC S = 0 then methsC S [] S.meths else partsC S) else 6
theorem msgsC_at {S : Sc} {K : List (List UInt8) → Int} {l : List Ms} {i : Nat} {m : Ms} {ns : List (List UInt8)} (h : l[i]? = some m) :
  msgsC S K ns (l.drop i) = if msgC S ns m = 0 then msgsC S K (ns ++ [m.name]) (l.drop (i + 1)) else msgC S ns m:=by
 rw [List.drop_eq_getElem_cons (List.getElem?_eq_some_iff.1 h).1,(List.getElem?_eq_some_iff.1 h).2,msgsC]
theorem enumsC_at {l : List En} {i : Nat} {e : En} {ns : List (List UInt8)} (h : l[i]? = some e) :
  enumsC ns (l.drop i) = if enumC ns e = 0 then enumsC (ns ++ [e.name]) (l.drop (i + 1)) else enumC ns e:=by
 rw [List.drop_eq_getElem_cons (List.getElem?_eq_some_iff.1 h).1,(List.getElem?_eq_some_iff.1 h).2,enumsC]
theorem methsC_at {S : Sc} {l : List Mt} {i : Nat} {t : Mt} {ns : List (List UInt8)} (h : l[i]? = some t) :
  methsC S ns (l.drop i) = if takesB ns t.name = true then (if (hasM S t.inn && hasM S t.out) = true then methsC S (ns ++ [t.name]) (l.drop (i + 1)) else 8) else 6:=by
 rw [List.drop_eq_getElem_cons (List.getElem?_eq_some_iff.1 h).1,(List.getElem?_eq_some_iff.1 h).2,methsC]
theorem takes_msg {S : Sc} {ns : List (List UInt8)} {m : Ms} (h : msgC S ns m = 0) : takeN ns m.name = ns ++ [m.name]:=by
 unfold msgC at h
 unfold takeN
 cases ht : takesB ns m.name with
 | true=>rfl
 | false=>rw [ht] at h; simp at h
theorem takes_enum {ns : List (List UInt8)} {e : En} (h : enumC ns e = 0) : takeN ns e.name = ns ++ [e.name]:=by
 unfold enumC at h
 unfold takeN
 cases ht : takesB ns e.name with
 | true=>rfl
 | false=>rw [ht] at h; simp at h
structure LensS (S : Sc) : Prop where
 name : S.name.length ≤ 1000000000
 msgs : ∀ m ∈ S.msgs,lensF m
 enums : ∀ e ∈ S.enums,lensV e
 meths : ∀ t ∈ S.meths,t.name.length ≤ 1000000000
 m : S.msgs.length ≤ 1000000
 e : S.enums.length ≤ 1000000
 t : S.meths.length ≤ 1000000
def ck1 (S : Sc) (i : Nat) : St:=⟨ofL [(1,.ptr 0 0 0),(3,.map 1),(46,.p (.slice (S.msgs.map encMs))),(47,.p (.int .i64 (S.msgs.length : Int))),(48,.p (.int .i64 (i : Int)))],
 ofH [(0,.row 4 [cellsSc S]),(1,.map (mS ((S.msgs.take i).map Ms.name)))],2⟩
def ck2 (S : Sc) (i : Nat) : St:=⟨ofL [(1,.ptr 0 0 0),(3,.map 1),(61,.p (.slice (S.enums.map encEn))),(62,.p (.int .i64 (S.enums.length : Int))),(63,.p (.int .i64 (i : Int)))],
 ofH [(0,.row 4 [cellsSc S]),(1,.map (mS (S.msgs.map Ms.name ++ (S.enums.take i).map En.name)))],2⟩
def ck3 (S : Sc) (i : Nat) : St:=⟨ofL [(1,.ptr 0 0 0),(10,.map 1),(76,.p (.slice (S.meths.map encMt))),(77,.p (.int .i64 (S.meths.length : Int))),(78,.p (.int .i64 (i : Int)))],
 ofH [(0,.row 4 [cellsSc S]),(1,.map (mS ((S.meths.take i).map Mt.name)))],2⟩
theorem check_Check (S : Sc) (L : LensS S) : PFn Tryz.prog 21 [.agg (encSc S)] (.int .i64 (checkC S)):=by
 refine PFn.of Tryz.func21 rfl (by decide) Tryz.ntmps21 Tryz.results21 (Nat.le_of_ble_eq_true rfl) ?_
 simp only [argsT,encSc]
 refine AW.rT (by rfl) fun K hK=>?_
 simp -implicitDefEqProofs only [go_sem,Nat.reduceAdd]
 apply hK;clear hK K
 refine AW.seq ?_
 refine AW.block ?_
 cases hn : nameB S.name with
 | false =>
  have e : checkC S = 6:=by unfold checkC; rw [hn]; rfl
  refine AW.rT (by rfl) fun K hK=>?_
  simp -implicitDefEqProofs only [go_sem,↓reduceIte,Nat.reduceAdd,Nat.reduceEqDiff]
  refine ⟨.pure _,runes_Name S.name L.name,?_⟩
  try simp -implicitDefEqProofs only [go_sem,Nat.reduceAdd,hn]
  apply hK;clear hK K
  refine AW.cT rfl ?_
  refine AW.rT (by rfl) fun K hK=>?_
  simp -implicitDefEqProofs only [go_sem,Nat.reduceAdd]
  apply hK;clear hK K
  refine AW.ret ?_
  simp -implicitDefEqProofs only [go_sem,e]
 | true =>
 have e0 : checkC S = if S.msgs.length = 0 then 12 else if S.msgs.length > 10 ∨ S.enums.length > 6 ∨ S.meths.length > 6 then 4 else if partsC S = 0 then methsC S [] S.meths else partsC S:=by unfold checkC; rw [hn,if_pos rfl]
 refine AW.rT (by rfl) fun K hK=>?_
 simp -implicitDefEqProofs only [go_sem,↓reduceIte,Nat.reduceAdd,Nat.reduceEqDiff]
 refine ⟨.pure _,runes_Name S.name L.name,?_⟩
 try simp -implicitDefEqProofs only [go_sem,Nat.reduceAdd,hn]
 apply hK;clear hK K
 refine AW.cF rfl ?_
 by_cases c0 : S.msgs.length = 0
 ·have b0 : ((S.msgs.length : Int) == 0) = true:=by rw [beq_iff_eq]; omega
  rw [if_pos c0] at e0
  refine AW.rT (by rfl) fun K hK=>?_
  simp -implicitDefEqProofs only [go_sem,↓reduceIte,Nat.reduceAdd,Nat.reduceEqDiff,b0,List.length_map]
  apply hK;clear hK K
  refine AW.cT rfl ?_
  refine AW.rT (by rfl) fun K hK=>?_
  simp -implicitDefEqProofs only [go_sem,Nat.reduceAdd]
  apply hK;clear hK K
  refine AW.ret ?_
  simp -implicitDefEqProofs only [go_sem,e0]
 rw [if_neg c0] at e0
 have b0 : ((S.msgs.length : Int) == 0) = false:=beq_eq_false_iff_ne.2 (by omega)
 refine AW.rT (by rfl) fun K hK=>?_
 simp -implicitDefEqProofs only [go_sem,↓reduceIte,Nat.reduceAdd,Nat.reduceEqDiff,b0,List.length_map]
 apply hK;clear hK K
 refine AW.cF rfl ?_
 by_cases c1 : S.msgs.length > 10
 ·have b1 : ((S.msgs.length : Int) > 10) = True:=eq_true (by omega)
  rw [if_pos (.inl c1)] at e0
  refine AW.rT (by rfl) fun K hK=>?_
  simp -implicitDefEqProofs only [go_sem,↓reduceIte,Nat.reduceAdd,Nat.reduceEqDiff,b1,List.length_map]
  apply hK;clear hK K
  refine AW.cT rfl ?_
  refine AW.rT (by rfl) fun K hK=>?_
  simp -implicitDefEqProofs only [go_sem,Nat.reduceAdd]
  apply hK;clear hK K
  refine AW.ret ?_
  simp -implicitDefEqProofs only [go_sem,e0]
 have b1 : ((S.msgs.length : Int) > 10) = False:=eq_false (by omega)
 by_cases c2 : S.enums.length > 6
 ·have b2 : ((S.enums.length : Int) > 6) = True:=eq_true (by omega)
  rw [if_pos (.inr (.inl c2))] at e0
  refine AW.rT (by rfl) fun K hK=>?_
  simp -implicitDefEqProofs only [go_sem,↓reduceIte,Nat.reduceAdd,Nat.reduceEqDiff,b1,b2,List.length_map]
  apply hK;clear hK K
  refine AW.cT rfl ?_
  refine AW.rT (by rfl) fun K hK=>?_
  simp -implicitDefEqProofs only [go_sem,Nat.reduceAdd]
  apply hK;clear hK K
  refine AW.ret ?_
  simp -implicitDefEqProofs only [go_sem,e0]
 have b2 : ((S.enums.length : Int) > 6) = False:=eq_false (by omega)
 by_cases c3 : S.meths.length > 6
 ·have b3 : ((S.meths.length : Int) > 6) = True:=eq_true (by omega)
  rw [if_pos (.inr (.inr c3))] at e0
  refine AW.rT (by rfl) fun K hK=>?_
  simp -implicitDefEqProofs only [go_sem,↓reduceIte,Nat.reduceAdd,Nat.reduceEqDiff,b1,b2,b3,List.length_map]
  apply hK;clear hK K
  refine AW.cT rfl ?_
  refine AW.rT (by rfl) fun K hK=>?_
  simp -implicitDefEqProofs only [go_sem,Nat.reduceAdd]
  apply hK;clear hK K
  refine AW.ret ?_
  simp -implicitDefEqProofs only [go_sem,e0]
 have b3 : ((S.meths.length : Int) > 6) = False:=eq_false (by omega)
 rw [if_neg (by omega)] at e0
 refine AW.rT (by rfl) fun K hK=>?_
 simp -implicitDefEqProofs only [go_sem,↓reduceIte,Nat.reduceAdd,Nat.reduceEqDiff,b1,b2,b3,List.length_map]
 apply hK;clear hK K
 refine AW.cF rfl ?_
 refine AW.skip ?_
 simp only [andThen,inBlk]
 clear b1 b2 b3
 refine AW.rT (by rfl) fun K hK=>?_
 simp -implicitDefEqProofs only [go_sem,Nat.reduceAdd]
 apply hK;clear hK K
 refine AW.seq ?_
 refine AW.rT (by rfl) fun K hK=>?_
 simp -implicitDefEqProofs only [go_sem,↓reduceIte,Nat.reduceAdd,Nat.reduceEqDiff,reduceCtorEq,List.length_map]
 apply hK;clear hK K
 refine AW.block ?_
 refine AW.loop (ck1 S) (fun i=>i ≤ S.msgs.length ∧ partsC S = msgsC S (fun ns=>enumsC ns S.enums) ((S.msgs.take i).map Ms.name) (S.msgs.drop i)) (fun i=>S.msgs.length - i) 0 ?_ ⟨by omega,by simp [partsC]⟩ fun i hi=>?_
 ·simp only [ck1,cellsSc]
  refine Ghost.ent (fun l=>if l = 0 then 0 else 29) ?_ ?_ ?_ <;> simp -implicitDefEqProofs only [go_sem,↓reduceIte,Nat.reduceEqDiff,reduceCtorEq,List.take_zero,List.map_nil,mS_nil,List.forall_mem_cons,List.not_mem_nil,false_implies,implies_true,and_self,List.all_cons,List.all_nil,Nat.reduceLT,labsInL,AV.labsIn]
  all_goals first | rfl | decide | skip
 obtain ⟨i1,i2⟩:=hi
 simp only [ck1,cellsSc]
 by_cases hil : i < S.msgs.length
 ·obtain ⟨m,hm⟩ : ∃ m,S.msgs[i]? = some m:=⟨_,List.getElem?_eq_getElem hil⟩
  have ⟨hm1,hm2,hm3⟩:=at_map' encMs hm
  have hc1 : ((i : Int) < (S.msgs.length : Int)) = True:=eq_true (by omega)
  have w1 : IntKind.wrap .i64 ((i : Int) + 1) = ((i + 1 : Nat) : Int):=by rw [w64] <;> omega
  rw [msgsC_at hm] at i2
  have hnx:=take_map_next Ms.name hm
  generalize hN : (S.msgs.take i).map Ms.name = N at *
  have CM:=check_message S N m L.m L.e (L.msgs m (List.mem_of_getElem? hm))
  refine AW.rT (by rfl) fun K hK=>?_
  simp -implicitDefEqProofs only [go_sem,↓reduceIte,Nat.reduceAdd,Nat.reduceEqDiff,hc1]
  apply hK;clear hK K
  refine AW.seq ?_
  refine AW.cT rfl ?_
  refine AW.skip ?_
  simp only [andThen]
  refine AW.seq ?_
  refine AW.block ?_
  refine AW.rT (by rfl) fun K hK=>?_
  simp -implicitDefEqProofs only [go_sem,↓reduceIte,Nat.reduceAdd,Nat.reduceEqDiff,Nat.reduceLeDiff,hm1,hm3,hc1,encMs,List.length_map]
  apply hK;clear hK K
  refine AW.rT (by rfl) fun K hK=>?_
  simp -implicitDefEqProofs only [go_sem,↓reduceIte,Nat.reduceAdd,Nat.reduceEqDiff,Nat.reduceLeDiff,reduceCtorEq]
  refine ⟨.lend [none,some 1,none] [.v (.agg (encSc S)),.map (setM N),.v (.agg (encMs m))] [none,some (.map (setM (takeN N m.name))),none] (.int .i64 (msgC S N m)),⟨CM,rfl,?_⟩,?_⟩
  ·simp -implicitDefEqProofs only [go_sem,↓reduceIte,Nat.reduceEqDiff,lift_setM,encSc,encMs]
  try simp -implicitDefEqProofs only [go_sem,Nat.reduceAdd,lift_setM]
  apply hK;clear hK K
  by_cases hz : msgC S N m = 0
  ·have bz : (msgC S N m != 0) = false:=by simp [hz]
   rw [if_pos hz] at i2
   rw [takes_msg hz]
   refine AW.rT (by rfl) fun K hK=>?_
   simp -implicitDefEqProofs only [go_sem,↓reduceIte,Nat.reduceAdd,bz]
   apply hK;clear hK K
   refine AW.cF rfl ?_
   refine AW.skip ?_
   simp only [andThen,inBlk]
   refine AW.rE (by rfl) fun K hK=>?_
   simp -implicitDefEqProofs only [go_sem,↓reduceIte,Nat.reduceAdd,Nat.reduceEqDiff,w1]
   apply hK;clear hK K
   refine ⟨i + 1,⟨by omega,by rw [hnx]; exact i2⟩,by omega,?_⟩
   rw [hnx]
   refine Ghost.sub ?_ ?_ <;> simp -implicitDefEqProofs only [go_sem,↓reduceIte,Nat.reduceEqDiff,reduceCtorEq,List.forall_mem_cons,List.not_mem_nil,false_implies,implies_true,and_self,List.all_cons,List.all_nil,Nat.reduceLT,labsInL,AV.labsIn]
  ·have bz : (msgC S N m != 0) = true:=by simp [hz]
   rw [if_neg hz] at i2
   rw [if_neg (by rw [i2]; exact hz),i2] at e0
   refine AW.rT (by rfl) fun K hK=>?_
   simp -implicitDefEqProofs only [go_sem,↓reduceIte,Nat.reduceAdd,bz]
   apply hK;clear hK K
   refine AW.cT rfl ?_
   refine AW.rT (by rfl) fun K hK=>?_
   simp -implicitDefEqProofs only [go_sem,↓reduceIte,Nat.reduceAdd,Nat.reduceEqDiff]
   apply hK;clear hK K
   refine AW.ret ?_
   simp -implicitDefEqProofs only [go_sem,e0]
 have hc1 : ((i : Int) < (S.msgs.length : Int)) = False:=eq_false (by omega)
 have ea : S.msgs.take i = S.msgs:=List.take_of_length_le (by omega)
 rw [List.drop_of_length_le (by omega),msgsC,ea] at i2
 rw [ea]
 clear ea hil
 refine AW.rT (by rfl) fun K hK=>?_
 simp -implicitDefEqProofs only [go_sem,↓reduceIte,Nat.reduceAdd,Nat.reduceEqDiff,hc1]
 apply hK;clear hK K
 refine AW.seq ?_
 refine AW.cF rfl ?_
 refine AW.exit ?_
 simp only [andThen,inBlk,↓reduceIte]
 refine AW.seq ?_
 refine AW.rT (by rfl) fun K hK=>?_
 simp -implicitDefEqProofs only [go_sem,↓reduceIte,Nat.reduceAdd,Nat.reduceEqDiff,List.length_map]
 apply hK;clear hK K
 refine AW.block ?_
 refine AW.loop (ck2 S) (fun i=>i ≤ S.enums.length ∧ partsC S = enumsC (S.msgs.map Ms.name ++ (S.enums.take i).map En.name) (S.enums.drop i)) (fun i=>S.enums.length - i) 0 ?_ ⟨by omega,by simpa using i2⟩ fun j hj=>?_
 ·simp only [ck2,cellsSc]
  refine Ghost.sub ?_ ?_ <;> simp -implicitDefEqProofs only [go_sem,↓reduceIte,Nat.reduceEqDiff,List.take_zero,List.map_nil,List.append_nil,List.forall_mem_cons,List.not_mem_nil,false_implies,implies_true,and_self,List.all_cons,List.all_nil,Nat.reduceLT,labsInL,AV.labsIn]
  all_goals first | rfl | decide | skip
 clear i2 i1 hc1
 obtain ⟨j1,j2⟩:=hj
 simp only [ck2,cellsSc]
 by_cases hjl : j < S.enums.length
 ·obtain ⟨m,hm⟩ : ∃ m,S.enums[j]? = some m:=⟨_,List.getElem?_eq_getElem hjl⟩
  have ⟨hm1,hm2,hm3⟩:=at_map' encEn hm
  have hc1 : ((j : Int) < (S.enums.length : Int)) = True:=eq_true (by omega)
  have w1 : IntKind.wrap .i64 ((j : Int) + 1) = ((j + 1 : Nat) : Int):=by rw [w64] <;> omega
  rw [enumsC_at hm] at j2
  have hnx : S.msgs.map Ms.name ++ (S.enums.take (j + 1)).map En.name = (S.msgs.map Ms.name ++ (S.enums.take j).map En.name) ++ [m.name]:=by rw [take_map_next En.name hm,List.append_assoc]
  generalize hN : S.msgs.map Ms.name ++ (S.enums.take j).map En.name = N at *
  have CM:=check_enum N m (L.enums m (List.mem_of_getElem? hm))
  refine AW.rT (by rfl) fun K hK=>?_
  simp -implicitDefEqProofs only [go_sem,↓reduceIte,Nat.reduceAdd,Nat.reduceEqDiff,hc1]
  apply hK;clear hK K
  refine AW.seq ?_
  refine AW.cT rfl ?_
  refine AW.skip ?_
  simp only [andThen]
  refine AW.seq ?_
  refine AW.block ?_
  refine AW.rT (by rfl) fun K hK=>?_
  simp -implicitDefEqProofs only [go_sem,↓reduceIte,Nat.reduceAdd,Nat.reduceEqDiff,Nat.reduceLeDiff,hm1,hm3,hc1,encEn,List.length_map]
  apply hK;clear hK K
  refine AW.rT (by rfl) fun K hK=>?_
  simp -implicitDefEqProofs only [go_sem,↓reduceIte,Nat.reduceAdd,Nat.reduceEqDiff,Nat.reduceLeDiff]
  refine ⟨.lend [some 1,none] [.map (setM N),.v (.agg (encEn m))] [some (.map (setM (takeN N m.name))),none] (.int .i64 (enumC N m)),⟨CM,rfl,?_⟩,?_⟩
  ·simp -implicitDefEqProofs only [go_sem,↓reduceIte,Nat.reduceEqDiff,lift_setM,encEn]
  try simp -implicitDefEqProofs only [go_sem,Nat.reduceAdd,lift_setM]
  apply hK;clear hK K
  by_cases hz : enumC N m = 0
  ·have bz : (enumC N m != 0) = false:=by simp [hz]
   rw [if_pos hz] at j2
   rw [takes_enum hz]
   refine AW.rT (by rfl) fun K hK=>?_
   simp -implicitDefEqProofs only [go_sem,↓reduceIte,Nat.reduceAdd,bz]
   apply hK;clear hK K
   refine AW.cF rfl ?_
   refine AW.skip ?_
   simp only [andThen,inBlk]
   refine AW.rE (by rfl) fun K hK=>?_
   simp -implicitDefEqProofs only [go_sem,↓reduceIte,Nat.reduceAdd,Nat.reduceEqDiff,w1]
   apply hK;clear hK K
   refine ⟨j + 1,⟨by omega,by rw [hnx]; exact j2⟩,by omega,?_⟩
   rw [hnx]
   refine Ghost.sub ?_ ?_ <;> simp -implicitDefEqProofs only [go_sem,↓reduceIte,Nat.reduceEqDiff,reduceCtorEq,List.forall_mem_cons,List.not_mem_nil,false_implies,implies_true,and_self,List.all_cons,List.all_nil,Nat.reduceLT,labsInL,AV.labsIn]
  ·have bz : (enumC N m != 0) = true:=by simp [hz]
   rw [if_neg hz] at j2
   rw [if_neg (by rw [j2]; exact hz),j2] at e0
   refine AW.rT (by rfl) fun K hK=>?_
   simp -implicitDefEqProofs only [go_sem,↓reduceIte,Nat.reduceAdd,bz]
   apply hK;clear hK K
   refine AW.cT rfl ?_
   refine AW.rT (by rfl) fun K hK=>?_
   simp -implicitDefEqProofs only [go_sem,↓reduceIte,Nat.reduceAdd,Nat.reduceEqDiff]
   apply hK;clear hK K
   refine AW.ret ?_
   simp -implicitDefEqProofs only [go_sem,e0]
 have hc1 : ((j : Int) < (S.enums.length : Int)) = False:=eq_false (by omega)
 rw [List.drop_of_length_le (by omega),enumsC] at j2
 rw [if_pos j2] at e0
 clear hjl
 refine AW.rT (by rfl) fun K hK=>?_
 simp -implicitDefEqProofs only [go_sem,↓reduceIte,Nat.reduceAdd,Nat.reduceEqDiff,hc1]
 apply hK;clear hK K
 refine AW.seq ?_
 refine AW.cF rfl ?_
 refine AW.exit ?_
 simp only [andThen,inBlk,↓reduceIte]
 refine AW.rT (by rfl) fun K hK=>?_
 simp -implicitDefEqProofs only [go_sem,Nat.reduceAdd]
 apply hK;clear hK K
 refine AW.seq ?_
 refine AW.rT (by rfl) fun K hK=>?_
 simp -implicitDefEqProofs only [go_sem,↓reduceIte,Nat.reduceAdd,Nat.reduceEqDiff,reduceCtorEq,List.length_map]
 apply hK;clear hK K
 refine AW.block ?_
 refine AW.loop (ck3 S) (fun i=>i ≤ S.meths.length ∧ methsC S [] S.meths = methsC S ((S.meths.take i).map Mt.name) (S.meths.drop i)) (fun i=>S.meths.length - i) 0 ?_ ⟨by omega,by simp⟩ fun k hk=>?_
 ·simp only [ck3,cellsSc]
  refine Ghost.ent (fun l=>if l = 0 then 0 else 3) ?_ ?_ ?_ <;> simp -implicitDefEqProofs only [go_sem,↓reduceIte,Nat.reduceEqDiff,reduceCtorEq,List.take_zero,List.map_nil,mS_nil,List.forall_mem_cons,List.not_mem_nil,false_implies,implies_true,and_self,List.all_cons,List.all_nil,Nat.reduceLT,labsInL,AV.labsIn]
  all_goals first | rfl | decide | skip
 obtain ⟨k1,k2⟩:=hk
 simp only [ck3,cellsSc]
 by_cases hkl : k < S.meths.length
 case neg =>
  have hc1 : ((k : Int) < (S.meths.length : Int)) = False:=eq_false (by omega)
  rw [List.drop_of_length_le (by omega),methsC] at k2
  rw [k2] at e0
  refine AW.rT (by rfl) fun K hK=>?_
  simp -implicitDefEqProofs only [go_sem,↓reduceIte,Nat.reduceAdd,Nat.reduceEqDiff,hc1]
  apply hK;clear hK K
  refine AW.seq ?_
  refine AW.cF rfl ?_
  refine AW.exit ?_
  simp only [andThen,inBlk,↓reduceIte]
  refine AW.rT (by rfl) fun K hK=>?_
  simp -implicitDefEqProofs only [go_sem,Nat.reduceAdd]
  apply hK;clear hK K
  refine AW.ret ?_
  simp -implicitDefEqProofs only [go_sem,e0]
 obtain ⟨m,hm⟩ : ∃ m,S.meths[k]? = some m:=⟨_,List.getElem?_eq_getElem hkl⟩
 have ⟨hm1,hm2,hm3⟩:=at_map' encMt hm
 have hc1 : ((k : Int) < (S.meths.length : Int)) = True:=eq_true (by omega)
 have w1 : IntKind.wrap .i64 ((k : Int) + 1) = ((k + 1 : Nat) : Int):=by rw [w64] <;> omega
 rw [methsC_at hm] at k2
 have hnx:=take_map_next Mt.name hm
 generalize hN : (S.meths.take k).map Mt.name = N at *
 have TK:=check_takes N m.name (L.meths m (List.mem_of_getElem? hm))
 have M1:=check_Message S m.inn L.m
 have M2:=check_Message S m.out L.m
 simp only [encSc,encMs] at M1 M2
 refine AW.rT (by rfl) fun K hK=>?_
 simp -implicitDefEqProofs only [go_sem,↓reduceIte,Nat.reduceAdd,Nat.reduceEqDiff,hc1]
 apply hK;clear hK K
 refine AW.seq ?_
 refine AW.cT rfl ?_
 refine AW.skip ?_
 simp only [andThen]
 refine AW.seq ?_
 refine AW.block ?_
 refine AW.rT (by rfl) fun K hK=>?_
 simp -implicitDefEqProofs only [go_sem,↓reduceIte,Nat.reduceAdd,Nat.reduceEqDiff,Nat.reduceLeDiff,hm1,hm3,hc1,encMt,List.length_map]
 apply hK;clear hK K
 refine AW.rT (by rfl) fun K hK=>?_
 simp -implicitDefEqProofs only [go_sem,↓reduceIte,Nat.reduceAdd,Nat.reduceEqDiff,Nat.reduceLeDiff,reduceCtorEq]
 refine ⟨.pure _,M1,?_⟩
 try simp -implicitDefEqProofs only [go_sem,↓reduceIte,Nat.reduceAdd,Nat.reduceEqDiff,Nat.reduceLeDiff]
 apply hK;clear hK K
 refine AW.rT (by rfl) fun K hK=>?_
 simp -implicitDefEqProofs only [go_sem,↓reduceIte,Nat.reduceAdd,Nat.reduceEqDiff,Nat.reduceLeDiff,reduceCtorEq]
 refine ⟨.pure _,M2,?_⟩
 try simp -implicitDefEqProofs only [go_sem,↓reduceIte,Nat.reduceAdd,Nat.reduceEqDiff,Nat.reduceLeDiff]
 apply hK;clear hK K
 refine AW.block ?_
 have h1 : hasM S m.inn = (firstP (fun x=>x.name == m.inn) zMs S.msgs).2:=rfl
 have h2 : hasM S m.out = (firstP (fun x=>x.name == m.out) zMs S.msgs).2:=rfl
 rw [← h1,← h2]
 cases ht2 : takesB N m.name with
 | false =>
  have e3 : takeN N m.name = N:=by unfold takeN; rw [ht2]; rfl
  rw [ht2,e3] at TK
  rw [ht2,if_neg (by simp)] at k2
  rw [k2] at e0
  refine AW.rT (by rfl) fun K hK=>?_
  simp -implicitDefEqProofs only [go_sem,↓reduceIte,Nat.reduceAdd,Nat.reduceEqDiff]
  refine ⟨.lend [some 1,none] [.map (setM N),.v (.str m.name)] [some (.map (setM N)),none] (.bool false),⟨TK,rfl,?_⟩,?_⟩
  ·simp -implicitDefEqProofs only [go_sem,↓reduceIte,Nat.reduceEqDiff,lift_setM]
  try simp -implicitDefEqProofs only [go_sem,Nat.reduceAdd,lift_setM]
  apply hK;clear hK K
  refine AW.cT rfl ?_
  refine AW.rT (by rfl) fun K hK=>?_
  simp -implicitDefEqProofs only [go_sem,Nat.reduceAdd]
  apply hK;clear hK K
  refine AW.ret ?_
  simp -implicitDefEqProofs only [go_sem,e0]
 | true =>
 have e3 : takeN N m.name = N ++ [m.name]:=by unfold takeN; rw [ht2]; rfl
 rw [ht2,e3] at TK
 rw [ht2,if_pos rfl] at k2
 refine AW.rT (by rfl) fun K hK=>?_
 simp -implicitDefEqProofs only [go_sem,↓reduceIte,Nat.reduceAdd,Nat.reduceEqDiff]
 refine ⟨.lend [some 1,none] [.map (setM N),.v (.str m.name)] [some (.map (setM (N ++ [m.name]))),none] (.bool true),⟨TK,rfl,?_⟩,?_⟩
 ·simp -implicitDefEqProofs only [go_sem,↓reduceIte,Nat.reduceEqDiff,lift_setM]
 try simp -implicitDefEqProofs only [go_sem,Nat.reduceAdd,lift_setM]
 apply hK;clear hK K
 refine AW.cF rfl ?_
 cases hi : hasM S m.inn with
 | false =>
  rw [hi,Bool.false_and,if_neg (by simp)] at k2
  rw [k2] at e0
  refine AW.rT (by rfl) fun K hK=>?_
  simp -implicitDefEqProofs only [go_sem,↓reduceIte,Nat.reduceAdd,Nat.reduceEqDiff]
  apply hK;clear hK K
  refine AW.cT rfl ?_
  refine AW.rT (by rfl) fun K hK=>?_
  simp -implicitDefEqProofs only [go_sem,Nat.reduceAdd]
  apply hK;clear hK K
  refine AW.ret ?_
  simp -implicitDefEqProofs only [go_sem,e0]
 | true =>
 cases ho : hasM S m.out with
 | false =>
  rw [hi,ho,if_neg (by simp)] at k2
  rw [k2] at e0
  refine AW.rT (by rfl) fun K hK=>?_
  simp -implicitDefEqProofs only [go_sem,↓reduceIte,Nat.reduceAdd,Nat.reduceEqDiff]
  apply hK;clear hK K
  refine AW.cT rfl ?_
  refine AW.rT (by rfl) fun K hK=>?_
  simp -implicitDefEqProofs only [go_sem,Nat.reduceAdd]
  apply hK;clear hK K
  refine AW.ret ?_
  simp -implicitDefEqProofs only [go_sem,e0]
 | true =>
  rw [hi,ho,if_pos (by rfl)] at k2
  refine AW.rT (by rfl) fun K hK=>?_
  simp -implicitDefEqProofs only [go_sem,↓reduceIte,Nat.reduceAdd,Nat.reduceEqDiff]
  apply hK;clear hK K
  refine AW.cF rfl ?_
  refine AW.skip ?_
  simp only [andThen,inBlk]
  refine AW.rE (by rfl) fun K hK=>?_
  simp -implicitDefEqProofs only [go_sem,↓reduceIte,Nat.reduceAdd,Nat.reduceEqDiff,w1]
  apply hK;clear hK K
  refine ⟨k + 1,⟨by omega,by rw [hnx]; exact k2⟩,by omega,?_⟩
  rw [hnx]
  refine Ghost.sub ?_ ?_ <;> simp -implicitDefEqProofs only [go_sem,↓reduceIte,Nat.reduceEqDiff,reduceCtorEq,List.forall_mem_cons,List.not_mem_nil,false_implies,implies_true,and_self,List.all_cons,List.all_nil,Nat.reduceLT,labsInL,AV.labsIn]
end Go.Aw
namespace Go.Aw
open Go.Proofs Go.RowKit
end Go.Aw
namespace Go.Aw
open Go.Proofs Go.RowKit
end Go.Aw
namespace Go.Aw
open Go.Proofs Go.RowKit
theorem lift_len {α : Type} {f : α → List PV} {n : Nat} (h : ∀ a,(f a).length = n) (l : List α) : ∀ y ∈ liftE (l.map f),y.length = n:=by
 intro y hy
 unfold liftE at hy
 rw [List.map_map] at hy
 obtain ⟨a,_,rfl⟩:=List.mem_map.1 hy
 simp [h]
theorem one_lift {l : List PV} (h : ∀ p ∈ l,p.one = true) : oneAll (l.map AV.p) = true:=by
 induction l with
 | nil=>rfl
 | cons a l ih =>
  rw [List.map_cons,oneAll,ih fun p hp=>h p (List.mem_cons_of_mem _ hp),Bool.and_true]
  exact h a List.mem_cons_self
theorem lift_one {α : Type} {f : α → List PV} (h : ∀ a,∀ p ∈ f a,p.one = true) (l : List α) : ∀ y ∈ liftE (l.map f),oneAll y = true:=by
 intro y hy
 unfold liftE at hy
 rw [List.map_map] at hy
 obtain ⟨a,_,rfl⟩:=List.mem_map.1 hy
 exact one_lift (h a)
theorem one_I (a : Int) : ∀ p ∈ encI a,p.one = true:=by intro p hp; simp [encI] at hp; subst hp; rfl
theorem one_Fd (a : Fd) : ∀ p ∈ encFd a,p.one = true:=by intro p hp; simp [encFd] at hp; rcases hp with rfl | rfl | rfl | rfl | rfl <;> rfl
theorem one_Nm (a : Nm) : ∀ p ∈ encNm a,p.one = true:=by intro p hp; simp [encNm] at hp; rcases hp with rfl | rfl <;> rfl
theorem one_Mt (a : Mt) : ∀ p ∈ encMt a,p.one = true:=by intro p hp; simp [encMt] at hp; rcases hp with rfl | rfl | rfl <;> rfl
theorem law00_Ints (l : List Int) (hl : l.length ≤ 1000000) : PFn Tryz.prog 25 [.slice (l.map encI)] (.slice (l.map encI)):=by
 refine PFn.of Tryz.func25 rfl (by decide) Tryz.ntmps25 Tryz.results25 (Nat.le_of_ble_eq_true rfl) ?_
 simp only [argsT]
 refine AW.rT (by rfl) fun K hK=>?_
 simp -implicitDefEqProofs only [go_sem]
 apply hK;clear hK K
 refine AW.rT (by rfl) fun K hK=>?_
 simp -implicitDefEqProofs only [go_sem,↓reduceIte,Nat.reduceAdd,Nat.reduceLeDiff,reduceCtorEq]
 refine ⟨⟨lift_len (f:=encI) (fun _=>rfl) l,lift_one one_I l,by simp⟩,⟨.inl trivial,by simp,by rw [liftE_length,List.length_map]; omega⟩,?_⟩
 apply hK;clear hK K
 refine AW.ret ?_
 simp -implicitDefEqProofs only [go_sem]
theorem law00_Place (p n : Int) (hn : 0 < n) (hb : n ≤ 9223372036854775807) (hp : -9223372036854775808 ≤ p) (hq : p ≤ 9223372036854775807) : PFn Tryz.prog 8 [.int .i64 p,.int .i64 n] (.int .i64 (p % n)):=by
 refine PFn.of Tryz.func8 rfl (by decide) Tryz.ntmps8 Tryz.results8 (Nat.le_of_ble_eq_true rfl) ?_
 simp only [argsT]
 have z : (n = 0) = False:=eq_false (by omega)
 have hm:=Int.emod_nonneg p (show n ≠ 0 by omega)
 have hm2:=Int.emod_lt_of_pos p hn
 refine AW.rT (by rfl) fun K hK=>?_
 simp -implicitDefEqProofs only [go_sem]
 apply hK;clear hK K
 refine AW.rT (by rfl) fun K hK=>?_
 simp -implicitDefEqProofs only [go_sem,↓reduceIte,Nat.reduceAdd,Nat.reduceEqDiff,reduceCtorEq,z]
 apply hK;clear hK K
 refine AW.seq ?_
 have ht : p.tmod n = if 0 ≤ p ∨ p % n = 0 then p % n else p % n - n:=by
  rw [Int.tmod_eq_emod]
  have hd : n ∣ p ↔ p % n = 0:=Int.dvd_iff_emod_eq_zero
  have hna : (n.natAbs : Int) = n:=by omega
  by_cases h : 0 ≤ p ∨ n ∣ p
  ·rw [if_pos h,if_pos (by rcases h with h | h; exact .inl h; exact .inr (hd.1 h))]; simp
  ·rw [if_neg h,if_neg (by intro h'; apply h; rcases h' with h' | h'; exact .inl h'; exact .inr (hd.2 h')),hna]
 by_cases h : p.tmod n < 0
 ·have f1 : (p.tmod n < 0) = True:=eq_true h
  have e : IntKind.wrap .i64 (p.tmod n + n) = p % n:=by
   rw [w64]
   all_goals
    split at ht <;> omega
  refine AW.rT (by rfl) fun K hK=>?_
  simp -implicitDefEqProofs only [go_sem,↓reduceIte,Nat.reduceAdd,f1]
  apply hK;clear hK K
  refine AW.cT rfl ?_
  refine AW.rE (by rfl) fun K hK=>?_
  simp -implicitDefEqProofs only [go_sem,↓reduceIte,Nat.reduceAdd,Nat.reduceEqDiff,e]
  apply hK;clear hK K
  simp only [andThen]
  refine AW.rT (by rfl) fun K hK=>?_
  simp -implicitDefEqProofs only [go_sem,Nat.reduceAdd]
  apply hK;clear hK K
  refine AW.ret ?_
  simp -implicitDefEqProofs only [go_sem]
 ·have f1 : (p.tmod n < 0) = False:=eq_false h
  have e : p.tmod n = p % n:=by
   split at ht <;> omega
  refine AW.rT (by rfl) fun K hK=>?_
  simp -implicitDefEqProofs only [go_sem,↓reduceIte,Nat.reduceAdd,f1]
  apply hK;clear hK K
  refine AW.cF rfl ?_
  refine AW.skip ?_
  simp only [andThen]
  refine AW.rT (by rfl) fun K hK=>?_
  simp -implicitDefEqProofs only [go_sem,↓reduceIte,Nat.reduceAdd,Nat.reduceEqDiff]
  apply hK;clear hK K
  refine AW.ret ?_
  simp -implicitDefEqProofs only [go_sem,e]
def fdFew (f : Fd) : Bool:=decide (f.name.length ≤ 200 ∧ f.ty.name.length ≤ 200)
def msFew (m : Ms) : Bool:=decide (m.fields.length ≤ 20 ∧ m.res.length ≤ 40) && m.fields.all fdFew
def nmFew (v : Nm) : Bool:=decide (v.name.length ≤ 200)
def enFew (e : En) : Bool:=decide (e.name.length ≤ 200 ∧ e.vals.length ≤ 24) && e.vals.all nmFew
def mtFew (t : Mt) : Bool:=decide (t.name.length ≤ 200 ∧ t.inn.length ≤ 200 ∧ t.out.length ≤ 200)
def totN (S : Sc) (k : Nat) : Nat:=S.name.length + ((S.msgs.take k).map fun m=>m.name.length).sum
def fewB (S : Sc) : Bool:=(S.msgs.take 20).all msFew && ((S.enums.take 20).all enFew && ((S.meths.take 20).all mtFew && decide (totN S 20 < 3000 ∧ S.msgs.length ≤ 14 ∧ S.enums.length ≤ 10 ∧ S.meths.length ≤ 10)))
def bigS (S : Sc) : Prop:=S.name.length ≤ reachBytes ∧ ∀ m ∈ S.msgs,m.name.length ≤ reachBytes
theorem tot_next {S : Sc} {i : Nat} {m : Ms} (h : S.msgs[i]? = some m) : totN S (i + 1) = totN S i + m.name.length:=by
 unfold totN
 rw [List.take_add_one,h]
 simp; omega
theorem sum_le {l : List Ms} {n : Nat} (h : ∀ m ∈ l,m.name.length ≤ n) : (l.map fun m=>m.name.length).sum ≤ l.length * n:=by
 induction l with
 | nil=>simp
 | cons a l ih =>
  rw [List.map_cons,List.sum_cons,List.length_cons,Nat.add_mul]
  have:=h a List.mem_cons_self
  have:=ih fun m hm=>h m (List.mem_cons_of_mem _ hm)
  omega
theorem tot_le {S : Sc} (h : bigS S) {i : Nat} (hi : i ≤ 20) : totN S i ≤ 21 * 140737488351232:=by
 have h1:=h.1
 have h2:=sum_le (l:=S.msgs.take i) (n:=reachBytes) fun m hm=>h.2 m (List.mem_of_mem_take hm)
 have hl : (S.msgs.take i).length ≤ 20:=by rw [List.length_take]; omega
 have : (S.msgs.take i).length * reachBytes ≤ 20 * reachBytes:=Nat.mul_le_mul_right _ hl
 have e : reachBytes = 140737488351232:=by decide
 unfold totN
 omega
theorem take_end {α : Type} {l : List α} {i : Nat} (hi : i ≤ l.length) (h2 : i ≤ 20) (h : ¬ (i < l.length ∧ i < 20)) : l.take i = l.take 20:=by
 by_cases h3 : i = 20
 ·rw [h3]
 ·rw [List.take_of_length_le (by omega),List.take_of_length_le (by omega)]
theorem few_msg {S : Sc} {i : Nat} {m : Ms} (h : S.msgs[i]? = some m) (hi : i < 20) (hm : msFew m = false) : fewB S = false:=by
 have : (S.msgs.take 20).all msFew = false:=all_not (k:=i) (r:=m) (by rw [List.getElem?_take,if_pos hi]; exact h) hm
 unfold fewB; rw [this]; rfl
theorem few_enum {S : Sc} {i : Nat} {m : En} (h : S.enums[i]? = some m) (hi : i < 20) (hm : enFew m = false) : fewB S = false:=by
 have : (S.enums.take 20).all enFew = false:=all_not (k:=i) (r:=m) (by rw [List.getElem?_take,if_pos hi]; exact h) hm
 unfold fewB; rw [this]; simp
theorem few_meth {S : Sc} {i : Nat} {m : Mt} (h : S.meths[i]? = some m) (hi : i < 20) (hm : mtFew m = false) : fewB S = false:=by
 have : (S.meths.take 20).all mtFew = false:=all_not (k:=i) (r:=m) (by rw [List.getElem?_take,if_pos hi]; exact h) hm
 unfold fewB; rw [this]; simp
def fw (S : Sc) (l : List (Nat × AV)) : St:=⟨ofL ((1,.ptr 0 0 0) :: l),ofH [(0,.row 4 [cellsSc S])],1⟩
theorem law00_Few (S : Sc) (B : bigS S) : PFn Tryz.prog 4 [.agg (encSc S)] (.bool (fewB S)):=by
 refine PFn.of Tryz.func4 rfl (by decide) Tryz.ntmps4 Tryz.results4 (Nat.le_of_ble_eq_true rfl) ?_
 simp only [argsT,encSc]
 refine AW.rT (by rfl) fun K hK=>?_
 simp -implicitDefEqProofs only [go_sem,Nat.reduceAdd]
 apply hK;clear hK K
 refine AW.rT (by rfl) fun K hK=>?_
 simp -implicitDefEqProofs only [go_sem,↓reduceIte,Nat.reduceAdd,Nat.reduceEqDiff]
 apply hK;clear hK K
 refine AW.cut (fun _ : Unit=>fw S [(3,.p (.int .i64 (totN S 20 : Int)))]) (fun _=>(S.msgs.take 20).all msFew = true) ?_ fun _ qA=>?_
 rotate_left
 ·skip
  try simp only [fw,cellsSc]
  refine AW.cut (fun _ : Unit=>fw S [(3,.p (.int .i64 (totN S 20 : Int)))]) (fun _=>(S.enums.take 20).all enFew = true) ?_ fun _ qC=>?_
  ·refine AW.rT (by rfl) fun K hK=>?_
   simp -implicitDefEqProofs only [go_sem,Nat.reduceAdd]
   apply hK;clear hK K
   refine AW.block ?_
   refine AW.loop (fun i : Nat=>fw S [(3,.p (.int .i64 (totN S 20 : Int))),(7,.p (.int .i64 (i : Int)))]) (fun i=>(i ≤ S.enums.length ∧ i ≤ 20) ∧ (S.enums.take i).all enFew = true) (fun i=>20 - i) 0 ?_ ⟨⟨by omega,by omega⟩,by simp⟩ fun i hi=>?_
   ·simp only [fw,cellsSc]
    refine Ghost.sub ?_ ?_ <;> simp -implicitDefEqProofs only [go_sem,↓reduceIte,Nat.reduceEqDiff,List.forall_mem_cons,List.not_mem_nil,false_implies,implies_true,and_self,List.all_cons,List.all_nil,Nat.reduceLT,labsInL,AV.labsIn]
    all_goals first | rfl | decide | skip
   obtain ⟨⟨i1,i0⟩,i2⟩:=hi
   try simp only [fw,cellsSc]
   refine AW.seq ?_
   by_cases hil : i < S.enums.length ∧ i < 20
   ·have c1 : ((i : Int) < (S.enums.length : Int)) = True:=eq_true (by omega)
    have c2 : ((i : Int) < 20) = True:=eq_true (by omega)
    obtain ⟨m,hm⟩ : ∃ m,S.enums[i]? = some m:=⟨_,List.getElem?_eq_getElem hil.1⟩
    have ⟨hm1,hm2,hm3⟩:=at_map' encEn hm
    have hm2' : (i : Int) < (S.enums.length : Int):=by omega
    have w1 : IntKind.wrap .i64 ((i : Int) + 1) = ((i + 1 : Nat) : Int):=by rw [w64] <;> omega
    refine AW.rT (by rfl) fun K hK=>?_
    simp -implicitDefEqProofs only [go_sem,↓reduceIte,Nat.reduceAdd,Nat.reduceEqDiff,c1,c2,List.length_map]
    apply hK;clear hK K
    refine AW.cT rfl ?_
    refine AW.skip ?_
    simp only [andThen]
    refine AW.seq ?_
    refine AW.block ?_
    refine AW.seq ?_
    by_cases a1 : m.name.length > 200
    ·have f1 : ((m.name.length : Int) > 200) = True:=eq_true (by omega)
     have e:=few_enum hm hil.2 (by unfold enFew; rw [decide_eq_false (by omega)]; rfl)
     refine AW.rT (by rfl) fun K hK=>?_
     simp -implicitDefEqProofs only [go_sem,↓reduceIte,Nat.reduceAdd,Nat.reduceEqDiff,hm1,hm2',hm3,encEn,List.length_map,f1]
     apply hK;clear hK K
     refine AW.cT rfl ?_
     refine AW.rT (by rfl) fun K hK=>?_
     simp -implicitDefEqProofs only [go_sem,Nat.reduceAdd]
     apply hK;clear hK K
     refine AW.ret ?_
     simp -implicitDefEqProofs only [go_sem,e]
    have f1 : ((m.name.length : Int) > 200) = False:=eq_false (by omega)
    by_cases a2 : m.vals.length > 24
    ·have f2 : ((m.vals.length : Int) > 24) = True:=eq_true (by omega)
     have e:=few_enum hm hil.2 (by unfold enFew; rw [decide_eq_false (by omega)]; rfl)
     refine AW.rT (by rfl) fun K hK=>?_
     simp -implicitDefEqProofs only [go_sem,↓reduceIte,Nat.reduceAdd,Nat.reduceEqDiff,hm1,hm2',hm3,encEn,List.length_map,f1,f2]
     apply hK;clear hK K
     refine AW.cT rfl ?_
     refine AW.rT (by rfl) fun K hK=>?_
     simp -implicitDefEqProofs only [go_sem,Nat.reduceAdd]
     apply hK;clear hK K
     refine AW.ret ?_
     simp -implicitDefEqProofs only [go_sem,e]
    have f2 : ((m.vals.length : Int) > 24) = False:=eq_false (by omega)
    refine AW.rT (by rfl) fun K hK=>?_
    simp -implicitDefEqProofs only [go_sem,↓reduceIte,Nat.reduceAdd,Nat.reduceEqDiff,hm1,hm2',hm3,encEn,List.length_map,f1,f2]
    apply hK;clear hK K
    refine AW.cF rfl ?_
    refine AW.skip ?_
    simp only [andThen]
    refine AW.rT (by rfl) fun K hK=>?_
    simp -implicitDefEqProofs only [go_sem,Nat.reduceAdd]
    apply hK;clear hK K
    refine AW.block ?_
    refine AW.loop (fun j : Nat=>fw S [(3,.p (.int .i64 (totN S 20 : Int))),(7,.p (.int .i64 (i : Int))),(8,.p (.int .i64 (j : Int)))]) (fun j=>j ≤ m.vals.length ∧ (m.vals.take j).all nmFew = true) (fun j=>m.vals.length - j) 0 ?_ ⟨by omega,by simp⟩ fun j hj=>?_
    ·simp only [fw,cellsSc]
     refine Ghost.sub ?_ ?_ <;> simp -implicitDefEqProofs only [go_sem,↓reduceIte,Nat.reduceEqDiff,List.forall_mem_cons,List.not_mem_nil,false_implies,implies_true,and_self,List.all_cons,List.all_nil,Nat.reduceLT,labsInL,AV.labsIn]
     all_goals first | rfl | decide | skip
    obtain ⟨j1,j2⟩:=hj
    try simp only [fw,cellsSc]
    refine AW.seq ?_
    by_cases hjl : j < m.vals.length
    case neg =>
     have c3 : ((j : Int) < (m.vals.length : Int)) = False:=eq_false (by omega)
     rw [List.take_of_length_le (by omega)] at j2
     have hmf : enFew m = true:=by unfold enFew; rw [decide_eq_true (by omega),j2]; rfl
     refine AW.rT (by rfl) fun K hK=>?_
     simp -implicitDefEqProofs only [go_sem,↓reduceIte,Nat.reduceAdd,Nat.reduceEqDiff,hm1,hm2',hm3,encEn,List.length_map,c3]
     apply hK;clear hK K
     refine AW.cF rfl ?_
     refine AW.exit ?_
     simp only [andThen,inBlk,↓reduceIte]
     refine AW.rE (by rfl) fun K hK=>?_
     simp -implicitDefEqProofs only [go_sem,↓reduceIte,Nat.reduceAdd,Nat.reduceEqDiff,w1]
     apply hK;clear hK K
     refine ⟨i + 1,⟨⟨by omega,by omega⟩,all_next hm i2 hmf⟩,by omega,?_⟩
     try simp only [fw,cellsSc]
     refine Ghost.sub ?_ ?_ <;> simp -implicitDefEqProofs only [go_sem,↓reduceIte,Nat.reduceEqDiff,List.forall_mem_cons,List.not_mem_nil,false_implies,implies_true,and_self,List.all_cons,List.all_nil,Nat.reduceLT,labsInL,AV.labsIn]
    obtain ⟨f,hf⟩ : ∃ f,m.vals[j]? = some f:=⟨_,List.getElem?_eq_getElem hjl⟩
    have ⟨hf1,hf2,hf3⟩:=at_map' encNm hf
    have hf2' : (j : Int) < (m.vals.length : Int):=by omega
    have c3 : ((j : Int) < (m.vals.length : Int)) = True:=eq_true (by omega)
    have w3 : IntKind.wrap .i64 ((j : Int) + 1) = ((j + 1 : Nat) : Int):=by rw [w64] <;> omega
    refine AW.rT (by rfl) fun K hK=>?_
    simp -implicitDefEqProofs only [go_sem,↓reduceIte,Nat.reduceAdd,Nat.reduceEqDiff,hm1,hm2',hm3,encEn,List.length_map,c3]
    apply hK;clear hK K
    refine AW.cT rfl ?_
    refine AW.skip ?_
    simp only [andThen]
    refine AW.seq ?_
    refine AW.block ?_
    by_cases b1 : f.name.length > 200
    ·have f1 : ((f.name.length : Int) > 200) = True:=eq_true (by omega)
     have e:=few_enum hm hil.2 (by unfold enFew; rw [all_not hf (show nmFew f = false from decide_eq_false (by omega))]; simp)
     refine AW.rT (by rfl) fun K hK=>?_
     simp -implicitDefEqProofs only [go_sem,↓reduceIte,Nat.reduceAdd,Nat.reduceEqDiff,hm1,hm2',hm3,encEn,List.length_map,hf1,hf2',hf3,encNm,f1]
     apply hK;clear hK K
     refine AW.cT rfl ?_
     refine AW.rT (by rfl) fun K hK=>?_
     simp -implicitDefEqProofs only [go_sem,Nat.reduceAdd]
     apply hK;clear hK K
     refine AW.ret ?_
     simp -implicitDefEqProofs only [go_sem,e]
    have f1 : ((f.name.length : Int) > 200) = False:=eq_false (by omega)
    refine AW.rT (by rfl) fun K hK=>?_
    simp -implicitDefEqProofs only [go_sem,↓reduceIte,Nat.reduceAdd,Nat.reduceEqDiff,hm1,hm2',hm3,encEn,List.length_map,hf1,hf2',hf3,encNm,f1]
    apply hK;clear hK K
    refine AW.cF rfl ?_
    refine AW.skip ?_
    simp only [andThen,inBlk]
    refine AW.rE (by rfl) fun K hK=>?_
    simp -implicitDefEqProofs only [go_sem,↓reduceIte,Nat.reduceAdd,Nat.reduceEqDiff,w3]
    apply hK;clear hK K
    refine ⟨j + 1,⟨by omega,all_next hf j2 (decide_eq_true (by omega))⟩,by omega,?_⟩
    refine Ghost.sub ?_ ?_ <;> simp -implicitDefEqProofs only [go_sem,↓reduceIte,Nat.reduceEqDiff,List.forall_mem_cons,List.not_mem_nil,false_implies,implies_true,and_self,List.all_cons,List.all_nil,Nat.reduceLT,labsInL,AV.labsIn]
   have ea:=take_end i1 i0 hil
   rw [ea] at i2
   by_cases hil' : i < S.enums.length
   ·have c1 : ((i : Int) < (S.enums.length : Int)) = True:=eq_true (by omega)
    have c2 : ((i : Int) < 20) = False:=eq_false (by omega)
    refine AW.rT (by rfl) fun K hK=>?_
    simp -implicitDefEqProofs only [go_sem,↓reduceIte,Nat.reduceAdd,Nat.reduceEqDiff,c1,c2,List.length_map]
    apply hK;clear hK K
    refine AW.cF rfl ?_
    refine AW.exit ?_
    simp only [andThen,inBlk,↓reduceIte]
    refine ⟨(),i2,?_⟩
    try simp only [fw,cellsSc]
    refine Ghost.sub ?_ ?_ <;> simp -implicitDefEqProofs only [go_sem,↓reduceIte,Nat.reduceEqDiff,List.forall_mem_cons,List.not_mem_nil,false_implies,implies_true,and_self,List.all_cons,List.all_nil,Nat.reduceLT,labsInL,AV.labsIn]
   ·have c1 : ((i : Int) < (S.enums.length : Int)) = False:=eq_false (by omega)
    refine AW.rT (by rfl) fun K hK=>?_
    simp -implicitDefEqProofs only [go_sem,↓reduceIte,Nat.reduceAdd,Nat.reduceEqDiff,c1,List.length_map]
    apply hK;clear hK K
    refine AW.cF rfl ?_
    refine AW.exit ?_
    simp only [andThen,inBlk,↓reduceIte]
    refine ⟨(),i2,?_⟩
    try simp only [fw,cellsSc]
    refine Ghost.sub ?_ ?_ <;> simp -implicitDefEqProofs only [go_sem,↓reduceIte,Nat.reduceEqDiff,List.forall_mem_cons,List.not_mem_nil,false_implies,implies_true,and_self,List.all_cons,List.all_nil,Nat.reduceLT,labsInL,AV.labsIn]
  try simp only [fw,cellsSc]
  refine AW.cut (fun _ : Unit=>fw S [(3,.p (.int .i64 (totN S 20 : Int)))]) (fun _=>(S.meths.take 20).all mtFew = true) ?_ fun _ qE=>?_
  ·refine AW.rT (by rfl) fun K hK=>?_
   simp -implicitDefEqProofs only [go_sem,Nat.reduceAdd]
   apply hK;clear hK K
   refine AW.block ?_
   refine AW.loop (fun i : Nat=>fw S [(3,.p (.int .i64 (totN S 20 : Int))),(9,.p (.int .i64 (i : Int)))]) (fun i=>(i ≤ S.meths.length ∧ i ≤ 20) ∧ (S.meths.take i).all mtFew = true) (fun i=>20 - i) 0 ?_ ⟨⟨by omega,by omega⟩,by simp⟩ fun i hi=>?_
   ·simp only [fw,cellsSc]
    refine Ghost.sub ?_ ?_ <;> simp -implicitDefEqProofs only [go_sem,↓reduceIte,Nat.reduceEqDiff,List.forall_mem_cons,List.not_mem_nil,false_implies,implies_true,and_self,List.all_cons,List.all_nil,Nat.reduceLT,labsInL,AV.labsIn]
    all_goals first | rfl | decide | skip
   obtain ⟨⟨i1,i0⟩,i2⟩:=hi
   try simp only [fw,cellsSc]
   refine AW.seq ?_
   by_cases hil : i < S.meths.length ∧ i < 20
   ·have c1 : ((i : Int) < (S.meths.length : Int)) = True:=eq_true (by omega)
    have c2 : ((i : Int) < 20) = True:=eq_true (by omega)
    obtain ⟨m,hm⟩ : ∃ m,S.meths[i]? = some m:=⟨_,List.getElem?_eq_getElem hil.1⟩
    have ⟨hm1,hm2,hm3⟩:=at_map' encMt hm
    have hm2' : (i : Int) < (S.meths.length : Int):=by omega
    have w1 : IntKind.wrap .i64 ((i : Int) + 1) = ((i + 1 : Nat) : Int):=by rw [w64] <;> omega
    refine AW.rT (by rfl) fun K hK=>?_
    simp -implicitDefEqProofs only [go_sem,↓reduceIte,Nat.reduceAdd,Nat.reduceEqDiff,c1,c2,List.length_map]
    apply hK;clear hK K
    refine AW.cT rfl ?_
    refine AW.skip ?_
    simp only [andThen]
    refine AW.seq ?_
    refine AW.block ?_
    by_cases a1 : m.name.length > 200
    ·have f1 : ((m.name.length : Int) > 200) = True:=eq_true (by omega)
     have e:=few_meth hm hil.2 (decide_eq_false (by omega))
     refine AW.rT (by rfl) fun K hK=>?_
     simp -implicitDefEqProofs only [go_sem,↓reduceIte,Nat.reduceAdd,Nat.reduceEqDiff,hm1,hm2',hm3,encMt,List.length_map,f1]
     apply hK;clear hK K
     refine AW.cT rfl ?_
     refine AW.rT (by rfl) fun K hK=>?_
     simp -implicitDefEqProofs only [go_sem,Nat.reduceAdd]
     apply hK;clear hK K
     refine AW.ret ?_
     simp -implicitDefEqProofs only [go_sem,e]
    have f1 : ((m.name.length : Int) > 200) = False:=eq_false (by omega)
    by_cases a2 : m.inn.length > 200
    ·have f2 : ((m.inn.length : Int) > 200) = True:=eq_true (by omega)
     have e:=few_meth hm hil.2 (decide_eq_false (by omega))
     refine AW.rT (by rfl) fun K hK=>?_
     simp -implicitDefEqProofs only [go_sem,↓reduceIte,Nat.reduceAdd,Nat.reduceEqDiff,hm1,hm2',hm3,encMt,List.length_map,f1,f2]
     apply hK;clear hK K
     refine AW.cT rfl ?_
     refine AW.rT (by rfl) fun K hK=>?_
     simp -implicitDefEqProofs only [go_sem,Nat.reduceAdd]
     apply hK;clear hK K
     refine AW.ret ?_
     simp -implicitDefEqProofs only [go_sem,e]
    have f2 : ((m.inn.length : Int) > 200) = False:=eq_false (by omega)
    by_cases a3 : m.out.length > 200
    ·have f3 : ((m.out.length : Int) > 200) = True:=eq_true (by omega)
     have e:=few_meth hm hil.2 (decide_eq_false (by omega))
     refine AW.rT (by rfl) fun K hK=>?_
     simp -implicitDefEqProofs only [go_sem,↓reduceIte,Nat.reduceAdd,Nat.reduceEqDiff,hm1,hm2',hm3,encMt,List.length_map,f1,f2,f3]
     apply hK;clear hK K
     refine AW.cT rfl ?_
     refine AW.rT (by rfl) fun K hK=>?_
     simp -implicitDefEqProofs only [go_sem,Nat.reduceAdd]
     apply hK;clear hK K
     refine AW.ret ?_
     simp -implicitDefEqProofs only [go_sem,e]
    have f3 : ((m.out.length : Int) > 200) = False:=eq_false (by omega)
    refine AW.rT (by rfl) fun K hK=>?_
    simp -implicitDefEqProofs only [go_sem,↓reduceIte,Nat.reduceAdd,Nat.reduceEqDiff,hm1,hm2',hm3,encMt,List.length_map,f1,f2,f3]
    apply hK;clear hK K
    refine AW.cF rfl ?_
    refine AW.skip ?_
    simp only [andThen,inBlk]
    refine AW.rE (by rfl) fun K hK=>?_
    simp -implicitDefEqProofs only [go_sem,↓reduceIte,Nat.reduceAdd,Nat.reduceEqDiff,w1]
    apply hK;clear hK K
    refine ⟨i + 1,⟨⟨by omega,by omega⟩,all_next hm i2 (decide_eq_true (by omega))⟩,by omega,?_⟩
    try simp only [fw,cellsSc]
    refine Ghost.sub ?_ ?_ <;> simp -implicitDefEqProofs only [go_sem,↓reduceIte,Nat.reduceEqDiff,List.forall_mem_cons,List.not_mem_nil,false_implies,implies_true,and_self,List.all_cons,List.all_nil,Nat.reduceLT,labsInL,AV.labsIn]
   have ea:=take_end i1 i0 hil
   rw [ea] at i2
   by_cases hil' : i < S.meths.length
   ·have c1 : ((i : Int) < (S.meths.length : Int)) = True:=eq_true (by omega)
    have c2 : ((i : Int) < 20) = False:=eq_false (by omega)
    refine AW.rT (by rfl) fun K hK=>?_
    simp -implicitDefEqProofs only [go_sem,↓reduceIte,Nat.reduceAdd,Nat.reduceEqDiff,c1,c2,List.length_map]
    apply hK;clear hK K
    refine AW.cF rfl ?_
    refine AW.exit ?_
    simp only [andThen,inBlk,↓reduceIte]
    refine ⟨(),i2,?_⟩
    try simp only [fw,cellsSc]
    refine Ghost.sub ?_ ?_ <;> simp -implicitDefEqProofs only [go_sem,↓reduceIte,Nat.reduceEqDiff,List.forall_mem_cons,List.not_mem_nil,false_implies,implies_true,and_self,List.all_cons,List.all_nil,Nat.reduceLT,labsInL,AV.labsIn]
   ·have c1 : ((i : Int) < (S.meths.length : Int)) = False:=eq_false (by omega)
    refine AW.rT (by rfl) fun K hK=>?_
    simp -implicitDefEqProofs only [go_sem,↓reduceIte,Nat.reduceAdd,Nat.reduceEqDiff,c1,List.length_map]
    apply hK;clear hK K
    refine AW.cF rfl ?_
    refine AW.exit ?_
    simp only [andThen,inBlk,↓reduceIte]
    refine ⟨(),i2,?_⟩
    try simp only [fw,cellsSc]
    refine Ghost.sub ?_ ?_ <;> simp -implicitDefEqProofs only [go_sem,↓reduceIte,Nat.reduceEqDiff,List.forall_mem_cons,List.not_mem_nil,false_implies,implies_true,and_self,List.all_cons,List.all_nil,Nat.reduceLT,labsInL,AV.labsIn]
  try simp only [fw,cellsSc]
  have eF : fewB S = decide (totN S 20 < 3000 ∧ S.msgs.length ≤ 14 ∧ S.enums.length ≤ 10 ∧ S.meths.length ≤ 10):=by
   unfold fewB; rw [qA,qC,qE]; simp only [Bool.true_and]
  by_cases a0 : totN S 20 < 3000
  case neg =>
   have f0 : ((totN S 20 : Int) < 3000) = False:=eq_false (by omega)
   rw [decide_eq_false (by omega)] at eF
   refine AW.rT (by rfl) fun K hK=>?_
   simp -implicitDefEqProofs only [go_sem,↓reduceIte,Nat.reduceAdd,Nat.reduceEqDiff,f0]
   apply hK;clear hK K
   refine AW.ret ?_
   simp -implicitDefEqProofs only [go_sem,eF]
  have f0 : ((totN S 20 : Int) < 3000) = True:=eq_true (by omega)
  by_cases a1 : S.msgs.length ≤ 14
  case neg =>
   have f1 : ((S.msgs.length : Int) ≤ 14) = False:=eq_false (by omega)
   rw [decide_eq_false (by omega)] at eF
   refine AW.rT (by rfl) fun K hK=>?_
   simp -implicitDefEqProofs only [go_sem,↓reduceIte,Nat.reduceAdd,Nat.reduceEqDiff,f0,f1,List.length_map]
   apply hK;clear hK K
   refine AW.ret ?_
   simp -implicitDefEqProofs only [go_sem,eF]
  have f1 : ((S.msgs.length : Int) ≤ 14) = True:=eq_true (by omega)
  by_cases a2 : S.enums.length ≤ 10
  case neg =>
   have f2 : ((S.enums.length : Int) ≤ 10) = False:=eq_false (by omega)
   rw [decide_eq_false (by omega)] at eF
   refine AW.rT (by rfl) fun K hK=>?_
   simp -implicitDefEqProofs only [go_sem,↓reduceIte,Nat.reduceAdd,Nat.reduceEqDiff,f0,f1,f2,List.length_map]
   apply hK;clear hK K
   refine AW.ret ?_
   simp -implicitDefEqProofs only [go_sem,eF]
  have f2 : ((S.enums.length : Int) ≤ 10) = True:=eq_true (by omega)
  by_cases a3 : S.meths.length ≤ 10
  case neg =>
   have f3 : ((S.meths.length : Int) ≤ 10) = False:=eq_false (by omega)
   rw [decide_eq_false (by omega)] at eF
   refine AW.rT (by rfl) fun K hK=>?_
   simp -implicitDefEqProofs only [go_sem,↓reduceIte,Nat.reduceAdd,Nat.reduceEqDiff,f0,f1,f2,f3,List.length_map]
   apply hK;clear hK K
   refine AW.ret ?_
   simp -implicitDefEqProofs only [go_sem,eF]
  have f3 : ((S.meths.length : Int) ≤ 10) = True:=eq_true (by omega)
  rw [decide_eq_true (by omega)] at eF
  refine AW.rT (by rfl) fun K hK=>?_
  simp -implicitDefEqProofs only [go_sem,↓reduceIte,Nat.reduceAdd,Nat.reduceEqDiff,f0,f1,f2,f3,List.length_map]
  apply hK;clear hK K
  refine AW.ret ?_
  simp -implicitDefEqProofs only [go_sem,eF]
 refine AW.rT (by rfl) fun K hK=>?_
 simp -implicitDefEqProofs only [go_sem,Nat.reduceAdd]
 apply hK;clear hK K
 refine AW.block ?_
 refine AW.loop (fun i : Nat=>fw S [(3,.p (.int .i64 (totN S i : Int))),(4,.p (.int .i64 (i : Int)))]) (fun i=>(i ≤ S.msgs.length ∧ i ≤ 20) ∧ (S.msgs.take i).all msFew = true) (fun i=>20 - i) 0 ?_ ⟨⟨by omega,by omega⟩,by simp⟩ fun i hi=>?_
 ·simp only [fw,cellsSc]
  refine Ghost.sub ?_ ?_ <;> simp -implicitDefEqProofs only [go_sem,↓reduceIte,Nat.reduceEqDiff,totN,List.take_zero,List.map_nil,List.sum_nil,List.forall_mem_cons,List.not_mem_nil,false_implies,implies_true,and_self,List.all_cons,List.all_nil,Nat.reduceLT,labsInL,AV.labsIn]
  all_goals first | rfl | decide | skip
 obtain ⟨⟨i1,i0⟩,i2⟩:=hi
 have ht:=tot_le B i0
 try simp only [fw,cellsSc]
 refine AW.seq ?_
 by_cases hil : i < S.msgs.length ∧ i < 20
 ·have c1 : ((i : Int) < (S.msgs.length : Int)) = True:=eq_true (by omega)
  have c2 : ((i : Int) < 20) = True:=eq_true (by omega)
  obtain ⟨m,hm⟩ : ∃ m,S.msgs[i]? = some m:=⟨_,List.getElem?_eq_getElem hil.1⟩
  have ⟨hm1,hm2,hm3⟩:=at_map' encMs hm
  have hm2' : (i : Int) < (S.msgs.length : Int):=by omega
  have w1 : IntKind.wrap .i64 ((i : Int) + 1) = ((i + 1 : Nat) : Int):=by rw [w64] <;> omega
  have hbm : m.name.length ≤ reachBytes:=B.2 m (List.mem_of_getElem? hm)
  have eb : reachBytes = 140737488351232:=by decide
  have hnt:=tot_next hm
  have w2 : IntKind.wrap .i64 ((totN S i : Int) + (m.name.length : Int)) = (totN S (i + 1) : Int):=by rw [w64] <;> omega
  refine AW.rT (by rfl) fun K hK=>?_
  simp -implicitDefEqProofs only [go_sem,↓reduceIte,Nat.reduceAdd,Nat.reduceEqDiff,c1,c2,List.length_map]
  apply hK;clear hK K
  refine AW.cT rfl ?_
  refine AW.skip ?_
  simp only [andThen]
  refine AW.seq ?_
  refine AW.block ?_
  refine AW.rT (by rfl) fun K hK=>?_
  simp -implicitDefEqProofs only [go_sem,↓reduceIte,Nat.reduceAdd,Nat.reduceEqDiff,c1,List.length_map,hm1,hm3,encMs,w2]
  apply hK;clear hK K
  refine AW.seq ?_
  by_cases a1 : m.fields.length > 20
  ·have f1 : ((m.fields.length : Int) > 20) = True:=eq_true (by omega)
   have e:=few_msg hm hil.2 (by unfold msFew; rw [decide_eq_false (by omega)]; rfl)
   refine AW.rT (by rfl) fun K hK=>?_
   simp -implicitDefEqProofs only [go_sem,↓reduceIte,Nat.reduceAdd,Nat.reduceEqDiff,hm1,hm2',hm3,encMs,List.length_map,f1]
   apply hK;clear hK K
   refine AW.cT rfl ?_
   refine AW.rT (by rfl) fun K hK=>?_
   simp -implicitDefEqProofs only [go_sem,Nat.reduceAdd]
   apply hK;clear hK K
   refine AW.ret ?_
   simp -implicitDefEqProofs only [go_sem,e]
  have f1 : ((m.fields.length : Int) > 20) = False:=eq_false (by omega)
  by_cases a2 : m.res.length > 40
  ·have f2 : ((m.res.length : Int) > 40) = True:=eq_true (by omega)
   have e:=few_msg hm hil.2 (by unfold msFew; rw [decide_eq_false (by omega)]; rfl)
   refine AW.rT (by rfl) fun K hK=>?_
   simp -implicitDefEqProofs only [go_sem,↓reduceIte,Nat.reduceAdd,Nat.reduceEqDiff,hm1,hm2',hm3,encMs,List.length_map,f1,f2]
   apply hK;clear hK K
   refine AW.cT rfl ?_
   refine AW.rT (by rfl) fun K hK=>?_
   simp -implicitDefEqProofs only [go_sem,Nat.reduceAdd]
   apply hK;clear hK K
   refine AW.ret ?_
   simp -implicitDefEqProofs only [go_sem,e]
  have f2 : ((m.res.length : Int) > 40) = False:=eq_false (by omega)
  refine AW.rT (by rfl) fun K hK=>?_
  simp -implicitDefEqProofs only [go_sem,↓reduceIte,Nat.reduceAdd,Nat.reduceEqDiff,hm1,hm2',hm3,encMs,List.length_map,f1,f2]
  apply hK;clear hK K
  refine AW.cF rfl ?_
  refine AW.skip ?_
  simp only [andThen]
  refine AW.rT (by rfl) fun K hK=>?_
  simp -implicitDefEqProofs only [go_sem,Nat.reduceAdd]
  apply hK;clear hK K
  refine AW.block ?_
  refine AW.loop (fun j : Nat=>fw S [(3,.p (.int .i64 (totN S (i + 1) : Int))),(4,.p (.int .i64 (i : Int))),(5,.p (.int .i64 (j : Int)))]) (fun j=>j ≤ m.fields.length ∧ (m.fields.take j).all fdFew = true) (fun j=>m.fields.length - j) 0 ?_ ⟨by omega,by simp⟩ fun j hj=>?_
  ·simp only [fw,cellsSc]
   refine Ghost.sub ?_ ?_ <;> simp -implicitDefEqProofs only [go_sem,↓reduceIte,Nat.reduceEqDiff,List.forall_mem_cons,List.not_mem_nil,false_implies,implies_true,and_self,List.all_cons,List.all_nil,Nat.reduceLT,labsInL,AV.labsIn]
   all_goals first | rfl | decide | skip
  obtain ⟨j1,j2⟩:=hj
  try simp only [fw,cellsSc]
  refine AW.seq ?_
  by_cases hjl : j < m.fields.length
  case neg =>
   have c3 : ((j : Int) < (m.fields.length : Int)) = False:=eq_false (by omega)
   rw [List.take_of_length_le (by omega)] at j2
   have hmf : msFew m = true:=by unfold msFew; rw [decide_eq_true (by omega),j2]; rfl
   refine AW.rT (by rfl) fun K hK=>?_
   simp -implicitDefEqProofs only [go_sem,↓reduceIte,Nat.reduceAdd,Nat.reduceEqDiff,hm1,hm2',hm3,encMs,List.length_map,c3]
   apply hK;clear hK K
   refine AW.cF rfl ?_
   refine AW.exit ?_
   simp only [andThen,inBlk,↓reduceIte]
   refine AW.rE (by rfl) fun K hK=>?_
   simp -implicitDefEqProofs only [go_sem,↓reduceIte,Nat.reduceAdd,Nat.reduceEqDiff,w1]
   apply hK;clear hK K
   refine ⟨i + 1,⟨⟨by omega,by omega⟩,all_next hm i2 hmf⟩,by omega,?_⟩
   try simp only [fw,cellsSc]
   refine Ghost.sub ?_ ?_ <;> simp -implicitDefEqProofs only [go_sem,↓reduceIte,Nat.reduceEqDiff,List.forall_mem_cons,List.not_mem_nil,false_implies,implies_true,and_self,List.all_cons,List.all_nil,Nat.reduceLT,labsInL,AV.labsIn]
  obtain ⟨f,hf⟩ : ∃ f,m.fields[j]? = some f:=⟨_,List.getElem?_eq_getElem hjl⟩
  have ⟨hf1,hf2,hf3⟩:=at_map' encFd hf
  have hf2' : (j : Int) < (m.fields.length : Int):=by omega
  have c3 : ((j : Int) < (m.fields.length : Int)) = True:=eq_true (by omega)
  have w3 : IntKind.wrap .i64 ((j : Int) + 1) = ((j + 1 : Nat) : Int):=by rw [w64] <;> omega
  refine AW.rT (by rfl) fun K hK=>?_
  simp -implicitDefEqProofs only [go_sem,↓reduceIte,Nat.reduceAdd,Nat.reduceEqDiff,hm1,hm2',hm3,encMs,List.length_map,c3]
  apply hK;clear hK K
  refine AW.cT rfl ?_
  refine AW.skip ?_
  simp only [andThen]
  refine AW.seq ?_
  refine AW.block ?_
  refine AW.rT (by rfl) fun K hK=>?_
  simp -implicitDefEqProofs only [go_sem,↓reduceIte,Nat.reduceAdd,Nat.reduceEqDiff,Nat.reduceLeDiff,hm1,hm2',hm3,encMs,List.length_map,hf1,hf2',hf3,encFd]
  apply hK;clear hK K
  have bad : fdFew f = false → fewB S = false:=fun h=>few_msg hm hil.2 (by unfold msFew; rw [all_not hf h]; simp)
  by_cases b1 : f.name.length > 200
  ·have f1 : ((f.name.length : Int) > 200) = True:=eq_true (by omega)
   have e:=bad (decide_eq_false (by omega))
   refine AW.rT (by rfl) fun K hK=>?_
   simp -implicitDefEqProofs only [go_sem,↓reduceIte,Nat.reduceAdd,Nat.reduceEqDiff,f1]
   apply hK;clear hK K
   refine AW.cT rfl ?_
   refine AW.rT (by rfl) fun K hK=>?_
   simp -implicitDefEqProofs only [go_sem,Nat.reduceAdd]
   apply hK;clear hK K
   refine AW.ret ?_
   simp -implicitDefEqProofs only [go_sem,e]
  have f1 : ((f.name.length : Int) > 200) = False:=eq_false (by omega)
  by_cases b2 : f.ty.name.length > 200
  ·have f2 : ((f.ty.name.length : Int) > 200) = True:=eq_true (by omega)
   have e:=bad (decide_eq_false (by omega))
   refine AW.rT (by rfl) fun K hK=>?_
   simp -implicitDefEqProofs only [go_sem,↓reduceIte,Nat.reduceAdd,Nat.reduceEqDiff,f1,f2]
   apply hK;clear hK K
   refine AW.cT rfl ?_
   refine AW.rT (by rfl) fun K hK=>?_
   simp -implicitDefEqProofs only [go_sem,Nat.reduceAdd]
   apply hK;clear hK K
   refine AW.ret ?_
   simp -implicitDefEqProofs only [go_sem,e]
  have f2 : ((f.ty.name.length : Int) > 200) = False:=eq_false (by omega)
  refine AW.rT (by rfl) fun K hK=>?_
  simp -implicitDefEqProofs only [go_sem,↓reduceIte,Nat.reduceAdd,Nat.reduceEqDiff,f1,f2]
  apply hK;clear hK K
  refine AW.cF rfl ?_
  refine AW.skip ?_
  simp only [andThen,inBlk]
  refine AW.rE (by rfl) fun K hK=>?_
  simp -implicitDefEqProofs only [go_sem,↓reduceIte,Nat.reduceAdd,Nat.reduceEqDiff,w3]
  apply hK;clear hK K
  refine ⟨j + 1,⟨by omega,all_next hf j2 (decide_eq_true (by omega))⟩,by omega,?_⟩
  refine Ghost.sub ?_ ?_ <;> simp -implicitDefEqProofs only [go_sem,↓reduceIte,Nat.reduceEqDiff,reduceCtorEq,List.forall_mem_cons,List.not_mem_nil,false_implies,implies_true,and_self,List.all_cons,List.all_nil,Nat.reduceLT,labsInL,AV.labsIn]
 have ea:=take_end i1 i0 hil
 have et : totN S i = totN S 20:=by unfold totN; rw [ea]
 rw [ea] at i2
 by_cases hil' : i < S.msgs.length
 ·have c1 : ((i : Int) < (S.msgs.length : Int)) = True:=eq_true (by omega)
  have c2 : ((i : Int) < 20) = False:=eq_false (by omega)
  refine AW.rT (by rfl) fun K hK=>?_
  simp -implicitDefEqProofs only [go_sem,↓reduceIte,Nat.reduceAdd,Nat.reduceEqDiff,c1,c2,List.length_map]
  apply hK;clear hK K
  refine AW.cF rfl ?_
  refine AW.exit ?_
  simp only [andThen,inBlk,↓reduceIte]
  refine ⟨(),i2,?_⟩
  try simp only [fw,cellsSc]
  refine Ghost.sub ?_ ?_ <;> simp -implicitDefEqProofs only [go_sem,↓reduceIte,Nat.reduceEqDiff,et,List.forall_mem_cons,List.not_mem_nil,false_implies,implies_true,and_self,List.all_cons,List.all_nil,Nat.reduceLT,labsInL,AV.labsIn]
 ·have c1 : ((i : Int) < (S.msgs.length : Int)) = False:=eq_false (by omega)
  refine AW.rT (by rfl) fun K hK=>?_
  simp -implicitDefEqProofs only [go_sem,↓reduceIte,Nat.reduceAdd,Nat.reduceEqDiff,c1,List.length_map]
  apply hK;clear hK K
  refine AW.cF rfl ?_
  refine AW.exit ?_
  simp only [andThen,inBlk,↓reduceIte]
  refine ⟨(),i2,?_⟩
  try simp only [fw,cellsSc]
  refine Ghost.sub ?_ ?_ <;> simp -implicitDefEqProofs only [go_sem,↓reduceIte,Nat.reduceEqDiff,et,List.forall_mem_cons,List.not_mem_nil,false_implies,implies_true,and_self,List.all_cons,List.all_nil,Nat.reduceLT,labsInL,AV.labsIn]
end Go.Aw
namespace Go.Aw
theorem Ghost.nilH {nt : Fm} {s : St} {l i j sz sz' : Nat} {es : List (List AV)} {e : List AV} (hl : s.H l = some (.row sz es)) (hi : es[i]? = some e) (hj : e[j]? = some (.ex [])) :
  Ghost nt s ⟨s.T,upd (upd s.H l (some (.row sz (es.set i (e.set j (.own s.nx)))))) s.nx (some (.row sz' [])),s.nx + 1⟩:=by
 rintro w0 X I0 a w ⟨σ,I,hσ,m⟩
 have hb:=m.heap.rows l _ hl
 cases hb with
 | emp h=>simp at hi
 | row h hg hcur hc hs ho hr =>
  rename_i g c cur et
  obtain ⟨u,hu,hru⟩:=hr i e j _ hi hj
  have hnx:=hσ s.nx (Nat.le_refl _)
  have hln : l ≠ s.nx:=by rintro rfl; rw [hnx] at h; cases h
  cases hru with
  | ex he hrep =>
   rename_i ad n
   subst he
   have ext : ∀ l' s',σ l' = some s' → upd σ s.nx (some (.emp ad)) l' = some s':=fun l' s' h'=>by
    rw [upd_ne _ _ (by rintro rfl; rw [hnx] at h'; cases h')]
    exact h'
   have H2:=m.heap.empty hnx ad sz'
   refine ⟨upd σ s.nx (some (.emp ad)),I,fun l' h'=>?_,m.defers,m.size,m.pins,⟨fun l' b' h'=>?_,fun l1 l2 g s1 s2 h1 h2=>?_,fun l' g s' h1=>?_,H2.imm,H2.sub,H2.fr⟩,fun i' x hx=>?_⟩
   ·simp only at h'
    rw [upd_ne _ _ (by omega)]
    exact hσ l' (by omega)
   ·simp only at h'
    by_cases e1 : l' = s.nx
    ·subst e1
     rw [upd_same] at h'
     exact H2.rows s.nx b' (by rw [upd_same]; exact h')
    ·rw [upd_ne _ _ e1] at h'
     by_cases e2 : l' = l
     ·subst e2
      rw [upd_same] at h'
      injection h' with h'
      subst h'
      refine .row (by rw [List.length_set]; exact ext _ _ h) hg hcur (by rw [List.length_set]; exact hc) (fun e' he'=>?_) (fun e' he' x hx=>?_) fun i' e' j' x q1 q2=>?_
      ·rcases List.mem_or_eq_of_mem_set he' with he' | rfl
       ·exact hs e' he'
       ·rw [List.length_set]; exact hs e (List.mem_of_getElem? hi)
      ·rcases List.mem_or_eq_of_mem_set he' with he' | rfl
       ·exact ho e' he' x hx
       ·rcases List.mem_or_eq_of_mem_set hx with hx | rfl
        ·exact ho e (List.mem_of_getElem? hi) x hx
        ·rfl
      ·rw [List.getElem?_set] at q1
       split at q1
       ·rename_i e3
        subst e3
        split at q1
        ·injection q1 with q1
         subst q1
         rw [List.getElem?_set] at q2
         split at q2
         ·rename_i e4
          subst e4
          split at q2
          ·injection q2 with q2
           subst q2
           exact ⟨_,hu,.ownE (upd_same _ _ _)⟩
          ·cases q2
         ·obtain ⟨u',hu',hr'⟩:=hr i e j' x hi q2
          exact ⟨u',hu',hr'.mono ext (fun _ h=>h) (fun _ _=>rfl)⟩
        ·cases q1
       ·obtain ⟨u',hu',hr'⟩:=hr i' e' j' x q1 q2
        exact ⟨u',hu',hr'.mono ext (fun _ h=>h) (fun _ _=>rfl)⟩
     ·rw [upd_ne _ _ e2] at h'
      exact H2.rows l' b' (by rw [upd_ne _ _ e1]; exact h')
   ·refine H2.inj l1 l2 g s1 s2 ?_ ?_
    ·intro h0; apply h1
     show upd (upd s.H l _) s.nx _ l1 = none
     by_cases e1 : l1 = s.nx
     ·subst e1; rw [upd_same] at h0; cases h0
     ·rw [upd_ne _ _ e1] at h0 ⊢
      by_cases e2 : l1 = l
      ·subst e2; rw [hl] at h0; cases h0
      ·rw [upd_ne _ _ e2]; exact h0
    ·intro h0; apply h2
     show upd (upd s.H l _) s.nx _ l2 = none
     by_cases e1 : l2 = s.nx
     ·subst e1; rw [upd_same] at h0; cases h0
     ·rw [upd_ne _ _ e1] at h0 ⊢
      by_cases e2 : l2 = l
      ·subst e2; rw [hl] at h0; cases h0
      ·rw [upd_ne _ _ e2]; exact h0
   ·refine H2.mine l' g s' ?_
    intro h0; apply h1
    show upd (upd s.H l _) s.nx _ l' = none
    by_cases e1 : l' = s.nx
    ·subst e1; rw [upd_same] at h0; cases h0
    ·rw [upd_ne _ _ e1] at h0 ⊢
     by_cases e2 : l' = l
     ·subst e2; rw [hl] at h0; cases h0
     ·rw [upd_ne _ _ e2]; exact h0
   ·obtain ⟨v,hv,hrv⟩:=m.tmps i' x hx
    exact ⟨v,hv,hrv.mono ext (fun _ h=>h) (fun _ _=>rfl)⟩
theorem thaw_lift (lb : Nat) (qs ps : List (List PV)) : (liftE ps).map (fun e=>e.map (thaw1 lb qs)) = liftE ps:=by
 simp [liftE,thaw1]
end Go.Aw
namespace Go.Aw
open Go.Proofs Go.RowKit
structure FewM (m : Ms) : Prop where
 name : m.name.length < 3000
 fields : m.fields.length ≤ 20
 res : m.res.length ≤ 40
 fd : ∀ f ∈ m.fields,f.name.length ≤ 200 ∧ f.ty.name.length ≤ 200
structure FewE (e : En) : Prop where
 name : e.name.length ≤ 200
 vals : e.vals.length ≤ 24
 nm : ∀ v ∈ e.vals,v.name.length ≤ 200
structure FewS (S : Sc) : Prop where
 name : S.name.length < 3000
 msgs : S.msgs.length ≤ 14
 enums : S.enums.length ≤ 10
 meths : S.meths.length ≤ 10
 ms : ∀ m ∈ S.msgs,FewM m
 en : ∀ e ∈ S.enums,FewE e
 mt : ∀ t ∈ S.meths,t.name.length ≤ 200 ∧ t.inn.length ≤ 200 ∧ t.out.length ≤ 200
theorem le_sum {l : List Ms} {m : Ms} (h : m ∈ l) : m.name.length ≤ (l.map fun m=>m.name.length).sum:=by
 induction l with
 | nil=>cases h
 | cons a l ih =>
  rw [List.map_cons,List.sum_cons]
  rcases List.mem_cons.1 h with rfl | h
  ·omega
  ·have:=ih h; omega
theorem few_spec {S : Sc} (h : fewB S = true) : FewS S:=by
 unfold fewB at h
 simp only [Bool.and_eq_true,decide_eq_true_eq] at h
 obtain ⟨h1,h2,h3,h4,h5,h6,h7⟩:=h
 rw [List.take_of_length_le (by omega)] at h1 h2 h3
 unfold totN at h4
 rw [List.take_of_length_le (by omega)] at h4
 refine ⟨by omega,h5,h6,h7,fun m hm=>?_,fun e he=>?_,fun t ht=>?_⟩
 ·have q:=List.all_eq_true.1 h1 m hm
  unfold msFew at q
  simp only [Bool.and_eq_true,decide_eq_true_eq] at q
  have:=le_sum hm
  exact ⟨by omega,q.1.1,q.1.2,fun f hf=>by have:=List.all_eq_true.1 q.2 f hf; simpa [fdFew] using this⟩
 ·have q:=List.all_eq_true.1 h2 e he
  unfold enFew at q
  simp only [Bool.and_eq_true,decide_eq_true_eq] at q
  exact ⟨q.1.1,q.1.2,fun f hf=>by have:=List.all_eq_true.1 q.2 f hf; simpa [nmFew] using this⟩
 ·have q:=List.all_eq_true.1 h3 t ht
  simpa [mtFew] using q
theorem FewS.lens {S : Sc} (h : FewS S) : LensS S:=by
 refine ⟨by have:=h.name; omega,fun m hm=>⟨by have:=(h.ms m hm).name; omega,fun f hf=>by have:=((h.ms m hm).fd f hf).1; omega⟩,fun e he=>⟨by have:=(h.en e he).name; omega,fun v hv=>by have:=(h.en e he).nm v hv; omega⟩,fun t ht=>by have:=(h.mt t ht).1; omega,by have:=h.msgs; omega,by have:=h.enums; omega,by have:=h.meths; omega⟩
def sc1 (S : Sc) (i : Nat) : St:=⟨ofL [(1,.ptr 0 0 0),(2,.ptr 1 0 0),(3,.ptr 2 0 0),(4,.p (.int .i64 (i : Int)))],
 ofH [(0,.row 4 [cellsSc S]),(1,.row 4 [[.p (.str []),.ex [],.ex [],.ex []]]),(2,.row 4 [[.p (.str S.name),.own 3,.ex [],.p (.slice (S.meths.map encMt))]]),(3,.row 3 (liftE ((S.msgs.take i).map encMs)))],4⟩
def scA (S : Sc) : St:=⟨ofL [(1,.ptr 0 0 0),(2,.ptr 1 0 0),(3,.ptr 2 0 0),(4,.p (.int .i64 0))],
 ofH [(0,.row 4 [cellsSc S]),(1,.row 4 [[.p (.str []),.ex [],.ex [],.ex []]]),(2,.row 4 [[.p (.str S.name),.ex [],.ex [],.p (.slice (S.meths.map encMt))]])],3⟩
def scB (S : Sc) (m : Ms) (i : Nat) : St:=⟨ofL [(1,.ptr 0 0 0),(2,.ptr 1 0 0),(3,.ptr 2 0 0),(4,.p (.int .i64 (i : Int)))],
 ofH [(0,.row 4 [cellsSc S]),(1,.row 4 [[.p (.str []),.ex [],.ex [],.ex []]]),(2,.row 4 [[.p (.str S.name),.own 3,.ex [],.p (.slice (S.meths.map encMt))]]),(3,.row 3 (liftE ((S.msgs.take i).map encMs) ++ [[.p (.str m.name),.own 4,.p (.slice (m.res.map encI))]])),(4,.row 5 (liftE (m.fields.map encFd)))],5⟩
def scC (S : Sc) (m : Ms) (i : Nat) : St:=⟨ofL [(1,.ptr 0 0 0),(2,.ptr 1 0 0),(3,.ptr 2 0 0),(4,.p (.int .i64 (i : Int)))],
 ofH [(0,.row 4 [cellsSc S]),(1,.row 4 [[.p (.str []),.ex [],.ex [],.ex []]]),(2,.row 4 [[.p (.str S.name),.own 3,.ex [],.p (.slice (S.meths.map encMt))]]),(3,.row 3 (liftE ((S.msgs.take i).map encMs) ++ [[.p (.str m.name),.p (.slice (m.fields.map encFd)),.p (.slice (m.res.map encI))]]))],5⟩
def scD (S : Sc) : St:=⟨ofL [(1,.ptr 0 0 0),(2,.ptr 1 0 0),(3,.ptr 2 0 0)],
 ofH [(0,.row 4 [cellsSc S]),(1,.row 4 [[.p (.str []),.ex [],.ex [],.ex []]]),(2,.row 4 [[.p (.str S.name),.p (.slice (S.msgs.map encMs)),.ex [],.p (.slice (S.meths.map encMt))]])],3⟩
def scE (S : Sc) (i : Nat) : St:=⟨ofL [(1,.ptr 0 0 0),(2,.ptr 1 0 0),(3,.ptr 2 0 0),(6,.p (.int .i64 (i : Int)))],
 ofH [(0,.row 4 [cellsSc S]),(1,.row 4 [[.p (.str []),.ex [],.ex [],.ex []]]),(2,.row 4 [[.p (.str S.name),.p (.slice (S.msgs.map encMs)),.own 3,.p (.slice (S.meths.map encMt))]]),(3,.row 2 (liftE ((S.enums.take i).map encEn)))],4⟩
def scF (S : Sc) (m : En) (i : Nat) : St:=⟨ofL [(1,.ptr 0 0 0),(2,.ptr 1 0 0),(3,.ptr 2 0 0),(6,.p (.int .i64 (i : Int)))],
 ofH [(0,.row 4 [cellsSc S]),(1,.row 4 [[.p (.str []),.ex [],.ex [],.ex []]]),(2,.row 4 [[.p (.str S.name),.p (.slice (S.msgs.map encMs)),.own 3,.p (.slice (S.meths.map encMt))]]),(3,.row 2 (liftE ((S.enums.take i).map encEn) ++ [[.p (.str m.name),.own 4]])),(4,.row 2 (liftE (m.vals.map encNm)))],5⟩
def scG (S : Sc) (m : En) (i : Nat) : St:=⟨ofL [(1,.ptr 0 0 0),(2,.ptr 1 0 0),(3,.ptr 2 0 0),(6,.p (.int .i64 (i : Int)))],
 ofH [(0,.row 4 [cellsSc S]),(1,.row 4 [[.p (.str []),.ex [],.ex [],.ex []]]),(2,.row 4 [[.p (.str S.name),.p (.slice (S.msgs.map encMs)),.own 3,.p (.slice (S.meths.map encMt))]]),(3,.row 2 (liftE ((S.enums.take i).map encEn) ++ [[.p (.str m.name),.p (.slice (m.vals.map encNm))]]))],5⟩
def scH (S : Sc) : St:=⟨ofL [(1,.ptr 0 0 0),(2,.ptr 1 0 0),(3,.ptr 2 0 0)],
 ofH [(0,.row 4 [cellsSc S]),(1,.row 4 [[.p (.str []),.ex [],.ex [],.ex []]]),(2,.row 4 [[.p (.str S.name),.p (.slice (S.msgs.map encMs)),.p (.slice (S.enums.map encEn)),.p (.slice (S.meths.map encMt))]])],3⟩
def sc0 (S : Sc) : St:=⟨ofL [(1,.ptr 0 0 0),(2,.ptr 1 0 0),(3,.ptr 2 0 0),(4,.p (.int .i64 0))],
 ofH [(0,.row 4 [cellsSc S]),(1,.row 4 [[.p (.str []),.ex [],.ex [],.ex []]]),(2,.row 4 [[.p (.str S.name),.ex [],.ex [],.own 3]]),(3,.row 3 (liftE (S.meths.map encMt)))],4⟩
theorem law00_Schema (S : Sc) (F : FewS S) : PFn Tryz.prog 10 [.agg (encSc S)] (.agg (encSc S)):=by
 refine PFn.of Tryz.func10 rfl (by decide) Tryz.ntmps10 Tryz.results10 (Nat.le_of_ble_eq_true rfl) ?_
 simp only [argsT,encSc]
 have Fm:=F.msgs
 have Fe:=F.enums
 have Ft:=F.meths
 refine AW.rT (by rfl) fun K hK=>?_
 simp -implicitDefEqProofs only [go_sem,Nat.reduceAdd]
 apply hK;clear hK K
 refine AW.dT mixed (by rfl) (by decide +kernel) fun K hK=>?_
 simp -implicitDefEqProofs only [go_sem,↓reduceIte,Nat.reduceAdd,Nat.reduceEqDiff,Nat.reduceLeDiff,reduceCtorEq]
 refine ⟨⟨lift_len (f:=encMt) (fun _=>rfl) _,lift_one one_Mt _,by simp⟩,⟨.inl trivial,by simp,by rw [liftE_length,List.length_map]; omega⟩,?_⟩
 try simp -implicitDefEqProofs only [go_sem,↓reduceIte,Nat.reduceAdd,Nat.reduceMul,Nat.reduceEqDiff,Nat.reduceLeDiff,reduceCtorEq,Int.reduceToNat]
 refine ⟨by decide +kernel,?_⟩
 apply hK;clear hK K
 refine AW.seq ?_
 refine AW.rT (by rfl) fun K hK=>?_
 simp -implicitDefEqProofs only [go_sem,Nat.reduceAdd]
 apply hK;clear hK K
 refine AW.block ?_
 refine AW.loop (sc1 S) (fun i=>i ≤ S.msgs.length) (fun i=>S.msgs.length - i) 0 ?_ (by omega) fun i i1=>?_
 ·refine Ghost.trans (s':=sc0 S) ?_ ?_
  ·simp only [sc0,cellsSc]
   refine Ghost.ent (fun l=>if l = 0 then 0 else if l = 1 then 1 else if l = 2 then 8 else 6) ?_ ?_ ?_ <;> simp -implicitDefEqProofs only [go_sem,↓reduceIte,Nat.reduceEqDiff,reduceCtorEq,List.forall_mem_cons,List.not_mem_nil,false_implies,implies_true,and_self,map_renL_lift,labsIn_lift,List.all_cons,List.all_nil,Nat.reduceLT,labsInL,AV.labsIn]
   all_goals first | rfl | decide | skip
  refine Ghost.trans (s':=scA S) (Ghost.trans (Ghost.freeze (lb:=3) (ps:=S.meths.map encMt) rfl (unlift_liftE _)) ?_) (Ghost.trans (Ghost.nilH (l:=2) (i:=0) (j:=1) (sz':=3) rfl rfl rfl) ?_)
  ·simp only [sc0,scA,cellsSc]
   refine Ghost.sub ?_ ?_ <;> simp -implicitDefEqProofs only [go_sem,↓reduceIte,Nat.reduceEqDiff,reduceCtorEq,thaw,thaw1,Option.map_some,List.map_cons,List.map_nil,List.forall_mem_cons,List.not_mem_nil,false_implies,implies_true,and_self,List.all_cons,List.all_nil,Nat.reduceLT,labsInL,AV.labsIn]
   all_goals first | rfl | decide | skip
  ·simp only [scA,sc1,cellsSc]
   refine Ghost.sub ?_ ?_ <;> simp -implicitDefEqProofs only [go_sem,↓reduceIte,Nat.reduceEqDiff,reduceCtorEq,List.take_zero,List.map_nil,liftE_nil,List.forall_mem_cons,List.not_mem_nil,false_implies,implies_true,and_self,List.all_cons,List.all_nil,Nat.reduceLT,labsInL,AV.labsIn]
   all_goals first | rfl | decide | skip
 simp only [sc1,cellsSc]
 refine AW.seq ?_
 by_cases hil : i < S.msgs.length
 ·obtain ⟨m,hm⟩ : ∃ m,S.msgs[i]? = some m:=⟨_,List.getElem?_eq_getElem hil⟩
  have ⟨hm1,hm2,hm3⟩:=at_map' encMs hm
  have hm2' : (i : Int) < (S.msgs.length : Int):=by omega
  have hc1 : ((i : Int) < (S.msgs.length : Int)) = True:=eq_true (by omega)
  have w1 : IntKind.wrap .i64 ((i : Int) + 1) = ((i + 1 : Nat) : Int):=by rw [w64] <;> omega
  have FM:=F.ms m (List.mem_of_getElem? hm)
  have f1:=FM.fields
  have f2:=FM.res
  have CI:=law00_Ints m.res (by omega)
  refine AW.rT (by rfl) fun K hK=>?_
  simp -implicitDefEqProofs only [go_sem,↓reduceIte,Nat.reduceAdd,Nat.reduceEqDiff,hc1,List.length_map]
  apply hK;clear hK K
  refine AW.cT rfl ?_
  refine AW.skip ?_
  simp only [andThen]
  refine AW.seq ?_
  refine AW.block ?_
  refine AW.rT (by rfl) fun K hK=>?_
  simp -implicitDefEqProofs only [go_sem,↓reduceIte,Nat.reduceAdd,Nat.reduceEqDiff,Nat.reduceLeDiff,hm1,hm2',hm3,encMs,List.length_map]
  apply hK;clear hK K
  refine AW.dE mixed (by rfl) (by decide +kernel) fun K hK=>?_
  simp -implicitDefEqProofs only [go_sem,↓reduceIte,Nat.reduceAdd,Nat.reduceEqDiff,Nat.reduceLeDiff,reduceCtorEq]
  refine ⟨⟨lift_len (f:=encFd) (fun _=>rfl) _,lift_one one_Fd _,by simp⟩,⟨.inl trivial,by simp,by rw [liftE_length,List.length_map]; omega⟩,?_⟩
  try simp -implicitDefEqProofs only [go_sem,↓reduceIte,Nat.reduceAdd,Nat.reduceMul,Nat.reduceEqDiff,Nat.reduceLeDiff,reduceCtorEq,Int.reduceToNat]
  refine ⟨.pure _,CI,?_⟩
  try simp -implicitDefEqProofs only [go_sem,↓reduceIte,Nat.reduceAdd,Nat.reduceMul,Nat.reduceEqDiff,Nat.reduceLeDiff,reduceCtorEq]
  refine ⟨⟨by simp,by simp [oneAll,AV.one,PV.one],by simp⟩,by simp [liftE_length]; omega,by decide +kernel,?_⟩
  apply hK;clear hK K
  simp only [andThen,inBlk]
  refine AW.ghost (s':=scB S m i) ?_ (AW.ghost (s':=scC S m i) (Ghost.trans (Ghost.freeze (lb:=4) (ps:=m.fields.map encFd) rfl (unlift_liftE _)) ?_) ?_)
  ·simp only [scB,cellsSc]
   refine Ghost.ent (fun l=>if l = 0 then 0 else if l = 1 then 1 else if l = 2 then 2 else if l = 3 then 28 else 22) ?_ ?_ ?_ <;> simp -implicitDefEqProofs only [go_sem,↓reduceIte,Nat.reduceEqDiff,reduceCtorEq,List.forall_mem_cons,List.not_mem_nil,false_implies,implies_true,and_self,map_renL_lift,labsIn_lift,List.all_append,List.all_cons,List.all_nil,List.map_append,Nat.reduceLT,labsInL,AV.labsIn]
   all_goals first | rfl | decide | skip
  ·simp only [scB,scC,cellsSc]
   refine Ghost.sub ?_ ?_ <;> simp -implicitDefEqProofs only [go_sem,↓reduceIte,Nat.reduceEqDiff,reduceCtorEq,thaw,thaw1,Option.map_some,List.map_cons,List.map_nil,List.map_append,thaw_lift,List.forall_mem_cons,List.not_mem_nil,false_implies,implies_true,and_self,labsIn_lift,List.all_append,List.all_cons,List.all_nil,Nat.reduceLT,labsInL,AV.labsIn]
   all_goals first | rfl | decide | skip
  simp only [scC,cellsSc]
  have e8 : liftE ((S.msgs.take i).map encMs) ++ [[AV.p (.str m.name),.p (.slice (m.fields.map encFd)),.p (.slice (m.res.map encI))]] = liftE ((S.msgs.take (i + 1)).map encMs):=by
   rw [List.take_add_one,hm]
   simp [liftE,encMs]
  rw [e8]
  refine AW.rE (by rfl) fun K hK=>?_
  simp -implicitDefEqProofs only [go_sem,↓reduceIte,Nat.reduceAdd,Nat.reduceEqDiff,w1]
  apply hK;clear hK K
  refine ⟨i + 1,by omega,by omega,?_⟩
  refine Ghost.sub ?_ ?_ <;> simp -implicitDefEqProofs only [go_sem,↓reduceIte,Nat.reduceEqDiff,reduceCtorEq,List.forall_mem_cons,List.not_mem_nil,false_implies,implies_true,and_self,labsIn_lift,List.all_cons,List.all_nil,Nat.reduceLT,labsInL,AV.labsIn]
 have hc1 : ((i : Int) < (S.msgs.length : Int)) = False:=eq_false (by omega)
 have ea : S.msgs.take i = S.msgs:=List.take_of_length_le (by omega)
 rw [ea]
 clear ea
 refine AW.rT (by rfl) fun K hK=>?_
 simp -implicitDefEqProofs only [go_sem,↓reduceIte,Nat.reduceAdd,Nat.reduceEqDiff,hc1,List.length_map]
 apply hK;clear hK K
 refine AW.cF rfl ?_
 refine AW.exit ?_
 simp only [andThen,inBlk,↓reduceIte]
 refine AW.ghost (s':=scD S) (Ghost.trans (Ghost.freeze (lb:=3) (ps:=S.msgs.map encMs) rfl (unlift_liftE _)) ?_) ?_
 ·simp only [scD,cellsSc]
  refine Ghost.sub ?_ ?_ <;> simp -implicitDefEqProofs only [go_sem,↓reduceIte,Nat.reduceEqDiff,reduceCtorEq,thaw,thaw1,Option.map_some,List.map_cons,List.map_nil,List.forall_mem_cons,List.not_mem_nil,false_implies,implies_true,and_self,List.all_cons,List.all_nil,Nat.reduceLT,labsInL,AV.labsIn]
  all_goals first | rfl | decide | skip
 clear hc1 hil i1
 refine AW.seq ?_
 simp only [scD,cellsSc]
 refine AW.rT (by rfl) fun K hK=>?_
 simp -implicitDefEqProofs only [go_sem,Nat.reduceAdd]
 apply hK;clear hK K
 refine AW.block ?_
 refine AW.loop (scE S) (fun i=>i ≤ S.enums.length) (fun i=>S.enums.length - i) 0 ?_ (by omega) fun j j1=>?_
 ·refine Ghost.trans (Ghost.nilH (l:=2) (i:=0) (j:=2) (sz':=2) rfl rfl rfl) ?_
  simp only [scE,cellsSc]
  refine Ghost.ent (fun l=>if l = 3 then 4 else l) ?_ ?_ ?_ <;> simp -implicitDefEqProofs only [go_sem,↓reduceIte,Nat.reduceEqDiff,reduceCtorEq,List.take_zero,List.map_nil,liftE_nil,List.forall_mem_cons,List.not_mem_nil,false_implies,implies_true,and_self,List.all_cons,List.all_nil,Nat.reduceLT,labsInL,AV.labsIn]
  all_goals first | rfl | decide | skip
 simp only [scE,cellsSc]
 refine AW.seq ?_
 by_cases hil : j < S.enums.length
 ·obtain ⟨m,hm⟩ : ∃ m,S.enums[j]? = some m:=⟨_,List.getElem?_eq_getElem hil⟩
  have ⟨hm1,hm2,hm3⟩:=at_map' encEn hm
  have hm2' : (j : Int) < (S.enums.length : Int):=by omega
  have hc1 : ((j : Int) < (S.enums.length : Int)) = True:=eq_true (by omega)
  have w1 : IntKind.wrap .i64 ((j : Int) + 1) = ((j + 1 : Nat) : Int):=by rw [w64] <;> omega
  have FE:=F.en m (List.mem_of_getElem? hm)
  have f1:=FE.vals
  refine AW.rT (by rfl) fun K hK=>?_
  simp -implicitDefEqProofs only [go_sem,↓reduceIte,Nat.reduceAdd,Nat.reduceEqDiff,hc1,List.length_map]
  apply hK;clear hK K
  refine AW.cT rfl ?_
  refine AW.skip ?_
  simp only [andThen]
  refine AW.seq ?_
  refine AW.block ?_
  refine AW.dE mixed (by rfl) (by decide +kernel) fun K hK=>?_
  simp -implicitDefEqProofs only [go_sem,↓reduceIte,Nat.reduceAdd,Nat.reduceMul,Nat.reduceEqDiff,Nat.reduceLeDiff,reduceCtorEq,hm1,hm2',hm3,encEn,List.length_map]
  refine ⟨⟨lift_len (f:=encNm) (fun _=>rfl) _,lift_one one_Nm _,by simp⟩,⟨.inl trivial,by simp,by rw [liftE_length,List.length_map]; omega⟩,?_⟩
  try simp -implicitDefEqProofs only [go_sem,↓reduceIte,Nat.reduceAdd,Nat.reduceMul,Nat.reduceEqDiff,Nat.reduceLeDiff,reduceCtorEq,Int.reduceToNat]
  refine ⟨⟨by simp,by simp [oneAll,AV.one,PV.one],by simp⟩,by simp [liftE_length]; omega,by decide +kernel,?_⟩
  apply hK;clear hK K
  simp only [andThen,inBlk]
  refine AW.ghost (s':=scF S m j) ?_ (AW.ghost (s':=scG S m j) (Ghost.trans (Ghost.freeze (lb:=4) (ps:=m.vals.map encNm) rfl (unlift_liftE _)) ?_) ?_)
  ·simp only [scF,cellsSc]
   refine Ghost.ent (fun l=>if l = 0 then 0 else if l = 1 then 1 else if l = 2 then 2 else if l = 3 then 26 else 23) ?_ ?_ ?_ <;> simp -implicitDefEqProofs only [go_sem,↓reduceIte,Nat.reduceEqDiff,reduceCtorEq,List.forall_mem_cons,List.not_mem_nil,false_implies,implies_true,and_self,map_renL_lift,labsIn_lift,List.all_append,List.all_cons,List.all_nil,List.map_append,Nat.reduceLT,labsInL,AV.labsIn]
   all_goals first | rfl | decide | skip
  ·simp only [scF,scG,cellsSc]
   refine Ghost.sub ?_ ?_ <;> simp -implicitDefEqProofs only [go_sem,↓reduceIte,Nat.reduceEqDiff,reduceCtorEq,thaw,thaw1,Option.map_some,List.map_cons,List.map_nil,List.map_append,thaw_lift,List.forall_mem_cons,List.not_mem_nil,false_implies,implies_true,and_self,labsIn_lift,List.all_append,List.all_cons,List.all_nil,Nat.reduceLT,labsInL,AV.labsIn]
   all_goals first | rfl | decide | skip
  simp only [scG,cellsSc]
  have e8 : liftE ((S.enums.take j).map encEn) ++ [[AV.p (.str m.name),.p (.slice (m.vals.map encNm))]] = liftE ((S.enums.take (j + 1)).map encEn):=by
   rw [List.take_add_one,hm]
   simp [liftE,encEn]
  rw [e8]
  refine AW.rE (by rfl) fun K hK=>?_
  simp -implicitDefEqProofs only [go_sem,↓reduceIte,Nat.reduceAdd,Nat.reduceEqDiff,w1]
  apply hK;clear hK K
  refine ⟨j + 1,by omega,by omega,?_⟩
  refine Ghost.sub ?_ ?_ <;> simp -implicitDefEqProofs only [go_sem,↓reduceIte,Nat.reduceEqDiff,reduceCtorEq,List.forall_mem_cons,List.not_mem_nil,false_implies,implies_true,and_self,labsIn_lift,List.all_cons,List.all_nil,Nat.reduceLT,labsInL,AV.labsIn]
 have hc1 : ((j : Int) < (S.enums.length : Int)) = False:=eq_false (by omega)
 have ea : S.enums.take j = S.enums:=List.take_of_length_le (by omega)
 rw [ea]
 clear ea
 refine AW.rT (by rfl) fun K hK=>?_
 simp -implicitDefEqProofs only [go_sem,↓reduceIte,Nat.reduceAdd,Nat.reduceEqDiff,hc1,List.length_map]
 apply hK;clear hK K
 refine AW.cF rfl ?_
 refine AW.exit ?_
 simp only [andThen,inBlk,↓reduceIte]
 refine AW.ghost (s':=scH S) (Ghost.trans (Ghost.freeze (lb:=3) (ps:=S.enums.map encEn) rfl (unlift_liftE _)) ?_) ?_
 ·simp only [scH,cellsSc]
  refine Ghost.sub ?_ ?_ <;> simp -implicitDefEqProofs only [go_sem,↓reduceIte,Nat.reduceEqDiff,reduceCtorEq,thaw,thaw1,Option.map_some,List.map_cons,List.map_nil,List.forall_mem_cons,List.not_mem_nil,false_implies,implies_true,and_self,List.all_cons,List.all_nil,Nat.reduceLT,labsInL,AV.labsIn]
  all_goals first | rfl | decide | skip
 simp only [scH,cellsSc]
 refine AW.rT (by rfl) fun K hK=>?_
 simp -implicitDefEqProofs only [go_sem,↓reduceIte,Nat.reduceAdd,Nat.reduceEqDiff,Nat.reduceLeDiff,reduceCtorEq]
 apply hK;clear hK K
 refine AW.ret ?_
 simp -implicitDefEqProofs only [go_sem,↓reduceIte,Nat.reduceAdd,Nat.reduceEqDiff,Nat.reduceLeDiff]
end Go.Aw
namespace Go.Aw
open Go.Proofs Go.RowKit
theorem msgsC_zero {S : Sc} {K : List (List UInt8) → Int} : ∀ {l : List Ms} {ns : List (List UInt8)},msgsC S K ns l = 0 → (∀ (i : Nat) m,l[i]? = some m → msgC S (ns ++ (l.take i).map Ms.name) m = 0) ∧ K (ns ++ l.map Ms.name) = 0
 | [],ns,h=>⟨fun i m hm=>by simp at hm,by simpa [msgsC] using h⟩
 | a :: l,ns,h=>by
  rw [msgsC] at h
  split at h
  ·rename_i h0
   obtain ⟨h1,h2⟩:=msgsC_zero h
   refine ⟨fun i m hm=>?_,by simpa [List.append_assoc] using h2⟩
   cases i with
   | zero=>simp at hm; subst hm; simpa using h0
   | succ i=>have:=h1 i m (by simpa using hm); simpa [List.append_assoc] using this
  ·rename_i h0; exact absurd h h0
theorem enumsC_zero : ∀ {l : List En} {ns : List (List UInt8)},enumsC ns l = 0 → ∀ (i : Nat) m,l[i]? = some m → enumC (ns ++ (l.take i).map En.name) m = 0
 | [],ns,h,i,m,hm=>by simp at hm
 | a :: l,ns,h,i,m,hm=>by
  rw [enumsC] at h
  split at h
  ·rename_i h0
   have h1:=enumsC_zero h
   cases i with
   | zero=>simp at hm; subst hm; simpa using h0
   | succ i=>have:=h1 i m (by simpa using hm); simpa [List.append_assoc] using this
  ·rename_i h0; exact absurd h h0
theorem methsC_zero {S : Sc} : ∀ {l : List Mt} {ns : List (List UInt8)},methsC S ns l = 0 → ∀ (i : Nat) m,l[i]? = some m → takesB (ns ++ (l.take i).map Mt.name) m.name = true ∧ hasM S m.inn = true ∧ hasM S m.out = true
 | [],ns,h,i,m,hm=>by simp at hm
 | a :: l,ns,h,i,m,hm=>by
  rw [methsC] at h
  split at h
  ·rename_i h0
   split at h
   ·rename_i h2
    have h1:=methsC_zero h
    cases i with
    | zero =>
     simp at hm; subst hm
     simp only [Bool.and_eq_true] at h2
     exact ⟨by simpa using h0,h2⟩
    | succ i=>have:=h1 i m (by simpa using hm); simpa [List.append_assoc] using this
   ·cases h
  ·cases h
theorem fldsC_zero {S : Sc} : ∀ {l : List Fd} {ns : List (List UInt8)} {us : List Int},fldsC S ns us l = 0 → ∀ (i : Nat) f,l[i]? = some f → takesB (ns ++ (l.take i).map Fd.name) f.name = true ∧ tagB f.tag = true ∧ (us ++ (l.take i).map Fd.tag).contains f.tag = false ∧ fieldB S f = true
 | [],ns,us,h,i,f,hf=>by simp at hf
 | a :: l,ns,us,h,i,f,hf=>by
  rw [fldsC] at h
  split at h
  ·rename_i h0
   split at h
   ·rename_i h2
    split at h
    ·rename_i h3
     have h1:=fldsC_zero h
     cases i with
     | zero =>
      simp at hf; subst hf
      simp only [Bool.and_eq_true,Bool.not_eq_true'] at h2
      exact ⟨by simpa using h0,h2.1,by simpa using h2.2,h3⟩
     | succ i=>have:=h1 i f (by simpa using hf); simpa [List.append_assoc] using this
    ·cases h
   ·cases h
  ·cases h
theorem contains_apart {α : Type} {f : α → List UInt8} {l : List α} {k : List UInt8} (h : (l.map f).contains k = false) : l.all (fun x=>!(f x == k)) = true:=by
 rw [List.all_eq_true]
 intro x hx
 rw [contains_any,List.any_map] at h
 have:=List.any_eq_false.1 h x hx
 simp at this ⊢
 intro e
 exact this e.symm
theorem contains_apartI {α : Type} {f : α → Int} {l : List α} {k : Int} (h : (l.map f).contains k = false) : l.all (fun x=>!(f x == k)) = true:=by
 rw [List.all_eq_true]
 intro x hx
 rw [contains_any,List.any_map] at h
 have:=List.any_eq_false.1 h x hx
 simp at this ⊢
 intro e
 exact this e.symm
theorem contains_app {α : Type} [BEq α] {a b : List α} {k : α} (h : (a ++ b).contains k = false) : a.contains k = false ∧ b.contains k = false:=by
 rw [contains_any,List.any_append,Bool.or_eq_false_iff] at h
 exact ⟨by rw [contains_any]; exact h.1,by rw [contains_any]; exact h.2⟩
structure RightS (S : Sc) : Prop where
 msg : ∀ (i : Nat) m,S.msgs[i]? = some m → firstP (fun x=>x.name == m.name) zMs S.msgs = (m,true) ∧ firstP (fun x=>x.name == m.name) zEn S.enums = (zEn,false) ∧ nameB m.name = true
 enum : ∀ (i : Nat) m,S.enums[i]? = some m → firstP (fun x=>x.name == m.name) zEn S.enums = (m,true)
 meth : ∀ (i : Nat) m,S.meths[i]? = some m → firstP (fun x=>x.name == m.name) zMt S.meths = (m,true) ∧ hasM S m.inn = true ∧ hasM S m.out = true
 fld : ∀ m ∈ S.msgs,∀ (i : Nat) f,m.fields[i]? = some f → firstP (fun x=>x.tag == f.tag) zFd m.fields = (f,true) ∧ m.res.contains f.tag = false ∧ fieldB S f = true ∧ tagB f.tag = true ∧ nameB f.name = true
 res : ∀ m ∈ S.msgs,∀ t ∈ m.res,firstP (fun x=>x.tag == t) zFd m.fields = (zFd,false)
 no : ∀ m ∈ S.msgs,m.fields.length ≤ 16 ∧ m.res.length ≤ 32
 len : S.msgs.length ≠ 0 ∧ S.msgs.length ≤ 10 ∧ S.enums.length ≤ 6 ∧ S.meths.length ≤ 6
theorem right_of {S : Sc} (h : checkC S = 0) : RightS S:=by
 unfold checkC at h
 split at h
 case isFalse=>cases h
 split at h
 ·cases h
 rename_i hl0
 split at h
 ·cases h
 rename_i hl1
 split at h
 case isFalse h0=>exact absurd h h0
 rename_i h0
 obtain ⟨h1,h2⟩:=msgsC_zero h0
 have h3:=enumsC_zero h2
 have h4:=methsC_zero h
 have mz : ∀ (i : Nat) m,S.msgs[i]? = some m → takesB ((S.msgs.take i).map Ms.name) m.name = true ∧ bodyC S m = 0:=fun i m hm=>by
  have:=h1 i m hm
  unfold msgC at this
  rw [List.nil_append] at this
  split at this
  ·rename_i q; exact ⟨q,this⟩
  ·cases this
 have ez : ∀ (i : Nat) m,S.enums[i]? = some m → takesB (S.msgs.map Ms.name ++ (S.enums.take i).map En.name) m.name = true:=fun i m hm=>by
  have:=h3 i m hm
  unfold enumC at this
  rw [List.nil_append] at this
  split at this
  ·rename_i q; exact q
  ·cases this
 have tk : ∀ {ns : List (List UInt8)} {k : List UInt8},takesB ns k = true → ns.contains k = false ∧ nameB k = true:=fun q=>by
  unfold takesB at q
  simp only [Bool.and_eq_true,Bool.not_eq_true'] at q
  exact ⟨q.2,q.1⟩
 have bz : ∀ m ∈ S.msgs,(m.fields.length ≤ 16 ∧ m.res.length ≤ 32) ∧ fldsC S [] m.res m.fields = 0:=fun m hm=>by
  obtain ⟨i,hi⟩:=List.getElem?_of_mem hm
  have q:=(mz i m hi).2
  unfold bodyC at q
  split at q
  ·cases q
  rename_i q1
  split at q
  ·cases q
  ·exact ⟨by omega,q⟩
 have fz : ∀ m ∈ S.msgs,∀ (i : Nat) f,m.fields[i]? = some f → takesB ((m.fields.take i).map Fd.name) f.name = true ∧ tagB f.tag = true ∧ (m.res ++ (m.fields.take i).map Fd.tag).contains f.tag = false ∧ fieldB S f = true:=fun m hm i f hf=>by
  have:=fldsC_zero (bz m hm).2 i f hf
  rwa [List.nil_append] at this
 refine ⟨fun i m hm=>?_,fun i m hm=>?_,fun i m hm=>?_,fun m hm i f hf=>?_,fun m hm t ht=>?_,fun m hm=>(bz m hm).1,⟨hl0,by omega⟩⟩
 ·refine ⟨first_at hm (contains_apart (tk (mz i m hm).1).1) (by simp),first_not ?_,(tk (mz i m hm).1).2⟩
  rw [List.all_eq_true]
  intro e he
  obtain ⟨j,hj⟩:=List.getElem?_of_mem he
  have q:=(contains_app (tk (ez j e hj)).1).1
  have q':=List.all_eq_true.1 (contains_apart q) m (List.mem_of_getElem? hm)
  simp at q' ⊢
  intro e'
  exact q' e'.symm
 ·exact first_at hm (contains_apart (contains_app (tk (ez i m hm)).1).2) (by simp)
 ·have q:=h4 i m hm
  rw [List.nil_append] at q
  exact ⟨first_at hm (contains_apart (tk q.1).1) (by simp),q.2⟩
 ·obtain ⟨q1,q2,q3,q4⟩:=fz m hm i f hf
  exact ⟨first_at hf (contains_apartI (contains_app q3).2) (by simp),(contains_app q3).1,q4,q2,(tk q1).2⟩
 ·refine first_not ?_
  rw [List.all_eq_true]
  intro f hf
  obtain ⟨j,hj⟩:=List.getElem?_of_mem hf
  have q:=(contains_app (fz m hm j f hj).2.2.1).1
  have : f.tag ≠ t:=by
   intro e
   rw [e] at q
   have : m.res.contains t = true:=by rw [List.contains_iff_mem]; exact ht
   rw [this] at q
   cases q
  simpa using this
end Go.Aw
namespace Go.Aw
open Go.Proofs Go.RowKit
theorem msgsC_back {S : Sc} {K : List (List UInt8) → Int} : ∀ {l : List Ms} {ns : List (List UInt8)},(∀ (i : Nat) m,l[i]? = some m → msgC S (ns ++ (l.take i).map Ms.name) m = 0) → K (ns ++ l.map Ms.name) = 0 → msgsC S K ns l = 0
 | [],ns,_,h=>by simpa [msgsC] using h
 | a :: l,ns,h1,h2=>by
  have h0:=h1 0 a rfl
  rw [msgsC,if_pos (by simpa using h0)]
  exact msgsC_back (fun i m hm=>by have:=h1 (i + 1) m (by simpa using hm); simpa [List.append_assoc] using this) (by simpa [List.append_assoc] using h2)
theorem enumsC_back : ∀ {l : List En} {ns : List (List UInt8)},(∀ (i : Nat) m,l[i]? = some m → enumC (ns ++ (l.take i).map En.name) m = 0) → enumsC ns l = 0
 | [],ns,_=>rfl
 | a :: l,ns,h1=>by
  have h0:=h1 0 a rfl
  rw [enumsC,if_pos (by simpa using h0)]
  exact enumsC_back (fun i m hm=>by have:=h1 (i + 1) m (by simpa using hm); simpa [List.append_assoc] using this)
theorem methsC_back {S : Sc} : ∀ {l : List Mt} {ns : List (List UInt8)},(∀ (i : Nat) m,l[i]? = some m → takesB (ns ++ (l.take i).map Mt.name) m.name = true ∧ hasM S m.inn = true ∧ hasM S m.out = true) → methsC S ns l = 0
 | [],ns,_=>rfl
 | a :: l,ns,h1=>by
  obtain ⟨q1,q2,q3⟩:=h1 0 a rfl
  rw [methsC,if_pos (by simpa using q1),if_pos (by rw [q2,q3]; rfl)]
  exact methsC_back (fun i m hm=>by have:=h1 (i + 1) m (by simpa using hm); simpa [List.append_assoc] using this)
theorem takes_iff {ns : List (List UInt8)} {k : List UInt8} : takesB ns k = true ↔ nameB k = true ∧ k ∉ ns:=by
 unfold takesB
 rw [Bool.and_eq_true,Bool.not_eq_true',← Bool.not_eq_true,List.contains_iff_mem]
theorem takes_all {α : Type} {f : α → List UInt8} : ∀ {l : List α} {ns : List (List UInt8)},ns.Nodup → ((∀ (i : Nat) a,l[i]? = some a → takesB (ns ++ (l.take i).map f) (f a) = true) ↔ (∀ a ∈ l,nameB (f a) = true) ∧ (ns ++ l.map f).Nodup)
 | [],ns,hn=>by simp [hn]
 | a :: l,ns,hn=>by
  constructor
  ·intro h
   have h0:=takes_iff.1 (h 0 a rfl)
   have hn' : (ns ++ [f a]).Nodup:=by
    rw [List.nodup_append]
    refine ⟨hn,by simp,fun x hx y hy=>?_⟩
    simp at hy
    subst hy
    rintro rfl
    exact h0.2 (by simpa using hx)
   have:=(takes_all (f:=f) (l:=l) hn').1 fun i b hb=>by
    have:=h (i + 1) b (by simpa using hb)
    simpa [List.append_assoc] using this
   refine ⟨fun b hb=>?_,by simpa [List.append_assoc] using this.2⟩
   rcases List.mem_cons.1 hb with rfl | hb
   ·exact h0.1
   ·exact this.1 b hb
  ·rintro ⟨h1,h2⟩ i b hb
   have h2' : ((ns ++ [f a]) ++ l.map f).Nodup:=by simpa [List.append_assoc] using h2
   cases i with
   | zero =>
    simp at hb
    subst hb
    refine takes_iff.2 ⟨h1 _ List.mem_cons_self,fun hm=>?_⟩
    have q:=(List.nodup_append.1 h2').1
    rw [List.nodup_append] at q
    exact q.2.2 (f a) (by simpa using hm) (f a) (by simp) rfl
   | succ i =>
    have hn':=(List.nodup_append.1 h2').1
    have:=(takes_all (f:=f) (l:=l) hn').2 ⟨fun c hc=>h1 c (List.mem_cons_of_mem _ hc),h2'⟩ i b (by simpa using hb)
    simpa [List.append_assoc] using this
def namesS (S : Sc) : List (List UInt8):=S.msgs.map Ms.name ++ S.enums.map En.name
structure FitS (S : Sc) : Prop where
 name : nameB S.name = true
 lens : S.msgs.length ≠ 0 ∧ S.msgs.length ≤ 10 ∧ S.enums.length ≤ 6 ∧ S.meths.length ≤ 6
 mn : ∀ m ∈ S.msgs,nameB m.name = true
 en : ∀ m ∈ S.enums,nameB m.name = true
 nd : (namesS S).Nodup
 body : ∀ m ∈ S.msgs,bodyC S m = 0
 ebody : ∀ m ∈ S.enums,enumBody m = 0
 tn : ∀ t ∈ S.meths,nameB t.name = true
 tnd : (S.meths.map Mt.name).Nodup
 tio : ∀ t ∈ S.meths,hasM S t.inn = true ∧ hasM S t.out = true
theorem msgC_zero {S : Sc} {ns : List (List UInt8)} {m : Ms} : msgC S ns m = 0 ↔ takesB ns m.name = true ∧ bodyC S m = 0:=by
 unfold msgC
 split
 ·rename_i h; simp [h]
 ·rename_i h; simp [h]
theorem enumC_zero {ns : List (List UInt8)} {m : En} : enumC ns m = 0 ↔ takesB ns m.name = true ∧ enumBody m = 0:=by
 unfold enumC
 split
 ·rename_i h; simp [h]
 ·rename_i h; simp [h]
theorem check_fit {S : Sc} : checkC S = 0 ↔ FitS S:=by
 constructor
 ·intro h
  have R:=right_of h
  unfold checkC at h
  split at h
  case isFalse=>cases h
  rename_i hn
  split at h
  ·cases h
  split at h
  ·cases h
  split at h
  case isFalse h0=>exact absurd h h0
  rename_i h0
  obtain ⟨h1,h2⟩:=msgsC_zero h0
  have h3:=enumsC_zero h2
  have h4:=methsC_zero h
  rw [List.nil_append] at h3
  have a1:=(takes_all (f:=Ms.name) (l:=S.msgs) (ns:=[]) List.nodup_nil).1 fun i m hm=>(msgC_zero.1 (h1 i m hm)).1
  rw [List.nil_append] at a1
  have a2:=(takes_all (f:=En.name) (l:=S.enums) a1.2).1 fun i m hm=>(enumC_zero.1 (h3 i m hm)).1
  have a3:=(takes_all (f:=Mt.name) (l:=S.meths) (ns:=[]) List.nodup_nil).1 fun i m hm=>(h4 i m hm).1
  refine ⟨hn,R.len,a1.1,a2.1,a2.2,fun m hm=>?_,fun m hm=>?_,a3.1,by simpa using a3.2,fun t ht=>?_⟩
  ·obtain ⟨i,hi⟩:=List.getElem?_of_mem hm
   exact (msgC_zero.1 (h1 i m hi)).2
  ·obtain ⟨i,hi⟩:=List.getElem?_of_mem hm
   exact (enumC_zero.1 (h3 i m hi)).2
  ·obtain ⟨i,hi⟩:=List.getElem?_of_mem ht
   exact (h4 i t hi).2
 ·intro F
  have nd:=F.nd
  unfold namesS at nd
  have nd1:=(List.nodup_append.1 nd).1
  have a1:=(takes_all (f:=Ms.name) (l:=S.msgs) (ns:=[]) List.nodup_nil).2 ⟨F.mn,by simpa using nd1⟩
  have a2:=(takes_all (f:=En.name) (l:=S.enums) nd1).2 ⟨F.en,nd⟩
  have a3:=(takes_all (f:=Mt.name) (l:=S.meths) (ns:=[]) List.nodup_nil).2 ⟨F.tn,by simpa using F.tnd⟩
  have hp : partsC S = 0:=by
   refine msgsC_back (fun i m hm=>msgC_zero.2 ⟨a1 i m hm,F.body m (List.mem_of_getElem? hm)⟩) ?_
   rw [List.nil_append]
   exact enumsC_back fun i m hm=>enumC_zero.2 ⟨a2 i m hm,F.ebody m (List.mem_of_getElem? hm)⟩
  have hm : methsC S [] S.meths = 0:=methsC_back fun i m hm=>⟨a3 i m hm,F.tio m (List.mem_of_getElem? hm)⟩
  have l:=F.lens
  unfold checkC
  rw [if_pos F.name,if_neg l.1,if_neg (by omega),if_pos hp,hm]
theorem found_any {α : Type} {p : α → Bool} {z : α} {l : List α} : (firstP p z l).2 = l.any p:=by
 unfold firstP
 cases h : l.find? p with
 | none =>
  symm
  rw [List.find?_eq_none] at h
  rw [List.any_eq_false]
  exact h
 | some a =>
  symm
  rw [List.any_eq_true]
  exact ⟨a,List.mem_of_find?_eq_some h,List.find?_some h⟩
end Go.Aw
namespace Go.Aw
open Go.Proofs Go.RowKit
end Go.Aw
namespace Go.Aw
open Go.Proofs Go.RowKit
structure Pr where
 o : List UInt8
 n : List UInt8
 deriving DecidableEq
def encPr (p : Pr) : List PV:=[.str p.o,.str p.n]
end Go.Aw
namespace Go.Aw
open Go.RowKit
variable {P : Program}
theorem seq_part {w0 : World} {X I0 : Nat → Prop} {nt : Fm} {ops : Array Oper} {Q : Exit → Act → World → Prop} {K : (Nat → Option AV) → (Nat → Option Blk) → Nat → Prop} (hd : ops.toList.all (dstOK nt) = true) (tx : TabX w0 X I0) {r' : List Oper} :
  ∀ (r : List Oper) (i nx : Nat) (T : Nat → Option AV) (H : Nat → Option Blk) (σ : Lab) (I : Nat → Prop) (a : Act) (w : World),ops.toList.drop i = r ++ r' → Match nt w0 X I0 σ I T H a w → (∀ l,nx ≤ l → σ l = none) → seqW P ops.toList nx r T H K →
   (∀ T H n σ I a w,Match nt w0 X I0 σ I T H a w → (∀ l,n ≤ l → σ l = none) → K T H n → wpOps P ops Q (List.range' (i + r.length) r'.length) a w) → wpOps P ops Q (List.range' i (r ++ r').length) a w:=by
 intro r
 induction r with
 | nil=>intro i nx T H σ I a w _ m hn hk hK; exact hK T H nx σ I a w m hn hk
 | cons o r ih =>
  intro i nx T H σ I a w hr m hn hk hK
  have hi : ops[i]? = some o:=by
   rw [← Array.getElem?_toList,show i = i + 0 from rfl,← List.getElem?_drop,hr]; rfl
  have hdr : ops.toList.drop (i + 1) = r ++ r':=by rw [← List.drop_drop,hr]; rfl
  have hdo : dstOK nt o = true:=List.all_eq_true.1 hd o (List.mem_of_getElem? (by rw [Array.getElem?_toList]; exact hi))
  have hK' : ∀ T H n σ I a w,Match nt w0 X I0 σ I T H a w → (∀ l,n ≤ l → σ l = none) → K T H n → wpOps P ops Q (List.range' (i + 1 + r.length) r'.length) a w:=by
   intro T H n σ I a w h1 h2 h3
   have:=hK T H n σ I a w h1 h2 h3
   rwa [List.length_cons,show i + (r.length + 1) = i + 1 + r.length by omega] at this
  rw [List.cons_append,List.length_cons,List.range'_succ]
  simp only [wpOps,hi]
  simp only [seqW] at hk
  have run : (opW P nx o.op T H fun e=>seqW P ops.toList (nx + 1) r (putT T o.dst e.val) (putH H e.upd) K) → o.wp P a w (wpOps P ops Q (List.range' (i + 1) (r ++ r').length)) Q:=by
   intro hop
   refine snd_op (w0:=w0) (X:=X) (I0:=I0) ⟨m.heap,m.tmps,hn nx (Nat.le_refl _),tx⟩ hop _ _ fun e v w' σ' I' hk' out=>?_
   refine ih (i + 1) (nx + 1) _ _ σ' I' _ w' hdr (m.put hdo out.heap out.ext out.imm out.same out.val) (fun l hl=>?_) hk' hK'
   rw [out.lab l (by omega)]
   exact hn l (by omega)
  have skip : seqW P ops.toList (nx + 1) r (putT T o.dst (some (.p (.cst undef)))) H K → wpOps P ops Q (List.range' (i + 1) (r ++ r').length) (a.put o.dst undef) w:=by
   intro hk'
   exact ih (i + 1) (nx + 1) _ _ σ I _ w hdr (m.put hdo m.heap (fun _ _ h=>h) (fun _ h=>h) (fun _ _=>rfl) (fun y hy=>by injection hy with hy; subst hy; exact .p (.cst undef))) (fun l hl=>hn l (by omega)) hk' hK'
  unfold guardS at hk
  cases hg : o.guard with
  | none =>
   rw [hg] at hk
   have : Region.wanted o (yielded ops a.tmps) = true:=by simp [Region.wanted,hg]
   rw [if_pos this]
   exact .inl (run hk)
  | some jw =>
   obtain ⟨j,want⟩:=jw
   rw [hg] at hk
   simp only at hk
   split at hk
   ·rename_i b hb
    obtain ⟨d,hd1,hd2⟩:=Option.bind_eq_some_iff.1 hb
    rw [Array.getElem?_toList] at hd1
    obtain ⟨u,hu,hru⟩:=m.tmps d _ hd2
    have hy : yielded ops a.tmps j = some b:=by
     cases hru with
     | p h=>cases h; simp [yielded,hd1,hu]
    have hw : Region.wanted o (yielded ops a.tmps) = (b == want):=by
     simp only [Region.wanted,hg,hy]
     cases b <;> cases want <;> rfl
    split at hk
    ·rename_i hbw
     rw [hw,if_pos (by simp [hbw])]
     exact .inl (run hk)
    ·rename_i hbw
     rw [hw,if_neg (by simp [hbw])]
     exact skip hk
   ·rename_i x hb
    obtain ⟨d,hd1,hd2⟩:=Option.bind_eq_some_iff.1 hb
    rw [Array.getElem?_toList] at hd1
    obtain ⟨u,hu,hru⟩:=m.tmps d _ hd2
    have hy : yielded ops a.tmps j = none:=by
     cases hru with
     | p h =>
      cases h
      simp only [yielded,hd1,Option.bind_some,hu]
      have:=hk.1
      cases x <;> first | rfl | exact this.elim
    have hw : Region.wanted o (yielded ops a.tmps) = false:=by
     simp only [Region.wanted,hg,hy]
     cases want <;> rfl
    rw [hw,if_neg (by simp)]
    exact skip hk.2
   ·exact hk.elim
theorem AW.rS {nt : Fm} {id : Nat} {ops : Array Oper} {y : Code} {s : St} {Q : Exit → St → Prop} (k : Nat) (hd : ops.toList.all (dstOK nt) = true)
  (h : seqO P ops.toList s.nx (ops.toList.take k) s.T s.H fun T H n=>∃ s',Ghost nt ⟨T,H,n⟩ s' ∧ ∀ K : St → Prop,(∀ s'',AW P nt y s'' Q → K s'') → seqO P ops.toList s'.nx (ops.toList.drop k) s'.T s'.H fun T H n=>K ⟨T,H,n⟩) : AW P nt (.seq (.region id ops false) y) s Q:=by
 refine AW.seq ?_
 intro w0 X I0 a w tx ⟨σ,I,hn,m⟩
 refine wp_region ?_
 rw [seqO_eq] at h
 have main:=seq_part (P:=P) (w0:=w0) (X:=X) (I0:=I0) (r':=ops.toList.drop k) (Q:=fun e a' w'=>∃ s',Matches nt w0 X I0 s' a' w' ∧ andThen (fun s'=>AW P nt y s' Q) Q e s') hd tx (ops.toList.take k) 0 s.nx s.T s.H σ I a w (by rw [List.drop_zero,List.take_append_drop]) m hn h
  (fun T H n σ I a w m hn hq=>by
   obtain ⟨s',hg,hs⟩:=hq
   obtain ⟨σ',I',hn',m'⟩:=hg w0 X I0 a w ⟨σ,I,hn,m⟩
   have hs:=hs (fun s''=>AW P nt y s'' Q) fun _ h=>h
   rw [seqO_eq] at hs
   rcases Nat.lt_or_ge ops.toList.length k with hk | hk
   ·rw [List.drop_of_length_le (by omega)] at hs ⊢
    exact ⟨s',⟨σ',I',hn',m'⟩,hs⟩
   ·refine seq_sound hd tx (fun T H n σ I a w m hn hq=>⟨⟨T,H,n⟩,⟨σ,I,hn,m⟩,hq⟩) (ops.toList.drop k) (0 + (ops.toList.take k).length) s'.nx s'.T s'.H σ' I' a w ?_ m' hn' hs
    rw [List.length_take,Nat.min_eq_left hk,Nat.zero_add])
 rw [List.take_append_drop] at main
 rw [List.range_eq_range']
 simpa using main
end Go.Aw
