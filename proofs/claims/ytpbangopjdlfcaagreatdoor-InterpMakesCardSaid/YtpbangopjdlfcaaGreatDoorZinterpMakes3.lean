/- What the law LawInterpMakes leans on, joined (part 3). -/
import Derived.Test.YtpbangopjdlfcaaGreatDoorZinterpMakes2
set_option linter.unusedSimpArgs false
set_option linter.unusedVariables false
set_option maxRecDepth 100000
set_option maxHeartbeats 8000000
namespace Go.Aw.T
open Go.Proofs
inductive Tr where
 | mk (kind n : Int) (s : List UInt8) (ents : List (Int × List Tr)) (rest : List Raw)
def Tr.kind : Tr → Int | .mk k _ _ _ _=>k
def Tr.n : Tr → Int | .mk _ n _ _ _=>n
def Tr.s : Tr → List UInt8 | .mk _ _ s _ _=>s
def Tr.ents : Tr → List (Int × List Tr) | .mk _ _ _ e _=>e
def Tr.rest : Tr → List Raw | .mk _ _ _ _ r=>r
mutual
def encTr : Tr → List PV
 | .mk k n s es rest=>[.int .i64 k,.int .i64 n,.str s,.slice (encEs es),.slice (rest.map encRaw)]
def encEs : List (Int × List Tr) → List (List PV)
 | []=>[]
 | (t,l) :: r=>[.int .i64 t,.slice (encTs l)] :: encEs r
def encTs : List Tr → List (List PV)
 | []=>[]
 | x :: l=>encTr x :: encTs l
end
def encEn (e : Int × List Tr) : List PV:=[.int .i64 e.1,.slice (e.2.map encTr)]
theorem encTs_map : ∀ l : List Tr,encTs l = l.map encTr
 | []=>by simp [encTs]
 | x :: l=>by rw [encTs,encTs_map l]; rfl
theorem encEs_map : ∀ l : List (Int × List Tr),encEs l = l.map encEn
 | []=>by simp [encEs]
 | (t,l) :: r=>by rw [encEs,encEs_map r,encTs_map]; rfl
theorem encTr_eq (t : Tr) : encTr t = [.int .i64 t.kind,.int .i64 t.n,.str t.s,.slice (t.ents.map encEn),.slice (t.rest.map encRaw)]:=by
 cases t
 rw [encTr,encEs_map]; rfl
mutual
def smallT : Tr → Nat → Nat → Bool × Nat
 | .mk _ _ s es rest,deep,n=>if n + 1 > 200 ∨ deep > 13 ∨ s.length > 5000 ∨ rest.length > 40 ∨ es.length > 40 then (false,n + 1)
  else if rest.all (fun r=>decide (r.b.length ≤ 5000)) = false then (false,n + 1) else smallE es deep (n + 1)
def smallE : List (Int × List Tr) → Nat → Nat → Bool × Nat
 | [],_,n=>(true,n)
 | (_,l) :: r,deep,n=>if l.length > 70 then (false,n) else if (smallTs l deep n).1 = false then smallTs l deep n else smallE r deep (smallTs l deep n).2
def smallTs : List Tr → Nat → Nat → Bool × Nat
 | [],_,n=>(true,n)
 | x :: l,deep,n=>if (smallT x (deep + 1) n).1 = false then smallT x (deep + 1) n else smallTs l deep (smallT x (deep + 1) n).2
end
mutual
theorem smallT_n : ∀ (t : Tr) (deep n : Nat),(smallT t deep n).1 = true → (smallT t deep n).2 ≤ 200
 | .mk k m s es rest,deep,n=>by
  rw [smallT]
  split
  ·simp
  ·split
   ·simp
   ·rename_i h1 h2
    exact smallE_n es deep (n + 1) (by omega)
theorem smallE_n : ∀ (es : List (Int × List Tr)) (deep n : Nat),n ≤ 200 → (smallE es deep n).1 = true → (smallE es deep n).2 ≤ 200
 | [],deep,n=>by intro h _; rw [smallE]; exact h
 | (_,l) :: r,deep,n=>by
  intro h
  rw [smallE]
  split
  ·simp
  ·split
   ·rename_i h2; intro h3; rw [h2] at h3; cases h3
   ·rename_i h2
    exact smallE_n r deep _ (smallTs_n l deep n h (by simpa using h2))
theorem smallTs_n : ∀ (l : List Tr) (deep n : Nat),n ≤ 200 → (smallTs l deep n).1 = true → (smallTs l deep n).2 ≤ 200
 | [],deep,n=>by intro h _; rw [smallTs]; exact h
 | x :: l,deep,n=>by
  intro h
  rw [smallTs]
  split
  ·rename_i h2; intro h3; rw [h2] at h3; cases h3
  ·rename_i h2
   exact smallTs_n l deep _ (smallT_n x (deep + 1) n (by simpa using h2))
end
theorem size_ent {t : Tr} {i : Nat} {e : Int × List Tr} (h : t.ents[i]? = some e) {k : Nat} {x : Tr} (h' : e.2[k]? = some x) : SizeOf.sizeOf x < SizeOf.sizeOf t:=by
 cases t with
 | mk a b c es d =>
  have h1 : SizeOf.sizeOf e < SizeOf.sizeOf es:=List.sizeOf_lt_of_mem (List.mem_of_getElem? (h : es[i]? = some e))
  have h2:=List.sizeOf_lt_of_mem (List.mem_of_getElem? h')
  obtain ⟨t0,l0⟩:=e
  simp only [Tr.mk.sizeOf_spec,Prod.mk.sizeOf_spec] at *
  omega
theorem smallT_mk (t : Tr) (deep n : Nat) : smallT t deep n = if n + 1 > 200 ∨ deep > 13 ∨ t.s.length > 5000 ∨ t.rest.length > 40 ∨ t.ents.length > 40 then (false,n + 1)
  else if t.rest.all (fun r=>decide (r.b.length ≤ 5000)) = false then (false,n + 1) else smallE t.ents deep (n + 1):=by
 cases t; rw [smallT]; rfl
theorem smallE_at {es : List (Int × List Tr)} {i : Nat} {e : Int × List Tr} (h : es[i]? = some e) (deep n : Nat) :
  smallE (es.drop i) deep n = if e.2.length > 70 then (false,n) else if (smallTs e.2 deep n).1 = false then smallTs e.2 deep n else smallE (es.drop (i + 1)) deep (smallTs e.2 deep n).2:=by
 rw [List.drop_eq_getElem_cons (List.getElem?_eq_some_iff.1 h).1,(List.getElem?_eq_some_iff.1 h).2]
 obtain ⟨a,l⟩:=e
 rw [smallE]
theorem smallTs_at {l : List Tr} {k : Nat} {x : Tr} (h : l[k]? = some x) (deep n : Nat) :
  smallTs (l.drop k) deep n = if (smallT x (deep + 1) n).1 = false then smallT x (deep + 1) n else smallTs (l.drop (k + 1)) deep (smallT x (deep + 1) n).2:=by
 rw [List.drop_eq_getElem_cons (List.getElem?_eq_some_iff.1 h).1,(List.getElem?_eq_some_iff.1 h).2,smallTs]
def cellsT (t : Tr) : List AV:=[.p (.int .i64 t.kind),.p (.int .i64 t.n),.p (.str t.s),.p (.slice (t.ents.map encEn)),.p (.slice (t.rest.map encRaw))]
def sm (t : Tr) (deep n : Nat) (m : List (Nat × AV)) : St :=
 ⟨ofL ([(1,.p (.int .i64 (deep : Int))),(2,.ptr 2 0 0),(3,.ptr 3 0 0)] ++ m),ofH [(3,.row 5 [cellsT t]),(2,.row 1 (liftE [[.int .i64 (n : Int)]]))],4⟩
theorem law00_small : ∀ (t : Tr) (deep n : Nat),n ≤ 200 → deep ≤ 1000 →
  LFn Tryz.prog 16 [.v (.agg (encTr t)),.v (.int .i64 (deep : Int)),.ptr 0 0 1 [[.int .i64 (n : Int)]]] [none,none,some (.row 1 [[.int .i64 ((smallT t deep n).2 : Int)]])] (.bool (smallT t deep n).1):=by
 intro t
 induction h : SizeOf.sizeOf t using Nat.strongRecOn generalizing t with
 | _ sz ih =>
 subst h
 intro deep n hn hd
 refine LFn.of Tryz.func16 rfl (by decide) Tryz.ntmps16 Tryz.results16 (Nat.le_of_ble_eq_true rfl) rfl fun val=>?_
 have W1 : IntKind.wrap .i64 ((n : Int) + 1) = ((n + 1 : Nat) : Int):=by rw [w64] <;> omega
 simp only [laT,laH,laPins,LA.av,List.length_cons,List.length_nil]
 refine AW.rT (by rfl) fun K hK=>?_
 simp -implicitDefEqProofs only [go_sem,Nat.reduceAdd,encTr_eq,liftE_cons,liftE_nil,List.map_cons,List.map_nil]
 apply hK;clear hK K
 refine AW.rT (by rfl) fun K hK=>?_
 simp -implicitDefEqProofs only [go_sem,↓reduceIte,Nat.reduceAdd,Nat.reduceEqDiff,Nat.reduceLeDiff,reduceCtorEq,W1]
 apply hK;clear hK K
 have sT:=smallT_mk t deep n
 refine AW.seq ?_
 by_cases c1 : n + 1 > 200
 ·have b1 : (((n + 1 : Nat) : Int) > 200) = True:=by simp; omega
  have HH:=sT.trans (if_pos (.inl c1))
  refine AW.rT (by rfl) fun K hK=>?_
  simp -implicitDefEqProofs only [go_sem,↓reduceIte,Nat.reduceAdd,Nat.reduceEqDiff,reduceCtorEq,b1]
  apply hK;clear hK K
  refine AW.cond _ (by simp -implicitDefEqProofs only [go_sem]; rfl) (fun hc=>?_) (fun hc=>?_)
  ·refine AW.rT (by rfl) fun K hK=>?_
   simp -implicitDefEqProofs only [go_sem,Nat.reduceAdd]
   apply hK;clear hK K
   refine AW.ret (show _ ∧ ((∃ l,_ ∧ _) ∧ (_ ∧ _ ∧ _) ∧ True) from ⟨?_,⟨2,?_,?_⟩,⟨rfl,by decide,rfl⟩,trivial⟩) <;> simp -implicitDefEqProofs only [go_sem,↓reduceIte,Nat.reduceAdd,Nat.reduceEqDiff,reduceCtorEq,liftE_cons,liftE_nil,List.map_cons,List.map_nil,HH]
  ·simp at hc
 have b1 : (((n + 1 : Nat) : Int) > 200) = False:=by simp; omega
 by_cases c2 : deep > 13
 ·have b2 : ((deep : Int) > 13) = True:=by simp; omega
  have HH:=sT.trans (if_pos (.inr (.inl c2)))
  refine AW.rT (by rfl) fun K hK=>?_
  simp -implicitDefEqProofs only [go_sem,↓reduceIte,Nat.reduceAdd,Nat.reduceEqDiff,reduceCtorEq,b1,b2]
  apply hK;clear hK K
  refine AW.cond _ (by simp -implicitDefEqProofs only [go_sem]; rfl) (fun hc=>?_) (fun hc=>?_)
  ·refine AW.rT (by rfl) fun K hK=>?_
   simp -implicitDefEqProofs only [go_sem,Nat.reduceAdd]
   apply hK;clear hK K
   refine AW.ret (show _ ∧ ((∃ l,_ ∧ _) ∧ (_ ∧ _ ∧ _) ∧ True) from ⟨?_,⟨2,?_,?_⟩,⟨rfl,by decide,rfl⟩,trivial⟩) <;> simp -implicitDefEqProofs only [go_sem,↓reduceIte,Nat.reduceAdd,Nat.reduceEqDiff,reduceCtorEq,liftE_cons,liftE_nil,List.map_cons,List.map_nil,HH]
  ·simp at hc
 have b2 : ((deep : Int) > 13) = False:=by simp; omega
 by_cases c3 : t.s.length > 5000
 ·have b3 : ((t.s.length : Int) > 5000) = True:=by simp; omega
  have HH:=sT.trans (if_pos (.inr (.inr (.inl c3))))
  refine AW.rT (by rfl) fun K hK=>?_
  simp -implicitDefEqProofs only [go_sem,↓reduceIte,Nat.reduceAdd,Nat.reduceEqDiff,reduceCtorEq,b1,b2,b3]
  apply hK;clear hK K
  refine AW.cond _ (by simp -implicitDefEqProofs only [go_sem]; rfl) (fun hc=>?_) (fun hc=>?_)
  ·refine AW.rT (by rfl) fun K hK=>?_
   simp -implicitDefEqProofs only [go_sem,Nat.reduceAdd]
   apply hK;clear hK K
   refine AW.ret (show _ ∧ ((∃ l,_ ∧ _) ∧ (_ ∧ _ ∧ _) ∧ True) from ⟨?_,⟨2,?_,?_⟩,⟨rfl,by decide,rfl⟩,trivial⟩) <;> simp -implicitDefEqProofs only [go_sem,↓reduceIte,Nat.reduceAdd,Nat.reduceEqDiff,reduceCtorEq,liftE_cons,liftE_nil,List.map_cons,List.map_nil,HH]
  ·simp at hc
 have b3 : ((t.s.length : Int) > 5000) = False:=by simp; omega
 by_cases c4 : t.rest.length > 40
 ·have b4 : ((t.rest.length : Int) > 40) = True:=by simp; omega
  have HH:=sT.trans (if_pos (.inr (.inr (.inr (.inl c4)))))
  refine AW.rT (by rfl) fun K hK=>?_
  simp -implicitDefEqProofs only [go_sem,↓reduceIte,Nat.reduceAdd,Nat.reduceEqDiff,reduceCtorEq,b1,b2,b3,b4,List.length_map]
  apply hK;clear hK K
  refine AW.cond _ (by simp -implicitDefEqProofs only [go_sem]; rfl) (fun hc=>?_) (fun hc=>?_)
  ·refine AW.rT (by rfl) fun K hK=>?_
   simp -implicitDefEqProofs only [go_sem,Nat.reduceAdd]
   apply hK;clear hK K
   refine AW.ret (show _ ∧ ((∃ l,_ ∧ _) ∧ (_ ∧ _ ∧ _) ∧ True) from ⟨?_,⟨2,?_,?_⟩,⟨rfl,by decide,rfl⟩,trivial⟩) <;> simp -implicitDefEqProofs only [go_sem,↓reduceIte,Nat.reduceAdd,Nat.reduceEqDiff,reduceCtorEq,liftE_cons,liftE_nil,List.map_cons,List.map_nil,HH]
  ·simp at hc
 have b4 : ((t.rest.length : Int) > 40) = False:=by simp; omega
 by_cases c5 : t.ents.length > 40
 ·have b5 : ((t.ents.length : Int) > 40) = True:=by simp; omega
  have HH:=sT.trans (if_pos (.inr (.inr (.inr (.inr c5)))))
  refine AW.rT (by rfl) fun K hK=>?_
  simp -implicitDefEqProofs only [go_sem,↓reduceIte,Nat.reduceAdd,Nat.reduceEqDiff,reduceCtorEq,b1,b2,b3,b4,b5,List.length_map]
  apply hK;clear hK K
  refine AW.cond _ (by simp -implicitDefEqProofs only [go_sem]; rfl) (fun hc=>?_) (fun hc=>?_)
  ·refine AW.rT (by rfl) fun K hK=>?_
   simp -implicitDefEqProofs only [go_sem,Nat.reduceAdd]
   apply hK;clear hK K
   refine AW.ret (show _ ∧ ((∃ l,_ ∧ _) ∧ (_ ∧ _ ∧ _) ∧ True) from ⟨?_,⟨2,?_,?_⟩,⟨rfl,by decide,rfl⟩,trivial⟩) <;> simp -implicitDefEqProofs only [go_sem,↓reduceIte,Nat.reduceAdd,Nat.reduceEqDiff,reduceCtorEq,liftE_cons,liftE_nil,List.map_cons,List.map_nil,HH]
  ·simp at hc
 have b5 : ((t.ents.length : Int) > 40) = False:=by simp; omega
 rw [if_neg (by omega)] at sT
 refine AW.rT (by rfl) fun K hK=>?_
 simp -implicitDefEqProofs only [go_sem,↓reduceIte,Nat.reduceAdd,Nat.reduceEqDiff,reduceCtorEq,b1,b2,b3,b4,b5,List.length_map]
 apply hK;clear hK K
 refine AW.cF rfl ?_
 refine AW.skip ?_
 simp only [andThen]
 clear b1 b2 b3 b4 b5
 refine AW.seq ?_
 refine AW.rT (by rfl) fun K hK=>?_
 simp -implicitDefEqProofs only [go_sem,Nat.reduceAdd]
 apply hK;clear hK K
 refine AW.block ?_
 refine AW.loop (fun i : Nat=>sm t deep (n + 1) [(7,.p (.int .i64 (i : Int)))]) (fun i=>i ≤ t.rest.length ∧ (t.rest.take i).all (fun r=>decide (r.b.length ≤ 5000)) = true) (fun i=>t.rest.length - i) 0 ?_ (by simp) fun i hi=>?_
 ·simp only [sm,cellsT,List.cons_append,List.nil_append]
  refine Ghost.sub ?_ ?_ <;> simp -implicitDefEqProofs only [go_sem,↓reduceIte,Nat.reduceEqDiff,reduceCtorEq,liftE_cons,liftE_nil,List.map_cons,List.map_nil,List.forall_mem_cons,List.not_mem_nil,false_implies,implies_true,and_self,List.all_cons,List.all_nil,Nat.reduceLT,labsInL,AV.labsIn]
  rfl
 obtain ⟨g1,g2⟩:=hi
 simp only [sm,cellsT,List.cons_append,List.nil_append,liftE_cons,liftE_nil,List.map_cons,List.map_nil]
 refine AW.seq ?_
 by_cases hil : i < t.rest.length
 ·obtain ⟨r,hr⟩ : ∃ r,t.rest[i]? = some r:=⟨_,List.getElem?_eq_getElem hil⟩
  have ⟨hr1,hr2,hr3⟩:=at_map' encRaw hr
  have hc1 : ((i : Int) < (t.rest.length : Int)) = True:=by simp; omega
  refine AW.rT (by rfl) fun K hK=>?_
  simp -implicitDefEqProofs only [go_sem,↓reduceIte,Nat.reduceAdd,Nat.reduceEqDiff,List.length_map,hc1]
  apply hK;clear hK K
  refine AW.cond _ (by simp -implicitDefEqProofs only [go_sem]; rfl) (fun hc=>?_) (fun hc=>?_)
  ·refine AW.skip ?_
   simp only [andThen]
   refine AW.seq ?_
   refine AW.block ?_
   by_cases hb : r.b.length > 5000
   ·have b1 : ((r.b.length : Int) > 5000) = True:=by simp; omega
    have hall : t.rest.all (fun r=>decide (r.b.length ≤ 5000)) = false:=by
     rw [List.all_eq_false]
     exact ⟨r,List.mem_of_getElem? hr,by simp; omega⟩
    have HH:=sT.trans (if_pos hall)
    refine AW.rT (by rfl) fun K hK=>?_
    simp -implicitDefEqProofs only [go_sem,↓reduceIte,Nat.reduceAdd,Nat.reduceEqDiff,hr1,hr2,hr3,encRaw,b1]
    apply hK;clear hK K
    refine AW.cond _ (by simp -implicitDefEqProofs only [go_sem]; rfl) (fun hc=>?_) (fun hc=>?_)
    ·refine AW.rT (by rfl) fun K hK=>?_
     simp -implicitDefEqProofs only [go_sem,Nat.reduceAdd]
     apply hK;clear hK K
     refine AW.ret (show _ ∧ ((∃ l,_ ∧ _) ∧ (_ ∧ _ ∧ _) ∧ True) from ⟨?_,⟨2,?_,?_⟩,⟨rfl,by decide,rfl⟩,trivial⟩) <;> simp -implicitDefEqProofs only [go_sem,↓reduceIte,Nat.reduceAdd,Nat.reduceEqDiff,liftE_cons,liftE_nil,List.map_cons,List.map_nil,HH]
    ·simp at hc
   ·have b1 : ((r.b.length : Int) > 5000) = False:=by simp; omega
    refine AW.rT (by rfl) fun K hK=>?_
    simp -implicitDefEqProofs only [go_sem,↓reduceIte,Nat.reduceAdd,Nat.reduceEqDiff,hr1,hr2,hr3,encRaw,b1]
    apply hK;clear hK K
    refine AW.cF rfl ?_
    refine AW.skip ?_
    simp only [andThen,inBlk]
    have w1 : IntKind.wrap .i64 ((i : Int) + 1) = ((i + 1 : Nat) : Int):=by rw [w64] <;> omega
    refine AW.rE (by rfl) fun K hK=>?_
    simp -implicitDefEqProofs only [go_sem,↓reduceIte,Nat.reduceAdd,Nat.reduceEqDiff,w1]
    apply hK;clear hK K
    refine ⟨i + 1,⟨by omega,?_⟩,by omega,?_⟩
    ·rw [List.take_add_one,hr,List.all_append,g2]
     simp; omega
    ·refine Ghost.sub ?_ ?_ <;> simp -implicitDefEqProofs only [go_sem,↓reduceIte,Nat.reduceEqDiff,List.forall_mem_cons,List.not_mem_nil,false_implies,implies_true,and_self,List.all_cons,List.all_nil,Nat.reduceLT,labsInL,AV.labsIn]
  ·simp at hc
 have hc1 : ((i : Int) < (t.rest.length : Int)) = False:=by simp; omega
 have hi' : i = t.rest.length:=by omega
 subst hi'
 rw [List.take_length] at g2
 rw [if_neg (by rw [g2]; simp)] at sT
 refine AW.rT (by rfl) fun K hK=>?_
 simp -implicitDefEqProofs only [go_sem,↓reduceIte,Nat.reduceAdd,Nat.reduceEqDiff,List.length_map,hc1]
 apply hK;clear hK K
 refine AW.cF rfl ?_
 refine AW.exit ?_
 simp only [andThen,inBlk,↓reduceIte]
 refine AW.seq ?_
 refine AW.rT (by rfl) fun K hK=>?_
 simp -implicitDefEqProofs only [go_sem,Nat.reduceAdd]
 apply hK;clear hK K
 refine AW.block ?_
 refine AW.loop (fun x : Nat × Nat=>sm t deep x.2 [(8,.p (.int .i64 (x.1 : Int)))]) (fun x=>x.1 ≤ t.ents.length ∧ x.2 ≤ 200 ∧ smallT t deep n = smallE (t.ents.drop x.1) deep x.2) (fun x=>t.ents.length - x.1) (0,n + 1) ?_ ⟨by simp,by show n + 1 ≤ 200; omega,by rw [sT,List.drop_zero]⟩ fun x hx=>?_
 ·simp only [sm,cellsT,List.cons_append,List.nil_append]
  refine Ghost.sub ?_ ?_ <;> simp -implicitDefEqProofs only [go_sem,↓reduceIte,Nat.reduceEqDiff,liftE_cons,liftE_nil,List.map_cons,List.map_nil,List.forall_mem_cons,List.not_mem_nil,false_implies,implies_true,and_self,List.all_cons,List.all_nil,Nat.reduceLT,labsInL,AV.labsIn]
  rfl
 obtain ⟨i,m⟩:=x
 obtain ⟨e1,e2,e3⟩:=hx
 dsimp only at e1 e2 e3
 simp only [sm,cellsT,List.cons_append,List.nil_append,liftE_cons,liftE_nil,List.map_cons,List.map_nil]
 refine AW.seq ?_
 by_cases hie : i < t.ents.length
 case neg =>
  have hc1 : ((i : Int) < (t.ents.length : Int)) = False:=by simp; omega
  have hi' : i = t.ents.length:=by omega
  subst hi'
  rw [List.drop_length,smallE] at e3
  have HH:=e3
  refine AW.rT (by rfl) fun K hK=>?_
  simp -implicitDefEqProofs only [go_sem,↓reduceIte,Nat.reduceAdd,Nat.reduceEqDiff,List.length_map,hc1]
  apply hK;clear hK K
  refine AW.cF rfl ?_
  refine AW.exit ?_
  simp only [andThen,inBlk,↓reduceIte]
  refine AW.rT (by rfl) fun K hK=>?_
  simp -implicitDefEqProofs only [go_sem,Nat.reduceAdd]
  apply hK;clear hK K
  refine AW.ret (show _ ∧ ((∃ l,_ ∧ _) ∧ (_ ∧ _ ∧ _) ∧ True) from ⟨?_,⟨2,?_,?_⟩,⟨rfl,by decide,rfl⟩,trivial⟩) <;> simp -implicitDefEqProofs only [go_sem,↓reduceIte,Nat.reduceAdd,Nat.reduceEqDiff,liftE_cons,liftE_nil,List.map_cons,List.map_nil,HH]
 obtain ⟨e,he⟩ : ∃ e,t.ents[i]? = some e:=⟨_,List.getElem?_eq_getElem hie⟩
 have ⟨hr1,hr2,hr3⟩:=at_map' encEn he
 have hc1 : ((i : Int) < (t.ents.length : Int)) = True:=by simp; omega
 have st:=smallE_at he deep m
 refine AW.rT (by rfl) fun K hK=>?_
 simp -implicitDefEqProofs only [go_sem,↓reduceIte,Nat.reduceAdd,Nat.reduceEqDiff,List.length_map,hc1]
 apply hK;clear hK K
 refine AW.cT rfl ?_
 refine AW.skip ?_
 simp only [andThen]
 refine AW.seq ?_
 refine AW.block ?_
 refine AW.seq ?_
 by_cases hb : e.2.length > 70
 ·have b1 : ((e.2.length : Int) > 70) = True:=by simp; omega
  rw [if_pos hb] at st
  have HH:=e3.trans st
  refine AW.rT (by rfl) fun K hK=>?_
  simp -implicitDefEqProofs only [go_sem,↓reduceIte,Nat.reduceAdd,Nat.reduceEqDiff,hr1,hr3,hc1,encEn,b1,List.length_map]
  apply hK;clear hK K
  refine AW.cond _ (by simp -implicitDefEqProofs only [go_sem]; rfl) (fun hc=>?_) (fun hc=>?_)
  ·refine AW.rT (by rfl) fun K hK=>?_
   simp -implicitDefEqProofs only [go_sem,Nat.reduceAdd]
   apply hK;clear hK K
   refine AW.ret (show _ ∧ ((∃ l,_ ∧ _) ∧ (_ ∧ _ ∧ _) ∧ True) from ⟨?_,⟨2,?_,?_⟩,⟨rfl,by decide,rfl⟩,trivial⟩) <;> simp -implicitDefEqProofs only [go_sem,↓reduceIte,Nat.reduceAdd,Nat.reduceEqDiff,liftE_cons,liftE_nil,List.map_cons,List.map_nil,HH]
  ·simp at hc
 have b1 : ((e.2.length : Int) > 70) = False:=by simp; omega
 rw [if_neg hb] at st
 refine AW.rT (by rfl) fun K hK=>?_
 simp -implicitDefEqProofs only [go_sem,↓reduceIte,Nat.reduceAdd,Nat.reduceEqDiff,hr1,hr3,hc1,encEn,b1,List.length_map]
 apply hK;clear hK K
 refine AW.cF rfl ?_
 refine AW.skip ?_
 simp only [andThen]
 refine AW.rT (by rfl) fun K hK=>?_
 simp -implicitDefEqProofs only [go_sem,Nat.reduceAdd]
 apply hK;clear hK K
 refine AW.block ?_
 refine AW.loop (fun y : Nat × Nat=>sm t deep y.2 [(8,.p (.int .i64 (i : Int))),(9,.p (.int .i64 (y.1 : Int)))]) (fun y=>y.1 ≤ e.2.length ∧ y.2 ≤ 200 ∧ smallTs e.2 deep m = smallTs (e.2.drop y.1) deep y.2) (fun y=>e.2.length - y.1) (0,m) ?_ ⟨by simp,e2,by rw [List.drop_zero]⟩ fun y hy=>?_
 ·simp only [sm,cellsT,List.cons_append,List.nil_append]
  refine Ghost.sub ?_ ?_ <;> simp -implicitDefEqProofs only [go_sem,↓reduceIte,Nat.reduceEqDiff,liftE_cons,liftE_nil,List.map_cons,List.map_nil,List.forall_mem_cons,List.not_mem_nil,false_implies,implies_true,and_self,List.all_cons,List.all_nil,Nat.reduceLT,labsInL,AV.labsIn]
  rfl
 obtain ⟨k,m'⟩:=y
 obtain ⟨f1,f2,f3⟩:=hy
 dsimp only at f1 f2 f3
 simp only [sm,cellsT,List.cons_append,List.nil_append,liftE_cons,liftE_nil,List.map_cons,List.map_nil]
 refine AW.seq ?_
 by_cases hk : k < e.2.length
 ·obtain ⟨x,hx⟩ : ∃ x,e.2[k]? = some x:=⟨_,List.getElem?_eq_getElem hk⟩
  have ⟨ks1,ks2,ks3⟩:=at_map' encTr hx
  have hc2 : ((k : Int) < (e.2.length : Int)) = True:=by simp; omega
  have sk:=smallTs_at hx deep m'
  refine AW.rT (by rfl) fun K hK=>?_
  simp -implicitDefEqProofs only [go_sem,↓reduceIte,Nat.reduceAdd,Nat.reduceEqDiff,hr1,hr3,hc1,encEn,List.length_map,hc2]
  apply hK;clear hK K
  refine AW.cT rfl ?_
  refine AW.skip ?_
  simp only [andThen]
  refine AW.seq ?_
  refine AW.block ?_
  have wd : IntKind.wrap .i64 ((deep : Int) + 1) = ((deep + 1 : Nat) : Int):=by rw [w64] <;> omega
  refine AW.rT (by rfl) fun K hK=>?_
  simp -implicitDefEqProofs only [go_sem,↓reduceIte,Nat.reduceAdd,Nat.reduceEqDiff,Nat.reduceLeDiff,hr1,hr3,hc1,encEn,ks1,ks3,hc2,encTr_eq,wd,List.length_map]
  refine ⟨.lend [none,none,some 2] [.v (.agg (encTr x)),.v (.int .i64 ((deep + 1 : Nat) : Int)),.ptr 0 0 1 [[.int .i64 (m' : Int)]]] [none,none,some (.row 1 [[.int .i64 ((smallT x (deep + 1) m').2 : Int)]])] (.bool (smallT x (deep + 1) m').1),
   ⟨ih _ (size_ent he hx) x rfl (deep + 1) m' f2 (by omega),rfl,?_⟩,?_⟩
  ·simp -implicitDefEqProofs only [go_sem,↓reduceIte,Nat.reduceEqDiff,encTr_eq,liftE_cons,liftE_nil,List.map_cons,List.map_nil,and_self]
  have n200:=smallT_n x (deep + 1) m'
  rcases hq : smallT x (deep + 1) m' with ⟨q,m2⟩
  rw [hq] at sk n200
  simp -implicitDefEqProofs only [go_sem,Nat.reduceAdd,liftE_cons,liftE_nil,List.map_cons,List.map_nil]
  apply hK;clear hK K
  cases q with
  | false =>
   rw [if_pos rfl] at sk
   rw [f3,sk,if_pos rfl] at st
   have HH:=e3.trans st
   refine AW.cond _ (by simp -implicitDefEqProofs only [go_sem]; rfl) (fun hc=>?_) (fun hc=>?_)
   ·refine AW.rT (by rfl) fun K hK=>?_
    simp -implicitDefEqProofs only [go_sem,Nat.reduceAdd]
    apply hK;clear hK K
    refine AW.ret (show _ ∧ ((∃ l,_ ∧ _) ∧ (_ ∧ _ ∧ _) ∧ True) from ⟨?_,⟨2,?_,?_⟩,⟨rfl,by decide,rfl⟩,trivial⟩) <;> simp -implicitDefEqProofs only [go_sem,↓reduceIte,Nat.reduceAdd,Nat.reduceEqDiff,liftE_cons,liftE_nil,List.map_cons,List.map_nil,HH]
   ·simp at hc
  | true =>
   rw [if_neg (by simp)] at sk
   refine AW.cF rfl ?_
   refine AW.skip ?_
   simp only [andThen,inBlk]
   have w1 : IntKind.wrap .i64 ((k : Int) + 1) = ((k + 1 : Nat) : Int):=by rw [w64] <;> omega
   refine AW.rE (by rfl) fun K hK=>?_
   simp -implicitDefEqProofs only [go_sem,↓reduceIte,Nat.reduceAdd,Nat.reduceEqDiff,w1]
   apply hK;clear hK K
   refine ⟨(k + 1,m2),⟨by show k + 1 ≤ e.2.length; omega,n200 rfl,f3.trans sk⟩,by show e.2.length - (k + 1) < e.2.length - k; omega,?_⟩
   refine Ghost.sub ?_ ?_ <;> simp -implicitDefEqProofs only [go_sem,↓reduceIte,Nat.reduceEqDiff,List.forall_mem_cons,List.not_mem_nil,false_implies,implies_true,and_self,List.all_cons,List.all_nil,Nat.reduceLT,labsInL,AV.labsIn]
 ·have hc2 : ((k : Int) < (e.2.length : Int)) = False:=by simp; omega
  have hk' : k = e.2.length:=by omega
  subst hk'
  rw [List.drop_length,smallTs] at f3
  rw [f3,if_neg (by simp)] at st
  refine AW.rT (by rfl) fun K hK=>?_
  simp -implicitDefEqProofs only [go_sem,↓reduceIte,Nat.reduceAdd,Nat.reduceEqDiff,hr1,hr3,hc1,encEn,List.length_map,hc2]
  apply hK;clear hK K
  refine AW.cF rfl ?_
  refine AW.exit ?_
  simp only [andThen,inBlk,↓reduceIte]
  have w1 : IntKind.wrap .i64 ((i : Int) + 1) = ((i + 1 : Nat) : Int):=by rw [w64] <;> omega
  refine AW.rE (by rfl) fun K hK=>?_
  simp -implicitDefEqProofs only [go_sem,↓reduceIte,Nat.reduceAdd,Nat.reduceEqDiff,w1]
  apply hK;clear hK K
  refine ⟨(i + 1,m'),⟨by show i + 1 ≤ t.ents.length; omega,f2,e3.trans st⟩,by show t.ents.length - (i + 1) < t.ents.length - i; omega,?_⟩
  refine Ghost.sub ?_ ?_ <;> simp -implicitDefEqProofs only [go_sem,↓reduceIte,Nat.reduceEqDiff,List.forall_mem_cons,List.not_mem_nil,false_implies,implies_true,and_self,List.all_cons,List.all_nil,Nat.reduceLT,labsInL,AV.labsIn]
end Go.Aw.T
namespace Go.Aw.T
open Go.Proofs
theorem one_nilIface : Value.nilIface.oneCell' = true:=rfl
attribute [go_sem] one_nilIface
def smallB (t : Tr) : Bool:=(smallT t 0 0).1
theorem law00_Small (t : Tr) : PFn Tryz.prog 5 [.agg (encTr t)] (.bool (smallB t)):=by
 refine PFn.of Tryz.func5 rfl (by decide) Tryz.ntmps5 Tryz.results5 (Nat.le_of_ble_eq_true rfl) ?_
 simp only [argsT]
 refine AW.rT (by rfl) fun K hK=>?_
 simp -implicitDefEqProofs only [go_sem,Nat.reduceAdd,encTr_eq]
 apply hK;clear hK K
 refine AW.rT (by rfl) fun K hK=>?_
 simp -implicitDefEqProofs only [go_sem,Nat.reduceAdd,Nat.reduceLeDiff]
 apply hK;clear hK K
 refine AW.rT (by rfl) fun K hK=>?_
 simp -implicitDefEqProofs only [go_sem,↓reduceIte,Nat.reduceAdd,Nat.reduceEqDiff,Nat.reduceLeDiff,reduceCtorEq]
 refine ⟨.lend [none,none,some 2] [.v (.agg (encTr t)),.v (.int .i64 ((0 : Nat) : Int)),.ptr 0 0 1 [[.int .i64 ((0 : Nat) : Int)]]] [none,none,some (.row 1 [[.int .i64 ((smallT t 0 0).2 : Int)]])] (.bool (smallT t 0 0).1),
  ⟨law00_small t 0 0 (by decide) (by decide),rfl,?_⟩,?_⟩
 ·simp -implicitDefEqProofs only [go_sem,↓reduceIte,Nat.reduceEqDiff,encTr_eq,liftE_cons,liftE_nil,List.map_cons,List.map_nil,and_self,Int.ofNat_zero]
 simp -implicitDefEqProofs only [go_sem,Nat.reduceAdd,liftE_cons,liftE_nil,List.map_cons,List.map_nil]
 apply hK;clear hK K
 refine AW.ret ?_
 simp -implicitDefEqProofs only [go_sem]
 rfl
end Go.Aw.T
namespace Go.Aw.T
open Go.Proofs
mutual
def sameT : Tr → Tr → Bool
 | .mk k n s es r,.mk k' n' s' es' r'=>if k = k' ∧ n = n' ∧ s = s' ∧ es.length = es'.length ∧ r.length = r'.length ∧ r = r' then sameE es es' else false
def sameE : List (Int × List Tr) → List (Int × List Tr) → Bool
 | [],[]=>true
 | (t,l) :: r,(t',l') :: r'=>if t = t' ∧ l.length = l'.length ∧ sameTs l l' = true then sameE r r' else false
 | _,_=>false
def sameTs : List Tr → List Tr → Bool
 | [],[]=>true
 | x :: l,x' :: l'=>if sameT x x' = true then sameTs l l' else false
 | _,_=>false
end
mutual
theorem sameT_iff : ∀ (a b : Tr),sameT a b = true ↔ a = b
 | .mk k n s es r,.mk k' n' s' es' r'=>by
  rw [sameT]
  split
  ·rename_i h
   obtain ⟨rfl,rfl,rfl,_,_,rfl⟩:=h
   rw [sameE_iff es es']
   simp
  ·rename_i h
   simp only [Bool.false_eq_true,false_iff,Tr.mk.injEq]
   rintro ⟨rfl,rfl,rfl,rfl,rfl⟩
   exact h ⟨rfl,rfl,rfl,rfl,rfl,rfl⟩
theorem sameE_iff : ∀ (a b : List (Int × List Tr)),sameE a b = true ↔ a = b
 | [],[]=>by simp [sameE]
 | [],_ :: _=>by simp [sameE]
 | _ :: _,[]=>by simp [sameE]
 | (t,l) :: r,(t',l') :: r'=>by
  rw [sameE]
  split
  ·rename_i h
   obtain ⟨rfl,_,h2⟩:=h
   have:=(sameTs_iff l l').1 h2
   subst this
   rw [sameE_iff r r']
   simp
  ·rename_i h
   simp only [Bool.false_eq_true,false_iff,List.cons.injEq,Prod.mk.injEq]
   rintro ⟨⟨rfl,rfl⟩,rfl⟩
   exact h ⟨rfl,rfl,(sameTs_iff l l).2 rfl⟩
theorem sameTs_iff : ∀ (a b : List Tr),sameTs a b = true ↔ a = b
 | [],[]=>by simp [sameTs]
 | [],_ :: _=>by simp [sameTs]
 | _ :: _,[]=>by simp [sameTs]
 | x :: l,x' :: l'=>by
  rw [sameTs]
  split
  ·rename_i h
   have:=(sameT_iff x x').1 h
   subst this
   rw [sameTs_iff l l']
   simp
  ·rename_i h
   simp only [Bool.false_eq_true,false_iff,List.cons.injEq]
   rintro ⟨rfl,rfl⟩
   exact h ((sameT_iff x x).2 rfl)
end
mutual
def lensT : Tr → Bool
 | .mk _ _ _ es rest=>decide (rest.length ≤ 1000) && decide (es.length ≤ 1000) && lensE es
def lensE : List (Int × List Tr) → Bool
 | []=>true
 | (_,l) :: r=>decide (l.length ≤ 1000) && lensTs l && lensE r
def lensTs : List Tr → Bool
 | []=>true
 | x :: l=>lensT x && lensTs l
end
theorem lensTs_at : ∀ {l : List Tr} {k : Nat} {x : Tr},lensTs l = true → l[k]? = some x → lensT x = true:=by
 intro l
 induction l with
 | nil=>intro k x _ h; simp at h
 | cons y l ih =>
  intro k x h hk
  rw [lensTs,Bool.and_eq_true] at h
  cases k with
  | zero=>simp at hk; subst hk; exact h.1
  | succ k=>exact ih h.2 (by simpa using hk)
theorem lensE_at : ∀ {es : List (Int × List Tr)} {i : Nat} {e : Int × List Tr},lensE es = true → es[i]? = some e → e.2.length ≤ 1000 ∧ lensTs e.2 = true:=by
 intro es
 induction es with
 | nil=>intro i e _ h; simp at h
 | cons y es ih =>
  intro i e h hi
  obtain ⟨t,l⟩:=y
  rw [lensE,Bool.and_eq_true,Bool.and_eq_true] at h
  cases i with
  | zero=>simp at hi; subst hi; exact ⟨by simpa using h.1.1,h.1.2⟩
  | succ i=>exact ih h.2 (by simpa using hi)
theorem lensT_mk {t : Tr} (h : lensT t = true) : t.rest.length ≤ 1000 ∧ t.ents.length ≤ 1000 ∧ lensE t.ents = true:=by
 cases t
 rw [lensT] at h
 simp only [Bool.and_eq_true,decide_eq_true_eq] at h
 exact ⟨h.1.1,h.1.2,h.2⟩
mutual
theorem lens_small : ∀ (t : Tr) (deep n : Nat),(smallT t deep n).1 = true → lensT t = true
 | .mk k m s es rest,deep,n=>by
  intro h
  rw [smallT] at h
  split at h
  ·simp at h
  rename_i h1
  split at h
  ·simp at h
  rw [lensT]
  simp only [Bool.and_eq_true,decide_eq_true_eq]
  exact ⟨⟨by omega,by omega⟩,lens_smallE es deep _ h⟩
theorem lens_smallE : ∀ (es : List (Int × List Tr)) (deep n : Nat),(smallE es deep n).1 = true → lensE es = true
 | [],_,_=>fun _=>by rw [lensE]
 | (t,l) :: r,deep,n=>by
  intro h
  rw [smallE] at h
  split at h
  ·simp at h
  rename_i h1
  split at h
  ·rename_i h2; rw [h2] at h; cases h
  rename_i h2
  rw [lensE]
  simp only [Bool.and_eq_true,decide_eq_true_eq]
  exact ⟨⟨by omega,lens_smallTs l deep n (by simpa using h2)⟩,lens_smallE r deep _ h⟩
theorem lens_smallTs : ∀ (l : List Tr) (deep n : Nat),(smallTs l deep n).1 = true → lensTs l = true
 | [],_,_=>fun _=>by rw [lensTs]
 | x :: l,deep,n=>by
  intro h
  rw [smallTs] at h
  split at h
  ·rename_i h2; rw [h2] at h; cases h
  rename_i h2
  rw [lensTs,Bool.and_eq_true]
  exact ⟨lens_small x _ n (by simpa using h2),lens_smallTs l deep _ h⟩
end
theorem sameT_mk (a b : Tr) : sameT a b = if a.kind = b.kind ∧ a.n = b.n ∧ a.s = b.s ∧ a.ents.length = b.ents.length ∧ a.rest.length = b.rest.length ∧ a.rest = b.rest then sameE a.ents b.ents else false:=by
 cases a; cases b; rw [sameT]; rfl
theorem sameE_at {es fs : List (Int × List Tr)} {i : Nat} {e f : Int × List Tr} (h : es[i]? = some e) (h' : fs[i]? = some f) :
  sameE (es.drop i) (fs.drop i) = if e.1 = f.1 ∧ e.2.length = f.2.length ∧ sameTs e.2 f.2 = true then sameE (es.drop (i + 1)) (fs.drop (i + 1)) else false:=by
 rw [List.drop_eq_getElem_cons (List.getElem?_eq_some_iff.1 h).1,(List.getElem?_eq_some_iff.1 h).2,List.drop_eq_getElem_cons (List.getElem?_eq_some_iff.1 h').1,(List.getElem?_eq_some_iff.1 h').2]
 obtain ⟨a,l⟩:=e
 obtain ⟨b,m⟩:=f
 rw [sameE]
theorem sameTs_at {l m : List Tr} {k : Nat} {x y : Tr} (h : l[k]? = some x) (h' : m[k]? = some y) :
  sameTs (l.drop k) (m.drop k) = if sameT x y = true then sameTs (l.drop (k + 1)) (m.drop (k + 1)) else false:=by
 rw [List.drop_eq_getElem_cons (List.getElem?_eq_some_iff.1 h).1,(List.getElem?_eq_some_iff.1 h).2,List.drop_eq_getElem_cons (List.getElem?_eq_some_iff.1 h').1,(List.getElem?_eq_some_iff.1 h').2,sameTs]
def ss (a b : Tr) (m : List (Nat × AV)) : St:=⟨ofL ([(2,.ptr 0 0 0),(3,.ptr 1 0 0)] ++ m),ofH [(0,.row 5 [cellsT a]),(1,.row 5 [cellsT b])],2⟩
def st (a b : Tr) (i : Nat) (e f : Int × List Tr) (k : Nat) : St:=⟨ofL [(2,.ptr 0 0 0),(3,.ptr 1 0 0),(6,.p (.int .i64 (i : Int))),(7,.ptr 2 0 0),(8,.ptr 3 0 0),(9,.p (.int .i64 (k : Int)))],
 ofH [(0,.row 5 [cellsT a]),(1,.row 5 [cellsT b]),(2,.row 2 [[.p (.int .i64 e.1),.p (.slice (e.2.map encTr))]]),(3,.row 2 [[.p (.int .i64 f.1),.p (.slice (f.2.map encTr))]])],4⟩
theorem ref09_Same : ∀ (a b : Tr),lensT a = true → PFn Tryz.prog 15 [.agg (encTr a),.agg (encTr b)] (.bool (sameT a b)):=by
 intro a
 induction h : SizeOf.sizeOf a using Nat.strongRecOn generalizing a with
 | _ sz ih =>
 subst h
 intro b hla
 obtain ⟨la1,la2,la3⟩:=lensT_mk hla
 have sT:=sameT_mk a b
 refine PFn.of Tryz.func15 rfl (by decide) Tryz.ntmps15 Tryz.results15 (Nat.le_of_ble_eq_true rfl) ?_
 simp only [argsT]
 refine AW.rT (by rfl) fun K hK=>?_
 simp -implicitDefEqProofs only [go_sem,↓reduceIte,Nat.reduceAdd,Nat.reduceEqDiff,encTr_eq]
 apply hK;clear hK K
 refine AW.seq ?_
 by_cases c1 : a.kind = b.kind
 case neg =>
  have b1 : (a.kind != b.kind) = true:=by simpa using c1
  rw [if_neg (fun h=>c1 h.1)] at sT
  refine AW.rT (by rfl) fun K hK=>?_
  simp -implicitDefEqProofs only [go_sem,↓reduceIte,Nat.reduceAdd,Nat.reduceEqDiff,reduceCtorEq,b1]
  apply hK;clear hK K
  refine AW.cond _ (by simp -implicitDefEqProofs only [go_sem]; rfl) (fun hc=>?_) (fun hc=>?_)
  ·refine AW.rT (by rfl) fun K hK=>?_
   simp -implicitDefEqProofs only [go_sem,Nat.reduceAdd]
   apply hK;clear hK K
   refine AW.ret ?_
   simp -implicitDefEqProofs only [go_sem,sT]
  ·simp at hc
 have b1 : (a.kind != b.kind) = false:=by simpa using c1
 by_cases c2 : a.n = b.n
 case neg =>
  have b2 : (a.n != b.n) = true:=by simpa using c2
  rw [if_neg (fun h=>c2 h.2.1)] at sT
  refine AW.rT (by rfl) fun K hK=>?_
  simp -implicitDefEqProofs only [go_sem,↓reduceIte,Nat.reduceAdd,Nat.reduceEqDiff,reduceCtorEq,b1,b2]
  apply hK;clear hK K
  refine AW.cond _ (by simp -implicitDefEqProofs only [go_sem]; rfl) (fun hc=>?_) (fun hc=>?_)
  ·refine AW.rT (by rfl) fun K hK=>?_
   simp -implicitDefEqProofs only [go_sem,Nat.reduceAdd]
   apply hK;clear hK K
   refine AW.ret ?_
   simp -implicitDefEqProofs only [go_sem,sT]
  ·simp at hc
 have b2 : (a.n != b.n) = false:=by simpa using c2
 by_cases c3 : a.s = b.s
 case neg =>
  have b3 : (a.s == b.s) = false:=beqf c3
  rw [if_neg (fun h=>c3 h.2.2.1)] at sT
  refine AW.rT (by rfl) fun K hK=>?_
  simp -implicitDefEqProofs only [go_sem,↓reduceIte,Nat.reduceAdd,Nat.reduceEqDiff,reduceCtorEq,b1,b2,b3]
  apply hK;clear hK K
  refine AW.cond _ (by simp -implicitDefEqProofs only [go_sem]; rfl) (fun hc=>?_) (fun hc=>?_)
  ·refine AW.rT (by rfl) fun K hK=>?_
   simp -implicitDefEqProofs only [go_sem,Nat.reduceAdd]
   apply hK;clear hK K
   refine AW.ret ?_
   simp -implicitDefEqProofs only [go_sem,sT]
  ·simp at hc
 have b3 : (a.s == b.s) = true:=by simpa using c3
 by_cases c4 : a.ents.length = b.ents.length
 case neg =>
  have b4 : ((a.ents.length : Int) != (b.ents.length : Int)) = true:=by simp; omega
  rw [if_neg (fun h=>c4 h.2.2.2.1)] at sT
  refine AW.rT (by rfl) fun K hK=>?_
  simp -implicitDefEqProofs only [go_sem,↓reduceIte,Nat.reduceAdd,Nat.reduceEqDiff,reduceCtorEq,b1,b2,b3,b4,List.length_map]
  apply hK;clear hK K
  refine AW.cond _ (by simp -implicitDefEqProofs only [go_sem]; rfl) (fun hc=>?_) (fun hc=>?_)
  ·refine AW.rT (by rfl) fun K hK=>?_
   simp -implicitDefEqProofs only [go_sem,Nat.reduceAdd]
   apply hK;clear hK K
   refine AW.ret ?_
   simp -implicitDefEqProofs only [go_sem,sT]
  ·simp at hc
 have b4 : ((a.ents.length : Int) != (b.ents.length : Int)) = false:=by simp; omega
 by_cases c5 : a.rest.length = b.rest.length
 case neg =>
  have b5 : ((a.rest.length : Int) != (b.rest.length : Int)) = true:=by simp; omega
  rw [if_neg (fun h=>c5 h.2.2.2.2.1)] at sT
  refine AW.rT (by rfl) fun K hK=>?_
  simp -implicitDefEqProofs only [go_sem,↓reduceIte,Nat.reduceAdd,Nat.reduceEqDiff,reduceCtorEq,b1,b2,b3,b4,b5,List.length_map]
  apply hK;clear hK K
  refine AW.cond _ (by simp -implicitDefEqProofs only [go_sem]; rfl) (fun hc=>?_) (fun hc=>?_)
  ·refine AW.rT (by rfl) fun K hK=>?_
   simp -implicitDefEqProofs only [go_sem,Nat.reduceAdd]
   apply hK;clear hK K
   refine AW.ret ?_
   simp -implicitDefEqProofs only [go_sem,sT]
  ·simp at hc
 have b5 : ((a.rest.length : Int) != (b.rest.length : Int)) = false:=by simp; omega
 refine AW.rT (by rfl) fun K hK=>?_
 simp -implicitDefEqProofs only [go_sem,↓reduceIte,Nat.reduceAdd,Nat.reduceEqDiff,reduceCtorEq,b1,b2,b3,b4,b5,List.length_map]
 apply hK;clear hK K
 refine AW.cF rfl ?_
 refine AW.skip ?_
 simp only [andThen]
 clear b1 b2 b3 b4 b5
 refine AW.seq ?_
 refine AW.rT (by rfl) fun K hK=>?_
 simp -implicitDefEqProofs only [go_sem,Nat.reduceAdd]
 apply hK;clear hK K
 refine AW.block ?_
 refine AW.loop (fun i : Nat=>ss a b [(5,.p (.int .i64 (i : Int)))]) (fun i=>i ≤ a.rest.length ∧ a.rest.take i = b.rest.take i) (fun i=>a.rest.length - i) 0 ?_ (by simp) fun i hi=>?_
 ·simp only [ss,cellsT,List.cons_append,List.nil_append]
  refine Ghost.sub ?_ ?_ <;> simp -implicitDefEqProofs only [go_sem,↓reduceIte,Nat.reduceEqDiff,reduceCtorEq,List.forall_mem_cons,List.not_mem_nil,false_implies,implies_true,and_self,List.all_cons,List.all_nil,Nat.reduceLT,labsInL,AV.labsIn]
  rfl
 obtain ⟨g1,g2⟩:=hi
 simp only [ss,cellsT,List.cons_append,List.nil_append]
 refine AW.seq ?_
 by_cases hil : i < a.rest.length
 ·obtain ⟨x,hx⟩ : ∃ x,a.rest[i]? = some x:=⟨_,List.getElem?_eq_getElem hil⟩
  obtain ⟨y,hy⟩ : ∃ y,b.rest[i]? = some y:=⟨_,List.getElem?_eq_getElem (by omega)⟩
  have ⟨hx1,hx2,hx3⟩:=at_map' encRaw hx
  have ⟨hy1,hy2,hy3⟩:=at_map' encRaw hy
  have ex : (encRaw x).length = 4:=rfl
  have ey : (encRaw y).length = 4:=rfl
  have hc1 : ((i : Int) < (a.rest.length : Int)) = True:=by simp; omega
  refine AW.rT (by rfl) fun K hK=>?_
  simp -implicitDefEqProofs only [go_sem,↓reduceIte,Nat.reduceAdd,Nat.reduceEqDiff,List.length_map,hc1]
  apply hK;clear hK K
  refine AW.cT rfl ?_
  refine AW.skip ?_
  simp only [andThen]
  refine AW.seq ?_
  refine AW.block ?_
  refine AW.dT mixed (by rfl) (by decide +kernel) fun K hK=>?_
  simp -implicitDefEqProofs only [go_sem,↓reduceIte,Nat.reduceAdd,Nat.reduceEqDiff,Nat.reduceLeDiff,hx1,hx2,hx3,hy2,hy3,ex,ey]
  refine ⟨_,eqP_raw x y,?_⟩
  simp only [boolE]
  try simp -implicitDefEqProofs only [go_sem,Nat.reduceAdd]
  refine ⟨heapOK_nil rfl,?_⟩
  apply hK;clear hK K
  by_cases hxy : x = y
  ·have bx : decide (x = y) = true:=by simpa using hxy
   rw [bx]
   refine AW.cF rfl ?_
   refine AW.skip ?_
   simp only [andThen,inBlk]
   have w2 : IntKind.wrap .i64 ((i : Int) + 1) = ((i + 1 : Nat) : Int):=by rw [w64] <;> omega
   refine AW.rE (by rfl) fun K hK=>?_
   simp -implicitDefEqProofs only [go_sem,↓reduceIte,Nat.reduceAdd,Nat.reduceEqDiff,w2]
   apply hK;clear hK K
   refine ⟨i + 1,⟨by omega,by rw [List.take_add_one,List.take_add_one,hx,hy,g2,hxy]⟩,by omega,?_⟩
   refine Ghost.sub ?_ ?_ <;> simp -implicitDefEqProofs only [go_sem,↓reduceIte,Nat.reduceEqDiff,List.forall_mem_cons,List.not_mem_nil,false_implies,implies_true,and_self,List.all_cons,List.all_nil,Nat.reduceLT,labsInL,AV.labsIn]
  ·have bx : decide (x = y) = false:=by simpa using hxy
   rw [bx]
   rw [if_neg (fun h=>hxy (by have:=h.2.2.2.2.2; rw [this,hy] at hx; injection hx with hx; exact hx.symm))] at sT
   refine AW.cond _ (by simp -implicitDefEqProofs only [go_sem]; rfl) (fun hc=>?_) (fun hc=>?_)
   ·refine AW.rT (by rfl) fun K hK=>?_
    simp -implicitDefEqProofs only [go_sem,Nat.reduceAdd]
    apply hK;clear hK K
    refine AW.ret ?_
    simp -implicitDefEqProofs only [go_sem,sT]
   ·simp at hc
 have hc1 : ((i : Int) < (a.rest.length : Int)) = False:=by simp; omega
 have hi' : i = a.rest.length:=by omega
 subst hi'
 rw [List.take_length,c5,List.take_length] at g2
 rw [if_pos ⟨c1,c2,c3,c4,c5,g2⟩] at sT
 refine AW.rT (by rfl) fun K hK=>?_
 simp -implicitDefEqProofs only [go_sem,↓reduceIte,Nat.reduceAdd,Nat.reduceEqDiff,List.length_map,hc1]
 apply hK;clear hK K
 refine AW.cF rfl ?_
 refine AW.exit ?_
 simp only [andThen,inBlk,↓reduceIte]
 refine AW.seq ?_
 refine AW.rT (by rfl) fun K hK=>?_
 simp -implicitDefEqProofs only [go_sem,Nat.reduceAdd]
 apply hK;clear hK K
 refine AW.block ?_
 refine AW.loop (fun i : Nat=>ss a b [(6,.p (.int .i64 (i : Int)))]) (fun i=>i ≤ a.ents.length ∧ sameT a b = sameE (a.ents.drop i) (b.ents.drop i)) (fun i=>a.ents.length - i) 0 ?_ ⟨by simp,by rw [sT,List.drop_zero,List.drop_zero]⟩ fun i hi=>?_
 ·simp only [ss,cellsT,List.cons_append,List.nil_append]
  refine Ghost.sub ?_ ?_ <;> simp -implicitDefEqProofs only [go_sem,↓reduceIte,Nat.reduceEqDiff,List.forall_mem_cons,List.not_mem_nil,false_implies,implies_true,and_self,List.all_cons,List.all_nil,Nat.reduceLT,labsInL,AV.labsIn]
  rfl
 obtain ⟨e1,e2⟩:=hi
 simp only [ss,cellsT,List.cons_append,List.nil_append]
 refine AW.seq ?_
 by_cases hil : i < a.ents.length
 case neg =>
  have hc1 : ((i : Int) < (a.ents.length : Int)) = False:=by simp; omega
  rw [List.drop_of_length_le (by omega),List.drop_of_length_le (by omega),sameE] at e2
  refine AW.rT (by rfl) fun K hK=>?_
  simp -implicitDefEqProofs only [go_sem,↓reduceIte,Nat.reduceAdd,Nat.reduceEqDiff,List.length_map,hc1]
  apply hK;clear hK K
  refine AW.cF rfl ?_
  refine AW.exit ?_
  simp only [andThen,inBlk,↓reduceIte]
  refine AW.rT (by rfl) fun K hK=>?_
  simp -implicitDefEqProofs only [go_sem,Nat.reduceAdd]
  apply hK;clear hK K
  refine AW.ret ?_
  simp -implicitDefEqProofs only [go_sem,e2]
 obtain ⟨e,he⟩ : ∃ e,a.ents[i]? = some e:=⟨_,List.getElem?_eq_getElem hil⟩
 obtain ⟨f,hf⟩ : ∃ f,b.ents[i]? = some f:=⟨_,List.getElem?_eq_getElem (by omega)⟩
 have ⟨he1,he2,he3⟩:=at_map' encEn he
 have ⟨hf1,hf2,hf3⟩:=at_map' encEn hf
 have ⟨le1,le2⟩:=lensE_at la3 he
 have sE:=sameE_at he hf
 have hc1 : ((i : Int) < (a.ents.length : Int)) = True:=by simp; omega
 have hc1' : ((i : Int) < (b.ents.length : Int)) = True:=by simp; omega
 refine AW.rT (by rfl) fun K hK=>?_
 simp -implicitDefEqProofs only [go_sem,↓reduceIte,Nat.reduceAdd,Nat.reduceEqDiff,List.length_map,hc1]
 apply hK;clear hK K
 refine AW.cT rfl ?_
 refine AW.skip ?_
 simp only [andThen]
 refine AW.seq ?_
 refine AW.block ?_
 refine AW.dT mixed (by rfl) (by decide +kernel) fun K hK=>?_
 simp -implicitDefEqProofs only [go_sem,↓reduceIte,Nat.reduceAdd,Nat.reduceEqDiff,Nat.reduceLeDiff,he1,he3,hf3,encEn,List.length_map,hc1,hc1']
 refine ⟨by decide +kernel,?_⟩
 apply hK;clear hK K
 refine AW.seq ?_
 by_cases d1 : e.1 = f.1
 case neg =>
  have b1 : (e.1 != f.1) = true:=by simpa using d1
  rw [if_neg (fun h=>d1 h.1)] at sE
  have HH:=e2.trans sE
  refine AW.rT (by rfl) fun K hK=>?_
  simp -implicitDefEqProofs only [go_sem,↓reduceIte,Nat.reduceAdd,Nat.reduceEqDiff,b1]
  apply hK;clear hK K
  refine AW.cond _ (by simp -implicitDefEqProofs only [go_sem]; rfl) (fun hc=>?_) (fun hc=>?_)
  ·refine AW.rT (by rfl) fun K hK=>?_
   simp -implicitDefEqProofs only [go_sem,Nat.reduceAdd]
   apply hK;clear hK K
   refine AW.ret ?_
   simp -implicitDefEqProofs only [go_sem,HH]
  ·simp at hc
 have b1 : (e.1 != f.1) = false:=by simpa using d1
 by_cases d2 : e.2.length = f.2.length
 case neg =>
  have b2 : ((e.2.length : Int) != (f.2.length : Int)) = true:=by simp; omega
  rw [if_neg (fun h=>d2 h.2.1)] at sE
  have HH:=e2.trans sE
  refine AW.rT (by rfl) fun K hK=>?_
  simp -implicitDefEqProofs only [go_sem,↓reduceIte,Nat.reduceAdd,Nat.reduceEqDiff,b1,b2,List.length_map]
  apply hK;clear hK K
  refine AW.cond _ (by simp -implicitDefEqProofs only [go_sem]; rfl) (fun hc=>?_) (fun hc=>?_)
  ·refine AW.rT (by rfl) fun K hK=>?_
   simp -implicitDefEqProofs only [go_sem,Nat.reduceAdd]
   apply hK;clear hK K
   refine AW.ret ?_
   simp -implicitDefEqProofs only [go_sem,HH]
  ·simp at hc
 have b2 : ((e.2.length : Int) != (f.2.length : Int)) = false:=by simp; omega
 refine AW.rT (by rfl) fun K hK=>?_
 simp -implicitDefEqProofs only [go_sem,↓reduceIte,Nat.reduceAdd,Nat.reduceEqDiff,b1,b2,List.length_map]
 apply hK;clear hK K
 refine AW.cF rfl ?_
 refine AW.skip ?_
 simp only [andThen]
 refine AW.rT (by rfl) fun K hK=>?_
 simp -implicitDefEqProofs only [go_sem,Nat.reduceAdd]
 apply hK;clear hK K
 refine AW.block ?_
 refine AW.loop (fun k : Nat=>st a b i e f k) (fun k=>k ≤ e.2.length ∧ sameTs e.2 f.2 = sameTs (e.2.drop k) (f.2.drop k)) (fun k=>e.2.length - k) 0 ?_ ⟨by simp,by rw [List.drop_zero,List.drop_zero]⟩ fun k hk=>?_
 ·simp only [st,cellsT]
  refine Ghost.ent (fun l=>if l = 2 then 17 else if l = 3 then 18 else l) ?_ ?_ ?_ <;> simp -implicitDefEqProofs only [go_sem,↓reduceIte,Nat.reduceEqDiff,reduceCtorEq,List.forall_mem_cons,List.not_mem_nil,false_implies,implies_true,and_self,List.all_cons,List.all_nil,Nat.reduceLT,labsInL,AV.labsIn]
  rfl
 obtain ⟨k1,k2⟩:=hk
 simp only [st,cellsT]
 refine AW.seq ?_
 by_cases hkl : k < e.2.length
 ·obtain ⟨x,hx⟩ : ∃ x,e.2[k]? = some x:=⟨_,List.getElem?_eq_getElem hkl⟩
  obtain ⟨y,hy⟩ : ∃ y,f.2[k]? = some y:=⟨_,List.getElem?_eq_getElem (by omega)⟩
  have ⟨hx1,hx2,hx3⟩:=at_map' encTr hx
  have ⟨hy1,hy2,hy3⟩:=at_map' encTr hy
  have hc2 : ((k : Int) < (e.2.length : Int)) = True:=by simp; omega
  have hc2' : ((k : Int) < (f.2.length : Int)) = True:=by simp; omega
  have sK:=sameTs_at hx hy
  refine AW.rT (by rfl) fun K hK=>?_
  simp -implicitDefEqProofs only [go_sem,↓reduceIte,Nat.reduceAdd,Nat.reduceEqDiff,reduceCtorEq,List.length_map,hc2]
  apply hK;clear hK K
  refine AW.cT rfl ?_
  refine AW.skip ?_
  simp only [andThen]
  refine AW.seq ?_
  refine AW.block ?_
  have IH:=ih _ (size_ent he hx) x rfl y (lensTs_at le2 hx)
  rw [encTr_eq,encTr_eq] at IH
  refine AW.dT mixed (by rfl) (by decide +kernel) fun K hK=>?_
  simp -implicitDefEqProofs only [go_sem,↓reduceIte,Nat.reduceAdd,Nat.reduceEqDiff,Nat.reduceLeDiff,reduceCtorEq,hx1,hx3,hy3,hc2,hc2',encTr_eq,List.length_map]
  refine ⟨.pure _,IH,?_⟩
  try simp -implicitDefEqProofs only [go_sem,↓reduceIte,Nat.reduceAdd]
  refine ⟨heapOK_nil rfl,?_⟩
  apply hK;clear hK K
  cases hq : sameT x y with
  | false =>
   rw [if_neg (by rw [hq]; simp)] at sK
   rw [if_neg (by rintro ⟨_,_,h⟩; rw [k2,sK] at h; cases h)] at sE
   have HH:=e2.trans sE
   refine AW.cond _ (by simp -implicitDefEqProofs only [go_sem]; rfl) (fun hc=>?_) (fun hc=>?_)
   ·refine AW.rT (by rfl) fun K hK=>?_
    simp -implicitDefEqProofs only [go_sem,Nat.reduceAdd]
    apply hK;clear hK K
    refine AW.ret ?_
    simp -implicitDefEqProofs only [go_sem,HH]
   ·simp at hc
  | true =>
   rw [if_pos hq] at sK
   refine AW.cF rfl ?_
   refine AW.skip ?_
   simp only [andThen,inBlk]
   have w2 : IntKind.wrap .i64 ((k : Int) + 1) = ((k + 1 : Nat) : Int):=by rw [w64] <;> omega
   refine AW.rE (by rfl) fun K hK=>?_
   simp -implicitDefEqProofs only [go_sem,↓reduceIte,Nat.reduceAdd,Nat.reduceEqDiff,w2]
   apply hK;clear hK K
   refine ⟨k + 1,⟨by omega,k2.trans sK⟩,by omega,?_⟩
   refine Ghost.sub ?_ ?_ <;> simp -implicitDefEqProofs only [go_sem,↓reduceIte,Nat.reduceEqDiff,reduceCtorEq,List.forall_mem_cons,List.not_mem_nil,false_implies,implies_true,and_self,List.all_cons,List.all_nil,Nat.reduceLT,labsInL,AV.labsIn]
 ·have hc2 : ((k : Int) < (e.2.length : Int)) = False:=by simp; omega
  rw [List.drop_of_length_le (by omega),List.drop_of_length_le (by omega),sameTs] at k2
  rw [if_pos ⟨d1,d2,k2⟩] at sE
  refine AW.rT (by rfl) fun K hK=>?_
  simp -implicitDefEqProofs only [go_sem,↓reduceIte,Nat.reduceAdd,Nat.reduceEqDiff,reduceCtorEq,List.length_map,hc2]
  apply hK;clear hK K
  refine AW.cF rfl ?_
  refine AW.exit ?_
  simp only [andThen,inBlk,↓reduceIte]
  have w2 : IntKind.wrap .i64 ((i : Int) + 1) = ((i + 1 : Nat) : Int):=by rw [w64] <;> omega
  refine AW.rE (by rfl) fun K hK=>?_
  simp -implicitDefEqProofs only [go_sem,↓reduceIte,Nat.reduceAdd,Nat.reduceEqDiff,w2]
  apply hK;clear hK K
  refine ⟨i + 1,⟨by omega,e2.trans sE⟩,by omega,?_⟩
  refine Ghost.sub ?_ ?_ <;> simp -implicitDefEqProofs only [go_sem,↓reduceIte,Nat.reduceEqDiff,List.forall_mem_cons,List.not_mem_nil,false_implies,implies_true,and_self,List.all_cons,List.all_nil,Nat.reduceLT,labsInL,AV.labsIn]
end Go.Aw.T
namespace Go.Aw.T
open Go.Proofs
end Go.Aw.T
namespace Go.Aw.T
open Go.Proofs
theorem ref04_Check (r : Raw) : PFn Tryz.prog 86 [.agg (encRaw r)] (.bool (checkR r)):=by
 refine PFn.of Tryz.func86 rfl (by decide) Tryz.ntmps86 Tryz.results86 (Nat.le_of_ble_eq_true rfl) ?_
 simp only [argsT]
 refine AW.rT (by rfl) fun K hK=>?_
 simp -implicitDefEqProofs only [go_sem,Nat.reduceAdd,encRaw]
 apply hK;clear hK K
 refine AW.seq ?_
 by_cases h1 : r.tag < 1
 ·refine AW.rT (by rfl) fun K hK=>?_
  simp -implicitDefEqProofs only [go_sem,↓reduceIte,Nat.reduceAdd,Nat.reduceEqDiff,h1]
  apply hK;clear hK K
  refine AW.cond _ (by simp -implicitDefEqProofs only [go_sem]; rfl) (fun hc=>?_) (fun hc=>?_)
  ·refine AW.rT (by rfl) fun K hK=>?_
   simp -implicitDefEqProofs only [go_sem,Nat.reduceAdd]
   apply hK;clear hK K
   refine AW.ret ?_
   simp -implicitDefEqProofs only [go_sem]
   simp [checkR,h1]
  ·simp at hc
 by_cases h2 : 500 < r.tag
 ·refine AW.rT (by rfl) fun K hK=>?_
  simp -implicitDefEqProofs only [go_sem,↓reduceIte,Nat.reduceAdd,Nat.reduceEqDiff,h1,h2]
  apply hK;clear hK K
  refine AW.cond _ (by simp -implicitDefEqProofs only [go_sem]; rfl) (fun hc=>?_) (fun hc=>?_)
  ·refine AW.rT (by rfl) fun K hK=>?_
   simp -implicitDefEqProofs only [go_sem,Nat.reduceAdd]
   apply hK;clear hK K
   refine AW.ret ?_
   simp -implicitDefEqProofs only [go_sem]
   simp [checkR,h1,h2]
  ·simp at hc
 refine AW.rT (by rfl) fun K hK=>?_
 simp -implicitDefEqProofs only [go_sem,↓reduceIte,Nat.reduceAdd,Nat.reduceEqDiff,h1,h2]
 apply hK;clear hK K
 refine AW.cF rfl ?_
 refine AW.skip ?_
 simp only [andThen]
 refine AW.seq ?_
 by_cases h3 : r.wire = 0
 ·refine AW.rT (by rfl) fun K hK=>?_
  simp -implicitDefEqProofs only [go_sem,↓reduceIte,Nat.reduceAdd,Nat.reduceEqDiff,h3]
  apply hK;clear hK K
  refine AW.cond _ (by simp -implicitDefEqProofs only [go_sem]; rfl) (fun hc=>?_) (fun hc=>?_)
  ·refine AW.rT (by rfl) fun K hK=>?_
   simp -implicitDefEqProofs only [go_sem,↓reduceIte,Nat.reduceAdd,Nat.reduceEqDiff]
   apply hK;clear hK K
   refine AW.ret ?_
   simp -implicitDefEqProofs only [go_sem]
   by_cases hb : r.b = [] <;> simp [checkR,h1,h2,h3,hb]
  ·simp at hc
 have h3':=beqf h3
 refine AW.rT (by rfl) fun K hK=>?_
 simp -implicitDefEqProofs only [go_sem,↓reduceIte,Nat.reduceAdd,Nat.reduceEqDiff,h3']
 apply hK;clear hK K
 refine AW.cF rfl ?_
 refine AW.skip ?_
 simp only [andThen]
 by_cases h4 : r.wire = 1
 ·by_cases h5 : r.n = 0
  ·refine AW.rT (by rfl) fun K hK=>?_
   simp -implicitDefEqProofs only [go_sem,↓reduceIte,Nat.reduceAdd,Nat.reduceEqDiff,h4,h5]
   apply hK;clear hK K
   refine AW.ret ?_
   simp -implicitDefEqProofs only [go_sem]
   simp [checkR,h1,h2,h4,h5]
   omega
  ·have h5':=beqf h5
   refine AW.rT (by rfl) fun K hK=>?_
   simp -implicitDefEqProofs only [go_sem,↓reduceIte,Nat.reduceAdd,Nat.reduceEqDiff,h4,h5']
   apply hK;clear hK K
   refine AW.ret ?_
   simp -implicitDefEqProofs only [go_sem]
   simp [checkR,h1,h2,h4,h5]
 ·have h4':=beqf h4
  refine AW.rT (by rfl) fun K hK=>?_
  simp -implicitDefEqProofs only [go_sem,↓reduceIte,Nat.reduceAdd,Nat.reduceEqDiff,h4']
  apply hK;clear hK K
  refine AW.ret ?_
  simp -implicitDefEqProofs only [go_sem]
  simp [checkR,h1,h2,h3,h4]
end Go.Aw.T
namespace Go.Aw.T
open Go.Proofs
end Go.Aw.T
namespace Go.Aw.T
open Go.Proofs
end Go.Aw.T
namespace Go.Aw.T
open Go.Proofs
def hS (b : List UInt8) (x : List Raw × Nat) : St:=⟨ofL [(0,.p (.slice (b.map encB))),(4,.own 0),(5,.p (.int .i64 (x.2 : Int)))],ofH [(0,.row 4 (liftE (x.1.map encRaw)))],1⟩
end Go.Aw.T
namespace Go.Aw.T
open Go.Proofs
theorem Ghost.nilH {nt : Fm} {s : St} {l i j sz sz' : Nat} {es : List (List AV)} {e : List AV} (hl : s.H l = some (.row sz es)) (hi : es[i]? = some e) (hj : e[j]? = some (.ex [])) :
  Ghost nt s ⟨s.T,upd (upd s.H l (some (.row sz (es.set i (e.set j (.own s.nx)))))) s.nx (some (.row sz' [])),s.nx + 1⟩:=by
 rintro w0 X I0 a w ⟨σ,I,hσ,m⟩
 have hb:=m.heap.rows l _ hl
 cases hb with
 | emp h=>simp at hi
 | row h hg hcur hc hs ho hr =>
  rename_i g c cur et
  obtain ⟨u,hu,hru⟩:=hr i e j _ hi hj
  have hnx:=hσ s.nx (Nat.le_refl _)
  have hln : l ≠ s.nx:=by rintro rfl; rw [hnx] at h; cases h
  cases hru with
  | ex he hrep =>
   rename_i ad n
   subst he
   have ext : ∀ l' s',σ l' = some s' → upd σ s.nx (some (.emp ad)) l' = some s':=fun l' s' h'=>by
    rw [upd_ne _ _ (by rintro rfl; rw [hnx] at h'; cases h')]
    exact h'
   have H2:=m.heap.empty hnx ad sz'
   refine ⟨upd σ s.nx (some (.emp ad)),I,fun l' h'=>?_,m.defers,m.size,m.pins,⟨fun l' b' h'=>?_,fun l1 l2 g s1 s2 h1 h2=>?_,fun l' g s' h1=>?_,H2.imm,H2.sub,H2.fr⟩,fun i' x hx=>?_⟩
   ·simp only at h'
    rw [upd_ne _ _ (by omega)]
    exact hσ l' (by omega)
   ·simp only at h'
    by_cases e1 : l' = s.nx
    ·subst e1
     rw [upd_same] at h'
     exact H2.rows s.nx b' (by rw [upd_same]; exact h')
    ·rw [upd_ne _ _ e1] at h'
     by_cases e2 : l' = l
     ·subst e2
      rw [upd_same] at h'
      injection h' with h'
      subst h'
      refine .row (by rw [List.length_set]; exact ext _ _ h) hg hcur (by rw [List.length_set]; exact hc) (fun e' he'=>?_) (fun e' he' x hx=>?_) fun i' e' j' x q1 q2=>?_
      ·rcases List.mem_or_eq_of_mem_set he' with he' | rfl
       ·exact hs e' he'
       ·rw [List.length_set]; exact hs e (List.mem_of_getElem? hi)
      ·rcases List.mem_or_eq_of_mem_set he' with he' | rfl
       ·exact ho e' he' x hx
       ·rcases List.mem_or_eq_of_mem_set hx with hx | rfl
        ·exact ho e (List.mem_of_getElem? hi) x hx
        ·rfl
      ·rw [List.getElem?_set] at q1
       split at q1
       ·rename_i e3
        subst e3
        split at q1
        ·injection q1 with q1
         subst q1
         rw [List.getElem?_set] at q2
         split at q2
         ·rename_i e4
          subst e4
          split at q2
          ·injection q2 with q2
           subst q2
           exact ⟨_,hu,.ownE (upd_same _ _ _)⟩
          ·cases q2
         ·obtain ⟨u',hu',hr'⟩:=hr i e j' x hi q2
          exact ⟨u',hu',hr'.mono ext (fun _ h=>h) (fun _ _=>rfl)⟩
        ·cases q1
       ·obtain ⟨u',hu',hr'⟩:=hr i' e' j' x q1 q2
        exact ⟨u',hu',hr'.mono ext (fun _ h=>h) (fun _ _=>rfl)⟩
     ·rw [upd_ne _ _ e2] at h'
      exact H2.rows l' b' (by rw [upd_ne _ _ e1]; exact h')
   ·refine H2.inj l1 l2 g s1 s2 ?_ ?_
    ·intro h0; apply h1
     show upd (upd s.H l _) s.nx _ l1 = none
     by_cases e1 : l1 = s.nx
     ·subst e1; rw [upd_same] at h0; cases h0
     ·rw [upd_ne _ _ e1] at h0 ⊢
      by_cases e2 : l1 = l
      ·subst e2; rw [hl] at h0; cases h0
      ·rw [upd_ne _ _ e2]; exact h0
    ·intro h0; apply h2
     show upd (upd s.H l _) s.nx _ l2 = none
     by_cases e1 : l2 = s.nx
     ·subst e1; rw [upd_same] at h0; cases h0
     ·rw [upd_ne _ _ e1] at h0 ⊢
      by_cases e2 : l2 = l
      ·subst e2; rw [hl] at h0; cases h0
      ·rw [upd_ne _ _ e2]; exact h0
   ·refine H2.mine l' g s' ?_
    intro h0; apply h1
    show upd (upd s.H l _) s.nx _ l' = none
    by_cases e1 : l' = s.nx
    ·subst e1; rw [upd_same] at h0; cases h0
    ·rw [upd_ne _ _ e1] at h0 ⊢
     by_cases e2 : l' = l
     ·subst e2; rw [hl] at h0; cases h0
     ·rw [upd_ne _ _ e2]; exact h0
   ·obtain ⟨v,hv,hrv⟩:=m.tmps i' x hx
    exact ⟨v,hv,hrv.mono ext (fun _ h=>h) (fun _ _=>rfl)⟩
theorem law00_RawsB (l : List Raw) (hl : l.length ≤ 1000000) : PFn Tryz.prog 31 [.slice (l.map encRaw)] (.slice (l.map encRaw)):=by
 refine PFn.of Tryz.func31 rfl (by decide) Tryz.ntmps31 Tryz.results31 (Nat.le_of_ble_eq_true rfl) ?_
 simp only [argsT]
 refine AW.rT (by rfl) fun K hK=>?_
 simp -implicitDefEqProofs only [go_sem]
 apply hK;clear hK K
 refine AW.rT (by rfl) fun K hK=>?_
 simp -implicitDefEqProofs only [go_sem,↓reduceIte,Nat.reduceAdd,Nat.reduceEqDiff,Nat.reduceLeDiff,reduceCtorEq]
 refine ⟨⟨liftE_len fun e he=>by
   obtain ⟨x,_,rfl⟩:=List.mem_map.1 he
   rfl,liftE_one fun e he p hp=>by
   obtain ⟨x,_,rfl⟩:=List.mem_map.1 he
   simp [encRaw] at hp
   rcases hp with rfl | rfl | rfl | rfl <;> rfl,by simp⟩,⟨.inl trivial,by simp,by simp [liftE_length]; omega⟩,?_⟩
 apply hK;clear hK K
 refine AW.ret ?_
 simp -implicitDefEqProofs only [go_sem]
def tx (t : Tr) (i : Nat) : St:=⟨ofL [(1,.ptr 0 0 0),(2,.ptr 1 0 0),(3,.ptr 2 0 0),(4,.p (.int .i64 (i : Int)))],
 ofH [(0,.row 5 [cellsT t]),(1,.row 5 [[.p (.int .i64 0),.p (.int .i64 0),.p (.str []),.ex [],.ex []]]),(2,.row 5 [[.p (.int .i64 t.kind),.p (.int .i64 t.n),.p (.str t.s),.own 3,.p (.slice (t.rest.map encRaw))]]),
  (3,.row 2 (liftE ((t.ents.take i).map encEn)))],4⟩
def ty (t : Tr) (i : Nat) (e : Int × List Tr) (k : Nat) : St:=⟨ofL [(1,.ptr 0 0 0),(2,.ptr 1 0 0),(3,.ptr 2 0 0),(4,.p (.int .i64 (i : Int))),(5,.ptr 4 0 0),(6,.p (.int .i64 (k : Int)))],
 ofH [(0,.row 5 [cellsT t]),(1,.row 5 [[.p (.int .i64 0),.p (.int .i64 0),.p (.str []),.ex [],.ex []]]),(2,.row 5 [[.p (.int .i64 t.kind),.p (.int .i64 t.n),.p (.str t.s),.own 3,.p (.slice (t.rest.map encRaw))]]),
  (3,.row 2 (liftE ((t.ents.take i).map encEn))),(4,.row 2 [[.p (.int .i64 e.1),.own 5]]),(5,.row 5 (liftE ((e.2.take k).map encTr)))],6⟩
theorem thaw_lift (lb : Nat) (qs ps : List (List PV)) : (liftE ps).map (fun e=>e.map (thaw1 lb qs)) = liftE ps:=by
 simp [liftE,thaw1]
def tz (t : Tr) (i : Nat) (e : Int × List Tr) : St:=⟨ofL [(1,.ptr 0 0 0),(2,.ptr 1 0 0),(3,.ptr 2 0 0),(4,.p (.int .i64 (i : Int))),(5,.ptr 4 0 0)],
 ofH [(0,.row 5 [cellsT t]),(1,.row 5 [[.p (.int .i64 0),.p (.int .i64 0),.p (.str []),.ex [],.ex []]]),(2,.row 5 [[.p (.int .i64 t.kind),.p (.int .i64 t.n),.p (.str t.s),.own 3,.p (.slice (t.rest.map encRaw))]]),
  (3,.row 2 (liftE ((t.ents.take i).map encEn))),(4,.row 2 [[.p (.int .i64 e.1),.p (.slice (e.2.map encTr))]])],5⟩
def tw (t : Tr) : St:=⟨ofL [(2,.ptr 1 0 0),(3,.ptr 2 0 0)],
 ofH [(1,.row 5 [[.p (.int .i64 0),.p (.int .i64 0),.p (.str []),.ex [],.ex []]]),(2,.row 5 [[.p (.int .i64 t.kind),.p (.int .i64 t.n),.p (.str t.s),.p (.slice (t.ents.map encEn)),.p (.slice (t.rest.map encRaw))]])],3⟩
theorem law00_Tree : ∀ (t : Tr),lensT t = true → PFn Tryz.prog 13 [.agg (encTr t)] (.agg (encTr t)):=by
 intro t
 induction h : SizeOf.sizeOf t using Nat.strongRecOn generalizing t with
 | _ sz ih =>
 subst h
 intro hlt
 obtain ⟨la1,la2,la3⟩:=lensT_mk hlt
 refine PFn.of Tryz.func13 rfl (by decide) Tryz.ntmps13 Tryz.results13 (Nat.le_of_ble_eq_true rfl) ?_
 simp only [argsT]
 refine AW.rT (by rfl) fun K hK=>?_
 simp -implicitDefEqProofs only [go_sem,Nat.reduceAdd,encTr_eq]
 apply hK;clear hK K
 refine AW.dT mixed (by rfl) (by decide +kernel) fun K hK=>?_
 simp -implicitDefEqProofs only [go_sem,↓reduceIte,Nat.reduceAdd,Nat.reduceEqDiff,reduceCtorEq]
 refine ⟨.pure _,law00_RawsB t.rest (by omega),?_⟩
 try simp -implicitDefEqProofs only [go_sem,↓reduceIte,Nat.reduceAdd,Nat.reduceEqDiff,Nat.reduceLeDiff]
 refine ⟨by decide +kernel,?_⟩
 apply hK;clear hK K
 refine AW.seq ?_
 refine AW.rT (by rfl) fun K hK=>?_
 simp -implicitDefEqProofs only [go_sem,Nat.reduceAdd]
 apply hK;clear hK K
 refine AW.block ?_
 refine AW.loop (tx t) (fun i=>i ≤ t.ents.length) (fun i=>t.ents.length - i) 0 ?_ (by simp) fun i hi=>?_
 ·refine Ghost.trans (Ghost.nilH (l:=12) (i:=0) (j:=3) (sz':=2) rfl rfl rfl) ?_
  simp only [tx,cellsT]
  refine Ghost.ent (fun l=>if l = 2 then 12 else if l = 3 then 15 else l) ?_ ?_ ?_ <;> simp -implicitDefEqProofs only [go_sem,↓reduceIte,Nat.reduceEqDiff,reduceCtorEq,List.take_zero,List.map_nil,liftE_nil,List.set_cons_zero,List.set_cons_succ,List.forall_mem_cons,List.not_mem_nil,false_implies,implies_true,and_self,List.all_cons,List.all_nil,Nat.reduceLT,labsInL,AV.labsIn]
  rfl
 simp only [tx,cellsT]
 refine AW.seq ?_
 by_cases hil : i < t.ents.length
 ·obtain ⟨e,he⟩ : ∃ e,t.ents[i]? = some e:=⟨_,List.getElem?_eq_getElem hil⟩
  have ⟨he1,he2,he3⟩:=at_map' encEn he
  have ⟨le1,le2⟩:=lensE_at la3 he
  have hc1 : ((i : Int) < (t.ents.length : Int)) = True:=by simp; omega
  refine AW.rT (by rfl) fun K hK=>?_
  simp -implicitDefEqProofs only [go_sem,↓reduceIte,Nat.reduceAdd,Nat.reduceEqDiff,List.length_map,hc1]
  apply hK;clear hK K
  refine AW.cT rfl ?_
  refine AW.skip ?_
  simp only [andThen]
  refine AW.seq ?_
  refine AW.block ?_
  refine AW.rT (by rfl) fun K hK=>?_
  simp -implicitDefEqProofs only [go_sem,↓reduceIte,Nat.reduceAdd,Nat.reduceEqDiff,Nat.reduceLeDiff,he1,he3,hc1,encEn,List.length_map]
  apply hK;clear hK K
  refine AW.seq ?_
  refine AW.rT (by rfl) fun K hK=>?_
  simp -implicitDefEqProofs only [go_sem,Nat.reduceAdd]
  apply hK;clear hK K
  refine AW.block ?_
  refine AW.loop (ty t i e) (fun k=>k ≤ e.2.length) (fun k=>e.2.length - k) 0 ?_ (by simp) fun k hk=>?_
  ·refine Ghost.trans (Ghost.nilH (l:=16) (i:=0) (j:=1) (sz':=5) rfl rfl rfl) ?_
   simp only [ty,cellsT]
   refine Ghost.ent (fun l=>if l = 4 then 16 else if l = 5 then 19 else l) ?_ ?_ ?_ <;> simp -implicitDefEqProofs only [go_sem,↓reduceIte,Nat.reduceEqDiff,reduceCtorEq,List.take_zero,List.map_nil,liftE_nil,List.set_cons_zero,List.set_cons_succ,List.forall_mem_cons,List.not_mem_nil,false_implies,implies_true,and_self,map_renL_lift,labsIn_lift,List.all_cons,List.all_nil,Nat.reduceLT,labsInL,AV.labsIn]
   rfl
  simp only [ty,cellsT]
  refine AW.seq ?_
  by_cases hkl : k < e.2.length
  ·obtain ⟨x,hx⟩ : ∃ x,e.2[k]? = some x:=⟨_,List.getElem?_eq_getElem hkl⟩
   have ⟨hx1,hx2,hx3⟩:=at_map' encTr hx
   have hc2 : ((k : Int) < (e.2.length : Int)) = True:=by simp; omega
   have IH:=ih _ (size_ent he hx) x rfl (lensTs_at le2 hx)
   rw [encTr_eq] at IH
   refine AW.rT (by rfl) fun K hK=>?_
   simp -implicitDefEqProofs only [go_sem,↓reduceIte,Nat.reduceAdd,Nat.reduceEqDiff,he1,he3,hc1,encEn,List.length_map,hc2]
   apply hK;clear hK K
   refine AW.cT rfl ?_
   refine AW.skip ?_
   simp only [andThen]
   refine AW.seq ?_
   refine AW.block ?_
   refine AW.dE mixed (by rfl) (by decide +kernel) fun K hK=>?_
   simp -implicitDefEqProofs only [go_sem,↓reduceIte,Nat.reduceAdd,Nat.reduceEqDiff,Nat.reduceLeDiff,reduceCtorEq,he1,he3,hc1,encEn,List.length_map,hc2,hx1,hx3,encTr_eq]
   refine ⟨.pure _,IH,?_⟩
   try simp -implicitDefEqProofs only [go_sem,↓reduceIte,Nat.reduceAdd,Nat.reduceMul,Nat.reduceEqDiff,Nat.reduceLeDiff,reduceCtorEq]
   refine ⟨⟨by simp,by simp [oneAll,AV.one,PV.one],by simp⟩,by simp [liftE_length]; omega,by decide +kernel,?_⟩
   apply hK;clear hK K
   have w1 : IntKind.wrap .i64 ((k : Int) + 1) = ((k + 1 : Nat) : Int):=by rw [w64] <;> omega
   have e7 : liftE ((e.2.take k).map encTr) ++ [[AV.p (.int .i64 x.kind),.p (.int .i64 x.n),.p (.str x.s),.p (.slice (x.ents.map encEn)),.p (.slice (x.rest.map encRaw))]] = liftE ((e.2.take (k + 1)).map encTr):=by
    rw [List.take_add_one,hx]
    simp [liftE,encTr_eq]
   refine AW.rE (by rfl) fun K hK=>?_
   simp -implicitDefEqProofs only [go_sem,↓reduceIte,Nat.reduceAdd,Nat.reduceEqDiff,w1]
   apply hK;clear hK K
   refine ⟨k + 1,by omega,by omega,?_⟩
   refine Ghost.ent (fun l=>if l = 5 then 28 else l) ?_ ?_ ?_ <;> simp -implicitDefEqProofs only [go_sem,↓reduceIte,Nat.reduceEqDiff,reduceCtorEq,e7,List.forall_mem_cons,List.not_mem_nil,false_implies,implies_true,and_self,map_renL_lift,labsIn_lift,List.all_cons,List.all_nil,Nat.reduceLT,labsInL,AV.labsIn]
  ·have hc2 : ((k : Int) < (e.2.length : Int)) = False:=by simp; omega
   have hk' : k = e.2.length:=by omega
   subst hk'
   refine AW.rT (by rfl) fun K hK=>?_
   simp -implicitDefEqProofs only [go_sem,↓reduceIte,Nat.reduceAdd,Nat.reduceEqDiff,he1,he3,hc1,encEn,List.length_map,hc2]
   apply hK;clear hK K
   refine AW.cF rfl ?_
   refine AW.exit ?_
   simp only [andThen,inBlk,↓reduceIte]
   refine AW.ghost (s':=tz t i e) (Ghost.trans (Ghost.freeze (lb:=5) (ps:=(e.2.take e.2.length).map encTr) rfl (unlift_liftE _)) ?_) ?_
   ·simp only [tz,cellsT]
    refine Ghost.sub ?_ ?_ <;> simp -implicitDefEqProofs only [go_sem,↓reduceIte,Nat.reduceEqDiff,reduceCtorEq,thaw,thaw1,Option.map_some,List.take_length,List.map_cons,List.map_nil,thaw_lift,List.forall_mem_cons,List.not_mem_nil,false_implies,implies_true,and_self,labsIn_lift,List.all_cons,List.all_nil,Nat.reduceLT,labsInL,AV.labsIn]
   simp only [tz,cellsT]
   refine AW.rE (by rfl) fun K hK=>?_
   simp -implicitDefEqProofs only [go_sem,↓reduceIte,Nat.reduceAdd,Nat.reduceMul,Nat.reduceEqDiff,Nat.reduceLeDiff,reduceCtorEq]
   refine ⟨⟨by simp,by simp [oneAll,AV.one,PV.one],by simp⟩,by simp [liftE_length]; omega,?_⟩
   apply hK;clear hK K
   simp only [andThen,inBlk]
   have w1 : IntKind.wrap .i64 ((i : Int) + 1) = ((i + 1 : Nat) : Int):=by rw [w64] <;> omega
   have e8 : liftE ((t.ents.take i).map encEn) ++ [[AV.p (.int .i64 e.1),.p (.slice (e.2.map encTr))]] = liftE ((t.ents.take (i + 1)).map encEn):=by
    rw [List.take_add_one,he]
    simp [liftE,encEn]
   refine AW.rE (by rfl) fun K hK=>?_
   simp -implicitDefEqProofs only [go_sem,↓reduceIte,Nat.reduceAdd,Nat.reduceEqDiff,w1]
   apply hK;clear hK K
   refine ⟨i + 1,by omega,by omega,?_⟩
   refine Ghost.ent (fun l=>if l = 3 then 9 else l) ?_ ?_ ?_ <;> simp -implicitDefEqProofs only [go_sem,↓reduceIte,Nat.reduceEqDiff,reduceCtorEq,e8,List.forall_mem_cons,List.not_mem_nil,false_implies,implies_true,and_self,map_renL_lift,labsIn_lift,List.all_cons,List.all_nil,Nat.reduceLT,labsInL,AV.labsIn]
 ·have hc1 : ((i : Int) < (t.ents.length : Int)) = False:=by simp; omega
  have hi' : i = t.ents.length:=by omega
  subst hi'
  refine AW.rT (by rfl) fun K hK=>?_
  simp -implicitDefEqProofs only [go_sem,↓reduceIte,Nat.reduceAdd,Nat.reduceEqDiff,List.length_map,hc1]
  apply hK;clear hK K
  refine AW.cF rfl ?_
  refine AW.exit ?_
  simp only [andThen,inBlk,↓reduceIte]
  refine AW.ghost (s':=tw t) (Ghost.trans (Ghost.freeze (lb:=3) (ps:=(t.ents.take t.ents.length).map encEn) rfl (unlift_liftE _)) ?_) ?_
  ·simp only [tw]
   refine Ghost.sub ?_ ?_ <;> simp -implicitDefEqProofs only [go_sem,↓reduceIte,Nat.reduceEqDiff,reduceCtorEq,thaw,thaw1,Option.map_some,List.take_length,List.map_cons,List.map_nil,List.forall_mem_cons,List.not_mem_nil,false_implies,implies_true,and_self,List.all_cons,List.all_nil,Nat.reduceLT,labsInL,AV.labsIn]
  simp only [tw]
  refine AW.rT (by rfl) fun K hK=>?_
  simp -implicitDefEqProofs only [go_sem,↓reduceIte,Nat.reduceAdd,Nat.reduceEqDiff,Nat.reduceLeDiff]
  apply hK;clear hK K
  refine AW.ret ?_
  simp -implicitDefEqProofs only [go_sem,↓reduceIte,Nat.reduceAdd,Nat.reduceEqDiff,Nat.reduceLeDiff,encTr_eq]
end Go.Aw.T
namespace Go.Aw.T
open Go.Proofs
mutual
def dT : Tr → Nat → Nat
 | .mk k _ _ es _,m=>if k ≠ 3 ∨ m = 0 then 0 else dE es (m - 1) 0 + 1
def dE : List (Int × List Tr) → Nat → Nat → Nat
 | [],_,d=>d
 | (_,l) :: r,m,d=>dE r m (dTs l m d)
def dTs : List Tr → Nat → Nat → Nat
 | [],_,d=>d
 | x :: l,m,d=>dTs l m (max d (dT x m))
end
mutual
theorem dT_le : ∀ (t : Tr) (m : Nat),dT t m ≤ m
 | .mk k _ _ es _,m=>by
  rw [dT]
  split
  ·omega
  ·rename_i h
   have:=dE_le es (m - 1) 0
   omega
theorem dE_le : ∀ (es : List (Int × List Tr)) (m d : Nat),dE es m d ≤ max d m
 | [],m,d=>by rw [dE]; omega
 | (_,l) :: r,m,d=>by
  rw [dE]
  have h1:=dE_le r m (dTs l m d)
  have h2:=dTs_le l m d
  omega
theorem dTs_le : ∀ (l : List Tr) (m d : Nat),dTs l m d ≤ max d m
 | [],m,d=>by rw [dTs]; omega
 | x :: l,m,d=>by
  rw [dTs]
  have h1:=dTs_le l m (max d (dT x m))
  have h2:=dT_le x m
  omega
end
theorem dT_mk (t : Tr) (m : Nat) : dT t m = if t.kind ≠ 3 ∨ m = 0 then 0 else dE t.ents (m - 1) 0 + 1:=by
 cases t; rw [dT]; rfl
theorem dE_at {es : List (Int × List Tr)} {i : Nat} {e : Int × List Tr} (h : es[i]? = some e) (m d : Nat) : dE (es.drop i) m d = dE (es.drop (i + 1)) m (dTs e.2 m d):=by
 rw [List.drop_eq_getElem_cons (List.getElem?_eq_some_iff.1 h).1,(List.getElem?_eq_some_iff.1 h).2]
 obtain ⟨a,l⟩:=e
 rw [dE]
theorem dTs_at {l : List Tr} {k : Nat} {x : Tr} (h : l[k]? = some x) (m d : Nat) : dTs (l.drop k) m d = dTs (l.drop (k + 1)) m (max d (dT x m)):=by
 rw [List.drop_eq_getElem_cons (List.getElem?_eq_some_iff.1 h).1,(List.getElem?_eq_some_iff.1 h).2,dTs]
def dS (t : Tr) (m d : Nat) (l : List (Nat × AV)) : St:=⟨ofL ([(1,.p (.int .i64 (m : Int))),(2,.ptr 0 0 0),(5,.p (.int .i64 (d : Int)))] ++ l),ofH [(0,.row 5 [cellsT t])],1⟩
theorem value_deep : ∀ (t : Tr) (m : Nat),lensT t = true → m ≤ 1000 → PFn Tryz.prog 90 [.agg (encTr t),.int .i64 (m : Int)] (.int .i64 (dT t m : Int)):=by
 intro t
 induction h : SizeOf.sizeOf t using Nat.strongRecOn generalizing t with
 | _ sz ih =>
 subst h
 intro m hlt hm
 obtain ⟨la1,la2,la3⟩:=lensT_mk hlt
 have sT:=dT_mk t m
 refine PFn.of Tryz.func90 rfl (by decide) Tryz.ntmps90 Tryz.results90 (Nat.le_of_ble_eq_true rfl) ?_
 simp only [argsT]
 refine AW.rT (by rfl) fun K hK=>?_
 simp -implicitDefEqProofs only [go_sem,Nat.reduceAdd,encTr_eq]
 apply hK;clear hK K
 refine AW.seq ?_
 by_cases c1 : t.kind = 3
 case neg =>
  have b1 : (t.kind != 3) = true:=by simpa using c1
  rw [if_pos (.inl c1)] at sT
  refine AW.rT (by rfl) fun K hK=>?_
  simp -implicitDefEqProofs only [go_sem,↓reduceIte,Nat.reduceAdd,Nat.reduceEqDiff,b1]
  apply hK;clear hK K
  refine AW.cond _ (by simp -implicitDefEqProofs only [go_sem]; rfl) (fun hc=>?_) (fun hc=>?_)
  ·refine AW.rT (by rfl) fun K hK=>?_
   simp -implicitDefEqProofs only [go_sem,Nat.reduceAdd]
   apply hK;clear hK K
   refine AW.ret ?_
   simp -implicitDefEqProofs only [go_sem,sT]
   rfl
  ·simp at hc
 have b1 : (t.kind != 3) = false:=by simpa using c1
 by_cases c2 : m = 0
 case pos =>
  have b2 : ((m : Int) == 0) = true:=by simp; exact c2
  rw [if_pos (.inr c2)] at sT
  refine AW.rT (by rfl) fun K hK=>?_
  simp -implicitDefEqProofs only [go_sem,↓reduceIte,Nat.reduceAdd,Nat.reduceEqDiff,b1,b2]
  apply hK;clear hK K
  refine AW.cond _ (by simp -implicitDefEqProofs only [go_sem]; rfl) (fun hc=>?_) (fun hc=>?_)
  ·refine AW.rT (by rfl) fun K hK=>?_
   simp -implicitDefEqProofs only [go_sem,Nat.reduceAdd]
   apply hK;clear hK K
   refine AW.ret ?_
   simp -implicitDefEqProofs only [go_sem,sT]
   rfl
  ·simp at hc
 have b2 : ((m : Int) == 0) = false:=by simp; exact c2
 rw [if_neg (by omega)] at sT
 refine AW.rT (by rfl) fun K hK=>?_
 simp -implicitDefEqProofs only [go_sem,↓reduceIte,Nat.reduceAdd,Nat.reduceEqDiff,b1,b2]
 apply hK;clear hK K
 refine AW.cF rfl ?_
 refine AW.skip ?_
 simp only [andThen]
 refine AW.rT (by rfl) fun K hK=>?_
 simp -implicitDefEqProofs only [go_sem,Nat.reduceAdd]
 apply hK;clear hK K
 refine AW.seq ?_
 refine AW.rT (by rfl) fun K hK=>?_
 simp -implicitDefEqProofs only [go_sem,↓reduceIte,Nat.reduceAdd,Nat.reduceEqDiff,List.length_map]
 apply hK;clear hK K
 refine AW.block ?_
 refine AW.loop (fun x : Nat × Nat=>dS t m x.2 [(18,.p (.slice (t.ents.map encEn))),(19,.p (.int .i64 (t.ents.length : Int))),(20,.p (.int .i64 (x.1 : Int)))]) (fun x=>x.1 ≤ t.ents.length ∧ x.2 ≤ 1000 ∧ dE t.ents (m - 1) 0 = dE (t.ents.drop x.1) (m - 1) x.2) (fun x=>t.ents.length - x.1) (0,0) ?_ ⟨by simp,by simp,by rw [List.drop_zero]⟩ fun x hx=>?_
 ·simp only [dS,cellsT,List.cons_append,List.nil_append]
  refine Ghost.sub ?_ ?_ <;> simp -implicitDefEqProofs only [go_sem,↓reduceIte,Nat.reduceEqDiff,List.forall_mem_cons,List.not_mem_nil,false_implies,implies_true,and_self,List.all_cons,List.all_nil,Nat.reduceLT,labsInL,AV.labsIn]
  rfl
 obtain ⟨i,d⟩:=x
 obtain ⟨e1,e2,e3⟩:=hx
 dsimp only at e1 e2 e3
 simp only [dS,cellsT,List.cons_append,List.nil_append]
 by_cases hil : i < t.ents.length
 case neg =>
  have hc1 : ((i : Int) < (t.ents.length : Int)) = False:=by simp; omega
  rw [List.drop_of_length_le (by omega),dE] at e3
  refine AW.rT (by rfl) fun K hK=>?_
  simp -implicitDefEqProofs only [go_sem,↓reduceIte,Nat.reduceAdd,Nat.reduceEqDiff,hc1]
  apply hK;clear hK K
  refine AW.seq ?_
  refine AW.cF rfl ?_
  refine AW.exit ?_
  simp only [andThen,inBlk,↓reduceIte]
  have w1 : IntKind.wrap .i64 ((d : Int) + 1) = ((d + 1 : Nat) : Int):=by rw [w64] <;> omega
  refine AW.rT (by rfl) fun K hK=>?_
  simp -implicitDefEqProofs only [go_sem,↓reduceIte,Nat.reduceAdd,Nat.reduceEqDiff,w1]
  apply hK;clear hK K
  refine AW.ret ?_
  simp -implicitDefEqProofs only [go_sem,sT,e3]
 obtain ⟨e,he⟩ : ∃ e,t.ents[i]? = some e:=⟨_,List.getElem?_eq_getElem hil⟩
 have ⟨he1,he2,he3⟩:=at_map' encEn he
 have ⟨le1,le2⟩:=lensE_at la3 he
 have hc1 : ((i : Int) < (t.ents.length : Int)) = True:=by simp; omega
 have sE:=dE_at he (m - 1) d
 refine AW.rT (by rfl) fun K hK=>?_
 simp -implicitDefEqProofs only [go_sem,↓reduceIte,Nat.reduceAdd,Nat.reduceEqDiff,hc1]
 apply hK;clear hK K
 refine AW.seq ?_
 refine AW.cT rfl ?_
 refine AW.skip ?_
 simp only [andThen]
 refine AW.seq ?_
 refine AW.block ?_
 refine AW.rT (by rfl) fun K hK=>?_
 simp -implicitDefEqProofs only [go_sem,↓reduceIte,Nat.reduceAdd,Nat.reduceEqDiff,Nat.reduceLeDiff,he1,he3,hc1,encEn,List.length_map]
 apply hK;clear hK K
 refine AW.rT (by rfl) fun K hK=>?_
 simp -implicitDefEqProofs only [go_sem,Nat.reduceAdd,List.length_map]
 apply hK;clear hK K
 refine AW.block ?_
 refine AW.loop (fun y : Nat × Nat=>dS t m y.2 [(18,.p (.slice (t.ents.map encEn))),(19,.p (.int .i64 (t.ents.length : Int))),(20,.p (.int .i64 (i : Int))),(25,.p (.slice (e.2.map encTr))),(26,.p (.int .i64 (e.2.length : Int))),(27,.p (.int .i64 (y.1 : Int)))])
  (fun y=>y.1 ≤ e.2.length ∧ y.2 ≤ 1000 ∧ dTs e.2 (m - 1) d = dTs (e.2.drop y.1) (m - 1) y.2) (fun y=>e.2.length - y.1) (0,d) ?_ ⟨by simp,e2,by rw [List.drop_zero]⟩ fun y hy=>?_
 ·simp only [dS,cellsT,List.cons_append,List.nil_append]
  refine Ghost.sub ?_ ?_ <;> simp -implicitDefEqProofs only [go_sem,↓reduceIte,Nat.reduceEqDiff,reduceCtorEq,List.forall_mem_cons,List.not_mem_nil,false_implies,implies_true,and_self,List.all_cons,List.all_nil,Nat.reduceLT,labsInL,AV.labsIn]
  rfl
 obtain ⟨k,d'⟩:=y
 obtain ⟨f1,f2,f3⟩:=hy
 dsimp only at f1 f2 f3
 simp only [dS,cellsT,List.cons_append,List.nil_append]
 by_cases hkl : k < e.2.length
 ·obtain ⟨x,hx⟩ : ∃ x,e.2[k]? = some x:=⟨_,List.getElem?_eq_getElem hkl⟩
  have ⟨hx1,hx2,hx3⟩:=at_map' encTr hx
  have hc2 : ((k : Int) < (e.2.length : Int)) = True:=by simp; omega
  have sK:=dTs_at hx (m - 1) d'
  have IH:=ih _ (size_ent he hx) x rfl (m - 1) (lensTs_at le2 hx) (by omega)
  rw [encTr_eq] at IH
  have dl:=dT_le x (m - 1)
  refine AW.rT (by rfl) fun K hK=>?_
  simp -implicitDefEqProofs only [go_sem,↓reduceIte,Nat.reduceAdd,Nat.reduceEqDiff,hc2]
  apply hK;clear hK K
  refine AW.seq ?_
  refine AW.cT rfl ?_
  refine AW.skip ?_
  simp only [andThen]
  refine AW.seq ?_
  refine AW.block ?_
  refine AW.rT (by rfl) fun K hK=>?_
  simp -implicitDefEqProofs only [go_sem,↓reduceIte,Nat.reduceAdd,Nat.reduceEqDiff,Nat.reduceLeDiff,hx1,hx3,hc2,encTr_eq,List.length_map]
  apply hK;clear hK K
  have wm : IntKind.wrap .i64 ((m : Int) - 1) = ((m - 1 : Nat) : Int):=by rw [w64] <;> omega
  refine AW.rE (by rfl) fun K hK=>?_
  simp -implicitDefEqProofs only [go_sem,↓reduceIte,Nat.reduceAdd,Nat.reduceEqDiff,Nat.reduceLeDiff,wm]
  refine ⟨.pure _,IH,?_⟩
  try simp -implicitDefEqProofs only [go_sem,↓reduceIte,Nat.reduceAdd,Nat.reduceEqDiff]
  have wx : (if ((dT x (m - 1) : Nat) : Int) > (d' : Int) then ((dT x (m - 1) : Nat) : Int) else (d' : Int)) = ((max d' (dT x (m - 1)) : Nat) : Int):=by
   split <;> omega
  simp -implicitDefEqProofs only [go_sem,wx]
  apply hK;clear hK K
  simp only [andThen,inBlk]
  have w1 : IntKind.wrap .i64 ((k : Int) + 1) = ((k + 1 : Nat) : Int):=by rw [w64] <;> omega
  refine AW.rE (by rfl) fun K hK=>?_
  simp -implicitDefEqProofs only [go_sem,↓reduceIte,Nat.reduceAdd,Nat.reduceEqDiff,w1]
  apply hK;clear hK K
  refine ⟨(k + 1,max d' (dT x (m - 1))),⟨by show k + 1 ≤ e.2.length; omega,by show max d' (dT x (m - 1)) ≤ 1000; omega,f3.trans sK⟩,by show e.2.length - (k + 1) < e.2.length - k; omega,?_⟩
  refine Ghost.sub ?_ ?_ <;> simp -implicitDefEqProofs only [go_sem,↓reduceIte,Nat.reduceEqDiff,reduceCtorEq,List.forall_mem_cons,List.not_mem_nil,false_implies,implies_true,and_self,List.all_cons,List.all_nil,Nat.reduceLT,labsInL,AV.labsIn]
 ·have hc2 : ((k : Int) < (e.2.length : Int)) = False:=by simp; omega
  rw [List.drop_of_length_le (by omega),dTs] at f3
  refine AW.rT (by rfl) fun K hK=>?_
  simp -implicitDefEqProofs only [go_sem,↓reduceIte,Nat.reduceAdd,Nat.reduceEqDiff,hc2]
  apply hK;clear hK K
  refine AW.seq ?_
  refine AW.cF rfl ?_
  refine AW.exit ?_
  simp only [andThen,inBlk,↓reduceIte]
  have w1 : IntKind.wrap .i64 ((i : Int) + 1) = ((i + 1 : Nat) : Int):=by rw [w64] <;> omega
  refine AW.rE (by rfl) fun K hK=>?_
  simp -implicitDefEqProofs only [go_sem,↓reduceIte,Nat.reduceAdd,Nat.reduceEqDiff,w1]
  apply hK;clear hK K
  refine ⟨(i + 1,d'),⟨by show i + 1 ≤ t.ents.length; omega,f2,by show _ = dE (t.ents.drop (i + 1)) (m - 1) d'; rw [e3,sE,f3]⟩,by show t.ents.length - (i + 1) < t.ents.length - i; omega,?_⟩
  refine Ghost.sub ?_ ?_ <;> simp -implicitDefEqProofs only [go_sem,↓reduceIte,Nat.reduceEqDiff,List.forall_mem_cons,List.not_mem_nil,false_implies,implies_true,and_self,List.all_cons,List.all_nil,Nat.reduceLT,labsInL,AV.labsIn]
theorem value_Depth (t : Tr) (hl : lensT t = true) : PFn Tryz.prog 77 [.agg (encTr t)] (.int .i64 (dT t 101 : Int)):=by
 have:=value_deep t 101 hl (by decide)
 rw [encTr_eq] at this
 refine PFn.of Tryz.func77 rfl (by decide) Tryz.ntmps77 Tryz.results77 (Nat.le_of_ble_eq_true rfl) ?_
 simp only [argsT]
 refine AW.rT (by rfl) fun K hK=>?_
 simp -implicitDefEqProofs only [go_sem,Nat.reduceAdd,encTr_eq]
 apply hK;clear hK K
 refine AW.rT (by rfl) fun K hK=>?_
 simp -implicitDefEqProofs only [go_sem,↓reduceIte,Nat.reduceAdd,Nat.reduceEqDiff,Nat.reduceLeDiff]
 refine ⟨.pure _,this,?_⟩
 try simp -implicitDefEqProofs only [go_sem,Nat.reduceAdd]
 apply hK;clear hK K
 refine AW.ret ?_
 simp -implicitDefEqProofs only [go_sem]
def rS (t : Tr) (m d : Nat) (l : List (Nat × AV)) : St:=⟨ofL ([(1,.p (.int .i64 ((101 : Int) - m))),(2,.ptr 0 0 0),(5,.p (.int .i64 (d : Int)))] ++ l),ofH [(0,.row 5 [cellsT t])],1⟩
theorem ref09_depth : ∀ (t : Tr) (m : Nat),lensT t = true → m ≤ 101 → PFn Tryz.prog 68 [.agg (encTr t),.int .i64 ((101 : Int) - m)] (.int .i64 (dT t m : Int)):=by
 intro t
 induction h : SizeOf.sizeOf t using Nat.strongRecOn generalizing t with
 | _ sz ih =>
 subst h
 intro m hlt hm
 obtain ⟨la1,la2,la3⟩:=lensT_mk hlt
 have sT:=dT_mk t m
 have sl:=dT_le t m
 refine PFn.of Tryz.func68 rfl (by decide) Tryz.ntmps68 Tryz.results68 (Nat.le_of_ble_eq_true rfl) ?_
 simp only [argsT]
 refine AW.rT (by rfl) fun K hK=>?_
 simp -implicitDefEqProofs only [go_sem,Nat.reduceAdd,encTr_eq]
 apply hK;clear hK K
 refine AW.seq ?_
 by_cases c1 : t.kind = 3
 case neg =>
  have b1 : (t.kind != 3) = true:=by simpa using c1
  rw [if_pos (.inl c1)] at sT
  refine AW.rT (by rfl) fun K hK=>?_
  simp -implicitDefEqProofs only [go_sem,↓reduceIte,Nat.reduceAdd,Nat.reduceEqDiff,b1]
  apply hK;clear hK K
  refine AW.cond _ (by simp -implicitDefEqProofs only [go_sem]; rfl) (fun hc=>?_) (fun hc=>?_)
  ·refine AW.rT (by rfl) fun K hK=>?_
   simp -implicitDefEqProofs only [go_sem,Nat.reduceAdd]
   apply hK;clear hK K
   refine AW.ret ?_
   simp -implicitDefEqProofs only [go_sem,sT]
   rfl
  ·simp at hc
 have b1 : (t.kind != 3) = false:=by simpa using c1
 by_cases c2 : m = 0
 case pos =>
  have b2 : ((101 : Int) - (m : Int) > 100) = True:=by simp; omega
  rw [if_pos (.inr c2)] at sT
  refine AW.rT (by rfl) fun K hK=>?_
  simp -implicitDefEqProofs only [go_sem,↓reduceIte,Nat.reduceAdd,Nat.reduceEqDiff,b1,b2]
  apply hK;clear hK K
  refine AW.cond _ (by simp -implicitDefEqProofs only [go_sem]; rfl) (fun hc=>?_) (fun hc=>?_)
  ·refine AW.rT (by rfl) fun K hK=>?_
   simp -implicitDefEqProofs only [go_sem,Nat.reduceAdd]
   apply hK;clear hK K
   refine AW.ret ?_
   simp -implicitDefEqProofs only [go_sem,sT]
   rfl
  ·simp at hc
 have b2 : ((101 : Int) - (m : Int) > 100) = False:=by simp; omega
 rw [if_neg (by omega)] at sT
 refine AW.rT (by rfl) fun K hK=>?_
 simp -implicitDefEqProofs only [go_sem,↓reduceIte,Nat.reduceAdd,Nat.reduceEqDiff,b1,b2]
 apply hK;clear hK K
 refine AW.cF rfl ?_
 refine AW.skip ?_
 simp only [andThen]
 refine AW.rT (by rfl) fun K hK=>?_
 simp -implicitDefEqProofs only [go_sem,Nat.reduceAdd]
 apply hK;clear hK K
 refine AW.seq ?_
 refine AW.rT (by rfl) fun K hK=>?_
 simp -implicitDefEqProofs only [go_sem,Nat.reduceAdd]
 apply hK;clear hK K
 refine AW.block ?_
 refine AW.loop (fun x : Nat × Nat=>rS t m x.2 [(6,.p (.int .i64 (x.1 : Int)))]) (fun x=>x.1 ≤ t.ents.length ∧ x.2 ≤ 1000 ∧ dE t.ents (m - 1) 0 = dE (t.ents.drop x.1) (m - 1) x.2) (fun x=>t.ents.length - x.1) (0,0) ?_ ⟨by simp,by simp,by rw [List.drop_zero]⟩ fun x hx=>?_
 ·simp only [rS,cellsT,List.cons_append,List.nil_append]
  refine Ghost.sub ?_ ?_ <;> simp -implicitDefEqProofs only [go_sem,↓reduceIte,Nat.reduceEqDiff,List.forall_mem_cons,List.not_mem_nil,false_implies,implies_true,and_self,List.all_cons,List.all_nil,Nat.reduceLT,labsInL,AV.labsIn]
  rfl
 obtain ⟨i,d⟩:=x
 obtain ⟨e1,e2,e3⟩:=hx
 dsimp only at e1 e2 e3
 simp only [rS,cellsT,List.cons_append,List.nil_append]
 refine AW.seq ?_
 by_cases hil : i < t.ents.length
 case neg =>
  have hc1 : ((i : Int) < (t.ents.length : Int)) = False:=by simp; omega
  rw [List.drop_of_length_le (by omega),dE] at e3
  refine AW.rT (by rfl) fun K hK=>?_
  simp -implicitDefEqProofs only [go_sem,↓reduceIte,Nat.reduceAdd,Nat.reduceEqDiff,hc1,List.length_map]
  apply hK;clear hK K
  refine AW.cF rfl ?_
  refine AW.exit ?_
  simp only [andThen,inBlk,↓reduceIte]
  have w1 : IntKind.wrap .i64 ((d : Int) + 1) = ((d + 1 : Nat) : Int):=by rw [w64] <;> omega
  have wmn : (if (101 : Int) < ((d + 1 : Nat) : Int) then (101 : Int) else ((d + 1 : Nat) : Int)) = ((d + 1 : Nat) : Int):=by split <;> omega
  refine AW.rT (by rfl) fun K hK=>?_
  simp -implicitDefEqProofs only [go_sem,↓reduceIte,Nat.reduceAdd,Nat.reduceEqDiff,w1,wmn]
  apply hK;clear hK K
  refine AW.ret ?_
  simp -implicitDefEqProofs only [go_sem,sT,e3]
 obtain ⟨e,he⟩ : ∃ e,t.ents[i]? = some e:=⟨_,List.getElem?_eq_getElem hil⟩
 have ⟨he1,he2,he3⟩:=at_map' encEn he
 have ⟨le1,le2⟩:=lensE_at la3 he
 have hc1 : ((i : Int) < (t.ents.length : Int)) = True:=by simp; omega
 have sE:=dE_at he (m - 1) d
 refine AW.rT (by rfl) fun K hK=>?_
 simp -implicitDefEqProofs only [go_sem,↓reduceIte,Nat.reduceAdd,Nat.reduceEqDiff,hc1,List.length_map]
 apply hK;clear hK K
 refine AW.cT rfl ?_
 refine AW.skip ?_
 simp only [andThen]
 refine AW.seq ?_
 refine AW.block ?_
 refine AW.rT (by rfl) fun K hK=>?_
 simp -implicitDefEqProofs only [go_sem,Nat.reduceAdd]
 apply hK;clear hK K
 refine AW.block ?_
 refine AW.loop (fun y : Nat × Nat=>rS t m y.2 [(6,.p (.int .i64 (i : Int))),(7,.p (.int .i64 (y.1 : Int)))])
  (fun y=>y.1 ≤ e.2.length ∧ y.2 ≤ 1000 ∧ dTs e.2 (m - 1) d = dTs (e.2.drop y.1) (m - 1) y.2) (fun y=>e.2.length - y.1) (0,d) ?_ ⟨by simp,e2,by rw [List.drop_zero]⟩ fun y hy=>?_
 ·simp only [rS,cellsT,List.cons_append,List.nil_append]
  refine Ghost.sub ?_ ?_ <;> simp -implicitDefEqProofs only [go_sem,↓reduceIte,Nat.reduceEqDiff,List.forall_mem_cons,List.not_mem_nil,false_implies,implies_true,and_self,List.all_cons,List.all_nil,Nat.reduceLT,labsInL,AV.labsIn]
  rfl
 obtain ⟨k,d'⟩:=y
 obtain ⟨f1,f2,f3⟩:=hy
 dsimp only at f1 f2 f3
 simp only [rS,cellsT,List.cons_append,List.nil_append]
 refine AW.seq ?_
 by_cases hkl : k < e.2.length
 ·obtain ⟨x,hx⟩ : ∃ x,e.2[k]? = some x:=⟨_,List.getElem?_eq_getElem hkl⟩
  have ⟨hx1,hx2,hx3⟩:=at_map' encTr hx
  have hc2 : ((k : Int) < (e.2.length : Int)) = True:=by simp; omega
  have sK:=dTs_at hx (m - 1) d'
  have IH:=ih _ (size_ent he hx) x rfl (m - 1) (lensTs_at le2 hx) (by omega)
  rw [encTr_eq] at IH
  have dl:=dT_le x (m - 1)
  refine AW.rT (by rfl) fun K hK=>?_
  simp -implicitDefEqProofs only [go_sem,↓reduceIte,Nat.reduceAdd,Nat.reduceEqDiff,he1,he3,hc1,encEn,List.length_map,hc2]
  apply hK;clear hK K
  refine AW.cT rfl ?_
  refine AW.skip ?_
  simp only [andThen]
  refine AW.seq ?_
  refine AW.block ?_
  have wm : IntKind.wrap .i64 ((101 : Int) - (m : Int) + 1) = (101 : Int) - ((m - 1 : Nat) : Int):=by rw [w64] <;> omega
  refine AW.rE (by rfl) fun K hK=>?_
  simp -implicitDefEqProofs only [go_sem,↓reduceIte,Nat.reduceAdd,Nat.reduceEqDiff,Nat.reduceLeDiff,he1,he3,hc1,encEn,hx1,hx3,hc2,encTr_eq,List.length_map,wm]
  refine ⟨.pure _,IH,?_⟩
  try simp -implicitDefEqProofs only [go_sem,↓reduceIte,Nat.reduceAdd,Nat.reduceEqDiff]
  have wx : (if ((dT x (m - 1) : Nat) : Int) > (d' : Int) then ((dT x (m - 1) : Nat) : Int) else (d' : Int)) = ((max d' (dT x (m - 1)) : Nat) : Int):=by
   split <;> omega
  simp -implicitDefEqProofs only [go_sem,wx]
  apply hK;clear hK K
  simp only [andThen,inBlk]
  have w1 : IntKind.wrap .i64 ((k : Int) + 1) = ((k + 1 : Nat) : Int):=by rw [w64] <;> omega
  refine AW.rE (by rfl) fun K hK=>?_
  simp -implicitDefEqProofs only [go_sem,↓reduceIte,Nat.reduceAdd,Nat.reduceEqDiff,w1]
  apply hK;clear hK K
  refine ⟨(k + 1,max d' (dT x (m - 1))),⟨by show k + 1 ≤ e.2.length; omega,by show max d' (dT x (m - 1)) ≤ 1000; omega,f3.trans sK⟩,by show e.2.length - (k + 1) < e.2.length - k; omega,?_⟩
  refine Ghost.sub ?_ ?_ <;> simp -implicitDefEqProofs only [go_sem,↓reduceIte,Nat.reduceEqDiff,List.forall_mem_cons,List.not_mem_nil,false_implies,implies_true,and_self,List.all_cons,List.all_nil,Nat.reduceLT,labsInL,AV.labsIn]
 ·have hc2 : ((k : Int) < (e.2.length : Int)) = False:=by simp; omega
  rw [List.drop_of_length_le (by omega),dTs] at f3
  refine AW.rT (by rfl) fun K hK=>?_
  simp -implicitDefEqProofs only [go_sem,↓reduceIte,Nat.reduceAdd,Nat.reduceEqDiff,he1,he3,hc1,encEn,List.length_map,hc2]
  apply hK;clear hK K
  refine AW.cF rfl ?_
  refine AW.exit ?_
  simp only [andThen,inBlk,↓reduceIte]
  have w1 : IntKind.wrap .i64 ((i : Int) + 1) = ((i + 1 : Nat) : Int):=by rw [w64] <;> omega
  refine AW.rE (by rfl) fun K hK=>?_
  simp -implicitDefEqProofs only [go_sem,↓reduceIte,Nat.reduceAdd,Nat.reduceEqDiff,w1]
  apply hK;clear hK K
  refine ⟨(i + 1,d'),⟨by show i + 1 ≤ t.ents.length; omega,f2,by show _ = dE (t.ents.drop (i + 1)) (m - 1) d'; rw [e3,sE,f3]⟩,by show t.ents.length - (i + 1) < t.ents.length - i; omega,?_⟩
  refine Ghost.sub ?_ ?_ <;> simp -implicitDefEqProofs only [go_sem,↓reduceIte,Nat.reduceEqDiff,List.forall_mem_cons,List.not_mem_nil,false_implies,implies_true,and_self,List.all_cons,List.all_nil,Nat.reduceLT,labsInL,AV.labsIn]
theorem ref09_Depth (t : Tr) (hl : lensT t = true) : PFn Tryz.prog 50 [.agg (encTr t)] (.int .i64 (dT t 101 : Int)):=by
 have:=ref09_depth t 101 hl (by decide)
 rw [encTr_eq] at this
 refine PFn.of Tryz.func50 rfl (by decide) Tryz.ntmps50 Tryz.results50 (Nat.le_of_ble_eq_true rfl) ?_
 simp only [argsT]
 refine AW.rT (by rfl) fun K hK=>?_
 simp -implicitDefEqProofs only [go_sem,Nat.reduceAdd,encTr_eq]
 apply hK;clear hK K
 refine AW.rT (by rfl) fun K hK=>?_
 simp -implicitDefEqProofs only [go_sem,↓reduceIte,Nat.reduceAdd,Nat.reduceEqDiff,Nat.reduceLeDiff]
 refine ⟨.pure _,this,?_⟩
 try simp -implicitDefEqProofs only [go_sem,Nat.reduceAdd]
 apply hK;clear hK K
 refine AW.ret ?_
 simp -implicitDefEqProofs only [go_sem]
end Go.Aw.T
namespace Go.Aw.T
open Go.Proofs
def headK : List Tr → Int
 | []=>0
 | x :: _=>x.kind
def restT (es : List (Int × List Tr)) (rest : List Raw) : Bool:=rest.all (fun r=>checkR r && es.all (fun e=>e.1 != r.tag)) && rising rest
mutual
def rightT : Tr → Bool
 | .mk k n s es rest=>if k = 1 then decide (s = []) && es.isEmpty && decide (rest = []) else if k = 2 then decide (n = 0) && es.isEmpty && decide (rest = []) else if k = 3 then decide (n = 0) && decide (s = []) && rightE es 0 && restT es rest else false
def rightE : List (Int × List Tr) → Int → Bool
 | [],_=>true
 | (t,l) :: r,last=>if t ≤ last ∨ 500 < t ∨ l.length < 1 ∨ 64 < l.length then false else if rightTs l (headK l) = true then rightE r t else false
def rightTs : List Tr → Int → Bool
 | [],_=>true
 | x :: l,k=>if x.kind ≠ k then false else if rightT x = true then rightTs l k else false
end
theorem rightT_mk (t : Tr) : rightT t = if t.kind = 1 then decide (t.s = []) && t.ents.isEmpty && decide (t.rest = []) else if t.kind = 2 then decide (t.n = 0) && t.ents.isEmpty && decide (t.rest = []) else if t.kind = 3 then decide (t.n = 0) && decide (t.s = []) && rightE t.ents 0 && restT t.ents t.rest else false:=by
 cases t; rw [rightT]; rfl
theorem rightE_at {es : List (Int × List Tr)} {i : Nat} {e : Int × List Tr} (h : es[i]? = some e) (last : Int) :
  rightE (es.drop i) last = if e.1 ≤ last ∨ 500 < e.1 ∨ e.2.length < 1 ∨ 64 < e.2.length then false else if rightTs e.2 (headK e.2) = true then rightE (es.drop (i + 1)) e.1 else false:=by
 rw [List.drop_eq_getElem_cons (List.getElem?_eq_some_iff.1 h).1,(List.getElem?_eq_some_iff.1 h).2]
 obtain ⟨a,l⟩:=e
 rw [rightE]
theorem rightTs_at {l : List Tr} {k : Nat} {x : Tr} (h : l[k]? = some x) (c : Int) : rightTs (l.drop k) c = if x.kind ≠ c then false else if rightT x = true then rightTs (l.drop (k + 1)) c else false:=by
 rw [List.drop_eq_getElem_cons (List.getElem?_eq_some_iff.1 h).1,(List.getElem?_eq_some_iff.1 h).2,rightTs]
def subOK (f : FuncId) (es : List (Int × List Tr)) : Prop:=∀ (i : Nat) e (k : Nat) x,es[i]? = some e → e.2[k]? = some x → PFn Tryz.prog f [.agg (encTr x)] (.bool (rightT x))
def eS (t : Tr) (i : Nat) (last : Int) : St:=⟨ofL [(1,.ptr 0 0 0),(3,.p (.int .i64 last)),(9,.p (.slice (t.ents.map encEn))),(10,.p (.int .i64 (t.ents.length : Int))),(11,.p (.int .i64 (i : Int)))],ofH [(0,.row 5 [cellsT t])],1⟩
def eT (t : Tr) (i : Nat) (e : Int × List Tr) (k : Nat) : St:=⟨ofL [(1,.ptr 0 0 0),(3,.p (.int .i64 e.1)),(5,.ptr 1 0 0),(9,.p (.slice (t.ents.map encEn))),(10,.p (.int .i64 (t.ents.length : Int))),(11,.p (.int .i64 (i : Int))),(39,.p (.slice (e.2.map encTr))),(40,.p (.int .i64 (e.2.length : Int))),(41,.p (.int .i64 (k : Int)))],
 ofH [(0,.row 5 [cellsT t]),(1,.row 2 [[.p (.int .i64 e.1),.p (.slice (e.2.map encTr))]])],2⟩
theorem value_entries (t : Tr) (hlt : lensT t = true) (ih : subOK 78 t.ents) : PFn Tryz.prog 91 [.agg (encTr t)] (.bool (rightE t.ents 0)):=by
 obtain ⟨la1,la2,la3⟩:=lensT_mk hlt
 refine PFn.of Tryz.func91 rfl (by decide) Tryz.ntmps91 Tryz.results91 (Nat.le_of_ble_eq_true rfl) ?_
 simp only [argsT]
 refine AW.rT (by rfl) fun K hK=>?_
 simp -implicitDefEqProofs only [go_sem,Nat.reduceAdd,encTr_eq]
 apply hK;clear hK K
 refine AW.rT (by rfl) fun K hK=>?_
 simp -implicitDefEqProofs only [go_sem,Nat.reduceAdd]
 apply hK;clear hK K
 refine AW.seq ?_
 refine AW.rT (by rfl) fun K hK=>?_
 simp -implicitDefEqProofs only [go_sem,↓reduceIte,Nat.reduceAdd,Nat.reduceEqDiff,List.length_map]
 apply hK;clear hK K
 refine AW.block ?_
 refine AW.loop (fun x : Nat × Int=>eS t x.1 x.2) (fun x=>x.1 ≤ t.ents.length ∧ rightE t.ents 0 = rightE (t.ents.drop x.1) x.2) (fun x=>t.ents.length - x.1) (0,0) ?_ ⟨by simp,by rw [List.drop_zero]⟩ fun x hx=>?_
 ·simp only [eS,cellsT]
  refine Ghost.sub ?_ ?_ <;> simp -implicitDefEqProofs only [go_sem,↓reduceIte,Nat.reduceEqDiff,List.forall_mem_cons,List.not_mem_nil,false_implies,implies_true,and_self,List.all_cons,List.all_nil,Nat.reduceLT,labsInL,AV.labsIn]
  rfl
 obtain ⟨i,last⟩:=x
 obtain ⟨e1,e2⟩:=hx
 dsimp only at e1 e2
 simp only [eS,cellsT]
 by_cases hil : i < t.ents.length
 case neg =>
  have hc1 : ((i : Int) < (t.ents.length : Int)) = False:=by simp; omega
  rw [List.drop_of_length_le (by omega),rightE] at e2
  refine AW.rT (by rfl) fun K hK=>?_
  simp -implicitDefEqProofs only [go_sem,↓reduceIte,Nat.reduceAdd,Nat.reduceEqDiff,hc1]
  apply hK;clear hK K
  refine AW.seq ?_
  refine AW.cF rfl ?_
  refine AW.exit ?_
  simp only [andThen,inBlk,↓reduceIte]
  refine AW.rT (by rfl) fun K hK=>?_
  simp -implicitDefEqProofs only [go_sem,Nat.reduceAdd]
  apply hK;clear hK K
  refine AW.ret ?_
  simp -implicitDefEqProofs only [go_sem,e2]
 obtain ⟨e,he⟩ : ∃ e,t.ents[i]? = some e:=⟨_,List.getElem?_eq_getElem hil⟩
 have ⟨he1,he2,he3⟩:=at_map' encEn he
 have ⟨le1,le2⟩:=lensE_at la3 he
 have hc1 : ((i : Int) < (t.ents.length : Int)) = True:=by simp; omega
 have sE:=rightE_at he last
 refine AW.rT (by rfl) fun K hK=>?_
 simp -implicitDefEqProofs only [go_sem,↓reduceIte,Nat.reduceAdd,Nat.reduceEqDiff,hc1]
 apply hK;clear hK K
 refine AW.seq ?_
 refine AW.cT rfl ?_
 refine AW.skip ?_
 simp only [andThen]
 refine AW.seq ?_
 refine AW.block ?_
 refine AW.rT (by rfl) fun K hK=>?_
 simp -implicitDefEqProofs only [go_sem,↓reduceIte,Nat.reduceAdd,Nat.reduceEqDiff,Nat.reduceLeDiff,he1,he3,hc1,encEn,List.length_map]
 apply hK;clear hK K
 refine AW.seq ?_
 by_cases d1 : e.1 ≤ last
 ·rw [if_pos (.inl d1)] at sE
  have HH:=e2.trans sE
  refine AW.rT (by rfl) fun K hK=>?_
  simp -implicitDefEqProofs only [go_sem,↓reduceIte,Nat.reduceAdd,Nat.reduceEqDiff,d1]
  apply hK;clear hK K
  refine AW.cond _ (by simp -implicitDefEqProofs only [go_sem]; rfl) (fun hc=>?_) (fun hc=>?_)
  ·refine AW.rT (by rfl) fun K hK=>?_
   simp -implicitDefEqProofs only [go_sem,Nat.reduceAdd]
   apply hK;clear hK K
   refine AW.ret ?_
   simp -implicitDefEqProofs only [go_sem,HH]
  ·simp at hc
 by_cases d2 : 500 < e.1
 ·have b2 : (e.1 > 500) = True:=by simp; omega
  rw [if_pos (.inr (.inl d2))] at sE
  have HH:=e2.trans sE
  refine AW.rT (by rfl) fun K hK=>?_
  simp -implicitDefEqProofs only [go_sem,↓reduceIte,Nat.reduceAdd,Nat.reduceEqDiff,d1,b2]
  apply hK;clear hK K
  refine AW.cond _ (by simp -implicitDefEqProofs only [go_sem]; rfl) (fun hc=>?_) (fun hc=>?_)
  ·refine AW.rT (by rfl) fun K hK=>?_
   simp -implicitDefEqProofs only [go_sem,Nat.reduceAdd]
   apply hK;clear hK K
   refine AW.ret ?_
   simp -implicitDefEqProofs only [go_sem,HH]
  ·simp at hc
 have b2 : (e.1 > 500) = False:=by simp; omega
 by_cases d3 : e.2.length < 1
 ·have b3 : ((e.2.length : Int) < 1) = True:=by simp; omega
  rw [if_pos (.inr (.inr (.inl d3)))] at sE
  have HH:=e2.trans sE
  refine AW.rT (by rfl) fun K hK=>?_
  simp -implicitDefEqProofs only [go_sem,↓reduceIte,Nat.reduceAdd,Nat.reduceEqDiff,d1,b2,b3,List.length_map]
  apply hK;clear hK K
  refine AW.cond _ (by simp -implicitDefEqProofs only [go_sem]; rfl) (fun hc=>?_) (fun hc=>?_)
  ·refine AW.rT (by rfl) fun K hK=>?_
   simp -implicitDefEqProofs only [go_sem,Nat.reduceAdd]
   apply hK;clear hK K
   refine AW.ret ?_
   simp -implicitDefEqProofs only [go_sem,HH]
  ·simp at hc
 have b3 : ((e.2.length : Int) < 1) = False:=by simp; omega
 by_cases d4 : 64 < e.2.length
 ·have b4 : ((e.2.length : Int) > 64) = True:=by simp; omega
  rw [if_pos (.inr (.inr (.inr d4)))] at sE
  have HH:=e2.trans sE
  refine AW.rT (by rfl) fun K hK=>?_
  simp -implicitDefEqProofs only [go_sem,↓reduceIte,Nat.reduceAdd,Nat.reduceEqDiff,d1,b2,b3,b4,List.length_map]
  apply hK;clear hK K
  refine AW.cond _ (by simp -implicitDefEqProofs only [go_sem]; rfl) (fun hc=>?_) (fun hc=>?_)
  ·refine AW.rT (by rfl) fun K hK=>?_
   simp -implicitDefEqProofs only [go_sem,Nat.reduceAdd]
   apply hK;clear hK K
   refine AW.ret ?_
   simp -implicitDefEqProofs only [go_sem,HH]
  ·simp at hc
 have b4 : ((e.2.length : Int) > 64) = False:=by simp; omega
 rw [if_neg (by omega)] at sE
 refine AW.rT (by rfl) fun K hK=>?_
 simp -implicitDefEqProofs only [go_sem,↓reduceIte,Nat.reduceAdd,Nat.reduceEqDiff,d1,b2,b3,b4,List.length_map]
 apply hK;clear hK K
 refine AW.cF rfl ?_
 refine AW.skip ?_
 simp only [andThen]
 refine AW.rT (by rfl) fun K hK=>?_
 simp -implicitDefEqProofs only [go_sem,↓reduceIte,Nat.reduceAdd,Nat.reduceEqDiff]
 apply hK;clear hK K
 refine AW.rT (by rfl) fun K hK=>?_
 simp -implicitDefEqProofs only [go_sem,↓reduceIte,Nat.reduceAdd,Nat.reduceEqDiff,List.length_map]
 apply hK;clear hK K
 refine AW.block ?_
 refine AW.loop (fun k : Nat=>eT t i e k) (fun k=>k ≤ e.2.length ∧ rightTs e.2 (headK e.2) = rightTs (e.2.drop k) (headK e.2)) (fun k=>e.2.length - k) 0 ?_ ⟨by simp,by rw [List.drop_zero]⟩ fun k hk=>?_
 ·simp only [eT,cellsT]
  refine Ghost.ent (fun l=>if l = 1 then 4 else l) ?_ ?_ ?_ <;> simp -implicitDefEqProofs only [go_sem,↓reduceIte,Nat.reduceEqDiff,reduceCtorEq,List.forall_mem_cons,List.not_mem_nil,false_implies,implies_true,and_self,List.all_cons,List.all_nil,Nat.reduceLT,labsInL,AV.labsIn]
  rfl
 obtain ⟨f1,f2⟩:=hk
 simp only [eT,cellsT]
 obtain ⟨x0,hx0⟩ : ∃ x,e.2[0]? = some x:=⟨_,List.getElem?_eq_getElem (by omega)⟩
 have ⟨_,_,h03⟩:=at_map' encTr hx0
 have hk0 : headK e.2 = x0.kind:=by
  cases hq : e.2 with
  | nil=>rw [hq] at hx0; simp at hx0
  | cons y l=>rw [hq] at hx0; simp at hx0; subst hx0; rfl
 rw [hk0] at f2 sE
 have hz : ((0 : Int) < (e.2.length : Int)) = True:=by simp; omega
 have hz0 : ((0 : Int) ≤ 0) = True:=by simp
 by_cases hkl : k < e.2.length
 ·obtain ⟨x,hx⟩ : ∃ x,e.2[k]? = some x:=⟨_,List.getElem?_eq_getElem hkl⟩
  have ⟨hx1,hx2,hx3⟩:=at_map' encTr hx
  have hc2 : ((k : Int) < (e.2.length : Int)) = True:=by simp; omega
  have sK:=rightTs_at hx x0.kind
  have IH:=ih i e k x he hx
  rw [encTr_eq] at IH
  refine AW.rT (by rfl) fun K hK=>?_
  simp -implicitDefEqProofs only [go_sem,↓reduceIte,Nat.reduceAdd,Nat.reduceEqDiff,hc2]
  apply hK;clear hK K
  refine AW.seq ?_
  refine AW.cT rfl ?_
  refine AW.skip ?_
  simp only [andThen]
  refine AW.seq ?_
  refine AW.block ?_
  refine AW.rT (by rfl) fun K hK=>?_
  simp -implicitDefEqProofs only [go_sem,↓reduceIte,Nat.reduceAdd,Nat.reduceEqDiff,Nat.reduceLeDiff,hx1,hx3,hc2,encTr_eq,List.length_map]
  apply hK;clear hK K
  by_cases hkk : x.kind = x0.kind
  ·have bk : (x.kind != x0.kind) = false:=by simpa using hkk
   rw [if_neg (by simpa using hkk)] at sK
   refine AW.dT mixed (by rfl) (by decide +kernel) fun K hK=>?_
   simp -implicitDefEqProofs only [go_sem,↓reduceIte,Nat.reduceAdd,Nat.reduceEqDiff,Nat.reduceLeDiff,Int.reduceToNat,h03,hz,hz0,encTr_eq,List.length_map,bk]
   refine ⟨.pure _,IH,?_⟩
   try simp -implicitDefEqProofs only [go_sem,↓reduceIte,Nat.reduceAdd,Nat.reduceEqDiff]
   refine ⟨heapOK_nil rfl,?_⟩
   apply hK;clear hK K
   cases hq : rightT x with
   | false =>
    rw [if_neg (by rw [hq]; simp)] at sK
    rw [if_neg (by rw [f2,sK]; simp)] at sE
    have HH:=e2.trans sE
    refine AW.cond _ (by simp -implicitDefEqProofs only [go_sem]; rfl) (fun hc=>?_) (fun hc=>?_)
    ·refine AW.rT (by rfl) fun K hK=>?_
     simp -implicitDefEqProofs only [go_sem,Nat.reduceAdd]
     apply hK;clear hK K
     refine AW.ret ?_
     simp -implicitDefEqProofs only [go_sem,HH]
    ·simp at hc
   | true =>
    rw [if_pos hq] at sK
    refine AW.cF rfl ?_
    refine AW.skip ?_
    simp only [andThen,inBlk]
    have w1 : IntKind.wrap .i64 ((k : Int) + 1) = ((k + 1 : Nat) : Int):=by rw [w64] <;> omega
    refine AW.rE (by rfl) fun K hK=>?_
    simp -implicitDefEqProofs only [go_sem,↓reduceIte,Nat.reduceAdd,Nat.reduceEqDiff,w1]
    apply hK;clear hK K
    refine ⟨k + 1,⟨by omega,by rw [hk0]; exact f2.trans sK⟩,by omega,?_⟩
    refine Ghost.sub ?_ ?_ <;> simp -implicitDefEqProofs only [go_sem,↓reduceIte,Nat.reduceEqDiff,reduceCtorEq,List.forall_mem_cons,List.not_mem_nil,false_implies,implies_true,and_self,List.all_cons,List.all_nil,Nat.reduceLT,labsInL,AV.labsIn]
  ·have bk : (x.kind != x0.kind) = true:=by simpa using hkk
   rw [if_pos hkk] at sK
   rw [if_neg (by rw [f2,sK]; simp)] at sE
   have HH:=e2.trans sE
   refine AW.dT mixed (by rfl) (by decide +kernel) fun K hK=>?_
   simp -implicitDefEqProofs only [go_sem,↓reduceIte,Nat.reduceAdd,Nat.reduceEqDiff,Int.reduceToNat,h03,hz,hz0,encTr_eq,List.length_map,bk]
   refine ⟨heapOK_nil rfl,?_⟩
   apply hK;clear hK K
   refine AW.cond _ (by simp -implicitDefEqProofs only [go_sem]; rfl) (fun hc=>?_) (fun hc=>?_)
   ·refine AW.rT (by rfl) fun K hK=>?_
    simp -implicitDefEqProofs only [go_sem,Nat.reduceAdd]
    apply hK;clear hK K
    refine AW.ret ?_
    simp -implicitDefEqProofs only [go_sem,HH]
   ·simp at hc
 ·have hc2 : ((k : Int) < (e.2.length : Int)) = False:=by simp; omega
  rw [List.drop_of_length_le (by omega),rightTs] at f2
  rw [if_pos f2] at sE
  refine AW.rT (by rfl) fun K hK=>?_
  simp -implicitDefEqProofs only [go_sem,↓reduceIte,Nat.reduceAdd,Nat.reduceEqDiff,hc2]
  apply hK;clear hK K
  refine AW.seq ?_
  refine AW.cF rfl ?_
  refine AW.exit ?_
  simp only [andThen,inBlk,↓reduceIte]
  have w1 : IntKind.wrap .i64 ((i : Int) + 1) = ((i + 1 : Nat) : Int):=by rw [w64] <;> omega
  refine AW.rE (by rfl) fun K hK=>?_
  simp -implicitDefEqProofs only [go_sem,↓reduceIte,Nat.reduceAdd,Nat.reduceEqDiff,w1]
  apply hK;clear hK K
  refine ⟨(i + 1,e.1),⟨by show i + 1 ≤ t.ents.length; omega,e2.trans sE⟩,by show t.ents.length - (i + 1) < t.ents.length - i; omega,?_⟩
  refine Ghost.sub ?_ ?_ <;> simp -implicitDefEqProofs only [go_sem,↓reduceIte,Nat.reduceEqDiff,List.forall_mem_cons,List.not_mem_nil,false_implies,implies_true,and_self,List.all_cons,List.all_nil,Nat.reduceLT,labsInL,AV.labsIn]
end Go.Aw.T
namespace Go.Aw.T
open Go.Proofs
def okRest (es : List (Int × List Tr)) (r : Raw) : Bool:=checkR r && es.all (fun e=>e.1 != r.tag)
theorem all_next {α : Type} {l : List α} {p : α → Bool} {k : Nat} {r : α} (h : l[k]? = some r) (ha : (l.take k).all p = true) (hr : p r = true) : (l.take (k + 1)).all p = true:=by
 rw [List.take_add_one,h,List.all_append,ha]
 simp [hr]
theorem all_not {α : Type} {l : List α} {p : α → Bool} {k : Nat} {r : α} (h : l[k]? = some r) (hr : p r = false) : l.all p = false:=by
 rw [List.all_eq_false]
 exact ⟨r,List.mem_of_getElem? h,by simp [hr]⟩
def hS1 (t : Tr) (i : Nat) : St:=⟨ofL [(1,.ptr 0 0 0),(8,.p (.slice (t.rest.map encRaw))),(9,.p (.int .i64 (t.rest.length : Int))),(10,.p (.int .i64 (i : Int)))],ofH [(0,.row 5 [cellsT t])],1⟩
def hS2 (t : Tr) (i : Nat) (r : Raw) (k : Nat) : St:=⟨ofL [(1,.ptr 0 0 0),(4,.ptr 1 0 0),(8,.p (.slice (t.rest.map encRaw))),(9,.p (.int .i64 (t.rest.length : Int))),(10,.p (.int .i64 (i : Int))),(18,.p (.slice (t.ents.map encEn))),(19,.p (.int .i64 (t.ents.length : Int))),(20,.p (.int .i64 (k : Int)))],
 ofH [(0,.row 5 [cellsT t]),(1,.row 4 [[.p (.int .i64 r.tag),.p (.int .i64 r.wire),.p (.int .i64 r.n),.p (.str r.b)]])],2⟩
theorem value_rest (t : Tr) (hlt : lensT t = true) : PFn Tryz.prog 92 [.agg (encTr t)] (.bool (restT t.ents t.rest)):=by
 obtain ⟨la1,la2,la3⟩:=lensT_mk hlt
 have hm : maxLen = 9223372036854775807:=by decide
 have RT : restT t.ents t.rest = (t.rest.all (okRest t.ents) && rising t.rest):=rfl
 refine PFn.of Tryz.func92 rfl (by decide) Tryz.ntmps92 Tryz.results92 (Nat.le_of_ble_eq_true rfl) ?_
 simp only [argsT]
 refine AW.rT (by rfl) fun K hK=>?_
 simp -implicitDefEqProofs only [go_sem,Nat.reduceAdd,encTr_eq]
 apply hK;clear hK K
 refine AW.seq ?_
 refine AW.rT (by rfl) fun K hK=>?_
 simp -implicitDefEqProofs only [go_sem,↓reduceIte,Nat.reduceAdd,Nat.reduceEqDiff,List.length_map]
 apply hK;clear hK K
 refine AW.block ?_
 refine AW.loop (hS1 t) (fun i=>i ≤ t.rest.length ∧ (t.rest.take i).all (okRest t.ents) = true) (fun i=>t.rest.length - i) 0 ?_ (by simp) fun i hi=>?_
 ·simp only [hS1,cellsT]
  refine Ghost.sub ?_ ?_ <;> simp -implicitDefEqProofs only [go_sem,↓reduceIte,Nat.reduceEqDiff,List.forall_mem_cons,List.not_mem_nil,false_implies,implies_true,and_self,List.all_cons,List.all_nil,Nat.reduceLT,labsInL,AV.labsIn]
  rfl
 obtain ⟨g1,g2⟩:=hi
 simp only [hS1,cellsT]
 by_cases hil : i < t.rest.length
 case neg =>
  have hc1 : ((i : Int) < (t.rest.length : Int)) = False:=by simp; omega
  have hi' : i = t.rest.length:=by omega
  subst hi'
  rw [List.take_length] at g2
  refine AW.rT (by rfl) fun K hK=>?_
  simp -implicitDefEqProofs only [go_sem,↓reduceIte,Nat.reduceAdd,Nat.reduceEqDiff,hc1]
  apply hK;clear hK K
  refine AW.seq ?_
  refine AW.cF rfl ?_
  refine AW.exit ?_
  simp only [andThen,inBlk,↓reduceIte]
  refine AW.rT (by rfl) fun K hK=>?_
  simp -implicitDefEqProofs only [go_sem,↓reduceIte,Nat.reduceAdd,Nat.reduceEqDiff]
  refine ⟨.pure _,wire_Rising t.rest (by omega),?_⟩
  try simp -implicitDefEqProofs only [go_sem,Nat.reduceAdd]
  apply hK;clear hK K
  refine AW.ret ?_
  simp -implicitDefEqProofs only [go_sem]
  rw [RT,g2,Bool.true_and]
 obtain ⟨r,hr⟩ : ∃ r,t.rest[i]? = some r:=⟨_,List.getElem?_eq_getElem hil⟩
 have ⟨hr1,hr2,hr3⟩:=at_map' encRaw hr
 have hc1 : ((i : Int) < (t.rest.length : Int)) = True:=by simp; omega
 refine AW.rT (by rfl) fun K hK=>?_
 simp -implicitDefEqProofs only [go_sem,↓reduceIte,Nat.reduceAdd,Nat.reduceEqDiff,hc1]
 apply hK;clear hK K
 refine AW.seq ?_
 refine AW.cT rfl ?_
 refine AW.skip ?_
 simp only [andThen]
 refine AW.seq ?_
 refine AW.block ?_
 refine AW.rT (by rfl) fun K hK=>?_
 simp -implicitDefEqProofs only [go_sem,↓reduceIte,Nat.reduceAdd,Nat.reduceEqDiff,Nat.reduceLeDiff,hr1,hr3,hc1,encRaw,List.length_map]
 apply hK;clear hK K
 refine AW.seq ?_
 cases hcr : checkR r with
 | false =>
  have C1 : PFn Tryz.prog 98 [.agg (encRaw r)] (.bool false):=hcr ▸ wire_Check r
  have HH : restT t.ents t.rest = false:=by rw [RT,all_not hr (by simp [okRest,hcr])]; rfl
  refine AW.rT (by rfl) fun K hK=>?_
  simp -implicitDefEqProofs only [go_sem,Nat.reduceAdd,Nat.reduceLeDiff]
  refine ⟨.pure _,C1,?_⟩
  try simp -implicitDefEqProofs only [go_sem,Nat.reduceAdd]
  apply hK;clear hK K
  refine AW.cond _ (by simp -implicitDefEqProofs only [go_sem]; rfl) (fun hc=>?_) (fun hc=>?_)
  ·refine AW.rT (by rfl) fun K hK=>?_
   simp -implicitDefEqProofs only [go_sem,Nat.reduceAdd]
   apply hK;clear hK K
   refine AW.ret ?_
   simp -implicitDefEqProofs only [go_sem,HH]
  ·simp at hc
 | true =>
 have C1 : PFn Tryz.prog 98 [.agg (encRaw r)] (.bool true):=hcr ▸ wire_Check r
 refine AW.rT (by rfl) fun K hK=>?_
 simp -implicitDefEqProofs only [go_sem,Nat.reduceAdd,Nat.reduceLeDiff]
 refine ⟨.pure _,C1,?_⟩
 try simp -implicitDefEqProofs only [go_sem,Nat.reduceAdd]
 apply hK;clear hK K
 refine AW.cF rfl ?_
 refine AW.skip ?_
 simp only [andThen]
 refine AW.rT (by rfl) fun K hK=>?_
 simp -implicitDefEqProofs only [go_sem,↓reduceIte,Nat.reduceAdd,Nat.reduceEqDiff,reduceCtorEq,List.length_map]
 apply hK;clear hK K
 refine AW.block ?_
 refine AW.loop (fun k : Nat=>hS2 t i r k) (fun k=>k ≤ t.ents.length ∧ (t.ents.take k).all (fun e=>e.1 != r.tag) = true) (fun k=>t.ents.length - k) 0 ?_ (by simp) fun k hk=>?_
 ·simp only [hS2,cellsT]
  refine Ghost.ent (fun l=>if l = 1 then 4 else l) ?_ ?_ ?_ <;> simp -implicitDefEqProofs only [go_sem,↓reduceIte,Nat.reduceEqDiff,reduceCtorEq,List.forall_mem_cons,List.not_mem_nil,false_implies,implies_true,and_self,List.all_cons,List.all_nil,Nat.reduceLT,labsInL,AV.labsIn]
  rfl
 obtain ⟨k1,k2⟩:=hk
 simp only [hS2,cellsT]
 by_cases hkl : k < t.ents.length
 ·obtain ⟨e,he⟩ : ∃ e,t.ents[k]? = some e:=⟨_,List.getElem?_eq_getElem hkl⟩
  have ⟨he1,he2,he3⟩:=at_map' encEn he
  have hc2 : ((k : Int) < (t.ents.length : Int)) = True:=by simp; omega
  refine AW.rT (by rfl) fun K hK=>?_
  simp -implicitDefEqProofs only [go_sem,↓reduceIte,Nat.reduceAdd,Nat.reduceEqDiff,hc2]
  apply hK;clear hK K
  refine AW.seq ?_
  refine AW.cT rfl ?_
  refine AW.skip ?_
  simp only [andThen]
  refine AW.seq ?_
  refine AW.block ?_
  refine AW.rT (by rfl) fun K hK=>?_
  simp -implicitDefEqProofs only [go_sem,↓reduceIte,Nat.reduceAdd,Nat.reduceEqDiff,Nat.reduceLeDiff,he1,he3,hc2,encEn,List.length_map]
  apply hK;clear hK K
  by_cases heq : e.1 = r.tag
  ·have b1 : (e.1 == r.tag) = true:=by simpa using heq
   have HH : restT t.ents t.rest = false:=by
    rw [RT,all_not hr (by simp only [okRest]; rw [all_not he (by simpa using heq)]; simp)]; rfl
   refine AW.rT (by rfl) fun K hK=>?_
   simp -implicitDefEqProofs only [go_sem,↓reduceIte,Nat.reduceAdd,Nat.reduceEqDiff,b1]
   apply hK;clear hK K
   refine AW.cond _ (by simp -implicitDefEqProofs only [go_sem]; rfl) (fun hc=>?_) (fun hc=>?_)
   ·refine AW.rT (by rfl) fun K hK=>?_
    simp -implicitDefEqProofs only [go_sem,Nat.reduceAdd]
    apply hK;clear hK K
    refine AW.ret ?_
    simp -implicitDefEqProofs only [go_sem,HH]
   ·simp at hc
  ·have b1 : (e.1 == r.tag) = false:=beqf heq
   refine AW.rT (by rfl) fun K hK=>?_
   simp -implicitDefEqProofs only [go_sem,↓reduceIte,Nat.reduceAdd,Nat.reduceEqDiff,b1]
   apply hK;clear hK K
   refine AW.cF rfl ?_
   refine AW.skip ?_
   simp only [andThen,inBlk]
   have w1 : IntKind.wrap .i64 ((k : Int) + 1) = ((k + 1 : Nat) : Int):=by rw [w64] <;> omega
   refine AW.rE (by rfl) fun K hK=>?_
   simp -implicitDefEqProofs only [go_sem,↓reduceIte,Nat.reduceAdd,Nat.reduceEqDiff,w1]
   apply hK;clear hK K
   refine ⟨k + 1,⟨by omega,all_next he k2 (by simpa using heq)⟩,by omega,?_⟩
   refine Ghost.sub ?_ ?_ <;> simp -implicitDefEqProofs only [go_sem,↓reduceIte,Nat.reduceEqDiff,reduceCtorEq,List.forall_mem_cons,List.not_mem_nil,false_implies,implies_true,and_self,List.all_cons,List.all_nil,Nat.reduceLT,labsInL,AV.labsIn]
 ·have hc2 : ((k : Int) < (t.ents.length : Int)) = False:=by simp; omega
  have hk' : k = t.ents.length:=by omega
  subst hk'
  rw [List.take_length] at k2
  refine AW.rT (by rfl) fun K hK=>?_
  simp -implicitDefEqProofs only [go_sem,↓reduceIte,Nat.reduceAdd,Nat.reduceEqDiff,hc2]
  apply hK;clear hK K
  refine AW.seq ?_
  refine AW.cF rfl ?_
  refine AW.exit ?_
  simp only [andThen,inBlk,↓reduceIte]
  have w1 : IntKind.wrap .i64 ((i : Int) + 1) = ((i + 1 : Nat) : Int):=by rw [w64] <;> omega
  refine AW.rE (by rfl) fun K hK=>?_
  simp -implicitDefEqProofs only [go_sem,↓reduceIte,Nat.reduceAdd,Nat.reduceEqDiff,w1]
  apply hK;clear hK K
  refine ⟨i + 1,⟨by omega,all_next hr g2 (by simp only [okRest]; rw [hcr,k2]; rfl)⟩,by omega,?_⟩
  refine Ghost.sub ?_ ?_ <;> simp -implicitDefEqProofs only [go_sem,↓reduceIte,Nat.reduceEqDiff,List.forall_mem_cons,List.not_mem_nil,false_implies,implies_true,and_self,List.all_cons,List.all_nil,Nat.reduceLT,labsInL,AV.labsIn]
theorem value_right : ∀ (t : Tr),lensT t = true → PFn Tryz.prog 78 [.agg (encTr t)] (.bool (rightT t)):=by
 intro t
 induction h : SizeOf.sizeOf t using Nat.strongRecOn generalizing t with
 | _ sz ih =>
 subst h
 intro hlt
 obtain ⟨la1,la2,la3⟩:=lensT_mk hlt
 have sT:=rightT_mk t
 have E1:=value_entries t hlt fun i e k x he hx=>ih _ (size_ent he hx) x rfl (lensTs_at (lensE_at la3 he).2 hx)
 have E2:=value_rest t hlt
 rw [encTr_eq] at E1 E2
 have z1 : ((t.ents.length : Int) == 0) = t.ents.isEmpty:=by cases t.ents <;> simp; omega
 have z2 : ((t.rest.length : Int) == 0) = decide (t.rest = []):=by cases t.rest <;> simp; omega
 refine PFn.of Tryz.func78 rfl (by decide) Tryz.ntmps78 Tryz.results78 (Nat.le_of_ble_eq_true rfl) ?_
 simp only [argsT]
 refine AW.rT (by rfl) fun K hK=>?_
 simp -implicitDefEqProofs only [go_sem,Nat.reduceAdd,encTr_eq]
 apply hK;clear hK K
 refine AW.seq ?_
 refine AW.rT (by rfl) fun K hK=>?_
 simp -implicitDefEqProofs only [go_sem,↓reduceIte,Nat.reduceAdd,Nat.reduceEqDiff]
 apply hK;clear hK K
 refine AW.block ?_
 by_cases c1 : t.kind = 1
 ·have b1 : (t.kind == 1) = true:=by simpa using c1
  rw [if_pos c1] at sT
  refine AW.rT (by rfl) fun K hK=>?_
  simp -implicitDefEqProofs only [go_sem,↓reduceIte,Nat.reduceAdd,b1]
  apply hK;clear hK K
  refine AW.cT rfl ?_
  cases hs : decide (t.s = []) <;> cases hz : t.ents.isEmpty
  all_goals
   rw [hs,hz] at sT
   have b2 : (t.s == []) = decide (t.s = []):=by cases t.s <;> simp
   refine AW.rT (by rfl) fun K hK=>?_
   try simp -implicitDefEqProofs only [go_sem,↓reduceIte,Nat.reduceAdd,Nat.reduceEqDiff,b2,hs,z1,hz,z2,List.length_map]
   apply hK;clear hK K
   refine AW.ret ?_
   try simp -implicitDefEqProofs only [go_sem,sT,Bool.false_and,Bool.true_and]
 ·have b1 : (t.kind == 1) = false:=beqf c1
  rw [if_neg c1] at sT
  refine AW.rT (by rfl) fun K hK=>?_
  simp -implicitDefEqProofs only [go_sem,↓reduceIte,Nat.reduceAdd,b1]
  apply hK;clear hK K
  refine AW.cF rfl ?_
  by_cases c2 : t.kind = 2
  ·have b1 : (t.kind == 2) = true:=by simpa using c2
   have hq : (t.n == 0) = decide (t.n = 0):=by by_cases h : t.n = 0 <;> simp [h]
   rw [if_pos c2] at sT
   refine AW.rT (by rfl) fun K hK=>?_
   simp -implicitDefEqProofs only [go_sem,↓reduceIte,Nat.reduceAdd,Nat.reduceEqDiff,b1]
   apply hK;clear hK K
   refine AW.cT rfl ?_
   cases hs : decide (t.n = 0) <;> cases hz : t.ents.isEmpty
   all_goals
    rw [hs,hz] at sT
    refine AW.rT (by rfl) fun K hK=>?_
    try simp -implicitDefEqProofs only [go_sem,↓reduceIte,Nat.reduceAdd,Nat.reduceEqDiff,hq,hs,z1,hz,z2,List.length_map]
    apply hK;clear hK K
    refine AW.ret ?_
    try simp -implicitDefEqProofs only [go_sem,sT,Bool.false_and,Bool.true_and]
  ·have b1 : (t.kind == 2) = false:=beqf c2
   rw [if_neg c2] at sT
   refine AW.rT (by rfl) fun K hK=>?_
   simp -implicitDefEqProofs only [go_sem,↓reduceIte,Nat.reduceAdd,Nat.reduceEqDiff,b1]
   apply hK;clear hK K
   refine AW.cF rfl ?_
   by_cases c3 : t.kind = 3
   ·have b1 : (t.kind == 3) = true:=by simpa using c3
    have hq : (t.n == 0) = decide (t.n = 0):=by by_cases h : t.n = 0 <;> simp [h]
    have b2 : (t.s == []) = decide (t.s = []):=by cases t.s <;> simp
    rw [if_pos c3] at sT
    refine AW.rT (by rfl) fun K hK=>?_
    simp -implicitDefEqProofs only [go_sem,↓reduceIte,Nat.reduceAdd,Nat.reduceEqDiff,b1]
    apply hK;clear hK K
    refine AW.cT rfl ?_
    cases hn : decide (t.n = 0)
    ·rw [hn] at sT
     refine AW.rT (by rfl) fun K hK=>?_
     try simp -implicitDefEqProofs only [go_sem,↓reduceIte,Nat.reduceAdd,Nat.reduceEqDiff,hq,hn]
     apply hK;clear hK K
     refine AW.ret ?_
     try simp -implicitDefEqProofs only [go_sem,sT,Bool.false_and]
    cases hs : decide (t.s = [])
    ·rw [hn,hs] at sT
     refine AW.rT (by rfl) fun K hK=>?_
     try simp -implicitDefEqProofs only [go_sem,↓reduceIte,Nat.reduceAdd,Nat.reduceEqDiff,hq,hn,b2,hs]
     apply hK;clear hK K
     refine AW.ret ?_
     try simp -implicitDefEqProofs only [go_sem,sT,Bool.false_and,Bool.true_and]
    cases he : rightE t.ents 0
    ·rw [hn,hs,he] at sT
     rw [he] at E1
     refine AW.rT (by rfl) fun K hK=>?_
     try simp -implicitDefEqProofs only [go_sem,↓reduceIte,Nat.reduceAdd,Nat.reduceEqDiff,Nat.reduceLeDiff,hq,hn,b2,hs]
     refine ⟨.pure _,E1,?_⟩
     try simp -implicitDefEqProofs only [go_sem,↓reduceIte,Nat.reduceAdd,Nat.reduceEqDiff]
     apply hK;clear hK K
     refine AW.ret ?_
     try simp -implicitDefEqProofs only [go_sem,sT,Bool.false_and,Bool.true_and]
    ·rw [hn,hs,he] at sT
     rw [he] at E1
     refine AW.rT (by rfl) fun K hK=>?_
     try simp -implicitDefEqProofs only [go_sem,↓reduceIte,Nat.reduceAdd,Nat.reduceEqDiff,Nat.reduceLeDiff,hq,hn,b2,hs]
     refine ⟨.pure _,E1,?_⟩
     try simp -implicitDefEqProofs only [go_sem,↓reduceIte,Nat.reduceAdd,Nat.reduceEqDiff,Nat.reduceLeDiff]
     refine ⟨.pure _,E2,?_⟩
     try simp -implicitDefEqProofs only [go_sem,↓reduceIte,Nat.reduceAdd,Nat.reduceEqDiff]
     apply hK;clear hK K
     refine AW.ret ?_
     try simp -implicitDefEqProofs only [go_sem,sT,Bool.true_and]
   ·have b1 : (t.kind == 3) = false:=beqf c3
    rw [if_neg c3] at sT
    refine AW.rT (by rfl) fun K hK=>?_
    simp -implicitDefEqProofs only [go_sem,↓reduceIte,Nat.reduceAdd,Nat.reduceEqDiff,b1]
    apply hK;clear hK K
    refine AW.cF rfl ?_
    refine AW.skip ?_
    simp only [andThen,inBlk]
    refine AW.rT (by rfl) fun K hK=>?_
    simp -implicitDefEqProofs only [go_sem,Nat.reduceAdd]
    apply hK;clear hK K
    refine AW.ret ?_
    simp -implicitDefEqProofs only [go_sem,sT]
def okT (t : Tr) : Bool:=decide (dT t 101 ≤ 10) && rightT t
theorem value_Check (t : Tr) (hlt : lensT t = true) : PFn Tryz.prog 64 [.agg (encTr t)] (.bool (okT t)):=by
 have E1:=value_Depth t hlt
 have E2:=value_right t hlt
 rw [encTr_eq] at E1 E2
 have hd : ((dT t 101 : Int) ≤ 10) = (dT t 101 ≤ 10):=by simp; omega
 refine PFn.of Tryz.func64 rfl (by decide) Tryz.ntmps64 Tryz.results64 (Nat.le_of_ble_eq_true rfl) ?_
 simp only [argsT]
 refine AW.rT (by rfl) fun K hK=>?_
 simp -implicitDefEqProofs only [go_sem,Nat.reduceAdd,encTr_eq]
 apply hK;clear hK K
 cases hc : decide (dT t 101 ≤ 10)
 ·refine AW.rT (by rfl) fun K hK=>?_
  try simp -implicitDefEqProofs only [go_sem,↓reduceIte,Nat.reduceAdd,Nat.reduceEqDiff,Nat.reduceLeDiff]
  refine ⟨.pure _,E1,?_⟩
  try simp -implicitDefEqProofs only [go_sem,↓reduceIte,Nat.reduceAdd,Nat.reduceEqDiff,hd,hc]
  apply hK;clear hK K
  refine AW.ret ?_
  try simp -implicitDefEqProofs only [go_sem,okT,hc,Bool.false_and]
 ·refine AW.rT (by rfl) fun K hK=>?_
  try simp -implicitDefEqProofs only [go_sem,↓reduceIte,Nat.reduceAdd,Nat.reduceEqDiff,Nat.reduceLeDiff]
  refine ⟨.pure _,E1,?_⟩
  try simp -implicitDefEqProofs only [go_sem,↓reduceIte,Nat.reduceAdd,Nat.reduceEqDiff,Nat.reduceLeDiff,hd,hc]
  refine ⟨.pure _,E2,?_⟩
  try simp -implicitDefEqProofs only [go_sem,↓reduceIte,Nat.reduceAdd,Nat.reduceEqDiff]
  apply hK;clear hK K
  refine AW.ret ?_
  try simp -implicitDefEqProofs only [go_sem,okT,hc,Bool.true_and]
end Go.Aw.T
namespace Go.Aw.T
open Go.Proofs
def qS (es : List (Int × List Tr)) (i : Nat) (last : Int) : St:=⟨ofL [(0,.p (.slice (es.map encEn))),(3,.p (.int .i64 last)),(4,.p (.int .i64 (i : Int)))],ofH [],0⟩
def qT (es : List (Int × List Tr)) (i : Nat) (e : Int × List Tr) (k : Nat) : St:=⟨ofL [(0,.p (.slice (es.map encEn))),(3,.p (.int .i64 e.1)),(4,.p (.int .i64 (i : Int))),(5,.ptr 0 0 0),(6,.p (.int .i64 (k : Int)))],
 ofH [(0,.row 2 [[.p (.int .i64 e.1),.p (.slice (e.2.map encTr))]])],1⟩
theorem ref_entries (es : List (Int × List Tr)) (la2 : es.length ≤ 1000) (la3 : lensE es = true) (ih : subOK 51 es) : PFn Tryz.prog 69 [.slice (es.map encEn)] (.bool (rightE es 0)):=by
 refine PFn.of Tryz.func69 rfl (by decide) Tryz.ntmps69 Tryz.results69 (Nat.le_of_ble_eq_true rfl) ?_
 simp only [argsT]
 refine AW.rT (by rfl) fun K hK=>?_
 simp -implicitDefEqProofs only [go_sem]
 apply hK;clear hK K
 refine AW.rT (by rfl) fun K hK=>?_
 simp -implicitDefEqProofs only [go_sem,Nat.reduceAdd]
 apply hK;clear hK K
 refine AW.seq ?_
 refine AW.rT (by rfl) fun K hK=>?_
 simp -implicitDefEqProofs only [go_sem,Nat.reduceAdd]
 apply hK;clear hK K
 refine AW.block ?_
 refine AW.loop (fun x : Nat × Int=>qS es x.1 x.2) (fun x=>x.1 ≤ es.length ∧ rightE es 0 = rightE (es.drop x.1) x.2) (fun x=>es.length - x.1) (0,0) ?_ ⟨by simp,by rw [List.drop_zero]⟩ fun x hx=>?_
 ·simp only [qS]
  refine Ghost.sub ?_ ?_ <;> simp -implicitDefEqProofs only [go_sem,↓reduceIte,Nat.reduceEqDiff,reduceCtorEq,List.forall_mem_cons,List.not_mem_nil,false_implies,implies_true,and_self,AV.labsIn]
  rfl
 obtain ⟨i,last⟩:=x
 obtain ⟨e1,e2⟩:=hx
 dsimp only at e1 e2
 simp only [qS]
 by_cases hil : i < es.length
 case neg =>
  have hc1 : ((i : Int) < (es.length : Int)) = False:=by simp; omega
  rw [List.drop_of_length_le (by omega),rightE] at e2
  refine AW.seq ?_
  refine AW.rT (by rfl) fun K hK=>?_
  simp -implicitDefEqProofs only [go_sem,↓reduceIte,Nat.reduceAdd,Nat.reduceEqDiff,reduceCtorEq,hc1,List.length_map]
  apply hK;clear hK K
  refine AW.cF rfl ?_
  refine AW.exit ?_
  simp only [andThen,inBlk,↓reduceIte]
  refine AW.rT (by rfl) fun K hK=>?_
  simp -implicitDefEqProofs only [go_sem,Nat.reduceAdd]
  apply hK;clear hK K
  refine AW.ret ?_
  simp -implicitDefEqProofs only [go_sem,e2]
 obtain ⟨e,he⟩ : ∃ e,es[i]? = some e:=⟨_,List.getElem?_eq_getElem hil⟩
 have ⟨he1,he2,he3⟩:=at_map' encEn he
 have ⟨le1,le2⟩:=lensE_at la3 he
 have hc1 : ((i : Int) < (es.length : Int)) = True:=by simp; omega
 have sE:=rightE_at he last
 refine AW.seq ?_
 refine AW.rT (by rfl) fun K hK=>?_
 simp -implicitDefEqProofs only [go_sem,↓reduceIte,Nat.reduceAdd,Nat.reduceEqDiff,reduceCtorEq,hc1,List.length_map]
 apply hK;clear hK K
 refine AW.cT rfl ?_
 refine AW.skip ?_
 simp only [andThen]
 refine AW.seq ?_
 refine AW.block ?_
 refine AW.rT (by rfl) fun K hK=>?_
 simp -implicitDefEqProofs only [go_sem,↓reduceIte,Nat.reduceAdd,Nat.reduceEqDiff,Nat.reduceLeDiff,reduceCtorEq,he1,he3,hc1,encEn,List.length_map]
 apply hK;clear hK K
 refine AW.seq ?_
 by_cases d1 : e.1 ≤ last
 ·rw [if_pos (.inl d1)] at sE
  have HH:=e2.trans sE
  refine AW.rT (by rfl) fun K hK=>?_
  simp -implicitDefEqProofs only [go_sem,↓reduceIte,Nat.reduceAdd,Nat.reduceEqDiff,reduceCtorEq,d1]
  apply hK;clear hK K
  refine AW.cond _ (by simp -implicitDefEqProofs only [go_sem]; rfl) (fun hc=>?_) (fun hc=>?_)
  ·refine AW.rT (by rfl) fun K hK=>?_
   simp -implicitDefEqProofs only [go_sem,Nat.reduceAdd]
   apply hK;clear hK K
   refine AW.ret ?_
   simp -implicitDefEqProofs only [go_sem,HH]
  ·simp at hc
 by_cases d2 : 500 < e.1
 ·have b2 : (e.1 > 500) = True:=by simp; omega
  rw [if_pos (.inr (.inl d2))] at sE
  have HH:=e2.trans sE
  refine AW.rT (by rfl) fun K hK=>?_
  simp -implicitDefEqProofs only [go_sem,↓reduceIte,Nat.reduceAdd,Nat.reduceEqDiff,reduceCtorEq,d1,b2]
  apply hK;clear hK K
  refine AW.cond _ (by simp -implicitDefEqProofs only [go_sem]; rfl) (fun hc=>?_) (fun hc=>?_)
  ·refine AW.rT (by rfl) fun K hK=>?_
   simp -implicitDefEqProofs only [go_sem,Nat.reduceAdd]
   apply hK;clear hK K
   refine AW.ret ?_
   simp -implicitDefEqProofs only [go_sem,HH]
  ·simp at hc
 have b2 : (e.1 > 500) = False:=by simp; omega
 by_cases d3 : e.2.length < 1
 ·have b3 : ((e.2.length : Int) < 1) = True:=by simp; omega
  rw [if_pos (.inr (.inr (.inl d3)))] at sE
  have HH:=e2.trans sE
  refine AW.rT (by rfl) fun K hK=>?_
  simp -implicitDefEqProofs only [go_sem,↓reduceIte,Nat.reduceAdd,Nat.reduceEqDiff,reduceCtorEq,d1,b2,b3,List.length_map]
  apply hK;clear hK K
  refine AW.cond _ (by simp -implicitDefEqProofs only [go_sem]; rfl) (fun hc=>?_) (fun hc=>?_)
  ·refine AW.rT (by rfl) fun K hK=>?_
   simp -implicitDefEqProofs only [go_sem,Nat.reduceAdd]
   apply hK;clear hK K
   refine AW.ret ?_
   simp -implicitDefEqProofs only [go_sem,HH]
  ·simp at hc
 have b3 : ((e.2.length : Int) < 1) = False:=by simp; omega
 by_cases d4 : 64 < e.2.length
 ·have b4 : ((e.2.length : Int) > 64) = True:=by simp; omega
  rw [if_pos (.inr (.inr (.inr d4)))] at sE
  have HH:=e2.trans sE
  refine AW.rT (by rfl) fun K hK=>?_
  simp -implicitDefEqProofs only [go_sem,↓reduceIte,Nat.reduceAdd,Nat.reduceEqDiff,reduceCtorEq,d1,b2,b3,b4,List.length_map]
  apply hK;clear hK K
  refine AW.cond _ (by simp -implicitDefEqProofs only [go_sem]; rfl) (fun hc=>?_) (fun hc=>?_)
  ·refine AW.rT (by rfl) fun K hK=>?_
   simp -implicitDefEqProofs only [go_sem,Nat.reduceAdd]
   apply hK;clear hK K
   refine AW.ret ?_
   simp -implicitDefEqProofs only [go_sem,HH]
  ·simp at hc
 have b4 : ((e.2.length : Int) > 64) = False:=by simp; omega
 rw [if_neg (by omega)] at sE
 refine AW.rT (by rfl) fun K hK=>?_
 simp -implicitDefEqProofs only [go_sem,↓reduceIte,Nat.reduceAdd,Nat.reduceEqDiff,reduceCtorEq,d1,b2,b3,b4,List.length_map]
 apply hK;clear hK K
 refine AW.cF rfl ?_
 refine AW.skip ?_
 simp only [andThen]
 refine AW.rT (by rfl) fun K hK=>?_
 simp -implicitDefEqProofs only [go_sem,↓reduceIte,Nat.reduceAdd,Nat.reduceEqDiff]
 apply hK;clear hK K
 refine AW.rT (by rfl) fun K hK=>?_
 simp -implicitDefEqProofs only [go_sem,Nat.reduceAdd]
 apply hK;clear hK K
 refine AW.block ?_
 refine AW.loop (fun k : Nat=>qT es i e k) (fun k=>k ≤ e.2.length ∧ rightTs e.2 (headK e.2) = rightTs (e.2.drop k) (headK e.2)) (fun k=>e.2.length - k) 0 ?_ ⟨by simp,by rw [List.drop_zero]⟩ fun k hk=>?_
 ·simp only [qT]
  refine Ghost.ent (fun l=>if l = 0 then 8 else l) ?_ ?_ ?_ <;> simp -implicitDefEqProofs only [go_sem,↓reduceIte,Nat.reduceEqDiff,reduceCtorEq,List.forall_mem_cons,List.not_mem_nil,false_implies,implies_true,and_self,List.all_cons,List.all_nil,Nat.reduceLT,labsInL,AV.labsIn]
  rfl
 obtain ⟨f1,f2⟩:=hk
 simp only [qT]
 obtain ⟨x0,hx0⟩ : ∃ x,e.2[0]? = some x:=⟨_,List.getElem?_eq_getElem (by omega)⟩
 have ⟨_,_,h03⟩:=at_map' encTr hx0
 have hk0 : headK e.2 = x0.kind:=by
  cases hq : e.2 with
  | nil=>rw [hq] at hx0; simp at hx0
  | cons y l=>rw [hq] at hx0; simp at hx0; subst hx0; rfl
 rw [hk0] at f2 sE
 have hz : ((0 : Int) < (e.2.length : Int)) = True:=by simp; omega
 have hz0 : ((0 : Int) ≤ 0) = True:=by simp
 by_cases hkl : k < e.2.length
 ·obtain ⟨x,hx⟩ : ∃ x,e.2[k]? = some x:=⟨_,List.getElem?_eq_getElem hkl⟩
  have ⟨hx1,hx2,hx3⟩:=at_map' encTr hx
  have hc2 : ((k : Int) < (e.2.length : Int)) = True:=by simp; omega
  have sK:=rightTs_at hx x0.kind
  have IH:=ih i e k x he hx
  rw [encTr_eq] at IH
  refine AW.seq ?_
  refine AW.rT (by rfl) fun K hK=>?_
  simp -implicitDefEqProofs only [go_sem,↓reduceIte,Nat.reduceAdd,Nat.reduceEqDiff,reduceCtorEq,hc2,List.length_map]
  apply hK;clear hK K
  refine AW.cT rfl ?_
  refine AW.skip ?_
  simp only [andThen]
  refine AW.seq ?_
  refine AW.block ?_
  by_cases hkk : x.kind = x0.kind
  ·have bk : (x.kind != x0.kind) = false:=by simpa using hkk
   rw [if_neg (by simpa using hkk)] at sK
   refine AW.dT mixed (by rfl) (by decide +kernel) fun K hK=>?_
   simp -implicitDefEqProofs only [go_sem,↓reduceIte,Nat.reduceAdd,Nat.reduceEqDiff,Nat.reduceLeDiff,reduceCtorEq,Int.reduceToNat,hx1,hx3,hc2,h03,hz,hz0,encTr_eq,List.length_map,bk]
   refine ⟨.pure _,IH,?_⟩
   try simp -implicitDefEqProofs only [go_sem,↓reduceIte,Nat.reduceAdd,Nat.reduceEqDiff]
   refine ⟨heapOK_nil rfl,?_⟩
   apply hK;clear hK K
   cases hq : rightT x with
   | false =>
    rw [if_neg (by rw [hq]; simp)] at sK
    rw [if_neg (by rw [f2,sK]; simp)] at sE
    have HH:=e2.trans sE
    refine AW.cond _ (by simp -implicitDefEqProofs only [go_sem]; rfl) (fun hc=>?_) (fun hc=>?_)
    ·refine AW.rT (by rfl) fun K hK=>?_
     simp -implicitDefEqProofs only [go_sem,Nat.reduceAdd]
     apply hK;clear hK K
     refine AW.ret ?_
     simp -implicitDefEqProofs only [go_sem,HH]
    ·simp at hc
   | true =>
    rw [if_pos hq] at sK
    refine AW.cF rfl ?_
    refine AW.skip ?_
    simp only [andThen,inBlk]
    have w1 : IntKind.wrap .i64 ((k : Int) + 1) = ((k + 1 : Nat) : Int):=by rw [w64] <;> omega
    refine AW.rE (by rfl) fun K hK=>?_
    simp -implicitDefEqProofs only [go_sem,↓reduceIte,Nat.reduceAdd,Nat.reduceEqDiff,reduceCtorEq,w1]
    apply hK;clear hK K
    refine ⟨k + 1,⟨by omega,by rw [hk0]; exact f2.trans sK⟩,by omega,?_⟩
    refine Ghost.sub ?_ ?_ <;> simp -implicitDefEqProofs only [go_sem,↓reduceIte,Nat.reduceEqDiff,reduceCtorEq,List.forall_mem_cons,List.not_mem_nil,false_implies,implies_true,and_self,List.all_cons,List.all_nil,Nat.reduceLT,labsInL,AV.labsIn]
  ·have bk : (x.kind != x0.kind) = true:=by simpa using hkk
   rw [if_pos hkk] at sK
   rw [if_neg (by rw [f2,sK]; simp)] at sE
   have HH:=e2.trans sE
   refine AW.dT mixed (by rfl) (by decide +kernel) fun K hK=>?_
   simp -implicitDefEqProofs only [go_sem,↓reduceIte,Nat.reduceAdd,Nat.reduceEqDiff,reduceCtorEq,Int.reduceToNat,hx1,hx3,hc2,h03,hz,hz0,encTr_eq,List.length_map,bk]
   refine ⟨heapOK_nil rfl,?_⟩
   apply hK;clear hK K
   refine AW.cond _ (by simp -implicitDefEqProofs only [go_sem]; rfl) (fun hc=>?_) (fun hc=>?_)
   ·refine AW.rT (by rfl) fun K hK=>?_
    simp -implicitDefEqProofs only [go_sem,Nat.reduceAdd]
    apply hK;clear hK K
    refine AW.ret ?_
    simp -implicitDefEqProofs only [go_sem,HH]
   ·simp at hc
 ·have hc2 : ((k : Int) < (e.2.length : Int)) = False:=by simp; omega
  rw [List.drop_of_length_le (by omega),rightTs] at f2
  rw [if_pos f2] at sE
  refine AW.seq ?_
  refine AW.rT (by rfl) fun K hK=>?_
  simp -implicitDefEqProofs only [go_sem,↓reduceIte,Nat.reduceAdd,Nat.reduceEqDiff,reduceCtorEq,hc2,List.length_map]
  apply hK;clear hK K
  refine AW.cF rfl ?_
  refine AW.exit ?_
  simp only [andThen,inBlk,↓reduceIte]
  have w1 : IntKind.wrap .i64 ((i : Int) + 1) = ((i + 1 : Nat) : Int):=by rw [w64] <;> omega
  refine AW.rE (by rfl) fun K hK=>?_
  simp -implicitDefEqProofs only [go_sem,↓reduceIte,Nat.reduceAdd,Nat.reduceEqDiff,reduceCtorEq,w1]
  apply hK;clear hK K
  refine ⟨(i + 1,e.1),⟨by show i + 1 ≤ es.length; omega,e2.trans sE⟩,by show es.length - (i + 1) < es.length - i; omega,?_⟩
  refine Ghost.sub ?_ ?_ <;> simp -implicitDefEqProofs only [go_sem,↓reduceIte,Nat.reduceEqDiff,reduceCtorEq,List.forall_mem_cons,List.not_mem_nil,false_implies,implies_true,and_self,AV.labsIn]
def hasS (t : Tr) (g : Int) (i : Nat) : St:=⟨ofL [(2,.ptr 0 0 0),(1,.p (.int .i64 g)),(5,.p (.int .i64 (i : Int)))],ofH [(0,.row 5 [cellsT t])],1⟩
theorem ref_Has (t : Tr) (hlt : lensT t = true) (g : Int) : PFn Tryz.prog 87 [.agg (encTr t),.int .i64 g] (.bool (t.ents.any (fun e=>e.1 == g))):=by
 obtain ⟨la1,la2,la3⟩:=lensT_mk hlt
 refine PFn.of Tryz.func87 rfl (by decide) Tryz.ntmps87 Tryz.results87 (Nat.le_of_ble_eq_true rfl) ?_
 simp only [argsT]
 refine AW.rT (by rfl) fun K hK=>?_
 simp -implicitDefEqProofs only [go_sem,Nat.reduceAdd,encTr_eq]
 apply hK;clear hK K
 refine AW.seq ?_
 refine AW.rT (by rfl) fun K hK=>?_
 simp -implicitDefEqProofs only [go_sem,Nat.reduceAdd]
 apply hK;clear hK K
 refine AW.block ?_
 refine AW.loop (hasS t g) (fun i=>i ≤ t.ents.length ∧ (t.ents.take i).all (fun e=>e.1 != g) = true) (fun i=>t.ents.length - i) 0 ?_ (by simp) fun i hi=>?_
 ·simp only [hasS,cellsT]
  refine Ghost.sub ?_ ?_ <;> simp -implicitDefEqProofs only [go_sem,↓reduceIte,Nat.reduceEqDiff,List.forall_mem_cons,List.not_mem_nil,false_implies,implies_true,and_self,List.all_cons,List.all_nil,Nat.reduceLT,labsInL,AV.labsIn]
  rfl
 obtain ⟨g1,g2⟩:=hi
 simp only [hasS,cellsT]
 by_cases hil : i < t.ents.length
 case neg =>
  have hc1 : ((i : Int) < (t.ents.length : Int)) = False:=by simp; omega
  have hi' : i = t.ents.length:=by omega
  subst hi'
  rw [List.take_length] at g2
  have HH : t.ents.any (fun e=>e.1 == g) = false:=by
   rw [List.any_eq_false]
   intro x hx
   have:=List.all_eq_true.1 g2 x hx
   simpa using this
  refine AW.seq ?_
  refine AW.rT (by rfl) fun K hK=>?_
  simp -implicitDefEqProofs only [go_sem,↓reduceIte,Nat.reduceAdd,Nat.reduceEqDiff,hc1,List.length_map]
  apply hK;clear hK K
  refine AW.cF rfl ?_
  refine AW.exit ?_
  simp only [andThen,inBlk,↓reduceIte]
  refine AW.rT (by rfl) fun K hK=>?_
  simp -implicitDefEqProofs only [go_sem,Nat.reduceAdd]
  apply hK;clear hK K
  refine AW.ret ?_
  simp -implicitDefEqProofs only [go_sem,HH]
 obtain ⟨e,he⟩ : ∃ e,t.ents[i]? = some e:=⟨_,List.getElem?_eq_getElem hil⟩
 have ⟨he1,he2,he3⟩:=at_map' encEn he
 have hc1 : ((i : Int) < (t.ents.length : Int)) = True:=by simp; omega
 refine AW.seq ?_
 refine AW.rT (by rfl) fun K hK=>?_
 simp -implicitDefEqProofs only [go_sem,↓reduceIte,Nat.reduceAdd,Nat.reduceEqDiff,hc1,List.length_map]
 apply hK;clear hK K
 refine AW.cT rfl ?_
 refine AW.skip ?_
 simp only [andThen]
 refine AW.seq ?_
 refine AW.block ?_
 by_cases heq : e.1 = g
 ·have b1 : (e.1 == g) = true:=by simpa using heq
  have HH : t.ents.any (fun e=>e.1 == g) = true:=by
   rw [List.any_eq_true]
   exact ⟨e,List.mem_of_getElem? he,b1⟩
  refine AW.rT (by rfl) fun K hK=>?_
  simp -implicitDefEqProofs only [go_sem,↓reduceIte,Nat.reduceAdd,Nat.reduceEqDiff,he1,he3,hc1,encEn,List.length_map,b1]
  apply hK;clear hK K
  refine AW.cond _ (by simp -implicitDefEqProofs only [go_sem]; rfl) (fun hc=>?_) (fun hc=>?_)
  ·refine AW.rT (by rfl) fun K hK=>?_
   simp -implicitDefEqProofs only [go_sem,Nat.reduceAdd]
   apply hK;clear hK K
   refine AW.ret ?_
   simp -implicitDefEqProofs only [go_sem,HH]
  ·simp at hc
 ·have b1 : (e.1 == g) = false:=beqf heq
  refine AW.rT (by rfl) fun K hK=>?_
  simp -implicitDefEqProofs only [go_sem,↓reduceIte,Nat.reduceAdd,Nat.reduceEqDiff,he1,he3,hc1,encEn,List.length_map,b1]
  apply hK;clear hK K
  refine AW.cF rfl ?_
  refine AW.skip ?_
  simp only [andThen,inBlk]
  have w1 : IntKind.wrap .i64 ((i : Int) + 1) = ((i + 1 : Nat) : Int):=by rw [w64] <;> omega
  refine AW.rE (by rfl) fun K hK=>?_
  simp -implicitDefEqProofs only [go_sem,↓reduceIte,Nat.reduceAdd,Nat.reduceEqDiff,w1]
  apply hK;clear hK K
  refine ⟨i + 1,⟨by omega,all_next he g2 (by simpa using heq)⟩,by omega,?_⟩
  refine Ghost.sub ?_ ?_ <;> simp -implicitDefEqProofs only [go_sem,↓reduceIte,Nat.reduceEqDiff,List.forall_mem_cons,List.not_mem_nil,false_implies,implies_true,and_self,List.all_cons,List.all_nil,Nat.reduceLT,labsInL,AV.labsIn]
def hR1 (t : Tr) (i : Nat) : St:=⟨ofL [(1,.ptr 0 0 0),(3,.p (.int .i64 (i : Int)))],ofH [(0,.row 5 [cellsT t])],1⟩
theorem any_all (es : List (Int × List Tr)) (g : Int) : es.all (fun e=>e.1 != g) = !es.any (fun e=>e.1 == g):=by
 induction es with
 | nil=>rfl
 | cons a l ih=>rw [List.all_cons,List.any_cons,ih,Bool.not_or]; rfl
theorem ref_rest (t : Tr) (hlt : lensT t = true) : PFn Tryz.prog 70 [.agg (encTr t)] (.bool (restT t.ents t.rest)):=by
 obtain ⟨la1,la2,la3⟩:=lensT_mk hlt
 have hm : maxLen = 9223372036854775807:=by decide
 have RT : restT t.ents t.rest = (t.rest.all (okRest t.ents) && rising t.rest):=rfl
 refine PFn.of Tryz.func70 rfl (by decide) Tryz.ntmps70 Tryz.results70 (Nat.le_of_ble_eq_true rfl) ?_
 simp only [argsT]
 refine AW.rT (by rfl) fun K hK=>?_
 simp -implicitDefEqProofs only [go_sem,Nat.reduceAdd,encTr_eq]
 apply hK;clear hK K
 refine AW.seq ?_
 refine AW.rT (by rfl) fun K hK=>?_
 simp -implicitDefEqProofs only [go_sem,Nat.reduceAdd]
 apply hK;clear hK K
 refine AW.block ?_
 refine AW.loop (hR1 t) (fun i=>i ≤ t.rest.length ∧ (t.rest.take i).all (okRest t.ents) = true) (fun i=>t.rest.length - i) 0 ?_ (by simp) fun i hi=>?_
 ·simp only [hR1,cellsT]
  refine Ghost.sub ?_ ?_ <;> simp -implicitDefEqProofs only [go_sem,↓reduceIte,Nat.reduceEqDiff,List.forall_mem_cons,List.not_mem_nil,false_implies,implies_true,and_self,List.all_cons,List.all_nil,Nat.reduceLT,labsInL,AV.labsIn]
  rfl
 obtain ⟨g1,g2⟩:=hi
 simp only [hR1,cellsT]
 by_cases hil : i < t.rest.length
 case neg =>
  have hc1 : ((i : Int) < (t.rest.length : Int)) = False:=by simp; omega
  have hi' : i = t.rest.length:=by omega
  subst hi'
  rw [List.take_length] at g2
  refine AW.seq ?_
  refine AW.rT (by rfl) fun K hK=>?_
  simp -implicitDefEqProofs only [go_sem,↓reduceIte,Nat.reduceAdd,Nat.reduceEqDiff,hc1,List.length_map]
  apply hK;clear hK K
  refine AW.cF rfl ?_
  refine AW.exit ?_
  simp only [andThen,inBlk,↓reduceIte]
  refine AW.rT (by rfl) fun K hK=>?_
  simp -implicitDefEqProofs only [go_sem,↓reduceIte,Nat.reduceAdd,Nat.reduceEqDiff]
  refine ⟨.pure _,ref04_Rising t.rest (by omega),?_⟩
  try simp -implicitDefEqProofs only [go_sem,Nat.reduceAdd]
  apply hK;clear hK K
  refine AW.ret ?_
  simp -implicitDefEqProofs only [go_sem]
  rw [RT,g2,Bool.true_and]
 obtain ⟨r,hr⟩ : ∃ r,t.rest[i]? = some r:=⟨_,List.getElem?_eq_getElem hil⟩
 have ⟨hr1,hr2,hr3⟩:=at_map' encRaw hr
 have hc1 : ((i : Int) < (t.rest.length : Int)) = True:=by simp; omega
 refine AW.seq ?_
 refine AW.rT (by rfl) fun K hK=>?_
 simp -implicitDefEqProofs only [go_sem,↓reduceIte,Nat.reduceAdd,Nat.reduceEqDiff,hc1,List.length_map]
 apply hK;clear hK K
 refine AW.cT rfl ?_
 refine AW.skip ?_
 simp only [andThen]
 refine AW.seq ?_
 refine AW.block ?_
 cases hcr : checkR r with
 | false =>
  have C1 : PFn Tryz.prog 86 [.agg (encRaw r)] (.bool false):=hcr ▸ ref04_Check r
  have HH : restT t.ents t.rest = false:=by rw [RT,all_not hr (by simp [okRest,hcr])]; rfl
  rw [encRaw] at C1
  refine AW.dT mixed (by rfl) (by decide +kernel) fun K hK=>?_
  simp -implicitDefEqProofs only [go_sem,↓reduceIte,Nat.reduceAdd,Nat.reduceEqDiff,Nat.reduceLeDiff,hr1,hr3,hc1,encRaw,List.length_map]
  refine ⟨.pure _,C1,?_⟩
  try simp -implicitDefEqProofs only [go_sem,↓reduceIte,Nat.reduceAdd,Nat.reduceEqDiff]
  refine ⟨heapOK_nil rfl,?_⟩
  apply hK;clear hK K
  refine AW.cond _ (by simp -implicitDefEqProofs only [go_sem]; rfl) (fun hc=>?_) (fun hc=>?_)
  ·refine AW.rT (by rfl) fun K hK=>?_
   simp -implicitDefEqProofs only [go_sem,Nat.reduceAdd]
   apply hK;clear hK K
   refine AW.ret ?_
   simp -implicitDefEqProofs only [go_sem,HH]
  ·simp at hc
 | true =>
  have C1 : PFn Tryz.prog 86 [.agg (encRaw r)] (.bool true):=hcr ▸ ref04_Check r
  rw [encRaw] at C1
  have C2:=ref_Has t hlt r.tag
  rw [encTr_eq] at C2
  have AA:=any_all t.ents r.tag
  refine AW.dT mixed (by rfl) (by decide +kernel) fun K hK=>?_
  simp -implicitDefEqProofs only [go_sem,↓reduceIte,Nat.reduceAdd,Nat.reduceEqDiff,Nat.reduceLeDiff,hr1,hr3,hc1,encRaw,List.length_map]
  refine ⟨.pure _,C1,?_⟩
  try simp -implicitDefEqProofs only [go_sem,↓reduceIte,Nat.reduceAdd,Nat.reduceEqDiff,Nat.reduceLeDiff,hr1,hr3,hc1,encRaw,List.length_map]
  refine ⟨.pure _,C2,?_⟩
  try simp -implicitDefEqProofs only [go_sem,↓reduceIte,Nat.reduceAdd,Nat.reduceEqDiff]
  refine ⟨heapOK_nil rfl,?_⟩
  apply hK;clear hK K
  cases hh : t.ents.any (fun e=>e.1 == r.tag) with
  | true =>
   rw [hh] at AA
   have HH : restT t.ents t.rest = false:=by rw [RT,all_not hr (by rw [okRest,AA]; simp)]; rfl
   refine AW.cond _ (by simp -implicitDefEqProofs only [go_sem]; rfl) (fun hc=>?_) (fun hc=>?_)
   ·refine AW.rT (by rfl) fun K hK=>?_
    simp -implicitDefEqProofs only [go_sem,Nat.reduceAdd]
    apply hK;clear hK K
    refine AW.ret ?_
    simp -implicitDefEqProofs only [go_sem,HH]
   ·simp at hc
  | false =>
   rw [hh] at AA
   refine AW.cF rfl ?_
   refine AW.skip ?_
   simp only [andThen,inBlk]
   have w1 : IntKind.wrap .i64 ((i : Int) + 1) = ((i + 1 : Nat) : Int):=by rw [w64] <;> omega
   refine AW.rE (by rfl) fun K hK=>?_
   simp -implicitDefEqProofs only [go_sem,↓reduceIte,Nat.reduceAdd,Nat.reduceEqDiff,w1]
   apply hK;clear hK K
   refine ⟨i + 1,⟨by omega,all_next hr g2 (by simp only [okRest]; rw [hcr,AA]; rfl)⟩,by omega,?_⟩
   refine Ghost.sub ?_ ?_ <;> simp -implicitDefEqProofs only [go_sem,↓reduceIte,Nat.reduceEqDiff,List.forall_mem_cons,List.not_mem_nil,false_implies,implies_true,and_self,List.all_cons,List.all_nil,Nat.reduceLT,labsInL,AV.labsIn]
theorem ref_check : ∀ (t : Tr),lensT t = true → PFn Tryz.prog 51 [.agg (encTr t)] (.bool (rightT t)):=by
 intro t
 induction h : SizeOf.sizeOf t using Nat.strongRecOn generalizing t with
 | _ sz ih =>
 subst h
 intro hlt
 obtain ⟨la1,la2,la3⟩:=lensT_mk hlt
 have sT:=rightT_mk t
 have E1:=ref_entries t.ents la2 la3 fun i e k x he hx=>ih _ (size_ent he hx) x rfl (lensTs_at (lensE_at la3 he).2 hx)
 have E2:=ref_rest t hlt
 rw [encTr_eq] at E2
 have z1 : ((t.ents.length : Int) == 0) = t.ents.isEmpty:=by cases t.ents <;> simp; omega
 have z2 : ((t.rest.length : Int) == 0) = decide (t.rest = []):=by cases t.rest <;> simp; omega
 refine PFn.of Tryz.func51 rfl (by decide) Tryz.ntmps51 Tryz.results51 (Nat.le_of_ble_eq_true rfl) ?_
 simp only [argsT]
 refine AW.rT (by rfl) fun K hK=>?_
 simp -implicitDefEqProofs only [go_sem,Nat.reduceAdd,encTr_eq]
 apply hK;clear hK K
 refine AW.seq ?_
 refine AW.rT (by rfl) fun K hK=>?_
 simp -implicitDefEqProofs only [go_sem,↓reduceIte,Nat.reduceAdd,Nat.reduceEqDiff]
 apply hK;clear hK K
 refine AW.block ?_
 by_cases c1 : t.kind = 1
 ·have b1 : (t.kind == 1) = true:=by simpa using c1
  rw [if_pos c1] at sT
  refine AW.rT (by rfl) fun K hK=>?_
  simp -implicitDefEqProofs only [go_sem,↓reduceIte,Nat.reduceAdd,b1]
  apply hK;clear hK K
  refine AW.cT rfl ?_
  cases hs : decide (t.s = []) <;> cases hz : t.ents.isEmpty
  all_goals
   rw [hs,hz] at sT
   have b2 : (t.s == []) = decide (t.s = []):=by cases t.s <;> simp
   refine AW.rT (by rfl) fun K hK=>?_
   try simp -implicitDefEqProofs only [go_sem,↓reduceIte,Nat.reduceAdd,Nat.reduceEqDiff,b2,hs,z1,hz,z2,List.length_map]
   apply hK;clear hK K
   refine AW.ret ?_
   try simp -implicitDefEqProofs only [go_sem,sT,Bool.false_and,Bool.true_and]
 ·have b1 : (t.kind == 1) = false:=beqf c1
  rw [if_neg c1] at sT
  refine AW.rT (by rfl) fun K hK=>?_
  simp -implicitDefEqProofs only [go_sem,↓reduceIte,Nat.reduceAdd,b1]
  apply hK;clear hK K
  refine AW.cF rfl ?_
  by_cases c2 : t.kind = 2
  ·have b1 : (t.kind == 2) = true:=by simpa using c2
   have hq : (t.n == 0) = decide (t.n = 0):=by by_cases h : t.n = 0 <;> simp [h]
   rw [if_pos c2] at sT
   refine AW.rT (by rfl) fun K hK=>?_
   simp -implicitDefEqProofs only [go_sem,↓reduceIte,Nat.reduceAdd,Nat.reduceEqDiff,b1]
   apply hK;clear hK K
   refine AW.cT rfl ?_
   cases hs : decide (t.n = 0) <;> cases hz : t.ents.isEmpty
   all_goals
    rw [hs,hz] at sT
    refine AW.rT (by rfl) fun K hK=>?_
    try simp -implicitDefEqProofs only [go_sem,↓reduceIte,Nat.reduceAdd,Nat.reduceEqDiff,hq,hs,z1,hz,z2,List.length_map]
    apply hK;clear hK K
    refine AW.ret ?_
    try simp -implicitDefEqProofs only [go_sem,sT,Bool.false_and,Bool.true_and]
  ·have b1 : (t.kind == 2) = false:=beqf c2
   rw [if_neg c2] at sT
   refine AW.rT (by rfl) fun K hK=>?_
   simp -implicitDefEqProofs only [go_sem,↓reduceIte,Nat.reduceAdd,Nat.reduceEqDiff,b1]
   apply hK;clear hK K
   refine AW.cF rfl ?_
   by_cases c3 : t.kind = 3
   ·have b1 : (t.kind == 3) = true:=by simpa using c3
    have hq : (t.n == 0) = decide (t.n = 0):=by by_cases h : t.n = 0 <;> simp [h]
    have b2 : (t.s == []) = decide (t.s = []):=by cases t.s <;> simp
    rw [if_pos c3] at sT
    refine AW.rT (by rfl) fun K hK=>?_
    simp -implicitDefEqProofs only [go_sem,↓reduceIte,Nat.reduceAdd,Nat.reduceEqDiff,b1]
    apply hK;clear hK K
    refine AW.cT rfl ?_
    cases hn : decide (t.n = 0)
    ·rw [hn] at sT
     refine AW.rT (by rfl) fun K hK=>?_
     try simp -implicitDefEqProofs only [go_sem,↓reduceIte,Nat.reduceAdd,Nat.reduceEqDiff,hq,hn]
     apply hK;clear hK K
     refine AW.ret ?_
     try simp -implicitDefEqProofs only [go_sem,sT,Bool.false_and]
    cases hs : decide (t.s = [])
    ·rw [hn,hs] at sT
     refine AW.rT (by rfl) fun K hK=>?_
     try simp -implicitDefEqProofs only [go_sem,↓reduceIte,Nat.reduceAdd,Nat.reduceEqDiff,hq,hn,b2,hs]
     apply hK;clear hK K
     refine AW.ret ?_
     try simp -implicitDefEqProofs only [go_sem,sT,Bool.false_and,Bool.true_and]
    cases he : rightE t.ents 0
    ·rw [hn,hs,he] at sT
     rw [he] at E1
     refine AW.rT (by rfl) fun K hK=>?_
     try simp -implicitDefEqProofs only [go_sem,↓reduceIte,Nat.reduceAdd,Nat.reduceEqDiff,hq,hn,b2,hs]
     refine ⟨.pure _,E1,?_⟩
     try simp -implicitDefEqProofs only [go_sem,↓reduceIte,Nat.reduceAdd,Nat.reduceEqDiff]
     apply hK;clear hK K
     refine AW.ret ?_
     try simp -implicitDefEqProofs only [go_sem,sT,Bool.false_and,Bool.true_and]
    ·rw [hn,hs,he] at sT
     rw [he] at E1
     refine AW.rT (by rfl) fun K hK=>?_
     try simp -implicitDefEqProofs only [go_sem,↓reduceIte,Nat.reduceAdd,Nat.reduceEqDiff,hq,hn,b2,hs]
     refine ⟨.pure _,E1,?_⟩
     try simp -implicitDefEqProofs only [go_sem,↓reduceIte,Nat.reduceAdd,Nat.reduceEqDiff,Nat.reduceLeDiff]
     refine ⟨.pure _,E2,?_⟩
     try simp -implicitDefEqProofs only [go_sem,↓reduceIte,Nat.reduceAdd,Nat.reduceEqDiff]
     apply hK;clear hK K
     refine AW.ret ?_
     try simp -implicitDefEqProofs only [go_sem,sT,Bool.true_and]
   ·have b1 : (t.kind == 3) = false:=beqf c3
    rw [if_neg c3] at sT
    refine AW.rT (by rfl) fun K hK=>?_
    simp -implicitDefEqProofs only [go_sem,↓reduceIte,Nat.reduceAdd,Nat.reduceEqDiff,b1]
    apply hK;clear hK K
    refine AW.cF rfl ?_
    refine AW.skip ?_
    simp only [andThen,inBlk]
    refine AW.rT (by rfl) fun K hK=>?_
    simp -implicitDefEqProofs only [go_sem,Nat.reduceAdd]
    apply hK;clear hK K
    refine AW.ret ?_
    simp -implicitDefEqProofs only [go_sem,sT]
theorem ref_Check (t : Tr) (hlt : lensT t = true) : PFn Tryz.prog 33 [.agg (encTr t)] (.bool (okT t)):=by
 have E1:=ref09_Depth t hlt
 have E2:=ref_check t hlt
 rw [encTr_eq] at E1 E2
 have hd : ((dT t 101 : Int) ≤ 10) = (dT t 101 ≤ 10):=by simp; omega
 refine PFn.of Tryz.func33 rfl (by decide) Tryz.ntmps33 Tryz.results33 (Nat.le_of_ble_eq_true rfl) ?_
 simp only [argsT]
 refine AW.rT (by rfl) fun K hK=>?_
 simp -implicitDefEqProofs only [go_sem,Nat.reduceAdd,encTr_eq]
 apply hK;clear hK K
 cases hc : decide (dT t 101 ≤ 10)
 ·refine AW.rT (by rfl) fun K hK=>?_
  try simp -implicitDefEqProofs only [go_sem,↓reduceIte,Nat.reduceAdd,Nat.reduceEqDiff,Nat.reduceLeDiff]
  refine ⟨.pure _,E1,?_⟩
  try simp -implicitDefEqProofs only [go_sem,↓reduceIte,Nat.reduceAdd,Nat.reduceEqDiff,hd,hc]
  apply hK;clear hK K
  refine AW.ret ?_
  try simp -implicitDefEqProofs only [go_sem,okT,hc,Bool.false_and]
 ·refine AW.rT (by rfl) fun K hK=>?_
  try simp -implicitDefEqProofs only [go_sem,↓reduceIte,Nat.reduceAdd,Nat.reduceEqDiff,Nat.reduceLeDiff]
  refine ⟨.pure _,E1,?_⟩
  try simp -implicitDefEqProofs only [go_sem,↓reduceIte,Nat.reduceAdd,Nat.reduceEqDiff,Nat.reduceLeDiff,hd,hc]
  refine ⟨.pure _,E2,?_⟩
  try simp -implicitDefEqProofs only [go_sem,↓reduceIte,Nat.reduceAdd,Nat.reduceEqDiff]
  apply hK;clear hK K
  refine AW.ret ?_
  try simp -implicitDefEqProofs only [go_sem,okT,hc,Bool.true_and]
end Go.Aw.T
namespace Go.Aw.T
open Go.Proofs
def qE (l l' : List Raw) (i : Nat) : St:=⟨ofL [(0,.p (.slice (l.map encRaw))),(1,.p (.slice (l'.map encRaw))),(12,.p (.int .i64 (l.length : Int))),(13,.p (.int .i64 (i : Int)))],ofH [],0⟩
end Go.Aw.T
namespace Go.Aw.T
open Go.Proofs
theorem raws_len (l : List Raw) : ∀ e ∈ liftE (l.map encRaw),e.length = 4:=liftE_len fun e he=>by
 obtain ⟨x,_,rfl⟩:=List.mem_map.1 he
 rfl
theorem raws_one (l : List Raw) : ∀ e ∈ liftE (l.map encRaw),oneAll e = true:=liftE_one fun e he p hp=>by
 obtain ⟨x,_,rfl⟩:=List.mem_map.1 he
 simp [encRaw] at hp
 rcases hp with rfl | rfl | rfl | rfl <;> rfl
theorem right_sub : ∀ {l : List Tr} {c : Int},rightTs l c = true → ∀ x ∈ l,rightT x = true:=by
 intro l
 induction l with
 | nil=>intro c _ x h; cases h
 | cons y l ih =>
  intro c h x hx
  rw [rightTs] at h
  split at h
  ·cases h
  ·split at h
   ·rename_i hy
    rcases List.mem_cons.1 hx with rfl | hx
    ·exact hy
    ·exact ih h x hx
   ·cases h
theorem right_ents : ∀ {es : List (Int × List Tr)} {last : Int},rightE es last = true → ∀ e ∈ es,∀ x ∈ e.2,rightT x = true:=by
 intro es
 induction es with
 | nil=>intro c _ x h; cases h
 | cons y es ih =>
  intro last h e he
  obtain ⟨a,l⟩:=y
  rw [rightE] at h
  split at h
  ·cases h
  ·split at h
   ·rename_i hy
    rcases List.mem_cons.1 he with rfl | he
    ·exact right_sub hy
    ·exact ih h e he
   ·cases h
theorem right_kinds {t : Tr} (h : rightT t = true) : (t.kind = 1 ∧ t = .mk 1 t.n [] [] []) ∨ (t.kind = 2 ∧ t = .mk 2 0 t.s [] []) ∨ (t.kind = 3 ∧ t.n = 0 ∧ t.s = [] ∧ rightE t.ents 0 = true ∧ restT t.ents t.rest = true):=by
 obtain ⟨k,n,s,es,rest⟩:=t
 rw [rightT] at h
 simp only [Tr.kind,Tr.n,Tr.s,Tr.ents,Tr.rest]
 by_cases h1 : k = 1
 ·rw [if_pos h1] at h
  simp at h
  obtain ⟨⟨rfl,rfl⟩,rfl⟩:=h
  exact .inl ⟨h1,by rw [h1]⟩
 rw [if_neg h1] at h
 by_cases h2 : k = 2
 ·rw [if_pos h2] at h
  simp at h
  obtain ⟨⟨rfl,rfl⟩,rfl⟩:=h
  exact .inr (.inl ⟨h2,by rw [h2]⟩)
 rw [if_neg h2] at h
 by_cases h3 : k = 3
 ·rw [if_pos h3] at h
  simp at h
  exact .inr (.inr ⟨h3,h.1.1.1,h.1.1.2,h.1.2,h.2⟩)
 ·rw [if_neg h3] at h
  cases h
end Go.Aw.T
namespace Go.Aw.T
open Go.Proofs Go.RowKit
inductive In0 where
 | none | num (n : Int) | str (s : List UInt8) | node (cs : List PV)
def encIn : In0 → PV
 | .none=>.cst .nilIface
 | .num n=>.iface 169 (.int .i64 n)
 | .str s=>.iface 170 (.str s)
 | .node cs=>.iface 130 (.box cs 0)
theorem value_Num (n : Int) : PFn Tryz.prog 79 [.int .i64 n] (.agg [encIn (.num n)]):=by
 refine PFn.of Tryz.func79 rfl (by decide) Tryz.ntmps79 Tryz.results79 (Nat.le_of_ble_eq_true rfl) ?_
 simp only [argsT]
 refine AW.rT (by rfl) fun K hK=>?_
 simp -implicitDefEqProofs only [go_sem]
 apply hK;clear hK K
 refine AW.rT (by rfl) fun K hK=>?_
 simp -implicitDefEqProofs only [go_sem,↓reduceIte,Nat.reduceAdd,Nat.reduceEqDiff,Nat.reduceLeDiff,reduceCtorEq]
 apply hK;clear hK K
 refine AW.ret ?_
 simp -implicitDefEqProofs only [go_sem,↓reduceIte,Nat.reduceEqDiff,Nat.reduceLeDiff]
 rfl
theorem value_Str (s : List UInt8) : PFn Tryz.prog 80 [.str s] (.agg [encIn (.str s)]):=by
 refine PFn.of Tryz.func80 rfl (by decide) Tryz.ntmps80 Tryz.results80 (Nat.le_of_ble_eq_true rfl) ?_
 simp only [argsT]
 refine AW.rT (by rfl) fun K hK=>?_
 simp -implicitDefEqProofs only [go_sem]
 apply hK;clear hK K
 refine AW.rT (by rfl) fun K hK=>?_
 simp -implicitDefEqProofs only [go_sem,↓reduceIte,Nat.reduceAdd,Nat.reduceEqDiff,Nat.reduceLeDiff,reduceCtorEq]
 apply hK;clear hK K
 refine AW.ret ?_
 simp -implicitDefEqProofs only [go_sem,↓reduceIte,Nat.reduceEqDiff,Nat.reduceLeDiff]
 rfl
def asNum : In0 → Int × Bool
 | .num n=>(n,true)
 | _=>(0,false)
theorem value_AsNum (x : In0) : PFn Tryz.prog 95 [.agg [encIn x]] (.tuple [.int .i64 (asNum x).1,.bool (asNum x).2]):=by
 refine PFn.of Tryz.func95 rfl (by decide) Tryz.ntmps95 Tryz.results95 (Nat.le_of_ble_eq_true rfl) ?_
 simp only [argsT]
 cases x
 all_goals
  simp only [encIn]
  refine AW.rT (by rfl) fun K hK=>?_
  simp -implicitDefEqProofs only [go_sem,Nat.reduceAdd]
  apply hK;clear hK K
  refine AW.rT (by rfl) fun K hK=>?_
  simp -implicitDefEqProofs only [go_sem,↓reduceIte,Nat.reduceAdd,Nat.reduceEqDiff]
  apply hK;clear hK K
  refine AW.rT (by rfl) fun K hK=>?_
  simp -implicitDefEqProofs only [go_sem,↓reduceIte,Nat.reduceAdd,Nat.reduceEqDiff]
  apply hK;clear hK K
  refine AW.ret ?_
  simp -implicitDefEqProofs only [go_sem,↓reduceIte,Nat.reduceEqDiff]
 all_goals rfl
def asNode : In0 → PV × Bool
 | .node cs=>(.box cs 0,true)
 | _=>(.cst (.pointer none),false)
theorem value_AsNode (x : In0) : PFn Tryz.prog 96 [.agg [encIn x]] (.tuple [(asNode x).1,.bool (asNode x).2]):=by
 refine PFn.of Tryz.func96 rfl (by decide) Tryz.ntmps96 Tryz.results96 (Nat.le_of_ble_eq_true rfl) ?_
 simp only [argsT]
 cases x
 all_goals
  simp only [encIn]
  refine AW.rT (by rfl) fun K hK=>?_
  simp -implicitDefEqProofs only [go_sem,Nat.reduceAdd]
  apply hK;clear hK K
  refine AW.rT (by rfl) fun K hK=>?_
  simp -implicitDefEqProofs only [go_sem,↓reduceIte,Nat.reduceAdd,Nat.reduceEqDiff]
  apply hK;clear hK K
  refine AW.rT (by rfl) fun K hK=>?_
  simp -implicitDefEqProofs only [go_sem,↓reduceIte,Nat.reduceAdd,Nat.reduceEqDiff]
  apply hK;clear hK K
  refine AW.ret ?_
  simp -implicitDefEqProofs only [go_sem,↓reduceIte,Nat.reduceEqDiff]
 all_goals rfl
theorem value_MustNode (cs : List PV) : PFn Tryz.prog 49 [.agg [encIn (.node cs)]] (.box cs 0):=by
 refine PFn.of Tryz.func49 rfl (by decide) Tryz.ntmps49 Tryz.results49 (Nat.le_of_ble_eq_true rfl) ?_
 simp only [argsT,encIn]
 refine AW.rT (by rfl) fun K hK=>?_
 simp -implicitDefEqProofs only [go_sem,Nat.reduceAdd]
 apply hK;clear hK K
 refine AW.rT (by rfl) fun K hK=>?_
 simp -implicitDefEqProofs only [go_sem,↓reduceIte,Nat.reduceAdd,Nat.reduceEqDiff]
 apply hK;clear hK K
 refine AW.ret ?_
 simp -implicitDefEqProofs only [go_sem]
theorem rep_in {w : World} {I : Nat → Prop} {v : Value} {x : In0} (h : rep w I v (.agg [encIn x])) : ∃ u,v = .agg #[u] ∧ rep w I u (encIn x):=by
 cases h with
 | agg hs hr =>
  rename_i vs
  have h1 : vs.size = 1:=by rw [hs]; rfl
  refine ⟨vs[0],?_,hr 0 _ _ (Array.getElem?_eq_getElem (by omega)) rfl⟩
  congr 1
  apply Array.ext
  ·exact h1
  ·intro i hi hi'
   have : i = 0:=by omega
   subst this
   rfl
theorem Fr.alloc {w0 w : World} {X : Nat → Prop} (h : Fr w0 X w) (o : Obj) : Fr w0 X (w.alloc o):=by
 have e : ∀ b,b < w0.heap.size → (w.alloc o).heap[b]? = w.heap[b]?:=fun b hb=>by
  have:=h.size
  show (w.heap.push o)[b]? = _
  rw [Array.getElem?_push,if_neg (by omega)]
 refine ⟨h.os,h.tape,h.output,?_,fun b hb hx=>(e b hb).trans (h.block b hb hx),h.step fun b cur et p hb hc=>⟨cur,et,p,by rw [e b hb]; exact hc,rfl⟩⟩
 show _ ≤ (w.heap.push o).size
 have:=h.size
 simp; omega
theorem meth99 (u : Value) (w : World) : (method (Tryz.prog.types.size + Made.depth) 169 u "concordat/value.kind").run Tryz.prog w = .ok (118, u) w := by kernel_rfl
theorem meth101 (u : Value) (w : World) : (method (Tryz.prog.types.size + Made.depth) 170 u "concordat/value.kind").run Tryz.prog w = .ok (119, u) w := by kernel_rfl
theorem meth66 (u : Value) (w : World) : (method (Tryz.prog.types.size + Made.depth) 130 u "concordat/value.kind").run Tryz.prog w = .ok (117, u) w := by kernel_rfl
def kindIn : In0 → Int
 | .none=>0
 | .num _=>1
 | .str _=>2
 | .node _=>3
theorem num_kind (u : Value) (w : World) : Calls Tryz.prog 118 #[u] w fun e w'=>e = .returned (.int .i64 1) ∧ w' = w:=by
 go_enter Tryz.func118,Tryz.ntmps118
 go_wp2
 simp [bodyPost,results,Tryz.results118]
theorem kind_num (u : Value) (w : World) : Calls Tryz.prog 93 #[.agg #[.iface 169 u]] w fun e w'=>e = .returned (.int .i64 1) ∧ Fr w (fun _=>False) w':=by
 have hm : ∀ (u : Value) (w : World), (callMethod (.iface 169 u) "concordat/value.kind" #[]).run Tryz.prog w = .ok (.enter 118 #[u]) w := fun u w => by
  simp only [callMethod,Sem.run_bind,run_program,Result.andThen_ok,meth99]
  kernel_rfl
 go_enter Tryz.func93,Tryz.ntmps93
 go_wp2
 refine (num_kind u _).mono ?_
 rintro e w' ⟨rfl,rfl⟩
 go_wp2
 exact ⟨rfl,.int .i64 1,by simp [results,Tryz.results93],rfl,Fr.alloc (Fr.refl w _) _⟩
theorem str_kind (u : Value) (w : World) : Calls Tryz.prog 119 #[u] w fun e w'=>e = .returned (.int .i64 2) ∧ w' = w:=by
 go_enter Tryz.func119,Tryz.ntmps119
 go_wp2
 simp [bodyPost,results,Tryz.results119]
theorem kind_str (u : Value) (w : World) : Calls Tryz.prog 93 #[.agg #[.iface 170 u]] w fun e w'=>e = .returned (.int .i64 2) ∧ Fr w (fun _=>False) w':=by
 have hm : ∀ (u : Value) (w : World), (callMethod (.iface 170 u) "concordat/value.kind" #[]).run Tryz.prog w = .ok (.enter 119 #[u]) w := fun u w => by
  simp only [callMethod,Sem.run_bind,run_program,Result.andThen_ok,meth101]
  kernel_rfl
 go_enter Tryz.func93,Tryz.ntmps93
 go_wp2
 refine (str_kind u _).mono ?_
 rintro e w' ⟨rfl,rfl⟩
 go_wp2
 exact ⟨rfl,.int .i64 2,by simp [results,Tryz.results93],rfl,Fr.alloc (Fr.refl w _) _⟩
theorem node_kind (u : Value) (w : World) : Calls Tryz.prog 117 #[u] w fun e w'=>e = .returned (.int .i64 3) ∧ w' = w:=by
 go_enter Tryz.func117,Tryz.ntmps117
 go_wp2
 simp [bodyPost,results,Tryz.results117]
theorem kind_node (u : Value) (w : World) : Calls Tryz.prog 93 #[.agg #[.iface 130 u]] w fun e w'=>e = .returned (.int .i64 3) ∧ Fr w (fun _=>False) w':=by
 have hm : ∀ (u : Value) (w : World), (callMethod (.iface 130 u) "concordat/value.kind" #[]).run Tryz.prog w = .ok (.enter 117 #[u]) w := fun u w => by
  simp only [callMethod,Sem.run_bind,run_program,Result.andThen_ok,meth66]
  kernel_rfl
 go_enter Tryz.func93,Tryz.ntmps93
 go_wp2
 refine (node_kind u _).mono ?_
 rintro e w' ⟨rfl,rfl⟩
 go_wp2
 exact ⟨rfl,.int .i64 3,by simp [results,Tryz.results93],rfl,Fr.alloc (Fr.refl w _) _⟩
theorem kind_none (w : World) : Calls Tryz.prog 93 #[.agg #[.nilIface]] w fun e w'=>e = .returned (.int .i64 0) ∧ Fr w (fun _=>False) w':=by
 go_enter Tryz.func93,Tryz.ntmps93
 go_wp2
 exact ⟨rfl,.int .i64 0,by simp [results,Tryz.results93],rfl,Fr.alloc (Fr.refl w _) _⟩
theorem value_Kind (x : In0) : PFn Tryz.prog 93 [.agg [encIn x]] (.int .i64 (kindIn x)):=by
 refine ⟨by kernel_rfl,fun w I vals hs hr hI _=>?_⟩
 have hs1 : vals.size = 1:=by rw [hs]; rfl
 have h0:=hr 0 _ _ (Array.getElem?_eq_getElem (by omega)) rfl
 obtain ⟨u,hu,hru⟩:=rep_in h0
 have hv : vals = #[.agg #[u]]:=by
  apply Array.ext
  ·exact hs1
  ·intro i hi hi'
   have : i = 0:=by omega
   subst this
   exact hu
 subst hv
 have fin : ∀ {k : Int},k = kindIn x → (Calls Tryz.prog 93 #[.agg #[u]] w fun e w'=>e = Ending.returned (.int .i64 k) ∧ Fr w (fun _=>False) w') → _:=fun hk hc=>hc.mono fun e w' ⟨he,hf⟩=>(⟨_,he,hf,by rw [hk]; exact .int .i64 _⟩ : ∃ v,e = Ending.returned v ∧ Fr w (fun _=>False) w' ∧ rep w' (fun g=>I g ∨ (w.heap.size ≤ g ∧ g < w'.heap.size)) v (.int .i64 (kindIn x)))
 cases x with
 | none=>cases hru; exact fin rfl (kind_none w)
 | num n=>cases hru with | iface _ h=>exact fin rfl (kind_num _ w)
 | str n=>cases hru with | iface _ h=>exact fin rfl (kind_str _ w)
 | node n=>cases hru with | iface _ h=>exact fin rfl (kind_node _ w)
def leafT : In0 → Tr
 | .none=>.mk 0 0 [] [] []
 | .num n=>.mk 1 n [] [] []
 | .str s=>.mk 2 0 s [] []
 | .node _=>.mk 3 0 [] [] []
theorem value_Tree_leaf (x : In0) (hx : ∀ cs,x ≠ .node cs) : PFn Tryz.prog 83 [.agg [encIn x]] (.agg (encTr (leafT x))):=by
 refine PFn.of Tryz.func83 rfl (by decide) Tryz.ntmps83 Tryz.results83 (Nat.le_of_ble_eq_true rfl) ?_
 simp only [argsT]
 cases x with
 | node cs=>exact absurd rfl (hx cs)
 | num n =>
  simp only [encIn]
  refine AW.rT (by rfl) fun K hK=>?_
  simp -implicitDefEqProofs only [go_sem,Nat.reduceAdd]
  apply hK;clear hK K
  refine AW.rT (by rfl) fun K hK=>?_
  simp -implicitDefEqProofs only [go_sem,↓reduceIte,Nat.reduceAdd,Nat.reduceEqDiff,Nat.reduceLeDiff,reduceCtorEq]
  refine ⟨.pure _,value_Kind (.num n),?_⟩
  try simp -implicitDefEqProofs only [go_sem,↓reduceIte,Nat.reduceAdd,Nat.reduceEqDiff,Nat.reduceLeDiff,kindIn]
  apply hK;clear hK K
  refine AW.seq ?_
  refine AW.rT (by rfl) fun K hK=>?_
  simp -implicitDefEqProofs only [go_sem,↓reduceIte,Nat.reduceAdd,Nat.reduceEqDiff,reduceCtorEq]
  apply hK;clear hK K
  refine AW.block ?_
  refine AW.rT (by rfl) fun K hK=>?_
  simp -implicitDefEqProofs only [go_sem,↓reduceIte,Nat.reduceAdd,Nat.reduceEqDiff]
  apply hK;clear hK K
  refine AW.cond _ (by simp -implicitDefEqProofs only [go_sem,↓reduceIte,Nat.reduceEqDiff]; rfl) (fun hc=>?_) (fun hc=>?_)
  ·refine AW.rT (by rfl) fun K hK=>?_
   simp -implicitDefEqProofs only [go_sem,Nat.reduceAdd]
   apply hK;clear hK K
   refine AW.rE (by rfl) fun K hK=>?_
   simp -implicitDefEqProofs only [go_sem,↓reduceIte,Nat.reduceAdd,Nat.reduceEqDiff,Nat.reduceLeDiff]
   apply hK;clear hK K
   simp only [andThen,inBlk]
   refine AW.rT (by rfl) fun K hK=>?_
   simp -implicitDefEqProofs only [go_sem,↓reduceIte,Nat.reduceAdd,Nat.reduceEqDiff,Nat.reduceLeDiff]
   apply hK;clear hK K
   refine AW.ret ?_
   simp -implicitDefEqProofs only [go_sem,↓reduceIte,Nat.reduceAdd,Nat.reduceEqDiff,Nat.reduceLeDiff,encTr_eq,leafT]
   rfl
  ·simp at hc
 | str s =>
  simp only [encIn]
  refine AW.rT (by rfl) fun K hK=>?_
  simp -implicitDefEqProofs only [go_sem,Nat.reduceAdd]
  apply hK;clear hK K
  refine AW.rT (by rfl) fun K hK=>?_
  simp -implicitDefEqProofs only [go_sem,↓reduceIte,Nat.reduceAdd,Nat.reduceEqDiff,Nat.reduceLeDiff,reduceCtorEq]
  refine ⟨.pure _,value_Kind (.str s),?_⟩
  try simp -implicitDefEqProofs only [go_sem,↓reduceIte,Nat.reduceAdd,Nat.reduceEqDiff,Nat.reduceLeDiff,kindIn]
  apply hK;clear hK K
  refine AW.seq ?_
  refine AW.rT (by rfl) fun K hK=>?_
  simp -implicitDefEqProofs only [go_sem,↓reduceIte,Nat.reduceAdd,Nat.reduceEqDiff,reduceCtorEq]
  apply hK;clear hK K
  refine AW.block ?_
  refine AW.rT (by rfl) fun K hK=>?_
  simp -implicitDefEqProofs only [go_sem,↓reduceIte,Nat.reduceAdd,Nat.reduceEqDiff]
  apply hK;clear hK K
  refine AW.cF rfl ?_
  refine AW.rT (by rfl) fun K hK=>?_
  simp -implicitDefEqProofs only [go_sem,↓reduceIte,Nat.reduceAdd,Nat.reduceEqDiff]
  apply hK;clear hK K
  refine AW.cond _ (by simp -implicitDefEqProofs only [go_sem,↓reduceIte,Nat.reduceEqDiff]; rfl) (fun hc=>?_) (fun hc=>?_)
  ·refine AW.rT (by rfl) fun K hK=>?_
   simp -implicitDefEqProofs only [go_sem,Nat.reduceAdd]
   apply hK;clear hK K
   refine AW.rE (by rfl) fun K hK=>?_
   simp -implicitDefEqProofs only [go_sem,↓reduceIte,Nat.reduceAdd,Nat.reduceEqDiff,Nat.reduceLeDiff]
   apply hK;clear hK K
   simp only [andThen,inBlk]
   refine AW.rT (by rfl) fun K hK=>?_
   simp -implicitDefEqProofs only [go_sem,↓reduceIte,Nat.reduceAdd,Nat.reduceEqDiff,Nat.reduceLeDiff]
   apply hK;clear hK K
   refine AW.ret ?_
   simp -implicitDefEqProofs only [go_sem,↓reduceIte,Nat.reduceAdd,Nat.reduceEqDiff,Nat.reduceLeDiff,encTr_eq,leafT]
   rfl
  ·simp at hc
 | none =>
  simp only [encIn]
  refine AW.rT (by rfl) fun K hK=>?_
  simp -implicitDefEqProofs only [go_sem,Nat.reduceAdd]
  apply hK;clear hK K
  refine AW.rT (by rfl) fun K hK=>?_
  simp -implicitDefEqProofs only [go_sem,↓reduceIte,Nat.reduceAdd,Nat.reduceEqDiff,Nat.reduceLeDiff,reduceCtorEq]
  refine ⟨.pure _,value_Kind .none,?_⟩
  try simp -implicitDefEqProofs only [go_sem,↓reduceIte,Nat.reduceAdd,Nat.reduceEqDiff,Nat.reduceLeDiff,kindIn]
  apply hK;clear hK K
  refine AW.seq ?_
  refine AW.rT (by rfl) fun K hK=>?_
  simp -implicitDefEqProofs only [go_sem,↓reduceIte,Nat.reduceAdd,Nat.reduceEqDiff,reduceCtorEq]
  apply hK;clear hK K
  refine AW.block ?_
  refine AW.rT (by rfl) fun K hK=>?_
  simp -implicitDefEqProofs only [go_sem,↓reduceIte,Nat.reduceAdd,Nat.reduceEqDiff]
  apply hK;clear hK K
  refine AW.cF rfl ?_
  refine AW.rT (by rfl) fun K hK=>?_
  simp -implicitDefEqProofs only [go_sem,↓reduceIte,Nat.reduceAdd,Nat.reduceEqDiff]
  apply hK;clear hK K
  refine AW.cF rfl ?_
  refine AW.rT (by rfl) fun K hK=>?_
  simp -implicitDefEqProofs only [go_sem,↓reduceIte,Nat.reduceAdd,Nat.reduceEqDiff]
  apply hK;clear hK K
  refine AW.cF rfl ?_
  refine AW.skip ?_
  simp only [andThen,inBlk]
  refine AW.rT (by rfl) fun K hK=>?_
  simp -implicitDefEqProofs only [go_sem,↓reduceIte,Nat.reduceAdd,Nat.reduceEqDiff,Nat.reduceLeDiff]
  apply hK;clear hK K
  refine AW.ret ?_
  simp -implicitDefEqProofs only [go_sem,↓reduceIte,Nat.reduceAdd,Nat.reduceEqDiff,Nat.reduceLeDiff,encTr_eq,leafT]
  rfl
theorem clone_Raws (l : List Raw) (hl : l.length ≤ 1000000) : PFn Tryz.prog 81 [.slice (l.map encRaw)] (.slice (l.map encRaw)):=by
 refine PFn.of Tryz.func81 rfl (by decide) Tryz.ntmps81 Tryz.results81 (Nat.le_of_ble_eq_true rfl) ?_
 simp only [argsT]
 have g0:=raws_len l
 have g1:=raws_one l
 have g2 : l = [] ∨ ∃ x r,l = x :: r:=by cases l <;> simp
 refine AW.rT (by rfl) fun K hK=>?_
 simp -implicitDefEqProofs only [go_sem]
 apply hK;clear hK K
 refine AW.seq ?_
 rcases g2 with rfl | ⟨x,r,rfl⟩
 ·refine AW.nilSplit (t:=0) rfl fun a n=>?_
  refine AW.rT (by rfl) fun K hK=>?_
  simp -implicitDefEqProofs only [go_sem,↓reduceIte,Nat.reduceAdd]
  refine ⟨_,eqP_nil Tryz.underlying28 a n,?_⟩
  simp only [boolE]
  try simp -implicitDefEqProofs only [go_sem,Nat.reduceAdd]
  apply hK;clear hK K
  cases a with
  | none =>
   refine AW.cond _ (by simp -implicitDefEqProofs only [go_sem]; rfl) (fun hc=>?_) (fun hc=>?_)
   ·refine AW.rT (by rfl) fun K hK=>?_
    simp -implicitDefEqProofs only [go_sem,Nat.reduceAdd]
    apply hK;clear hK K
    refine AW.ret ?_
    simp -implicitDefEqProofs only [go_sem]
   ·simp at hc
  | some a =>
   refine AW.cF rfl ?_
   refine AW.skip ?_
   simp only [andThen]
   refine AW.ghost (s':=⟨ofL [(0,.p (.slice [])),(2,.ex [])],ofH [],0⟩) (Ghost.trans (Ghost.unNil (t:=0) (n:=n) (a:=some a) rfl) ?_) ?_
   ·refine Ghost.sub ?_ ?_ <;> simp -implicitDefEqProofs only [go_sem,↓reduceIte,Nat.reduceEqDiff,reduceCtorEq,List.forall_mem_cons,List.not_mem_nil,false_implies,implies_true,and_self,AV.labsIn]
   refine AW.rT (by rfl) fun K hK=>?_
   simp -implicitDefEqProofs only [go_sem,↓reduceIte,Nat.reduceAdd,Nat.reduceMul,Nat.reduceEqDiff,Nat.reduceLeDiff,reduceCtorEq]
   refine ⟨⟨by simp,by simp,by simp⟩,by decide,?_⟩
   apply hK;clear hK K
   refine AW.ret ?_
   simp -implicitDefEqProofs only [go_sem]
 ·refine AW.rT (by rfl) fun K hK=>?_
  simp -implicitDefEqProofs only [go_sem,↓reduceIte,Nat.reduceAdd,reduceCtorEq]
  refine ⟨_,eqP_some Tryz.underlying28 _ _,?_⟩
  try simp -implicitDefEqProofs only [go_sem,Nat.reduceAdd]
  apply hK;clear hK K
  refine AW.cF rfl ?_
  refine AW.skip ?_
  simp only [andThen]
  refine AW.ghost (s':=⟨ofL [(0,.p (.slice ((x :: r).map encRaw))),(2,.ex [])],ofH [],0⟩) ?_ ?_
  ·refine Ghost.sub ?_ ?_ <;> simp -implicitDefEqProofs only [go_sem,↓reduceIte,Nat.reduceEqDiff,reduceCtorEq,List.forall_mem_cons,List.not_mem_nil,false_implies,implies_true,and_self,AV.labsIn]
  refine AW.rT (by rfl) fun K hK=>?_
  simp -implicitDefEqProofs only [go_sem,↓reduceIte,Nat.reduceAdd,Nat.reduceMul,Nat.reduceEqDiff,Nat.reduceLeDiff,reduceCtorEq]
  refine ⟨⟨g0,g1,by simp⟩,by simp [liftE_length]; simp at hl; omega,?_⟩
  apply hK;clear hK K
  refine AW.ret ?_
  simp -implicitDefEqProofs only [go_sem]
mutual
/-- What a value keeps that is made of a tree. -/
def encV : Tr → PV
 | .mk k n s es rest=>if k = 1 then .iface 169 (.int .i64 n) else if k = 2 then .iface 170 (.str s) else .iface 130 (.box [.slice (encVes es),.slice (rest.map encRaw)] 0)
def encVes : List (Int × List Tr) → List (List PV)
 | []=>[]
 | (t,l) :: r=>[.int .i64 t,.slice (encVs l)] :: encVes r
def encVs : List Tr → List (List PV)
 | []=>[]
 | x :: l=>[encV x] :: encVs l
end
def encV1 (t : Tr) : List PV:=[encV t]
def encVn (e : Int × List Tr) : List PV:=[.int .i64 e.1,.slice (e.2.map encV1)]
theorem encVs_map : ∀ l : List Tr,encVs l = l.map encV1
 | []=>by simp [encVs]
 | x :: l=>by rw [encVs,encVs_map l]; rfl
theorem encVes_map : ∀ l : List (Int × List Tr),encVes l = l.map encVn
 | []=>by simp [encVes]
 | (t,l) :: r=>by rw [encVes,encVes_map r,encVs_map]; rfl
theorem encV_eq (t : Tr) : encV t = if t.kind = 1 then .iface 169 (.int .i64 t.n) else if t.kind = 2 then .iface 170 (.str t.s) else .iface 130 (.box [.slice (t.ents.map encVn),.slice (t.rest.map encRaw)] 0):=by
 cases t
 rw [encV,encVes_map]; rfl
theorem encV_one (t : Tr) : (encV t).one = true:=by
 rw [encV_eq]
 split
 ·rfl
 ·split <;> rfl
theorem vals_len (l : List Tr) : ∀ e ∈ liftE (l.map encV1),e.length = 1:=liftE_len fun e he=>by
 obtain ⟨x,_,rfl⟩:=List.mem_map.1 he
 rfl
theorem vals_one (l : List Tr) : ∀ e ∈ liftE (l.map encV1),oneAll e = true:=liftE_one fun e he p hp=>by
 obtain ⟨x,_,rfl⟩:=List.mem_map.1 he
 simp [encV1] at hp
 subst hp
 exact encV_one x
theorem clone_Vals (l : List Tr) (hl : l.length ≤ 1000000) : PFn Tryz.prog 82 [.slice (l.map encV1)] (.slice (l.map encV1)):=by
 refine PFn.of Tryz.func82 rfl (by decide) Tryz.ntmps82 Tryz.results82 (Nat.le_of_ble_eq_true rfl) ?_
 simp only [argsT]
 have g0:=vals_len l
 have g1:=vals_one l
 have g2 : l = [] ∨ ∃ x r,l = x :: r:=by cases l <;> simp
 refine AW.rT (by rfl) fun K hK=>?_
 simp -implicitDefEqProofs only [go_sem]
 apply hK;clear hK K
 refine AW.seq ?_
 rcases g2 with rfl | ⟨x,r,rfl⟩
 ·refine AW.nilSplit (t:=0) rfl fun a n=>?_
  refine AW.rT (by rfl) fun K hK=>?_
  simp -implicitDefEqProofs only [go_sem,↓reduceIte,Nat.reduceAdd]
  refine ⟨_,eqP_nil Tryz.underlying145 a n,?_⟩
  simp only [boolE]
  try simp -implicitDefEqProofs only [go_sem,Nat.reduceAdd]
  apply hK;clear hK K
  cases a with
  | none =>
   refine AW.cond _ (by simp -implicitDefEqProofs only [go_sem]; rfl) (fun hc=>?_) (fun hc=>?_)
   ·refine AW.rT (by rfl) fun K hK=>?_
    simp -implicitDefEqProofs only [go_sem,Nat.reduceAdd]
    apply hK;clear hK K
    refine AW.ret ?_
    simp -implicitDefEqProofs only [go_sem]
   ·simp at hc
  | some a =>
   refine AW.cF rfl ?_
   refine AW.skip ?_
   simp only [andThen]
   refine AW.ghost (s':=⟨ofL [(0,.p (.slice [])),(2,.ex [])],ofH [],0⟩) (Ghost.trans (Ghost.unNil (t:=0) (n:=n) (a:=some a) rfl) ?_) ?_
   ·refine Ghost.sub ?_ ?_ <;> simp -implicitDefEqProofs only [go_sem,↓reduceIte,Nat.reduceEqDiff,reduceCtorEq,List.forall_mem_cons,List.not_mem_nil,false_implies,implies_true,and_self,AV.labsIn]
   refine AW.rT (by rfl) fun K hK=>?_
   simp -implicitDefEqProofs only [go_sem,↓reduceIte,Nat.reduceAdd,Nat.reduceMul,Nat.reduceEqDiff,Nat.reduceLeDiff,reduceCtorEq]
   refine ⟨⟨by simp,by simp,by simp⟩,by decide,?_⟩
   apply hK;clear hK K
   refine AW.ret ?_
   simp -implicitDefEqProofs only [go_sem]
 ·refine AW.rT (by rfl) fun K hK=>?_
  simp -implicitDefEqProofs only [go_sem,↓reduceIte,Nat.reduceAdd,reduceCtorEq]
  refine ⟨_,eqP_some Tryz.underlying145 _ _,?_⟩
  try simp -implicitDefEqProofs only [go_sem,Nat.reduceAdd]
  apply hK;clear hK K
  refine AW.cF rfl ?_
  refine AW.skip ?_
  simp only [andThen]
  refine AW.ghost (s':=⟨ofL [(0,.p (.slice ((x :: r).map encV1))),(2,.ex [])],ofH [],0⟩) ?_ ?_
  ·refine Ghost.sub ?_ ?_ <;> simp -implicitDefEqProofs only [go_sem,↓reduceIte,Nat.reduceEqDiff,reduceCtorEq,List.forall_mem_cons,List.not_mem_nil,false_implies,implies_true,and_self,AV.labsIn]
  refine AW.rT (by rfl) fun K hK=>?_
  simp -implicitDefEqProofs only [go_sem,↓reduceIte,Nat.reduceAdd,Nat.reduceMul,Nat.reduceEqDiff,Nat.reduceLeDiff,reduceCtorEq]
  refine ⟨⟨g0,g1,by simp⟩,by simp [liftE_length]; simp at hl; omega,?_⟩
  apply hK;clear hK K
  refine AW.ret ?_
  simp -implicitDefEqProofs only [go_sem]
def mx (t : Tr) (i : Nat) : St:=⟨ofL [(2,.ptr 1 0 0),(3,.ptr 2 0 0),(27,.p (.slice (t.ents.map encEn))),(28,.p (.int .i64 (t.ents.length : Int))),(29,.p (.int .i64 (i : Int)))],
 ofH [(1,.row 1 [[.p (.cst .nilIface)]]),(2,.row 2 [[.own 3,.p (.slice (t.rest.map encRaw))]]),(3,.row 2 (liftE ((t.ents.take i).map encVn)))],4⟩
def my (t : Tr) (i : Nat) (e : Int × List Tr) (k : Nat) : St:=⟨ofL [(2,.ptr 1 0 0),(3,.ptr 2 0 0),(27,.p (.slice (t.ents.map encEn))),(28,.p (.int .i64 (t.ents.length : Int))),(29,.p (.int .i64 (i : Int))),(6,.ptr 4 0 0),(37,.p (.slice (e.2.map encTr))),(38,.p (.int .i64 (e.2.length : Int))),(39,.p (.int .i64 (k : Int)))],
 ofH [(1,.row 1 [[.p (.cst .nilIface)]]),(2,.row 2 [[.own 3,.p (.slice (t.rest.map encRaw))]]),(3,.row 2 (liftE ((t.ents.take i).map encVn))),(4,.row 2 [[.p (.int .i64 e.1),.own 5]]),(5,.row 1 (liftE ((e.2.take k).map encV1)))],6⟩
def mz (t : Tr) (i : Nat) (e : Int × List Tr) : St:=⟨ofL [(2,.ptr 1 0 0),(3,.ptr 2 0 0),(27,.p (.slice (t.ents.map encEn))),(28,.p (.int .i64 (t.ents.length : Int))),(29,.p (.int .i64 (i : Int))),(6,.ptr 4 0 0)],
 ofH [(1,.row 1 [[.p (.cst .nilIface)]]),(2,.row 2 [[.own 3,.p (.slice (t.rest.map encRaw))]]),(3,.row 2 (liftE ((t.ents.take i).map encVn))),(4,.row 2 [[.p (.int .i64 e.1),.p (.slice (e.2.map encV1))]])],5⟩
def mw (t : Tr) : St:=⟨ofL [(2,.ptr 1 0 0),(3,.ptr 2 0 0)],
 ofH [(1,.row 1 [[.p (.cst .nilIface)]]),(2,.row 2 (liftE [[.slice (t.ents.map encVn),.slice (t.rest.map encRaw)]]))],3⟩
def mv (t : Tr) : St:=⟨ofL [(2,.ptr 1 0 0),(3,.p (.box [.slice (t.ents.map encVn),.slice (t.rest.map encRaw)] 0))],
 ofH [(1,.row 1 [[.p (.cst .nilIface)]])],3⟩
theorem value_made : ∀ (t : Tr),lensT t = true → PFn Tryz.prog 65 [.agg (encTr t)] (.agg [encV t]):=by
 intro t
 induction h : SizeOf.sizeOf t using Nat.strongRecOn generalizing t with
 | _ sz ih =>
 subst h
 intro hlt
 obtain ⟨la1,la2,la3⟩:=lensT_mk hlt
 have eV:=encV_eq t
 refine PFn.of Tryz.func65 rfl (by decide) Tryz.ntmps65 Tryz.results65 (Nat.le_of_ble_eq_true rfl) ?_
 simp only [argsT]
 refine AW.rT (by rfl) fun K hK=>?_
 simp -implicitDefEqProofs only [go_sem,Nat.reduceAdd,encTr_eq]
 apply hK;clear hK K
 refine AW.seq ?_
 refine AW.rT (by rfl) fun K hK=>?_
 simp -implicitDefEqProofs only [go_sem,↓reduceIte,Nat.reduceAdd,Nat.reduceEqDiff,reduceCtorEq]
 apply hK;clear hK K
 refine AW.block ?_
 by_cases c1 : t.kind = 1
 ·have b1 : (t.kind == 1) = true:=by simpa using c1
  rw [if_pos c1] at eV
  refine AW.rT (by rfl) fun K hK=>?_
  simp -implicitDefEqProofs only [go_sem,↓reduceIte,Nat.reduceAdd,b1]
  apply hK;clear hK K
  refine AW.cT rfl ?_
  refine AW.rT (by rfl) fun K hK=>?_
  simp -implicitDefEqProofs only [go_sem,↓reduceIte,Nat.reduceAdd,Nat.reduceEqDiff,reduceCtorEq]
  refine ⟨.pure _,value_Num t.n,?_⟩
  try simp -implicitDefEqProofs only [go_sem,↓reduceIte,Nat.reduceAdd,Nat.reduceEqDiff,Nat.reduceLeDiff,encIn]
  apply hK;clear hK K
  refine AW.ret ?_
  simp -implicitDefEqProofs only [go_sem,↓reduceIte,Nat.reduceEqDiff,Nat.reduceLeDiff,eV]
 have b1 : (t.kind == 1) = false:=beqf c1
 rw [if_neg c1] at eV
 refine AW.rT (by rfl) fun K hK=>?_
 simp -implicitDefEqProofs only [go_sem,↓reduceIte,Nat.reduceAdd,b1]
 apply hK;clear hK K
 refine AW.cF rfl ?_
 by_cases c2 : t.kind = 2
 ·have b2 : (t.kind == 2) = true:=by simpa using c2
  rw [if_pos c2] at eV
  refine AW.rT (by rfl) fun K hK=>?_
  simp -implicitDefEqProofs only [go_sem,↓reduceIte,Nat.reduceAdd,Nat.reduceEqDiff,b2]
  apply hK;clear hK K
  refine AW.cT rfl ?_
  refine AW.rT (by rfl) fun K hK=>?_
  simp -implicitDefEqProofs only [go_sem,↓reduceIte,Nat.reduceAdd,Nat.reduceEqDiff,reduceCtorEq]
  refine ⟨.pure _,value_Str t.s,?_⟩
  try simp -implicitDefEqProofs only [go_sem,↓reduceIte,Nat.reduceAdd,Nat.reduceEqDiff,Nat.reduceLeDiff,encIn]
  apply hK;clear hK K
  refine AW.ret ?_
  simp -implicitDefEqProofs only [go_sem,↓reduceIte,Nat.reduceEqDiff,Nat.reduceLeDiff,eV]
 have b2 : (t.kind == 2) = false:=beqf c2
 rw [if_neg c2] at eV
 refine AW.rT (by rfl) fun K hK=>?_
 simp -implicitDefEqProofs only [go_sem,↓reduceIte,Nat.reduceAdd,Nat.reduceEqDiff,b2]
 apply hK;clear hK K
 refine AW.cF rfl ?_
 refine AW.skip ?_
 simp only [andThen,inBlk]
 refine AW.rT (by rfl) fun K hK=>?_
 simp -implicitDefEqProofs only [go_sem,↓reduceIte,Nat.reduceAdd,Nat.reduceEqDiff,reduceCtorEq]
 refine ⟨.pure _,clone_Raws t.rest (by omega),?_⟩
 try simp -implicitDefEqProofs only [go_sem,↓reduceIte,Nat.reduceAdd,Nat.reduceLeDiff]
 apply hK;clear hK K
 refine AW.seq ?_
 refine AW.rT (by rfl) fun K hK=>?_
 simp -implicitDefEqProofs only [go_sem,↓reduceIte,Nat.reduceAdd,Nat.reduceEqDiff,reduceCtorEq,List.length_map]
 apply hK;clear hK K
 refine AW.block ?_
 refine AW.loop (mx t) (fun i=>i ≤ t.ents.length) (fun i=>t.ents.length - i) 0 ?_ (by simp) fun i hi=>?_
 ·refine Ghost.trans (Ghost.nilH (l:=12) (i:=0) (j:=0) (sz':=2) rfl rfl rfl) ?_
  simp only [mx]
  refine Ghost.ent (fun l=>if l = 2 then 12 else if l = 3 then 18 else l) ?_ ?_ ?_ <;> simp -implicitDefEqProofs only [go_sem,↓reduceIte,Nat.reduceEqDiff,List.take_zero,List.map_nil,liftE_nil,List.set_cons_zero,List.forall_mem_cons,List.not_mem_nil,false_implies,implies_true,and_self,List.all_cons,List.all_nil,Nat.reduceLT,labsInL,AV.labsIn]
  rfl
 simp only [mx]
 by_cases hil : i < t.ents.length
 case neg =>
  have hc1 : ((i : Int) < (t.ents.length : Int)) = False:=by simp; omega
  have hi' : i = t.ents.length:=by omega
  subst hi'
  refine AW.rT (by rfl) fun K hK=>?_
  simp -implicitDefEqProofs only [go_sem,↓reduceIte,Nat.reduceAdd,Nat.reduceEqDiff,hc1]
  apply hK;clear hK K
  refine AW.seq ?_
  refine AW.cF rfl ?_
  refine AW.exit ?_
  simp only [andThen,inBlk,↓reduceIte]
  refine AW.ghost (s':=mw t) (Ghost.trans (Ghost.freeze (lb:=3) (ps:=(t.ents.take t.ents.length).map encVn) rfl (unlift_liftE _)) ?_) ?_
  ·simp only [mw]
   refine Ghost.sub ?_ ?_ <;> simp -implicitDefEqProofs only [go_sem,↓reduceIte,Nat.reduceEqDiff,thaw,thaw1,Option.map_some,List.take_length,List.map_cons,List.map_nil,liftE_cons,liftE_nil,List.forall_mem_cons,List.not_mem_nil,false_implies,implies_true,and_self,List.all_cons,List.all_nil,Nat.reduceLT,labsInL,AV.labsIn]
  simp only [mw]
  refine AW.ghost (s':=mv t) (Ghost.trans (Ghost.freezeP (lb:=2) (ps:=[[.slice (t.ents.map encVn),.slice (t.rest.map encRaw)]]) rfl (unlift_liftE _)) ?_) ?_
  ·simp only [mv]
   refine Ghost.sub ?_ ?_ <;> simp -implicitDefEqProofs only [go_sem,↓reduceIte,Nat.reduceEqDiff,thawP,thawP1,Option.map_some,List.map_cons,List.map_nil,List.forall_mem_cons,List.not_mem_nil,false_implies,implies_true,and_self,List.all_cons,List.all_nil,Nat.reduceLT,labsInL,AV.labsIn]
  simp only [mv]
  refine AW.rT (by rfl) fun K hK=>?_
  simp -implicitDefEqProofs only [go_sem,↓reduceIte,Nat.reduceAdd,Nat.reduceEqDiff,Nat.reduceLeDiff]
  apply hK;clear hK K
  refine AW.ret ?_
  simp -implicitDefEqProofs only [go_sem,↓reduceIte,Nat.reduceEqDiff,Nat.reduceLeDiff,eV]
 obtain ⟨e,he⟩ : ∃ e,t.ents[i]? = some e:=⟨_,List.getElem?_eq_getElem hil⟩
 have ⟨he1,he2,he3⟩:=at_map' encEn he
 have ⟨le1,le2⟩:=lensE_at la3 he
 have hc1 : ((i : Int) < (t.ents.length : Int)) = True:=by simp; omega
 refine AW.rT (by rfl) fun K hK=>?_
 simp -implicitDefEqProofs only [go_sem,↓reduceIte,Nat.reduceAdd,Nat.reduceEqDiff,hc1]
 apply hK;clear hK K
 refine AW.seq ?_
 refine AW.cT rfl ?_
 refine AW.skip ?_
 simp only [andThen]
 refine AW.seq ?_
 refine AW.block ?_
 refine AW.rT (by rfl) fun K hK=>?_
 simp -implicitDefEqProofs only [go_sem,↓reduceIte,Nat.reduceAdd,Nat.reduceEqDiff,Nat.reduceLeDiff,he1,he3,hc1,encEn,List.length_map]
 apply hK;clear hK K
 refine AW.rT (by rfl) fun K hK=>?_
 simp -implicitDefEqProofs only [go_sem,↓reduceIte,Nat.reduceAdd,Nat.reduceEqDiff,Nat.reduceLeDiff]
 apply hK;clear hK K
 refine AW.seq ?_
 refine AW.rT (by rfl) fun K hK=>?_
 simp -implicitDefEqProofs only [go_sem,↓reduceIte,Nat.reduceAdd,Nat.reduceEqDiff,List.length_map]
 apply hK;clear hK K
 refine AW.block ?_
 refine AW.loop (my t i e) (fun k=>k ≤ e.2.length) (fun k=>e.2.length - k) 0 ?_ (by simp) fun k hk=>?_
 ·refine Ghost.trans (Ghost.nilH (l:=12) (i:=0) (j:=1) (sz':=1) rfl rfl rfl) ?_
  simp only [my]
  refine Ghost.ent (fun l=>if l = 4 then 12 else if l = 5 then 18 else l) ?_ ?_ ?_ <;> simp -implicitDefEqProofs only [go_sem,↓reduceIte,Nat.reduceEqDiff,List.take_zero,List.map_nil,liftE_nil,List.set_cons_zero,List.set_cons_succ,List.forall_mem_cons,List.not_mem_nil,false_implies,implies_true,and_self,map_renL_lift,labsIn_lift,List.all_cons,List.all_nil,Nat.reduceLT,labsInL,AV.labsIn]
  rfl
 simp only [my]
 by_cases hkl : k < e.2.length
 ·obtain ⟨x,hx⟩ : ∃ x,e.2[k]? = some x:=⟨_,List.getElem?_eq_getElem hkl⟩
  have ⟨hx1,hx2,hx3⟩:=at_map' encTr hx
  have hc2 : ((k : Int) < (e.2.length : Int)) = True:=by simp; omega
  have IH:=ih _ (size_ent he hx) x rfl (lensTs_at le2 hx)
  rw [encTr_eq] at IH
  have eo:=encV_one x
  refine AW.rT (by rfl) fun K hK=>?_
  simp -implicitDefEqProofs only [go_sem,↓reduceIte,Nat.reduceAdd,Nat.reduceEqDiff,hc2]
  apply hK;clear hK K
  refine AW.seq ?_
  refine AW.cT rfl ?_
  refine AW.skip ?_
  simp only [andThen]
  refine AW.seq ?_
  refine AW.block ?_
  refine AW.rT (by rfl) fun K hK=>?_
  simp -implicitDefEqProofs only [go_sem,↓reduceIte,Nat.reduceAdd,Nat.reduceEqDiff,Nat.reduceLeDiff,hc2,hx1,hx3,encTr_eq,List.length_map]
  apply hK;clear hK K
  refine AW.dE mixed (by rfl) (by decide +kernel) fun K hK=>?_
  simp -implicitDefEqProofs only [go_sem,↓reduceIte,Nat.reduceAdd,Nat.reduceEqDiff,Nat.reduceLeDiff]
  refine ⟨.pure _,IH,?_⟩
  try simp -implicitDefEqProofs only [go_sem,↓reduceIte,Nat.reduceAdd,Nat.reduceMul,Nat.reduceEqDiff,Nat.reduceLeDiff,reduceCtorEq]
  refine ⟨encV_one x,⟨by simp,by simp [oneAll,AV.one,eo],by simp⟩,by simp [liftE_length]; omega,by decide +kernel,?_⟩
  apply hK;clear hK K
  have w1 : IntKind.wrap .i64 ((k : Int) + 1) = ((k + 1 : Nat) : Int):=by rw [w64] <;> omega
  have e7 : liftE ((e.2.take k).map encV1) ++ [[AV.p (encV x)]] = liftE ((e.2.take (k + 1)).map encV1):=by
   rw [List.take_add_one,hx]
   simp [liftE,encV1]
  refine AW.rE (by rfl) fun K hK=>?_
  simp -implicitDefEqProofs only [go_sem,↓reduceIte,Nat.reduceAdd,Nat.reduceEqDiff,w1]
  apply hK;clear hK K
  refine ⟨k + 1,by omega,by omega,?_⟩
  refine Ghost.ent (fun l=>if l = 5 then 16 else l) ?_ ?_ ?_ <;> simp -implicitDefEqProofs only [go_sem,↓reduceIte,Nat.reduceEqDiff,e7,List.forall_mem_cons,List.not_mem_nil,false_implies,implies_true,and_self,map_renL_lift,labsIn_lift,List.all_cons,List.all_nil,Nat.reduceLT,labsInL,AV.labsIn]
 ·have hc2 : ((k : Int) < (e.2.length : Int)) = False:=by simp; omega
  have hk' : k = e.2.length:=by omega
  subst hk'
  refine AW.rT (by rfl) fun K hK=>?_
  simp -implicitDefEqProofs only [go_sem,↓reduceIte,Nat.reduceAdd,Nat.reduceEqDiff,hc2]
  apply hK;clear hK K
  refine AW.seq ?_
  refine AW.cF rfl ?_
  refine AW.exit ?_
  simp only [andThen,inBlk,↓reduceIte]
  refine AW.ghost (s':=mz t i e) (Ghost.trans (Ghost.freeze (lb:=5) (ps:=(e.2.take e.2.length).map encV1) rfl (unlift_liftE _)) ?_) ?_
  ·simp only [mz]
   refine Ghost.sub ?_ ?_ <;> simp -implicitDefEqProofs only [go_sem,↓reduceIte,Nat.reduceEqDiff,thaw,thaw1,Option.map_some,List.take_length,List.map_cons,List.map_nil,thaw_lift,List.forall_mem_cons,List.not_mem_nil,false_implies,implies_true,and_self,labsIn_lift,List.all_cons,List.all_nil,Nat.reduceLT,labsInL,AV.labsIn]
  simp only [mz]
  refine AW.dE mixed (by rfl) (by decide +kernel) fun K hK=>?_
  simp -implicitDefEqProofs only [go_sem,↓reduceIte,Nat.reduceAdd,Nat.reduceMul,Nat.reduceEqDiff,Nat.reduceLeDiff,reduceCtorEq]
  refine ⟨⟨by simp,by simp [oneAll,AV.one,PV.one],by simp⟩,by simp [liftE_length]; omega,by decide +kernel,?_⟩
  apply hK;clear hK K
  have w1 : IntKind.wrap .i64 ((i : Int) + 1) = ((i + 1 : Nat) : Int):=by rw [w64] <;> omega
  have e8 : liftE ((t.ents.take i).map encVn) ++ [[AV.p (.int .i64 e.1),.p (.slice (e.2.map encV1))]] = liftE ((t.ents.take (i + 1)).map encVn):=by
   rw [List.take_add_one,he]
   simp [liftE,encVn]
  refine AW.rE (by rfl) fun K hK=>?_
  simp -implicitDefEqProofs only [go_sem,↓reduceIte,Nat.reduceAdd,Nat.reduceEqDiff,w1]
  apply hK;clear hK K
  refine ⟨i + 1,by omega,by omega,?_⟩
  refine Ghost.ent (fun l=>if l = 3 then 12 else l) ?_ ?_ ?_ <;> simp -implicitDefEqProofs only [go_sem,↓reduceIte,Nat.reduceEqDiff,e8,List.forall_mem_cons,List.not_mem_nil,false_implies,implies_true,and_self,map_renL_lift,labsIn_lift,List.all_cons,List.all_nil,Nat.reduceLT,labsInL,AV.labsIn]
def ofV (t : Tr) : PV:=if okT t = true then encV t else .cst .nilIface
theorem value_Of (t : Tr) (hlt : lensT t = true) : PFn Tryz.prog 47 [.agg (encTr t)] (.tuple [.agg [ofV t],.bool (okT t)]):=by
 have E1:=value_Check t hlt
 have E2:=value_made t hlt
 rw [encTr_eq] at E1 E2
 refine PFn.of Tryz.func47 rfl (by decide) Tryz.ntmps47 Tryz.results47 (Nat.le_of_ble_eq_true rfl) ?_
 simp only [argsT]
 refine AW.rT (by rfl) fun K hK=>?_
 simp -implicitDefEqProofs only [go_sem,Nat.reduceAdd,encTr_eq]
 apply hK;clear hK K
 refine AW.seq ?_
 cases hk : okT t with
 | false =>
  have eo : ofV t = .cst .nilIface:=by rw [ofV,hk]; rfl
  rw [hk] at E1
  refine AW.rT (by rfl) fun K hK=>?_
  simp -implicitDefEqProofs only [go_sem,↓reduceIte,Nat.reduceAdd,Nat.reduceEqDiff,Nat.reduceLeDiff,reduceCtorEq]
  refine ⟨.pure _,E1,?_⟩
  try simp -implicitDefEqProofs only [go_sem,Nat.reduceAdd]
  apply hK;clear hK K
  refine AW.cond _ (by simp -implicitDefEqProofs only [go_sem]; rfl) (fun hc=>?_) (fun hc=>?_)
  ·refine AW.rT (by rfl) fun K hK=>?_
   simp -implicitDefEqProofs only [go_sem,↓reduceIte,Nat.reduceAdd,Nat.reduceEqDiff,Nat.reduceLeDiff]
   apply hK;clear hK K
   refine AW.ret ?_
   simp -implicitDefEqProofs only [go_sem,↓reduceIte,Nat.reduceEqDiff,Nat.reduceLeDiff,eo]
  ·simp at hc
 | true =>
  have eo : ofV t = encV t:=by rw [ofV,hk]; rfl
  rw [hk] at E1
  refine AW.rT (by rfl) fun K hK=>?_
  simp -implicitDefEqProofs only [go_sem,↓reduceIte,Nat.reduceAdd,Nat.reduceEqDiff,Nat.reduceLeDiff,reduceCtorEq]
  refine ⟨.pure _,E1,?_⟩
  try simp -implicitDefEqProofs only [go_sem,Nat.reduceAdd]
  apply hK;clear hK K
  refine AW.cF rfl ?_
  refine AW.skip ?_
  simp only [andThen]
  refine AW.rT (by rfl) fun K hK=>?_
  simp -implicitDefEqProofs only [go_sem,↓reduceIte,Nat.reduceAdd,Nat.reduceEqDiff,Nat.reduceLeDiff,reduceCtorEq]
  refine ⟨.pure _,E2,?_⟩
  try simp -implicitDefEqProofs only [go_sem,↓reduceIte,Nat.reduceAdd,Nat.reduceEqDiff,Nat.reduceLeDiff]
  refine ⟨encV_one t,?_⟩
  apply hK;clear hK K
  refine AW.ret ?_
  simp -implicitDefEqProofs only [go_sem,↓reduceIte,Nat.reduceEqDiff,Nat.reduceLeDiff,eo]
def ndV (t : Tr) : List PV:=[.slice (t.ents.map encVn),.slice (t.rest.map encRaw)]
theorem node_Rest (t : Tr) (hl : t.rest.length ≤ 1000000) : PFn Tryz.prog 94 [.box (ndV t) 0] (.slice (t.rest.map encRaw)):=by
 refine PFn.of Tryz.func94 rfl (by decide) Tryz.ntmps94 Tryz.results94 (Nat.le_of_ble_eq_true rfl) ?_
 simp only [argsT,ndV]
 refine AW.rT (by rfl) fun K hK=>?_
 simp -implicitDefEqProofs only [go_sem]
 apply hK;clear hK K
 refine AW.rT (by rfl) fun K hK=>?_
 simp -implicitDefEqProofs only [go_sem,↓reduceIte,Nat.reduceAdd,reduceCtorEq]
 refine ⟨.pure _,clone_Raws t.rest hl,?_⟩
 try simp -implicitDefEqProofs only [go_sem,Nat.reduceAdd]
 apply hK;clear hK K
 refine AW.ret ?_
 simp -implicitDefEqProofs only [go_sem]
def px (t : Tr) (i : Nat) : St:=⟨ofL [(2,.ptr 1 0 0),(3,.ptr 2 0 0),(36,.p (.slice (t.ents.map encVn))),(37,.p (.int .i64 (t.ents.length : Int))),(38,.p (.int .i64 (i : Int)))],
 ofH [(1,.row 5 [[.p (.int .i64 0),.p (.int .i64 0),.p (.str []),.ex [],.ex []]]),(2,.row 5 [[.p (.int .i64 3),.p (.int .i64 0),.p (.str []),.own 3,.p (.slice (t.rest.map encRaw))]]),(3,.row 2 (liftE ((t.ents.take i).map encEn)))],4⟩
def py (t : Tr) (i : Nat) (e : Int × List Tr) (k : Nat) : St:=⟨ofL [(2,.ptr 1 0 0),(3,.ptr 2 0 0),(36,.p (.slice (t.ents.map encVn))),(37,.p (.int .i64 (t.ents.length : Int))),(38,.p (.int .i64 (i : Int))),(9,.ptr 4 0 0),(46,.p (.slice (e.2.map encV1))),(47,.p (.int .i64 (e.2.length : Int))),(48,.p (.int .i64 (k : Int)))],
 ofH [(1,.row 5 [[.p (.int .i64 0),.p (.int .i64 0),.p (.str []),.ex [],.ex []]]),(2,.row 5 [[.p (.int .i64 3),.p (.int .i64 0),.p (.str []),.own 3,.p (.slice (t.rest.map encRaw))]]),(3,.row 2 (liftE ((t.ents.take i).map encEn))),
  (4,.row 2 [[.p (.int .i64 e.1),.own 5]]),(5,.row 5 (liftE ((e.2.take k).map encTr)))],6⟩
def pz (t : Tr) (i : Nat) (e : Int × List Tr) : St:=⟨ofL [(2,.ptr 1 0 0),(3,.ptr 2 0 0),(36,.p (.slice (t.ents.map encVn))),(37,.p (.int .i64 (t.ents.length : Int))),(38,.p (.int .i64 (i : Int))),(9,.ptr 4 0 0)],
 ofH [(1,.row 5 [[.p (.int .i64 0),.p (.int .i64 0),.p (.str []),.ex [],.ex []]]),(2,.row 5 [[.p (.int .i64 3),.p (.int .i64 0),.p (.str []),.own 3,.p (.slice (t.rest.map encRaw))]]),(3,.row 2 (liftE ((t.ents.take i).map encEn))),
  (4,.row 2 [[.p (.int .i64 e.1),.p (.slice (e.2.map encTr))]])],5⟩
def pw (t : Tr) : St:=⟨ofL [(2,.ptr 1 0 0),(3,.ptr 2 0 0)],
 ofH [(1,.row 5 [[.p (.int .i64 0),.p (.int .i64 0),.p (.str []),.ex [],.ex []]]),(2,.row 5 [[.p (.int .i64 3),.p (.int .i64 0),.p (.str []),.p (.slice (t.ents.map encEn)),.p (.slice (t.rest.map encRaw))]])],3⟩
theorem value_Tree : ∀ (t : Tr),lensT t = true → rightT t = true → PFn Tryz.prog 83 [.agg [encV t]] (.agg (encTr t)):=by
 intro t
 induction h : SizeOf.sizeOf t using Nat.strongRecOn generalizing t with
 | _ sz ih =>
 subst h
 intro hlt hr
 obtain ⟨la1,la2,la3⟩:=lensT_mk hlt
 have eV:=encV_eq t
 rcases right_kinds hr with ⟨hk,ht⟩ | ⟨hk,ht⟩ | ⟨hk,hn,hs,hre,_⟩
 ·have:=value_Tree_leaf (.num t.n) (by intro cs h; cases h)
  rw [if_pos hk] at eV
  rw [eV]
  rw [leafT,← ht] at this
  exact this
 ·have:=value_Tree_leaf (.str t.s) (by intro cs h; cases h)
  rw [if_neg (by omega),if_pos hk] at eV
  rw [eV]
  rw [leafT,← ht] at this
  exact this
 rw [if_neg (by omega),if_neg (by omega)] at eV
 have hre':=right_ents hre
 have R1:=node_Rest t (by omega)
 simp only [ndV] at R1
 rw [eV]
 refine PFn.of Tryz.func83 rfl (by decide) Tryz.ntmps83 Tryz.results83 (Nat.le_of_ble_eq_true rfl) ?_
 simp only [argsT]
 refine AW.rT (by rfl) fun K hK=>?_
 simp -implicitDefEqProofs only [go_sem,Nat.reduceAdd]
 apply hK;clear hK K
 refine AW.rT (by rfl) fun K hK=>?_
 simp -implicitDefEqProofs only [go_sem,↓reduceIte,Nat.reduceAdd,Nat.reduceEqDiff,Nat.reduceLeDiff,reduceCtorEq]
 refine ⟨.pure _,value_Kind (.node (ndV t)),?_⟩
 try simp -implicitDefEqProofs only [go_sem,↓reduceIte,Nat.reduceAdd,Nat.reduceEqDiff,Nat.reduceLeDiff,kindIn]
 apply hK;clear hK K
 refine AW.seq ?_
 refine AW.rT (by rfl) fun K hK=>?_
 simp -implicitDefEqProofs only [go_sem,↓reduceIte,Nat.reduceAdd,Nat.reduceEqDiff,reduceCtorEq]
 apply hK;clear hK K
 refine AW.block ?_
 refine AW.rT (by rfl) fun K hK=>?_
 simp -implicitDefEqProofs only [go_sem,↓reduceIte,Nat.reduceAdd,Nat.reduceEqDiff]
 apply hK;clear hK K
 refine AW.cF rfl ?_
 refine AW.rT (by rfl) fun K hK=>?_
 simp -implicitDefEqProofs only [go_sem,↓reduceIte,Nat.reduceAdd,Nat.reduceEqDiff]
 apply hK;clear hK K
 refine AW.cF rfl ?_
 refine AW.rT (by rfl) fun K hK=>?_
 simp -implicitDefEqProofs only [go_sem,↓reduceIte,Nat.reduceAdd,Nat.reduceEqDiff]
 apply hK;clear hK K
 refine AW.cT rfl ?_
 refine AW.rT (by rfl) fun K hK=>?_
 simp -implicitDefEqProofs only [go_sem,Nat.reduceAdd]
 apply hK;clear hK K
 refine AW.rT (by rfl) fun K hK=>?_
 simp -implicitDefEqProofs only [go_sem,Nat.reduceAdd]
 refine ⟨.pure _,R1,?_⟩
 try simp -implicitDefEqProofs only [go_sem,↓reduceIte,Nat.reduceAdd,Nat.reduceEqDiff,Nat.reduceLeDiff]
 apply hK;clear hK K
 refine AW.rT (by rfl) fun K hK=>?_
 simp -implicitDefEqProofs only [go_sem,↓reduceIte,Nat.reduceAdd,Nat.reduceEqDiff,List.length_map]
 apply hK;clear hK K
 refine AW.block ?_
 refine AW.loop (px t) (fun i=>i ≤ t.ents.length) (fun i=>t.ents.length - i) 0 ?_ (by simp) fun i hi=>?_
 ·refine Ghost.trans (Ghost.nilH (l:=5) (i:=0) (j:=3) (sz':=2) rfl rfl rfl) ?_
  simp only [px]
  refine Ghost.ent (fun l=>if l = 2 then 5 else if l = 3 then 29 else l) ?_ ?_ ?_ <;> simp -implicitDefEqProofs only [go_sem,↓reduceIte,Nat.reduceEqDiff,List.take_zero,List.map_nil,liftE_nil,List.set_cons_zero,List.set_cons_succ,List.forall_mem_cons,List.not_mem_nil,false_implies,implies_true,and_self,List.all_cons,List.all_nil,Nat.reduceLT,labsInL,AV.labsIn]
  rfl
 simp only [px]
 by_cases hil : i < t.ents.length
 case neg =>
  have hc1 : ((i : Int) < (t.ents.length : Int)) = False:=by simp; omega
  have hi' : i = t.ents.length:=by omega
  subst hi'
  refine AW.rT (by rfl) fun K hK=>?_
  simp -implicitDefEqProofs only [go_sem,↓reduceIte,Nat.reduceAdd,Nat.reduceEqDiff,hc1]
  apply hK;clear hK K
  refine AW.seq ?_
  refine AW.cF rfl ?_
  refine AW.exit ?_
  simp only [andThen,inBlk,↓reduceIte]
  refine AW.ghost (s':=pw t) (Ghost.trans (Ghost.freeze (lb:=3) (ps:=(t.ents.take t.ents.length).map encEn) rfl (unlift_liftE _)) ?_) ?_
  ·simp only [pw]
   refine Ghost.sub ?_ ?_ <;> simp -implicitDefEqProofs only [go_sem,↓reduceIte,Nat.reduceEqDiff,thaw,thaw1,Option.map_some,List.take_length,List.map_cons,List.map_nil,List.forall_mem_cons,List.not_mem_nil,false_implies,implies_true,and_self,List.all_cons,List.all_nil,Nat.reduceLT,labsInL,AV.labsIn]
  simp only [pw]
  refine AW.rT (by rfl) fun K hK=>?_
  simp -implicitDefEqProofs only [go_sem,↓reduceIte,Nat.reduceAdd,Nat.reduceEqDiff,Nat.reduceLeDiff]
  apply hK;clear hK K
  refine AW.ret ?_
  simp -implicitDefEqProofs only [go_sem,↓reduceIte,Nat.reduceAdd,Nat.reduceEqDiff,Nat.reduceLeDiff,encTr_eq]
  rw [hk,hn,hs]
 obtain ⟨e,he⟩ : ∃ e,t.ents[i]? = some e:=⟨_,List.getElem?_eq_getElem hil⟩
 have ⟨he1,he2,he3⟩:=at_map' encVn he
 have ⟨le1,le2⟩:=lensE_at la3 he
 have hc1 : ((i : Int) < (t.ents.length : Int)) = True:=by simp; omega
 refine AW.rT (by rfl) fun K hK=>?_
 simp -implicitDefEqProofs only [go_sem,↓reduceIte,Nat.reduceAdd,Nat.reduceEqDiff,hc1]
 apply hK;clear hK K
 refine AW.seq ?_
 refine AW.cT rfl ?_
 refine AW.skip ?_
 simp only [andThen]
 refine AW.seq ?_
 refine AW.block ?_
 refine AW.rT (by rfl) fun K hK=>?_
 simp -implicitDefEqProofs only [go_sem,↓reduceIte,Nat.reduceAdd,Nat.reduceEqDiff,Nat.reduceLeDiff,he1,he3,hc1,encVn,List.length_map]
 apply hK;clear hK K
 refine AW.rT (by rfl) fun K hK=>?_
 simp -implicitDefEqProofs only [go_sem,↓reduceIte,Nat.reduceAdd,Nat.reduceEqDiff,Nat.reduceLeDiff]
 apply hK;clear hK K
 refine AW.seq ?_
 refine AW.rT (by rfl) fun K hK=>?_
 simp -implicitDefEqProofs only [go_sem,↓reduceIte,Nat.reduceAdd,Nat.reduceEqDiff,List.length_map]
 apply hK;clear hK K
 refine AW.block ?_
 refine AW.loop (py t i e) (fun k=>k ≤ e.2.length) (fun k=>e.2.length - k) 0 ?_ (by simp) fun k hkk=>?_
 ·refine Ghost.trans (Ghost.nilH (l:=12) (i:=0) (j:=1) (sz':=5) rfl rfl rfl) ?_
  simp only [py]
  refine Ghost.ent (fun l=>if l = 4 then 12 else if l = 5 then 18 else l) ?_ ?_ ?_ <;> simp -implicitDefEqProofs only [go_sem,↓reduceIte,Nat.reduceEqDiff,List.take_zero,List.map_nil,liftE_nil,List.set_cons_zero,List.set_cons_succ,List.forall_mem_cons,List.not_mem_nil,false_implies,implies_true,and_self,map_renL_lift,labsIn_lift,List.all_cons,List.all_nil,Nat.reduceLT,labsInL,AV.labsIn]
  rfl
 simp only [py]
 by_cases hkl : k < e.2.length
 ·obtain ⟨x,hx⟩ : ∃ x,e.2[k]? = some x:=⟨_,List.getElem?_eq_getElem hkl⟩
  have ⟨hx1,hx2,hx3⟩:=at_map' encV1 hx
  have hc2 : ((k : Int) < (e.2.length : Int)) = True:=by simp; omega
  have IH:=ih _ (size_ent he hx) x rfl (lensTs_at le2 hx) (hre' e (List.mem_of_getElem? he) x (List.mem_of_getElem? hx))
  rw [encTr_eq] at IH
  have eo:=encV_one x
  refine AW.rT (by rfl) fun K hK=>?_
  simp -implicitDefEqProofs only [go_sem,↓reduceIte,Nat.reduceAdd,Nat.reduceEqDiff,hc2]
  apply hK;clear hK K
  refine AW.seq ?_
  refine AW.cT rfl ?_
  refine AW.skip ?_
  simp only [andThen]
  refine AW.seq ?_
  refine AW.block ?_
  refine AW.rT (by rfl) fun K hK=>?_
  simp -implicitDefEqProofs only [go_sem,↓reduceIte,Nat.reduceAdd,Nat.reduceEqDiff,Nat.reduceLeDiff,hc2,hx1,hx3,encV1,List.length_map]
  refine ⟨encV_one x,?_⟩
  apply hK;clear hK K
  refine AW.dE mixed (by rfl) (by decide +kernel) fun K hK=>?_
  simp -implicitDefEqProofs only [go_sem,↓reduceIte,Nat.reduceAdd,Nat.reduceEqDiff,Nat.reduceLeDiff]
  refine ⟨.pure _,IH,?_⟩
  try simp -implicitDefEqProofs only [go_sem,↓reduceIte,Nat.reduceAdd,Nat.reduceMul,Nat.reduceEqDiff,Nat.reduceLeDiff,reduceCtorEq]
  refine ⟨⟨by simp,by simp [oneAll,AV.one,PV.one],by simp⟩,by simp [liftE_length]; omega,by decide +kernel,?_⟩
  apply hK;clear hK K
  have w1 : IntKind.wrap .i64 ((k : Int) + 1) = ((k + 1 : Nat) : Int):=by rw [w64] <;> omega
  have e7 : liftE ((e.2.take k).map encTr) ++ [[AV.p (.int .i64 x.kind),.p (.int .i64 x.n),.p (.str x.s),.p (.slice (x.ents.map encEn)),.p (.slice (x.rest.map encRaw))]] = liftE ((e.2.take (k + 1)).map encTr):=by
   rw [List.take_add_one,hx]
   simp [liftE,encTr_eq]
  refine AW.rE (by rfl) fun K hK=>?_
  simp -implicitDefEqProofs only [go_sem,↓reduceIte,Nat.reduceAdd,Nat.reduceEqDiff,w1]
  apply hK;clear hK K
  refine ⟨k + 1,by omega,by omega,?_⟩
  refine Ghost.ent (fun l=>if l = 5 then 16 else l) ?_ ?_ ?_ <;> simp -implicitDefEqProofs only [go_sem,↓reduceIte,Nat.reduceEqDiff,e7,List.forall_mem_cons,List.not_mem_nil,false_implies,implies_true,and_self,map_renL_lift,labsIn_lift,List.all_cons,List.all_nil,Nat.reduceLT,labsInL,AV.labsIn]
 ·have hc2 : ((k : Int) < (e.2.length : Int)) = False:=by simp; omega
  have hk' : k = e.2.length:=by omega
  subst hk'
  refine AW.rT (by rfl) fun K hK=>?_
  simp -implicitDefEqProofs only [go_sem,↓reduceIte,Nat.reduceAdd,Nat.reduceEqDiff,hc2]
  apply hK;clear hK K
  refine AW.seq ?_
  refine AW.cF rfl ?_
  refine AW.exit ?_
  simp only [andThen,inBlk,↓reduceIte]
  refine AW.ghost (s':=pz t i e) (Ghost.trans (Ghost.freeze (lb:=5) (ps:=(e.2.take e.2.length).map encTr) rfl (unlift_liftE _)) ?_) ?_
  ·simp only [pz]
   refine Ghost.sub ?_ ?_ <;> simp -implicitDefEqProofs only [go_sem,↓reduceIte,Nat.reduceEqDiff,thaw,thaw1,Option.map_some,List.take_length,List.map_cons,List.map_nil,thaw_lift,List.forall_mem_cons,List.not_mem_nil,false_implies,implies_true,and_self,labsIn_lift,List.all_cons,List.all_nil,Nat.reduceLT,labsInL,AV.labsIn]
  simp only [pz]
  refine AW.rE (by rfl) fun K hK=>?_
  simp -implicitDefEqProofs only [go_sem,↓reduceIte,Nat.reduceAdd,Nat.reduceMul,Nat.reduceEqDiff,Nat.reduceLeDiff,reduceCtorEq]
  refine ⟨⟨by simp,by simp [oneAll,AV.one,PV.one],by simp⟩,by simp [liftE_length]; omega,?_⟩
  apply hK;clear hK K
  simp only [andThen,inBlk]
  have w1 : IntKind.wrap .i64 ((i : Int) + 1) = ((i + 1 : Nat) : Int):=by rw [w64] <;> omega
  have e8 : liftE ((t.ents.take i).map encEn) ++ [[AV.p (.int .i64 e.1),.p (.slice (e.2.map encTr))]] = liftE ((t.ents.take (i + 1)).map encEn):=by
   rw [List.take_add_one,he]
   simp [liftE,encEn]
  refine AW.rE (by rfl) fun K hK=>?_
  simp -implicitDefEqProofs only [go_sem,↓reduceIte,Nat.reduceAdd,Nat.reduceEqDiff,w1]
  apply hK;clear hK K
  refine ⟨i + 1,by omega,by omega,?_⟩
  refine Ghost.ent (fun l=>if l = 3 then 9 else l) ?_ ?_ ?_ <;> simp -implicitDefEqProofs only [go_sem,↓reduceIte,Nat.reduceEqDiff,e8,List.forall_mem_cons,List.not_mem_nil,false_implies,implies_true,and_self,map_renL_lift,labsIn_lift,List.all_cons,List.all_nil,Nat.reduceLT,labsInL,AV.labsIn]
def getE (es : List (Int × List Tr)) (g : Int) : List Tr:=match es.find? (fun e=>e.1 == g) with | some e=>e.2 | none=>[]
theorem find_at {es : List (Int × List Tr)} {i : Nat} {e : Int × List Tr} {g : Int} (h : es[i]? = some e) (ha : (es.take i).all (fun e=>e.1 != g) = true) (hg : e.1 = g) : getE es g = e.2:=by
 have e0 : es = es.take i ++ (e :: es.drop (i + 1)):=by
  rw [← (List.getElem?_eq_some_iff.1 h).2,← List.drop_eq_getElem_cons,List.take_append_drop]
 have : es.find? (fun e=>e.1 == g) = some e:=by
  rw [e0,List.find?_append,List.find?_eq_none.2 (by
   intro x hx
   have:=List.all_eq_true.1 ha x hx
   simpa using this)]
  simp [hg]
 rw [getE,this]
theorem find_not {es : List (Int × List Tr)} {g : Int} (ha : es.all (fun e=>e.1 != g) = true) : getE es g = []:=by
 have : es.find? (fun e=>e.1 == g) = none:=by
  rw [List.find?_eq_none]
  intro x hx
  have:=List.all_eq_true.1 ha x hx
  simpa using this
 rw [getE,this]
def gg (t : Tr) (g : Int) (i : Nat) : St:=⟨ofL [(1,.p (.int .i64 g)),(10,.p (.slice (t.ents.map encVn))),(11,.p (.int .i64 (t.ents.length : Int))),(12,.p (.int .i64 (i : Int)))],ofH [],0⟩
theorem node_Get (t : Tr) (hlt : lensT t = true) (g : Int) : PFn Tryz.prog 66 [.box (ndV t) 0,.int .i64 g] (.slice ((getE t.ents g).map encV1)):=by
 obtain ⟨la1,la2,la3⟩:=lensT_mk hlt
 refine PFn.of Tryz.func66 rfl (by decide) Tryz.ntmps66 Tryz.results66 (Nat.le_of_ble_eq_true rfl) ?_
 simp only [argsT,ndV]
 refine AW.rT (by rfl) fun K hK=>?_
 simp -implicitDefEqProofs only [go_sem]
 apply hK;clear hK K
 refine AW.seq ?_
 refine AW.rT (by rfl) fun K hK=>?_
 simp -implicitDefEqProofs only [go_sem,↓reduceIte,Nat.reduceAdd,reduceCtorEq,List.length_map]
 apply hK;clear hK K
 refine AW.block ?_
 refine AW.loop (gg t g) (fun i=>i ≤ t.ents.length ∧ (t.ents.take i).all (fun e=>e.1 != g) = true) (fun i=>t.ents.length - i) 0 ?_ (by simp) fun i hi=>?_
 ·simp only [gg]
  refine Ghost.sub ?_ ?_ <;> simp -implicitDefEqProofs only [go_sem,↓reduceIte,Nat.reduceEqDiff,reduceCtorEq,List.forall_mem_cons,List.not_mem_nil,false_implies,implies_true,and_self,AV.labsIn]
  rfl
 obtain ⟨g1,g2⟩:=hi
 simp only [gg]
 by_cases hil : i < t.ents.length
 case neg =>
  have hc1 : ((i : Int) < (t.ents.length : Int)) = False:=by simp; omega
  have hi' : i = t.ents.length:=by omega
  subst hi'
  rw [List.take_length] at g2
  refine AW.rT (by rfl) fun K hK=>?_
  simp -implicitDefEqProofs only [go_sem,↓reduceIte,Nat.reduceEqDiff,hc1]
  apply hK;clear hK K
  refine AW.seq ?_
  refine AW.cF rfl ?_
  refine AW.exit ?_
  simp only [andThen,inBlk,↓reduceIte]
  refine AW.rT (by rfl) fun K hK=>?_
  simp -implicitDefEqProofs only [go_sem,Nat.reduceAdd]
  apply hK;clear hK K
  refine AW.ret ?_
  simp -implicitDefEqProofs only [go_sem]
  rw [find_not g2]
  rfl
 obtain ⟨e,he⟩ : ∃ e,t.ents[i]? = some e:=⟨_,List.getElem?_eq_getElem hil⟩
 have ⟨he1,he2,he3⟩:=at_map' encVn he
 have ⟨le1,le2⟩:=lensE_at la3 he
 have hc1 : ((i : Int) < (t.ents.length : Int)) = True:=by simp; omega
 refine AW.rT (by rfl) fun K hK=>?_
 simp -implicitDefEqProofs only [go_sem,↓reduceIte,Nat.reduceEqDiff,hc1]
 apply hK;clear hK K
 refine AW.seq ?_
 refine AW.cT rfl ?_
 refine AW.skip ?_
 simp only [andThen]
 refine AW.seq ?_
 refine AW.block ?_
 refine AW.rT (by rfl) fun K hK=>?_
 simp -implicitDefEqProofs only [go_sem,↓reduceIte,Nat.reduceAdd,Nat.reduceEqDiff,Nat.reduceLeDiff,he1,he3,hc1,encVn,List.length_map]
 apply hK;clear hK K
 by_cases hg : e.1 = g
 ·have b1 : (e.1 == g) = true:=by simpa using hg
  have GG:=find_at he g2 hg
  refine AW.rT (by rfl) fun K hK=>?_
  simp -implicitDefEqProofs only [go_sem,↓reduceIte,Nat.reduceAdd,Nat.reduceEqDiff,b1]
  apply hK;clear hK K
  refine AW.cT rfl ?_
  refine AW.rT (by rfl) fun K hK=>?_
  simp -implicitDefEqProofs only [go_sem,↓reduceIte,Nat.reduceAdd,Nat.reduceEqDiff]
  refine ⟨.pure _,clone_Vals e.2 (by omega),?_⟩
  try simp -implicitDefEqProofs only [go_sem,Nat.reduceAdd]
  apply hK;clear hK K
  refine AW.ret ?_
  simp -implicitDefEqProofs only [go_sem,GG]
 ·have b1 : (e.1 == g) = false:=beqf hg
  refine AW.rT (by rfl) fun K hK=>?_
  simp -implicitDefEqProofs only [go_sem,↓reduceIte,Nat.reduceAdd,Nat.reduceEqDiff,b1]
  apply hK;clear hK K
  refine AW.cF rfl ?_
  refine AW.skip ?_
  simp only [andThen,inBlk]
  have w1 : IntKind.wrap .i64 ((i : Int) + 1) = ((i + 1 : Nat) : Int):=by rw [w64] <;> omega
  refine AW.rE (by rfl) fun K hK=>?_
  simp -implicitDefEqProofs only [go_sem,↓reduceIte,Nat.reduceAdd,Nat.reduceEqDiff,w1]
  apply hK;clear hK K
  refine ⟨i + 1,⟨by omega,all_next he g2 (by simpa using hg)⟩,by omega,?_⟩
  refine Ghost.sub ?_ ?_ <;> simp -implicitDefEqProofs only [go_sem,↓reduceIte,Nat.reduceEqDiff,List.forall_mem_cons,List.not_mem_nil,false_implies,implies_true,and_self,AV.labsIn]
def inV (t : Tr) : In0:=if t.kind = 1 then .num t.n else if t.kind = 2 then .str t.s else .node (ndV t)
theorem encIn_inV (t : Tr) : encIn (inV t) = encV t:=by
 rw [inV,encV_eq]
 split
 ·rfl
 ·split <;> rfl
end Go.Aw.T
namespace Go.Aw.T
open Go.Proofs Go.RowKit
def clampV (n : Int) : Int:=if n < -2147483648 then -2147483648 else if 2147483647 < n then 2147483647 else n
def zeroTr : Tr:=.mk 0 0 [] [] []
theorem eqb {a b : Int} (h : a = b) : (a == b) = true:=by simp [h]
theorem map_at {α β : Type} {f : α → β} {l : List α} {i : Nat} {x : α} (h : l[i]? = some x) : (l.map f)[i]? = some (f x):=by rw [List.getElem?_map,h]; rfl
theorem ok_right {t : Tr} (h : okT t = true) : rightT t = true:=by
 rw [okT,Bool.and_eq_true] at h; exact h.2
theorem smallB_lens {t : Tr} (h : smallB t = true) : lensT t = true:=by
 unfold smallB at h
 exact lens_small t _ _ h
end Go.Aw.T
namespace Go.Aw
open Go.Proofs
def st26 (s : Sc) (k : List UInt8) (i : Nat) : St:=⟨ofL [(1,.p (.str k)),(2,.ptr 0 0 0),(4,.ptr 1 0 0),(9,.p (.slice (s.msgs.map encMs))),(10,.p (.int .i64 (s.msgs.length : Int))),(11,.p (.int .i64 (i : Int)))],ofH [(0,.row 4 [cellsSc s]),(1,.row 3 [[.p (.str []),.ex [],.ex []]])],2⟩
theorem check_Message (s : Sc) (k : List UInt8) (hl : s.msgs.length ≤ 1000000) : PFn Tryz.prog 22 [.agg (encSc s),.str k] (.tuple [.agg (encMs (firstP (fun x=>x.name == k) zMs s.msgs).1),.bool (firstP (fun x=>x.name == k) zMs s.msgs).2]):=by
 refine PFn.of Tryz.func22 rfl (by decide) Tryz.ntmps22 Tryz.results22 (Nat.le_of_ble_eq_true rfl) ?_
 simp only [argsT,encSc]
 refine AW.rT (by rfl) fun K hK=>?_
 simp -implicitDefEqProofs only [go_sem,Nat.reduceAdd]
 apply hK;clear hK K
 refine AW.seq ?_
 refine AW.rT (by rfl) fun K hK=>?_
 simp -implicitDefEqProofs only [go_sem,↓reduceIte,Nat.reduceAdd,Nat.reduceEqDiff,reduceCtorEq,List.length_map]
 apply hK;clear hK K
 refine AW.block ?_
 refine AW.loop (st26 s k) (fun i=>i ≤ s.msgs.length ∧ (s.msgs.take i).all (fun x=>!(x.name == k)) = true) (fun i=>s.msgs.length - i) 0 ?_ (by simp) fun i hi=>?_
 ·simp only [st26,cellsSc]
  refine Ghost.sub ?_ ?_ <;> simp -implicitDefEqProofs only [go_sem,↓reduceIte,Nat.reduceEqDiff,reduceCtorEq,List.forall_mem_cons,List.not_mem_nil,false_implies,implies_true,and_self,List.all_cons,List.all_nil,Nat.reduceLT,labsInL,AV.labsIn]
  rfl
 obtain ⟨g1,g2⟩:=hi
 simp only [st26,cellsSc]
 by_cases hil : i < s.msgs.length
 case neg =>
  have hc1 : ((i : Int) < (s.msgs.length : Int)) = False:=by simp; omega
  rw [List.take_of_length_le (by omega)] at g2
  have FF:=first_not (z:=zMs) g2
  refine AW.rT (by rfl) fun K hK=>?_
  simp -implicitDefEqProofs only [go_sem,↓reduceIte,Nat.reduceAdd,Nat.reduceEqDiff,hc1]
  apply hK;clear hK K
  refine AW.seq ?_
  refine AW.cF rfl ?_
  refine AW.exit ?_
  simp only [andThen,inBlk,↓reduceIte]
  refine AW.rT (by rfl) fun K hK=>?_
  simp -implicitDefEqProofs only [go_sem,↓reduceIte,Nat.reduceAdd,Nat.reduceEqDiff,Nat.reduceLeDiff]
  apply hK;clear hK K
  refine AW.ret ?_
  simp -implicitDefEqProofs only [go_sem,↓reduceIte,Nat.reduceAdd,Nat.reduceEqDiff,Nat.reduceLeDiff,FF]
  rfl
 obtain ⟨e,he⟩ : ∃ e,s.msgs[i]? = some e:=⟨_,List.getElem?_eq_getElem hil⟩
 have ⟨he1,he2,he3⟩:=at_map' encMs he
 have hc1 : ((i : Int) < (s.msgs.length : Int)) = True:=by simp; omega
 refine AW.rT (by rfl) fun K hK=>?_
 simp -implicitDefEqProofs only [go_sem,↓reduceIte,Nat.reduceAdd,Nat.reduceEqDiff,hc1]
 apply hK;clear hK K
 refine AW.seq ?_
 refine AW.cT rfl ?_
 refine AW.skip ?_
 simp only [andThen]
 refine AW.seq ?_
 refine AW.block ?_
 refine AW.rT (by rfl) fun K hK=>?_
 simp -implicitDefEqProofs only [go_sem,↓reduceIte,Nat.reduceAdd,Nat.reduceEqDiff,Nat.reduceLeDiff,he1,he3,hc1,encMs,List.length_map]
 apply hK;clear hK K
 cases hk : (e.name == k) with
 | true =>
  have FF:=first_at (z:=zMs) he g2 hk
  refine AW.rT (by rfl) fun K hK=>?_
  simp -implicitDefEqProofs only [go_sem,↓reduceIte,Nat.reduceAdd,Nat.reduceEqDiff,hk]
  apply hK;clear hK K
  refine AW.cT rfl ?_
  refine AW.rT (by rfl) fun K hK=>?_
  simp -implicitDefEqProofs only [go_sem,↓reduceIte,Nat.reduceAdd,Nat.reduceEqDiff,Nat.reduceLeDiff]
  apply hK;clear hK K
  refine AW.ret ?_
  simp -implicitDefEqProofs only [go_sem,↓reduceIte,Nat.reduceAdd,Nat.reduceEqDiff,Nat.reduceLeDiff,FF,encMs]
 | false =>
  refine AW.rT (by rfl) fun K hK=>?_
  simp -implicitDefEqProofs only [go_sem,↓reduceIte,Nat.reduceAdd,Nat.reduceEqDiff,hk]
  apply hK;clear hK K
  refine AW.cF rfl ?_
  refine AW.skip ?_
  simp only [andThen,inBlk]
  have w1 : IntKind.wrap .i64 ((i : Int) + 1) = ((i + 1 : Nat) : Int):=by rw [w64] <;> omega
  refine AW.rE (by rfl) fun K hK=>?_
  simp -implicitDefEqProofs only [go_sem,↓reduceIte,Nat.reduceAdd,Nat.reduceEqDiff,w1]
  apply hK;clear hK K
  refine ⟨i + 1,⟨by omega,all_next he g2 (by rw [hk]; rfl)⟩,by omega,?_⟩
  refine Ghost.sub ?_ ?_ <;> simp -implicitDefEqProofs only [go_sem,↓reduceIte,Nat.reduceEqDiff,reduceCtorEq,List.forall_mem_cons,List.not_mem_nil,false_implies,implies_true,and_self,List.all_cons,List.all_nil,Nat.reduceLT,labsInL,AV.labsIn]
def st30 (s : Sc) (k : List UInt8) (i : Nat) : St:=⟨ofL [(1,.p (.str k)),(2,.ptr 0 0 0),(4,.ptr 1 0 0),(6,.p (.int .i64 (i : Int)))],ofH [(0,.row 4 [cellsSc s]),(1,.row 3 [[.p (.str []),.ex [],.ex []]])],2⟩
theorem ref07_Message (s : Sc) (k : List UInt8) (hl : s.msgs.length ≤ 1000000) : PFn Tryz.prog 20 [.agg (encSc s),.str k] (.tuple [.agg (encMs (firstP (fun x=>x.name == k) zMs s.msgs).1),.bool (firstP (fun x=>x.name == k) zMs s.msgs).2]):=by
 refine PFn.of Tryz.func20 rfl (by decide) Tryz.ntmps20 Tryz.results20 (Nat.le_of_ble_eq_true rfl) ?_
 simp only [argsT,encSc]
 refine AW.rT (by rfl) fun K hK=>?_
 simp -implicitDefEqProofs only [go_sem,Nat.reduceAdd]
 apply hK;clear hK K
 refine AW.seq ?_
 refine AW.rT (by rfl) fun K hK=>?_
 simp -implicitDefEqProofs only [go_sem,Nat.reduceAdd]
 apply hK;clear hK K
 refine AW.block ?_
 refine AW.loop (st30 s k) (fun i=>i ≤ s.msgs.length ∧ (s.msgs.take i).all (fun x=>!(x.name == k)) = true) (fun i=>s.msgs.length - i) 0 ?_ (by simp) fun i hi=>?_
 ·simp only [st30,cellsSc]
  refine Ghost.sub ?_ ?_ <;> simp -implicitDefEqProofs only [go_sem,↓reduceIte,Nat.reduceEqDiff,reduceCtorEq,List.forall_mem_cons,List.not_mem_nil,false_implies,implies_true,and_self,List.all_cons,List.all_nil,Nat.reduceLT,labsInL,AV.labsIn]
  rfl
 obtain ⟨g1,g2⟩:=hi
 simp only [st30,cellsSc]
 refine AW.seq ?_
 by_cases hil : i < s.msgs.length
 case neg =>
  have hc1 : ((i : Int) < (s.msgs.length : Int)) = False:=by simp; omega
  rw [List.take_of_length_le (by omega)] at g2
  have FF:=first_not (z:=zMs) g2
  refine AW.rT (by rfl) fun K hK=>?_
  simp -implicitDefEqProofs only [go_sem,↓reduceIte,Nat.reduceAdd,Nat.reduceEqDiff,hc1,List.length_map]
  apply hK;clear hK K
  refine AW.cF rfl ?_
  refine AW.exit ?_
  simp only [andThen,inBlk,↓reduceIte]
  refine AW.rT (by rfl) fun K hK=>?_
  simp -implicitDefEqProofs only [go_sem,↓reduceIte,Nat.reduceAdd,Nat.reduceEqDiff,Nat.reduceLeDiff]
  apply hK;clear hK K
  refine AW.ret ?_
  simp -implicitDefEqProofs only [go_sem,↓reduceIte,Nat.reduceAdd,Nat.reduceEqDiff,Nat.reduceLeDiff,FF]
  rfl
 obtain ⟨e,he⟩ : ∃ e,s.msgs[i]? = some e:=⟨_,List.getElem?_eq_getElem hil⟩
 have ⟨he1,he2,he3⟩:=at_map' encMs he
 have hc1 : ((i : Int) < (s.msgs.length : Int)) = True:=by simp; omega
 refine AW.rT (by rfl) fun K hK=>?_
 simp -implicitDefEqProofs only [go_sem,↓reduceIte,Nat.reduceAdd,Nat.reduceEqDiff,hc1,List.length_map]
 apply hK;clear hK K
 refine AW.cT rfl ?_
 refine AW.skip ?_
 simp only [andThen]
 refine AW.seq ?_
 refine AW.block ?_
 cases hk : (e.name == k) with
 | true =>
  have FF:=first_at (z:=zMs) he g2 hk
  refine AW.rT (by rfl) fun K hK=>?_
  simp -implicitDefEqProofs only [go_sem,↓reduceIte,Nat.reduceAdd,Nat.reduceEqDiff,he1,he3,hc1,encMs,List.length_map,hk]
  apply hK;clear hK K
  refine AW.cT rfl ?_
  refine AW.rT (by rfl) fun K hK=>?_
  simp -implicitDefEqProofs only [go_sem,↓reduceIte,Nat.reduceAdd,Nat.reduceEqDiff,Nat.reduceLeDiff,he1,he3,hc1,encMs,List.length_map]
  apply hK;clear hK K
  refine AW.ret ?_
  simp -implicitDefEqProofs only [go_sem,↓reduceIte,Nat.reduceAdd,Nat.reduceEqDiff,Nat.reduceLeDiff,FF,encMs]
 | false =>
  refine AW.rT (by rfl) fun K hK=>?_
  simp -implicitDefEqProofs only [go_sem,↓reduceIte,Nat.reduceAdd,Nat.reduceEqDiff,he1,he3,hc1,encMs,List.length_map,hk]
  apply hK;clear hK K
  refine AW.cF rfl ?_
  refine AW.skip ?_
  simp only [andThen,inBlk]
  have w1 : IntKind.wrap .i64 ((i : Int) + 1) = ((i + 1 : Nat) : Int):=by rw [w64] <;> omega
  refine AW.rE (by rfl) fun K hK=>?_
  simp -implicitDefEqProofs only [go_sem,↓reduceIte,Nat.reduceAdd,Nat.reduceEqDiff,w1]
  apply hK;clear hK K
  refine ⟨i + 1,⟨by omega,all_next he g2 (by rw [hk]; rfl)⟩,by omega,?_⟩
  refine Ghost.sub ?_ ?_ <;> simp -implicitDefEqProofs only [go_sem,↓reduceIte,Nat.reduceEqDiff,List.forall_mem_cons,List.not_mem_nil,false_implies,implies_true,and_self,List.all_cons,List.all_nil,Nat.reduceLT,labsInL,AV.labsIn]
def st31 (s : Sc) (k : List UInt8) (i : Nat) : St:=⟨ofL [(1,.p (.str k)),(2,.ptr 0 0 0),(4,.ptr 1 0 0),(9,.p (.slice (s.enums.map encEn))),(10,.p (.int .i64 (s.enums.length : Int))),(11,.p (.int .i64 (i : Int)))],ofH [(0,.row 4 [cellsSc s]),(1,.row 2 [[.p (.str []),.ex []]])],2⟩
theorem check_Enum (s : Sc) (k : List UInt8) (hl : s.enums.length ≤ 1000000) : PFn Tryz.prog 76 [.agg (encSc s),.str k] (.tuple [.agg (encEn (firstP (fun x=>x.name == k) zEn s.enums).1),.bool (firstP (fun x=>x.name == k) zEn s.enums).2]):=by
 refine PFn.of Tryz.func76 rfl (by decide) Tryz.ntmps76 Tryz.results76 (Nat.le_of_ble_eq_true rfl) ?_
 simp only [argsT,encSc]
 refine AW.rT (by rfl) fun K hK=>?_
 simp -implicitDefEqProofs only [go_sem,Nat.reduceAdd]
 apply hK;clear hK K
 refine AW.seq ?_
 refine AW.rT (by rfl) fun K hK=>?_
 simp -implicitDefEqProofs only [go_sem,↓reduceIte,Nat.reduceAdd,Nat.reduceEqDiff,reduceCtorEq,List.length_map]
 apply hK;clear hK K
 refine AW.block ?_
 refine AW.loop (st31 s k) (fun i=>i ≤ s.enums.length ∧ (s.enums.take i).all (fun x=>!(x.name == k)) = true) (fun i=>s.enums.length - i) 0 ?_ (by simp) fun i hi=>?_
 ·simp only [st31,cellsSc]
  refine Ghost.sub ?_ ?_ <;> simp -implicitDefEqProofs only [go_sem,↓reduceIte,Nat.reduceEqDiff,reduceCtorEq,List.forall_mem_cons,List.not_mem_nil,false_implies,implies_true,and_self,List.all_cons,List.all_nil,Nat.reduceLT,labsInL,AV.labsIn]
  rfl
 obtain ⟨g1,g2⟩:=hi
 simp only [st31,cellsSc]
 by_cases hil : i < s.enums.length
 case neg =>
  have hc1 : ((i : Int) < (s.enums.length : Int)) = False:=by simp; omega
  rw [List.take_of_length_le (by omega)] at g2
  have FF:=first_not (z:=zEn) g2
  refine AW.rT (by rfl) fun K hK=>?_
  simp -implicitDefEqProofs only [go_sem,↓reduceIte,Nat.reduceAdd,Nat.reduceEqDiff,hc1]
  apply hK;clear hK K
  refine AW.seq ?_
  refine AW.cF rfl ?_
  refine AW.exit ?_
  simp only [andThen,inBlk,↓reduceIte]
  refine AW.rT (by rfl) fun K hK=>?_
  simp -implicitDefEqProofs only [go_sem,↓reduceIte,Nat.reduceAdd,Nat.reduceEqDiff,Nat.reduceLeDiff]
  apply hK;clear hK K
  refine AW.ret ?_
  simp -implicitDefEqProofs only [go_sem,↓reduceIte,Nat.reduceAdd,Nat.reduceEqDiff,Nat.reduceLeDiff,FF]
  rfl
 obtain ⟨e,he⟩ : ∃ e,s.enums[i]? = some e:=⟨_,List.getElem?_eq_getElem hil⟩
 have ⟨he1,he2,he3⟩:=at_map' encEn he
 have hc1 : ((i : Int) < (s.enums.length : Int)) = True:=by simp; omega
 refine AW.rT (by rfl) fun K hK=>?_
 simp -implicitDefEqProofs only [go_sem,↓reduceIte,Nat.reduceAdd,Nat.reduceEqDiff,hc1]
 apply hK;clear hK K
 refine AW.seq ?_
 refine AW.cT rfl ?_
 refine AW.skip ?_
 simp only [andThen]
 refine AW.seq ?_
 refine AW.block ?_
 refine AW.rT (by rfl) fun K hK=>?_
 simp -implicitDefEqProofs only [go_sem,↓reduceIte,Nat.reduceAdd,Nat.reduceEqDiff,Nat.reduceLeDiff,he1,he3,hc1,encEn,List.length_map]
 apply hK;clear hK K
 cases hk : (e.name == k) with
 | true =>
  have FF:=first_at (z:=zEn) he g2 hk
  refine AW.rT (by rfl) fun K hK=>?_
  simp -implicitDefEqProofs only [go_sem,↓reduceIte,Nat.reduceAdd,Nat.reduceEqDiff,hk]
  apply hK;clear hK K
  refine AW.cT rfl ?_
  refine AW.rT (by rfl) fun K hK=>?_
  simp -implicitDefEqProofs only [go_sem,↓reduceIte,Nat.reduceAdd,Nat.reduceEqDiff,Nat.reduceLeDiff]
  apply hK;clear hK K
  refine AW.ret ?_
  simp -implicitDefEqProofs only [go_sem,↓reduceIte,Nat.reduceAdd,Nat.reduceEqDiff,Nat.reduceLeDiff,FF,encEn]
 | false =>
  refine AW.rT (by rfl) fun K hK=>?_
  simp -implicitDefEqProofs only [go_sem,↓reduceIte,Nat.reduceAdd,Nat.reduceEqDiff,hk]
  apply hK;clear hK K
  refine AW.cF rfl ?_
  refine AW.skip ?_
  simp only [andThen,inBlk]
  have w1 : IntKind.wrap .i64 ((i : Int) + 1) = ((i + 1 : Nat) : Int):=by rw [w64] <;> omega
  refine AW.rE (by rfl) fun K hK=>?_
  simp -implicitDefEqProofs only [go_sem,↓reduceIte,Nat.reduceAdd,Nat.reduceEqDiff,w1]
  apply hK;clear hK K
  refine ⟨i + 1,⟨by omega,all_next he g2 (by rw [hk]; rfl)⟩,by omega,?_⟩
  refine Ghost.sub ?_ ?_ <;> simp -implicitDefEqProofs only [go_sem,↓reduceIte,Nat.reduceEqDiff,reduceCtorEq,List.forall_mem_cons,List.not_mem_nil,false_implies,implies_true,and_self,List.all_cons,List.all_nil,Nat.reduceLT,labsInL,AV.labsIn]
def st32 (s : Sc) (k : List UInt8) (i : Nat) : St:=⟨ofL [(1,.p (.str k)),(2,.ptr 0 0 0),(4,.ptr 1 0 0),(6,.p (.int .i64 (i : Int)))],ofH [(0,.row 4 [cellsSc s]),(1,.row 2 [[.p (.str []),.ex []]])],2⟩
theorem ref07_Enum (s : Sc) (k : List UInt8) (hl : s.enums.length ≤ 1000000) : PFn Tryz.prog 73 [.agg (encSc s),.str k] (.tuple [.agg (encEn (firstP (fun x=>x.name == k) zEn s.enums).1),.bool (firstP (fun x=>x.name == k) zEn s.enums).2]):=by
 refine PFn.of Tryz.func73 rfl (by decide) Tryz.ntmps73 Tryz.results73 (Nat.le_of_ble_eq_true rfl) ?_
 simp only [argsT,encSc]
 refine AW.rT (by rfl) fun K hK=>?_
 simp -implicitDefEqProofs only [go_sem,Nat.reduceAdd]
 apply hK;clear hK K
 refine AW.seq ?_
 refine AW.rT (by rfl) fun K hK=>?_
 simp -implicitDefEqProofs only [go_sem,Nat.reduceAdd]
 apply hK;clear hK K
 refine AW.block ?_
 refine AW.loop (st32 s k) (fun i=>i ≤ s.enums.length ∧ (s.enums.take i).all (fun x=>!(x.name == k)) = true) (fun i=>s.enums.length - i) 0 ?_ (by simp) fun i hi=>?_
 ·simp only [st32,cellsSc]
  refine Ghost.sub ?_ ?_ <;> simp -implicitDefEqProofs only [go_sem,↓reduceIte,Nat.reduceEqDiff,reduceCtorEq,List.forall_mem_cons,List.not_mem_nil,false_implies,implies_true,and_self,List.all_cons,List.all_nil,Nat.reduceLT,labsInL,AV.labsIn]
  rfl
 obtain ⟨g1,g2⟩:=hi
 simp only [st32,cellsSc]
 refine AW.seq ?_
 by_cases hil : i < s.enums.length
 case neg =>
  have hc1 : ((i : Int) < (s.enums.length : Int)) = False:=by simp; omega
  rw [List.take_of_length_le (by omega)] at g2
  have FF:=first_not (z:=zEn) g2
  refine AW.rT (by rfl) fun K hK=>?_
  simp -implicitDefEqProofs only [go_sem,↓reduceIte,Nat.reduceAdd,Nat.reduceEqDiff,hc1,List.length_map]
  apply hK;clear hK K
  refine AW.cF rfl ?_
  refine AW.exit ?_
  simp only [andThen,inBlk,↓reduceIte]
  refine AW.rT (by rfl) fun K hK=>?_
  simp -implicitDefEqProofs only [go_sem,↓reduceIte,Nat.reduceAdd,Nat.reduceEqDiff,Nat.reduceLeDiff]
  apply hK;clear hK K
  refine AW.ret ?_
  simp -implicitDefEqProofs only [go_sem,↓reduceIte,Nat.reduceAdd,Nat.reduceEqDiff,Nat.reduceLeDiff,FF]
  rfl
 obtain ⟨e,he⟩ : ∃ e,s.enums[i]? = some e:=⟨_,List.getElem?_eq_getElem hil⟩
 have ⟨he1,he2,he3⟩:=at_map' encEn he
 have hc1 : ((i : Int) < (s.enums.length : Int)) = True:=by simp; omega
 refine AW.rT (by rfl) fun K hK=>?_
 simp -implicitDefEqProofs only [go_sem,↓reduceIte,Nat.reduceAdd,Nat.reduceEqDiff,hc1,List.length_map]
 apply hK;clear hK K
 refine AW.cT rfl ?_
 refine AW.skip ?_
 simp only [andThen]
 refine AW.seq ?_
 refine AW.block ?_
 cases hk : (e.name == k) with
 | true =>
  have FF:=first_at (z:=zEn) he g2 hk
  refine AW.rT (by rfl) fun K hK=>?_
  simp -implicitDefEqProofs only [go_sem,↓reduceIte,Nat.reduceAdd,Nat.reduceEqDiff,he1,he3,hc1,encEn,List.length_map,hk]
  apply hK;clear hK K
  refine AW.cT rfl ?_
  refine AW.rT (by rfl) fun K hK=>?_
  simp -implicitDefEqProofs only [go_sem,↓reduceIte,Nat.reduceAdd,Nat.reduceEqDiff,Nat.reduceLeDiff,he1,he3,hc1,encEn,List.length_map]
  apply hK;clear hK K
  refine AW.ret ?_
  simp -implicitDefEqProofs only [go_sem,↓reduceIte,Nat.reduceAdd,Nat.reduceEqDiff,Nat.reduceLeDiff,FF,encEn]
 | false =>
  refine AW.rT (by rfl) fun K hK=>?_
  simp -implicitDefEqProofs only [go_sem,↓reduceIte,Nat.reduceAdd,Nat.reduceEqDiff,he1,he3,hc1,encEn,List.length_map,hk]
  apply hK;clear hK K
  refine AW.cF rfl ?_
  refine AW.skip ?_
  simp only [andThen,inBlk]
  have w1 : IntKind.wrap .i64 ((i : Int) + 1) = ((i + 1 : Nat) : Int):=by rw [w64] <;> omega
  refine AW.rE (by rfl) fun K hK=>?_
  simp -implicitDefEqProofs only [go_sem,↓reduceIte,Nat.reduceAdd,Nat.reduceEqDiff,w1]
  apply hK;clear hK K
  refine ⟨i + 1,⟨by omega,all_next he g2 (by rw [hk]; rfl)⟩,by omega,?_⟩
  refine Ghost.sub ?_ ?_ <;> simp -implicitDefEqProofs only [go_sem,↓reduceIte,Nat.reduceEqDiff,List.forall_mem_cons,List.not_mem_nil,false_implies,implies_true,and_self,List.all_cons,List.all_nil,Nat.reduceLT,labsInL,AV.labsIn]
def st37 (s : Ms) (k : Int) (i : Nat) : St:=⟨ofL [(1,.p (.int .i64 k)),(2,.ptr 0 0 0),(4,.ptr 1 0 0),(9,.p (.slice (s.fields.map encFd))),(10,.p (.int .i64 (s.fields.length : Int))),(11,.p (.int .i64 (i : Int)))],ofH [(0,.row 3 [cellsMs s]),(1,.row 5 [[.p (.str []),.p (.int .i64 0),.p (.int .i64 0),.p (.int .i64 0),.p (.str [])]])],2⟩
theorem check_Field (s : Ms) (k : Int) (hl : s.fields.length ≤ 1000000) : PFn Tryz.prog 45 [.agg (encMs s),.int .i64 k] (.tuple [.agg (encFd (firstP (fun x=>x.tag == k) zFd s.fields).1),.bool (firstP (fun x=>x.tag == k) zFd s.fields).2]):=by
 refine PFn.of Tryz.func45 rfl (by decide) Tryz.ntmps45 Tryz.results45 (Nat.le_of_ble_eq_true rfl) ?_
 simp only [argsT,encMs]
 refine AW.rT (by rfl) fun K hK=>?_
 simp -implicitDefEqProofs only [go_sem,Nat.reduceAdd]
 apply hK;clear hK K
 refine AW.seq ?_
 refine AW.rT (by rfl) fun K hK=>?_
 simp -implicitDefEqProofs only [go_sem,↓reduceIte,Nat.reduceAdd,Nat.reduceEqDiff,reduceCtorEq,List.length_map]
 apply hK;clear hK K
 refine AW.block ?_
 refine AW.loop (st37 s k) (fun i=>i ≤ s.fields.length ∧ (s.fields.take i).all (fun x=>!(x.tag == k)) = true) (fun i=>s.fields.length - i) 0 ?_ (by simp) fun i hi=>?_
 ·simp only [st37,cellsMs]
  refine Ghost.sub ?_ ?_ <;> simp -implicitDefEqProofs only [go_sem,↓reduceIte,Nat.reduceEqDiff,reduceCtorEq,List.forall_mem_cons,List.not_mem_nil,false_implies,implies_true,and_self,List.all_cons,List.all_nil,Nat.reduceLT,labsInL,AV.labsIn]
  rfl
 obtain ⟨g1,g2⟩:=hi
 simp only [st37,cellsMs]
 by_cases hil : i < s.fields.length
 case neg =>
  have hc1 : ((i : Int) < (s.fields.length : Int)) = False:=by simp; omega
  rw [List.take_of_length_le (by omega)] at g2
  have FF:=first_not (z:=zFd) g2
  refine AW.rT (by rfl) fun K hK=>?_
  simp -implicitDefEqProofs only [go_sem,↓reduceIte,Nat.reduceAdd,Nat.reduceEqDiff,hc1]
  apply hK;clear hK K
  refine AW.seq ?_
  refine AW.cF rfl ?_
  refine AW.exit ?_
  simp only [andThen,inBlk,↓reduceIte]
  refine AW.rT (by rfl) fun K hK=>?_
  simp -implicitDefEqProofs only [go_sem,↓reduceIte,Nat.reduceAdd,Nat.reduceEqDiff,Nat.reduceLeDiff]
  apply hK;clear hK K
  refine AW.ret ?_
  simp -implicitDefEqProofs only [go_sem,↓reduceIte,Nat.reduceAdd,Nat.reduceEqDiff,Nat.reduceLeDiff,FF]
  rfl
 obtain ⟨e,he⟩ : ∃ e,s.fields[i]? = some e:=⟨_,List.getElem?_eq_getElem hil⟩
 have ⟨he1,he2,he3⟩:=at_map' encFd he
 have hc1 : ((i : Int) < (s.fields.length : Int)) = True:=by simp; omega
 refine AW.rT (by rfl) fun K hK=>?_
 simp -implicitDefEqProofs only [go_sem,↓reduceIte,Nat.reduceAdd,Nat.reduceEqDiff,hc1]
 apply hK;clear hK K
 refine AW.seq ?_
 refine AW.cT rfl ?_
 refine AW.skip ?_
 simp only [andThen]
 refine AW.seq ?_
 refine AW.block ?_
 refine AW.rT (by rfl) fun K hK=>?_
 simp -implicitDefEqProofs only [go_sem,↓reduceIte,Nat.reduceAdd,Nat.reduceEqDiff,Nat.reduceLeDiff,he1,he3,hc1,encFd,List.length_map]
 apply hK;clear hK K
 cases hk : (e.tag == k) with
 | true =>
  have FF:=first_at (z:=zFd) he g2 hk
  refine AW.rT (by rfl) fun K hK=>?_
  simp -implicitDefEqProofs only [go_sem,↓reduceIte,Nat.reduceAdd,Nat.reduceEqDiff,hk]
  apply hK;clear hK K
  refine AW.cT rfl ?_
  refine AW.rT (by rfl) fun K hK=>?_
  simp -implicitDefEqProofs only [go_sem,↓reduceIte,Nat.reduceAdd,Nat.reduceEqDiff,Nat.reduceLeDiff]
  apply hK;clear hK K
  refine AW.ret ?_
  simp -implicitDefEqProofs only [go_sem,↓reduceIte,Nat.reduceAdd,Nat.reduceEqDiff,Nat.reduceLeDiff,FF,encFd]
 | false =>
  refine AW.rT (by rfl) fun K hK=>?_
  simp -implicitDefEqProofs only [go_sem,↓reduceIte,Nat.reduceAdd,Nat.reduceEqDiff,hk]
  apply hK;clear hK K
  refine AW.cF rfl ?_
  refine AW.skip ?_
  simp only [andThen,inBlk]
  have w1 : IntKind.wrap .i64 ((i : Int) + 1) = ((i + 1 : Nat) : Int):=by rw [w64] <;> omega
  refine AW.rE (by rfl) fun K hK=>?_
  simp -implicitDefEqProofs only [go_sem,↓reduceIte,Nat.reduceAdd,Nat.reduceEqDiff,w1]
  apply hK;clear hK K
  refine ⟨i + 1,⟨by omega,all_next he g2 (by rw [hk]; rfl)⟩,by omega,?_⟩
  refine Ghost.sub ?_ ?_ <;> simp -implicitDefEqProofs only [go_sem,↓reduceIte,Nat.reduceEqDiff,reduceCtorEq,List.forall_mem_cons,List.not_mem_nil,false_implies,implies_true,and_self,List.all_cons,List.all_nil,Nat.reduceLT,labsInL,AV.labsIn]
def st38 (s : Ms) (k : Int) (i : Nat) : St:=⟨ofL [(1,.p (.int .i64 k)),(2,.ptr 0 0 0),(4,.ptr 1 0 0),(6,.p (.int .i64 (i : Int)))],ofH [(0,.row 3 [cellsMs s]),(1,.row 5 [[.p (.str []),.p (.int .i64 0),.p (.int .i64 0),.p (.int .i64 0),.p (.str [])]])],2⟩
theorem ref07_Field (s : Ms) (k : Int) (hl : s.fields.length ≤ 1000000) : PFn Tryz.prog 26 [.agg (encMs s),.int .i64 k] (.tuple [.agg (encFd (firstP (fun x=>x.tag == k) zFd s.fields).1),.bool (firstP (fun x=>x.tag == k) zFd s.fields).2]):=by
 refine PFn.of Tryz.func26 rfl (by decide) Tryz.ntmps26 Tryz.results26 (Nat.le_of_ble_eq_true rfl) ?_
 simp only [argsT,encMs]
 refine AW.rT (by rfl) fun K hK=>?_
 simp -implicitDefEqProofs only [go_sem,Nat.reduceAdd]
 apply hK;clear hK K
 refine AW.seq ?_
 refine AW.rT (by rfl) fun K hK=>?_
 simp -implicitDefEqProofs only [go_sem,Nat.reduceAdd]
 apply hK;clear hK K
 refine AW.block ?_
 refine AW.loop (st38 s k) (fun i=>i ≤ s.fields.length ∧ (s.fields.take i).all (fun x=>!(x.tag == k)) = true) (fun i=>s.fields.length - i) 0 ?_ (by simp) fun i hi=>?_
 ·simp only [st38,cellsMs]
  refine Ghost.sub ?_ ?_ <;> simp -implicitDefEqProofs only [go_sem,↓reduceIte,Nat.reduceEqDiff,reduceCtorEq,List.forall_mem_cons,List.not_mem_nil,false_implies,implies_true,and_self,List.all_cons,List.all_nil,Nat.reduceLT,labsInL,AV.labsIn]
  rfl
 obtain ⟨g1,g2⟩:=hi
 simp only [st38,cellsMs]
 refine AW.seq ?_
 by_cases hil : i < s.fields.length
 case neg =>
  have hc1 : ((i : Int) < (s.fields.length : Int)) = False:=by simp; omega
  rw [List.take_of_length_le (by omega)] at g2
  have FF:=first_not (z:=zFd) g2
  refine AW.rT (by rfl) fun K hK=>?_
  simp -implicitDefEqProofs only [go_sem,↓reduceIte,Nat.reduceAdd,Nat.reduceEqDiff,hc1,List.length_map]
  apply hK;clear hK K
  refine AW.cF rfl ?_
  refine AW.exit ?_
  simp only [andThen,inBlk,↓reduceIte]
  refine AW.rT (by rfl) fun K hK=>?_
  simp -implicitDefEqProofs only [go_sem,↓reduceIte,Nat.reduceAdd,Nat.reduceEqDiff,Nat.reduceLeDiff]
  apply hK;clear hK K
  refine AW.ret ?_
  simp -implicitDefEqProofs only [go_sem,↓reduceIte,Nat.reduceAdd,Nat.reduceEqDiff,Nat.reduceLeDiff,FF]
  rfl
 obtain ⟨e,he⟩ : ∃ e,s.fields[i]? = some e:=⟨_,List.getElem?_eq_getElem hil⟩
 have ⟨he1,he2,he3⟩:=at_map' encFd he
 have hc1 : ((i : Int) < (s.fields.length : Int)) = True:=by simp; omega
 refine AW.rT (by rfl) fun K hK=>?_
 simp -implicitDefEqProofs only [go_sem,↓reduceIte,Nat.reduceAdd,Nat.reduceEqDiff,hc1,List.length_map]
 apply hK;clear hK K
 refine AW.cT rfl ?_
 refine AW.skip ?_
 simp only [andThen]
 refine AW.seq ?_
 refine AW.block ?_
 cases hk : (e.tag == k) with
 | true =>
  have FF:=first_at (z:=zFd) he g2 hk
  refine AW.rT (by rfl) fun K hK=>?_
  simp -implicitDefEqProofs only [go_sem,↓reduceIte,Nat.reduceAdd,Nat.reduceEqDiff,he1,he3,hc1,encFd,List.length_map,hk]
  apply hK;clear hK K
  refine AW.cT rfl ?_
  refine AW.rT (by rfl) fun K hK=>?_
  simp -implicitDefEqProofs only [go_sem,↓reduceIte,Nat.reduceAdd,Nat.reduceEqDiff,Nat.reduceLeDiff,he1,he3,hc1,encFd,List.length_map]
  apply hK;clear hK K
  refine AW.ret ?_
  simp -implicitDefEqProofs only [go_sem,↓reduceIte,Nat.reduceAdd,Nat.reduceEqDiff,Nat.reduceLeDiff,FF,encFd]
 | false =>
  refine AW.rT (by rfl) fun K hK=>?_
  simp -implicitDefEqProofs only [go_sem,↓reduceIte,Nat.reduceAdd,Nat.reduceEqDiff,he1,he3,hc1,encFd,List.length_map,hk]
  apply hK;clear hK K
  refine AW.cF rfl ?_
  refine AW.skip ?_
  simp only [andThen,inBlk]
  have w1 : IntKind.wrap .i64 ((i : Int) + 1) = ((i + 1 : Nat) : Int):=by rw [w64] <;> omega
  refine AW.rE (by rfl) fun K hK=>?_
  simp -implicitDefEqProofs only [go_sem,↓reduceIte,Nat.reduceAdd,Nat.reduceEqDiff,w1]
  apply hK;clear hK K
  refine ⟨i + 1,⟨by omega,all_next he g2 (by rw [hk]; rfl)⟩,by omega,?_⟩
  refine Ghost.sub ?_ ?_ <;> simp -implicitDefEqProofs only [go_sem,↓reduceIte,Nat.reduceEqDiff,List.forall_mem_cons,List.not_mem_nil,false_implies,implies_true,and_self,List.all_cons,List.all_nil,Nat.reduceLT,labsInL,AV.labsIn]
end Go.Aw
namespace Go.Aw
open Go.Lib
theorem sget (s : List UInt8) (i : Nat) : (⟨⟨s⟩⟩ : ByteArray).get! i = s.getD i 0:=by
 show (⟨s⟩ : Array UInt8)[i]! = _
 simp [getElem!_def,List.getD]
 cases s[i]? <;> rfl
def bk (s : List UInt8) (i : Nat) : Nat:=(s.getD i 0).toNat
theorem bk_lt (s : List UInt8) (i : Nat) : bk s i < 256:=(s.getD i 0).toNat_lt
theorem runeAt_eq (s : List UInt8) (p : Nat) : runeAt s p = decodeN (s.length - p) (bk s p) (bk s (p + 1)) (bk s (p + 2)) (bk s (p + 3)):=by
 unfold runeAt bk
 rw [decode_at,sget,sget,sget,sget]
 rfl
theorem bk_drop (s : List UInt8) (p i : Nat) : bk (s.drop p) i = bk s (p + i):=by
 unfold bk
 simp [List.getD,List.getElem?_drop]
theorem runeAt_drop (s : List UInt8) (p : Nat) : runeAt (s.drop p) 0 = runeAt s p:=by
 rw [runeAt_eq,runeAt_eq,bk_drop,bk_drop,bk_drop,bk_drop,List.length_drop]
 rfl
theorem runeAt_wid (s : List UInt8) (p : Nat) : 1 ≤ (runeAt s p).2 ∧ (runeAt s p).2 ≤ 4 ∧ (runeAt s p).1 ≤ 1114111:=by
 rw [runeAt_eq]
 unfold decodeN
 repeat' split
 all_goals simp
 all_goals omega
theorem runeAt_in (s : List UInt8) (p : Nat) (h : p < s.length) : p + (runeAt s p).2 ≤ s.length:=by
 rw [runeAt_eq]
 unfold decodeN
 repeat' split
 all_goals simp only
 all_goals omega
def good (s : List UInt8) (q : Nat) : Prop:=q < s.length ∧ 128 ≤ bk s q ∧ bk s q ≤ 191
instance (s : List UInt8) (q : Nat) : Decidable (good s q):=by unfold good; infer_instance
def resN (r : Nat × Nat) : Int × Int × Bool:=if r.1 = 65533 ∧ r.2 < 2 then (0,0,false) else (r.1,r.2,true)
def vN (s : List UInt8) (p : Nat) (v : Int) : Nat → Int
 | 0=>v
 | k + 1=>64 * vN s p v k + ((bk s (p + (k + 1)) : Int) - 128)
theorem vN_bound {s : List UInt8} {p : Nat} {v : Int} (h0 : 0 ≤ v) (h1 : v < 32) : ∀ k,(∀ j,1 ≤ j → j ≤ k → good s (p + j)) → 0 ≤ vN s p v k ∧ vN s p v k < 32 * 64 ^ k
 | 0,_=>by simp [vN]; omega
 | k + 1,h=>by
  have ih:=vN_bound h0 h1 k fun j a b=>h j a (by omega)
  have g:=h (k + 1) (by omega) (Nat.le_refl _)
  unfold good at g
  rw [vN,Int.pow_succ]
  omega
theorem next_ascii {s : List UInt8} {p : Nat} (h : bk s p < 128) : resN (runeAt s p) = ((bk s p : Int),1,true):=by
 rw [runeAt_eq]
 unfold decodeN
 rw [if_pos h]
 unfold resN
 rw [if_neg (by simp; omega)]
 rfl
theorem next_none {s : List UInt8} {p : Nat} (h : 128 ≤ bk s p) (h' : bk s p < 192 ∨ 248 ≤ bk s p) : resN (runeAt s p) = (0,0,false):=by
 have hl:=bk_lt s p
 rw [runeAt_eq]
 unfold decodeN
 rw [if_neg (by omega),if_neg (by omega),if_neg (by omega),if_neg (by omega)]
 rfl
theorem next_two {s : List UInt8} {p : Nat} (h : 192 ≤ bk s p) (h' : bk s p < 224) : resN (runeAt s p) = if good s (p + 1) then (if vN s p ((bk s p : Int) - 192) 1 < 128 then (0,0,false) else (vN s p ((bk s p : Int) - 192) 1,2,true)) else (0,0,false):=by
 have e : vN s p ((bk s p : Int) - 192) 1 = 64 * ((bk s p : Int) - 192) + ((bk s (p + 1) : Int) - 128):=rfl
 have hl:=bk_lt s (p + 1)
 rw [e,runeAt_eq]
 unfold decodeN
 rw [if_neg (by omega)]
 by_cases g : good s (p + 1)
 ·have g' : p + 1 < s.length ∧ 128 ≤ bk s (p + 1) ∧ bk s (p + 1) ≤ 191:=g
  rw [if_pos g,if_pos (by omega)]
  by_cases c : 64 * ((bk s p : Int) - 192) + ((bk s (p + 1) : Int) - 128) < 128
  ·rw [if_pos c,if_neg (by omega)]
   rfl
  ·rw [if_neg c,if_pos (by omega)]
   unfold resN
   rw [if_neg (by simp)]
   simp
   omega
 ·have g' : ¬ (p + 1 < s.length ∧ 128 ≤ bk s (p + 1) ∧ bk s (p + 1) ≤ 191):=g
  rw [if_neg g,if_neg (by omega),if_neg (by omega),if_neg (by omega)]
  rfl
theorem next_three {s : List UInt8} {p : Nat} (h : 224 ≤ bk s p) (h' : bk s p < 240) : resN (runeAt s p) = if good s (p + 1) ∧ good s (p + 2) then
  (if vN s p ((bk s p : Int) - 224) 2 < 2048 ∨ (55296 ≤ vN s p ((bk s p : Int) - 224) 2 ∧ vN s p ((bk s p : Int) - 224) 2 ≤ 57343) then (0,0,false) else (vN s p ((bk s p : Int) - 224) 2,3,true)) else (0,0,false):=by
 have e : vN s p ((bk s p : Int) - 224) 2 = 64 * (64 * ((bk s p : Int) - 224) + ((bk s (p + 1) : Int) - 128)) + ((bk s (p + 2) : Int) - 128):=rfl
 have hl:=bk_lt s (p + 1)
 have hl2:=bk_lt s (p + 2)
 rw [e,runeAt_eq]
 unfold decodeN
 rw [if_neg (by omega),if_neg (by omega)]
 by_cases g : good s (p + 1) ∧ good s (p + 2)
 ·have g' : (p + 1 < s.length ∧ 128 ≤ bk s (p + 1) ∧ bk s (p + 1) ≤ 191) ∧ (p + 2 < s.length ∧ 128 ≤ bk s (p + 2) ∧ bk s (p + 2) ≤ 191):=g
  rw [if_pos g,if_pos (by omega)]
  split
  ·rename_i c
   rw [if_neg (by omega)]
   unfold resN
   rw [if_neg (by simp)]
   simp
   omega
  ·rename_i c
   rw [if_pos (by omega)]
   rfl
 ·have g' : ¬ ((p + 1 < s.length ∧ 128 ≤ bk s (p + 1) ∧ bk s (p + 1) ≤ 191) ∧ (p + 2 < s.length ∧ 128 ≤ bk s (p + 2) ∧ bk s (p + 2) ≤ 191)):=g
  rw [if_neg g,if_neg (by omega),if_neg (by omega)]
  rfl
theorem next_four {s : List UInt8} {p : Nat} (h : 240 ≤ bk s p) (h' : bk s p < 248) : resN (runeAt s p) = if good s (p + 1) ∧ good s (p + 2) ∧ good s (p + 3) then
  (if vN s p ((bk s p : Int) - 240) 3 < 65536 ∨ 1114111 < vN s p ((bk s p : Int) - 240) 3 then (0,0,false) else (vN s p ((bk s p : Int) - 240) 3,4,true)) else (0,0,false):=by
 have e : vN s p ((bk s p : Int) - 240) 3 = 64 * (64 * (64 * ((bk s p : Int) - 240) + ((bk s (p + 1) : Int) - 128)) + ((bk s (p + 2) : Int) - 128)) + ((bk s (p + 3) : Int) - 128):=rfl
 have hl:=bk_lt s (p + 1)
 have hl2:=bk_lt s (p + 2)
 have hl3:=bk_lt s (p + 3)
 rw [e,runeAt_eq]
 unfold decodeN
 rw [if_neg (by omega),if_neg (by omega),if_neg (by omega)]
 by_cases g : good s (p + 1) ∧ good s (p + 2) ∧ good s (p + 3)
 ·have g' : (p + 1 < s.length ∧ 128 ≤ bk s (p + 1) ∧ bk s (p + 1) ≤ 191) ∧ (p + 2 < s.length ∧ 128 ≤ bk s (p + 2) ∧ bk s (p + 2) ≤ 191) ∧ (p + 3 < s.length ∧ 128 ≤ bk s (p + 3) ∧ bk s (p + 3) ≤ 191):=g
  rw [if_pos g,if_pos (by omega)]
  split
  ·rename_i c
   rw [if_neg (by omega)]
   unfold resN
   rw [if_neg (by simp)]
   simp
   omega
  ·rename_i c
   rw [if_pos (by omega)]
   rfl
 ·have g' : ¬ ((p + 1 < s.length ∧ 128 ≤ bk s (p + 1) ∧ bk s (p + 1) ≤ 191) ∧ (p + 2 < s.length ∧ 128 ≤ bk s (p + 2) ∧ bk s (p + 2) ≤ 191) ∧ (p + 3 < s.length ∧ 128 ≤ bk s (p + 3) ∧ bk s (p + 3) ≤ 191)):=g
  rw [if_neg g,if_neg (by omega)]
  rfl
def leadN (b : Nat) : Nat × Int × Int:=if b < 224 then (2,(b : Int) - 192,128) else if b < 240 then (3,(b : Int) - 224,2048) else (4,(b : Int) - 240,65536)
theorem next_end {s : List UInt8} {p : Nat} (h : 192 ≤ bk s p) (h' : bk s p < 248) (hg : ∀ j,1 ≤ j → j < (leadN (bk s p)).1 → good s (p + j)) :
  resN (runeAt s p) = if vN s p (leadN (bk s p)).2.1 ((leadN (bk s p)).1 - 1) < (leadN (bk s p)).2.2 ∨ vN s p (leadN (bk s p)).2.1 ((leadN (bk s p)).1 - 1) > 1114111 ∨ (vN s p (leadN (bk s p)).2.1 ((leadN (bk s p)).1 - 1) ≥ 55296 ∧ vN s p (leadN (bk s p)).2.1 ((leadN (bk s p)).1 - 1) ≤ 57343) then (0,0,false)
   else (vN s p (leadN (bk s p)).2.1 ((leadN (bk s p)).1 - 1),((leadN (bk s p)).1 : Int),true):=by
 have bnd:=fun v h0 h1 k=>vN_bound (s:=s) (p:=p) (v:=v) h0 h1 k
 revert hg
 unfold leadN
 by_cases c1 : bk s p < 224
 ·simp only [if_pos c1]
  intro hg
  have g1:=hg 1 (by omega) (by omega)
  rw [next_two h c1,if_pos g1]
  have b:=bnd ((bk s p : Int) - 192) (by omega) (by omega) 1 fun j a b=>hg j a (by omega)
  generalize vN s p ((bk s p : Int) - 192) 1 = v at b
  show _ = if v < 128 ∨ v > 1114111 ∨ (v ≥ 55296 ∧ v ≤ 57343) then _ else _
  by_cases c : v < 128
  ·rw [if_pos c,if_pos (.inl c)]
  ·rw [if_neg c,if_neg (by omega)]
   rfl
 simp only [if_neg c1]
 by_cases c2 : bk s p < 240
 ·simp only [if_pos c2]
  intro hg
  rw [next_three (by omega) c2,if_pos ⟨hg 1 (by omega) (by omega),hg 2 (by omega) (by omega)⟩]
  have b:=bnd ((bk s p : Int) - 224) (by omega) (by omega) 2 fun j a b=>hg j a (by omega)
  have b' : vN s p ((bk s p : Int) - 224) 2 < 65536:=by
   have g1:=hg 1 (by omega) (by omega)
   have g2:=hg 2 (by omega) (by omega)
   unfold good at g1 g2
   show 64 * (64 * ((bk s p : Int) - 224) + ((bk s (p + 1) : Int) - 128)) + ((bk s (p + 2) : Int) - 128) < 65536
   omega
  show _ = if vN s p ((bk s p : Int) - 224) 2 < 2048 ∨ vN s p ((bk s p : Int) - 224) 2 > 1114111 ∨ (vN s p ((bk s p : Int) - 224) 2 ≥ 55296 ∧ vN s p ((bk s p : Int) - 224) 2 ≤ 57343) then _ else _
  generalize vN s p ((bk s p : Int) - 224) 2 = v at b b'
  by_cases c : v < 2048 ∨ (55296 ≤ v ∧ v ≤ 57343)
  ·rw [if_pos c,if_pos (by omega)]
  ·rw [if_neg c,if_neg (by omega)]
   rfl
 ·simp only [if_neg c2]
  intro hg
  rw [next_four (by omega) h',if_pos ⟨hg 1 (by omega) (by omega),hg 2 (by omega) (by omega),hg 3 (by omega) (by omega)⟩]
  show _ = if vN s p ((bk s p : Int) - 240) 3 < 65536 ∨ vN s p ((bk s p : Int) - 240) 3 > 1114111 ∨ (vN s p ((bk s p : Int) - 240) 3 ≥ 55296 ∧ vN s p ((bk s p : Int) - 240) 3 ≤ 57343) then _ else _
  generalize vN s p ((bk s p : Int) - 240) 3 = v
  by_cases c : v < 65536 ∨ 1114111 < v
  ·rw [if_pos c,if_pos (by omega)]
  ·rw [if_neg c,if_neg (by omega)]
   rfl
theorem next_bad {s : List UInt8} {p j : Nat} (h : 192 ≤ bk s p) (h' : bk s p < 248) (h1 : 1 ≤ j) (h2 : j < (leadN (bk s p)).1) (hg : ¬ good s (p + j)) : resN (runeAt s p) = (0,0,false):=by
 unfold leadN at h2
 by_cases c1 : bk s p < 224
 ·simp only [if_pos c1] at h2
  have : j = 1:=by omega
  subst this
  rw [next_two h c1,if_neg hg]
 simp only [if_neg c1] at h2
 by_cases c2 : bk s p < 240
 ·simp only [if_pos c2] at h2
  have : j = 1 ∨ j = 2:=by omega
  rw [next_three (by omega) c2,if_neg]
  rintro ⟨g1,g2⟩
  rcases this with rfl | rfl
  ·exact hg g1
  ·exact hg g2
 ·simp only [if_neg c2] at h2
  have : j = 1 ∨ j = 2 ∨ j = 3:=by omega
  rw [next_four (by omega) h',if_neg]
  rintro ⟨g1,g2,g3⟩
  rcases this with rfl | rfl | rfl
  ·exact hg g1
  ·exact hg g2
  ·exact hg g3
def runesF (s : List UInt8) : Nat → Nat → Option (List Int)
 | 0,_=>some []
 | n + 1,p=>if p < s.length then (if (resN (runeAt s p)).2.2 = true then (match runesF s n (p + (runeAt s p).2) with | some l=>some (((runeAt s p).1 : Int) :: l) | none=>none) else none) else some []
def runesO (s : List UInt8) (p : Nat) : Option (List Int):=runesF s (s.length - p) p
theorem runesF_fuel (s : List UInt8) : ∀ (n m p : Nat),s.length - p ≤ n → s.length - p ≤ m → runesF s n p = runesF s m p
 | 0,0,p,_,_=>rfl
 | 0,m + 1,p,h,_=>by rw [runesF,runesF,if_neg (by omega)]
 | n + 1,0,p,_,h=>by rw [runesF,runesF,if_neg (by omega)]
 | n + 1,m + 1,p,h1,h2=>by
  rw [runesF,runesF]
  have:=runeAt_wid s p
  by_cases h : p < s.length
  ·rw [if_pos h,if_pos h,runesF_fuel s n m (p + (runeAt s p).2) (by omega) (by omega)]
  ·rw [if_neg h,if_neg h]
theorem runesO_step (s : List UInt8) (p : Nat) : runesO s p = if p < s.length then (if (resN (runeAt s p)).2.2 = true then (match runesO s (p + (runeAt s p).2) with | some l=>some (((runeAt s p).1 : Int) :: l) | none=>none) else none) else some []:=by
 unfold runesO
 by_cases h : p < s.length
 ·have:=runeAt_wid s p
  rw [if_pos h,show s.length - p = (s.length - p - 1) + 1 by omega,runesF,if_pos h,runesF_fuel s (s.length - p - 1) (s.length - (p + (runeAt s p).2)) (p + (runeAt s p).2) (by omega) (by omega)]
 ·rw [if_neg h,show s.length - p = 0 by omega,runesF]
def letterB (r : Int) : Bool:=decide (97 ≤ r ∧ r ≤ 122 ∨ 65 ≤ r ∧ r ≤ 90 ∨ r = 95 ∨ 192 ≤ r ∧ r ≤ 591 ∧ r ≠ 215 ∧ r ≠ 247 ∨ 913 ≤ r ∧ r ≤ 969 ∧ r ≠ 930)
def digitB (r : Int) : Bool:=decide (48 ≤ r ∧ r ≤ 57)
def keyWords : List (List UInt8):=[[115,99,104,101,109,97],[109,101,115,115,97,103,101],[101,110,117,109],[99,97,108,108],[114,101,116,117,114,110,115],[114,101,115,101,114,118,101,100],[111,112,116,105,111,110,97,108],[114,101,112,101,97,116,101,100],[105,110,116,51,50],[105,110,116,54,52],[98,111,111,108],[116,101,120,116],[98,121,116,101,115]]
def keyB (s : List UInt8) : Bool:=keyWords.contains s
def wordB : List Int → Bool
 | []=>false
 | r :: l=>letterB r && l.all fun x=>letterB x || digitB x
def nameB (s : List UInt8) : Bool:=match runesO s 0 with
 | none=>false
 | some l=>decide (l.length ≤ 20) && !keyB s && wordB l
end Go.Aw
namespace Go.Aw
open Go.Proofs
theorem runes_in (r a b : Int) : PFn Tryz.prog 75 [.int .i32 r,.int .i32 a,.int .i32 b] (.bool (decide (a ≤ r ∧ r ≤ b))):=by
 refine PFn.of Tryz.func75 rfl (by decide) Tryz.ntmps75 Tryz.results75 (Nat.le_of_ble_eq_true rfl) ?_
 simp only [argsT]
 refine AW.rT (by rfl) fun K hK=>?_
 simp -implicitDefEqProofs only [go_sem,Nat.reduceAdd]
 apply hK;clear hK K
 by_cases h1 : r ≥ a
 ·have f1 : (r ≥ a) = True:=eq_true h1
  by_cases h2 : r ≤ b
  ·have f2 : (r ≤ b) = True:=eq_true h2
   have e : decide (a ≤ r ∧ r ≤ b) = true:=decide_eq_true ⟨h1,h2⟩
   refine AW.rT (by rfl) fun K hK=>?_
   simp -implicitDefEqProofs only [go_sem,↓reduceIte,Nat.reduceAdd,Nat.reduceEqDiff,reduceCtorEq,f1,f2]
   apply hK;clear hK K
   refine AW.ret ?_
   simp -implicitDefEqProofs only [go_sem,e]
  ·have f2 : (r ≤ b) = False:=eq_false h2
   have e : decide (a ≤ r ∧ r ≤ b) = false:=decide_eq_false (fun h=>h2 h.2)
   refine AW.rT (by rfl) fun K hK=>?_
   simp -implicitDefEqProofs only [go_sem,↓reduceIte,Nat.reduceAdd,Nat.reduceEqDiff,reduceCtorEq,f1,f2]
   apply hK;clear hK K
   refine AW.ret ?_
   simp -implicitDefEqProofs only [go_sem,e]
 ·have f1 : (r ≥ a) = False:=eq_false h1
  have e : decide (a ≤ r ∧ r ≤ b) = false:=decide_eq_false (fun h=>h1 h.1)
  refine AW.rT (by rfl) fun K hK=>?_
  simp -implicitDefEqProofs only [go_sem,↓reduceIte,Nat.reduceAdd,Nat.reduceEqDiff,reduceCtorEq,f1]
  apply hK;clear hK K
  refine AW.ret ?_
  simp -implicitDefEqProofs only [go_sem,e]
theorem runes_Digit (r : Int) : PFn Tryz.prog 60 [.int .i32 r] (.bool (digitB r)):=by
 refine PFn.of Tryz.func60 rfl (by decide) Tryz.ntmps60 Tryz.results60 (Nat.le_of_ble_eq_true rfl) ?_
 simp only [argsT]
 refine AW.rT (by rfl) fun K hK=>?_
 simp -implicitDefEqProofs only [go_sem]
 apply hK;clear hK K
 refine AW.rT (by rfl) fun K hK=>?_
 simp -implicitDefEqProofs only [go_sem,↓reduceIte,Nat.reduceAdd,reduceCtorEq]
 refine ⟨.pure _,runes_in r 48 57,?_⟩
 try simp -implicitDefEqProofs only [go_sem,Nat.reduceAdd]
 apply hK;clear hK K
 refine AW.ret ?_
 simp -implicitDefEqProofs only [go_sem,digitB]
theorem ref01_Digit (r : Int) : PFn Tryz.prog 38 [.int .i32 r] (.bool (digitB r)):=by
 refine PFn.of Tryz.func38 rfl (by decide) Tryz.ntmps38 Tryz.results38 (Nat.le_of_ble_eq_true rfl) ?_
 simp only [argsT]
 refine AW.rT (by rfl) fun K hK=>?_
 simp -implicitDefEqProofs only [go_sem]
 apply hK;clear hK K
 by_cases h1 : r ≥ 48
 ·have f1 : (r ≥ 48) = True:=eq_true h1
  by_cases h2 : r ≤ 57
  ·have f2 : (r ≤ 57) = True:=eq_true h2
   have e : digitB r = true:=decide_eq_true ⟨h1,h2⟩
   refine AW.rT (by rfl) fun K hK=>?_
   simp -implicitDefEqProofs only [go_sem,↓reduceIte,Nat.reduceAdd,Nat.reduceEqDiff,reduceCtorEq,f1,f2]
   apply hK;clear hK K
   refine AW.ret ?_
   simp -implicitDefEqProofs only [go_sem,e]
  ·have f2 : (r ≤ 57) = False:=eq_false h2
   have e : digitB r = false:=decide_eq_false (fun h=>h2 h.2)
   refine AW.rT (by rfl) fun K hK=>?_
   simp -implicitDefEqProofs only [go_sem,↓reduceIte,Nat.reduceAdd,Nat.reduceEqDiff,reduceCtorEq,f1,f2]
   apply hK;clear hK K
   refine AW.ret ?_
   simp -implicitDefEqProofs only [go_sem,e]
 ·have f1 : (r ≥ 48) = False:=eq_false h1
  have e : digitB r = false:=decide_eq_false (fun h=>h1 h.1)
  refine AW.rT (by rfl) fun K hK=>?_
  simp -implicitDefEqProofs only [go_sem,↓reduceIte,Nat.reduceAdd,Nat.reduceEqDiff,reduceCtorEq,f1]
  apply hK;clear hK K
  refine AW.ret ?_
  simp -implicitDefEqProofs only [go_sem,e]
theorem rune_cases (r : Int) : (r < 65) ∨ (65 ≤ r ∧ r ≤ 90) ∨ (90 < r ∧ r < 95) ∨ (r = 95) ∨ (r = 96) ∨ (97 ≤ r ∧ r ≤ 122) ∨ (122 < r ∧ r < 192) ∨ (192 ≤ r ∧ r < 215) ∨ (r = 215) ∨ (215 < r ∧ r < 247) ∨ (r = 247) ∨ (247 < r ∧ r ≤ 591) ∨ (591 < r ∧ r < 913) ∨ (913 ≤ r ∧ r < 930) ∨ (r = 930) ∨ (930 < r ∧ r ≤ 969) ∨ (969 < r):=by omega
theorem ref01_Letter (r : Int) : PFn Tryz.prog 36 [.int .i32 r] (.bool (letterB r)):=by
 refine PFn.of Tryz.func36 rfl (by decide) Tryz.ntmps36 Tryz.results36 (Nat.le_of_ble_eq_true rfl) ?_
 simp only [argsT]
 refine AW.rT (by rfl) fun K hK=>?_
 simp -implicitDefEqProofs only [go_sem]
 apply hK;clear hK K
 rcases rune_cases r with h | h | h | h | h | h | h | h | h | h | h | h | h | h | h | h | h
 all_goals
  first | have f0:=eq_true (show r ≥ 97 by omega) | have f0:=eq_false (show ¬ r ≥ 97 by omega)
  first | have f1:=eq_true (show r ≤ 122 by omega) | have f1:=eq_false (show ¬ r ≤ 122 by omega)
  first | have f2:=eq_true (show r ≥ 65 by omega) | have f2:=eq_false (show ¬ r ≥ 65 by omega)
  first | have f3:=eq_true (show r ≤ 90 by omega) | have f3:=eq_false (show ¬ r ≤ 90 by omega)
  first | have f5:=eq_true (show r ≥ 192 by omega) | have f5:=eq_false (show ¬ r ≥ 192 by omega)
  first | have f6:=eq_true (show r ≤ 591 by omega) | have f6:=eq_false (show ¬ r ≤ 591 by omega)
  first | have f9:=eq_true (show r ≥ 913 by omega) | have f9:=eq_false (show ¬ r ≥ 913 by omega)
  first | have f10:=eq_true (show r ≤ 969 by omega) | have f10:=eq_false (show ¬ r ≤ 969 by omega)
  first | have f4 : (r == 95) = true:=beq_iff_eq.2 (by omega) | have f4 : (r == 95) = false:=beq_eq_false_iff_ne.2 (by omega)
  first | have f7 : (r != 215) = true:=bne_iff_ne.2 (by omega) | have f7 : (r != 215) = false:=by rw [show r = 215 by omega]; rfl
  first | have f8 : (r != 247) = true:=bne_iff_ne.2 (by omega) | have f8 : (r != 247) = false:=by rw [show r = 247 by omega]; rfl
  first | have f11 : (r != 930) = true:=bne_iff_ne.2 (by omega) | have f11 : (r != 930) = false:=by rw [show r = 930 by omega]; rfl
  first | have e : letterB r = true:=decide_eq_true (by omega) | have e : letterB r = false:=decide_eq_false (by omega)
  refine AW.rT (by rfl) fun K hK=>?_
  simp -implicitDefEqProofs only [go_sem,↓reduceIte,Nat.reduceAdd,Nat.reduceEqDiff,reduceCtorEq,f0,f1,f2,f3,f4,f5,f6,f7,f8,f9,f10,f11]
  apply hK;clear hK K
  refine AW.ret ?_
  simp -implicitDefEqProofs only [go_sem,e]
theorem runes_Letter (r : Int) : PFn Tryz.prog 59 [.int .i32 r] (.bool (letterB r)):=by
 refine PFn.of Tryz.func59 rfl (by decide) Tryz.ntmps59 Tryz.results59 (Nat.le_of_ble_eq_true rfl) ?_
 simp only [argsT]
 refine AW.rT (by rfl) fun K hK=>?_
 simp -implicitDefEqProofs only [go_sem]
 apply hK;clear hK K
 have B:=fun (n : Int) (h : r ≠ n)=>(beq_eq_false_iff_ne.2 h : (r == n) = false)
 refine AW.cut (fun _ : Unit=>⟨ofL [(0,.p (.int .i32 r))],ofH [],0⟩) (fun _=>r ≠ 95 ∧ r ≠ 215 ∧ r ≠ 247 ∧ r ≠ 930) ?_ fun _ hh=>?_
 ·refine AW.rT (by rfl) fun K hK=>?_
  simp -implicitDefEqProofs only [go_sem,↓reduceIte,Nat.reduceAdd,reduceCtorEq]
  apply hK;clear hK K
  refine AW.block ?_
  by_cases h0 : r = 95
  ·subst h0
   have e : letterB 95 = true:=rfl
   have q : ((95 : Int) == 95) = true:=rfl
   refine AW.rT (by rfl) fun K hK=>?_
   simp -implicitDefEqProofs only [go_sem,↓reduceIte,Nat.reduceAdd,q]
   apply hK;clear hK K
   refine AW.cT rfl ?_
   refine AW.rT (by rfl) fun K hK=>?_
   simp -implicitDefEqProofs only [go_sem,Nat.reduceAdd]
   apply hK;clear hK K
   refine AW.ret ?_
   simp -implicitDefEqProofs only [go_sem,e]
  have f0:=B 95 h0
  refine AW.rT (by rfl) fun K hK=>?_
  simp -implicitDefEqProofs only [go_sem,↓reduceIte,Nat.reduceAdd,f0]
  apply hK;clear hK K
  refine AW.cF rfl ?_
  refine AW.seq ?_
  by_cases h1 : r = 215
  ·subst h1
   have e : letterB 215 = false:=rfl
   have q : ((215 : Int) == 215) = true:=rfl
   refine AW.rT (by rfl) fun K hK=>?_
   simp -implicitDefEqProofs only [go_sem,↓reduceIte,Nat.reduceAdd,Nat.reduceEqDiff,q]
   apply hK;clear hK K
   refine AW.cT rfl ?_
   refine AW.skip ?_
   simp only [andThen]
   refine AW.cT rfl ?_
   refine AW.rT (by rfl) fun K hK=>?_
   simp -implicitDefEqProofs only [go_sem,Nat.reduceAdd]
   apply hK;clear hK K
   refine AW.ret ?_
   simp -implicitDefEqProofs only [go_sem,e]
  have f1:=B 215 h1
  refine AW.rT (by rfl) fun K hK=>?_
  simp -implicitDefEqProofs only [go_sem,↓reduceIte,Nat.reduceAdd,Nat.reduceEqDiff,f1]
  apply hK;clear hK K
  refine AW.cF rfl ?_
  by_cases h2 : r = 247
  ·subst h2
   have e : letterB 247 = false:=rfl
   have q : ((247 : Int) == 247) = true:=rfl
   refine AW.rT (by rfl) fun K hK=>?_
   simp -implicitDefEqProofs only [go_sem,↓reduceIte,Nat.reduceAdd,Nat.reduceEqDiff,q]
   apply hK;clear hK K
   refine AW.cT rfl ?_
   refine AW.skip ?_
   simp only [andThen]
   refine AW.cT rfl ?_
   refine AW.rT (by rfl) fun K hK=>?_
   simp -implicitDefEqProofs only [go_sem,Nat.reduceAdd]
   apply hK;clear hK K
   refine AW.ret ?_
   simp -implicitDefEqProofs only [go_sem,e]
  have f2:=B 247 h2
  refine AW.rT (by rfl) fun K hK=>?_
  simp -implicitDefEqProofs only [go_sem,↓reduceIte,Nat.reduceAdd,Nat.reduceEqDiff,f2]
  apply hK;clear hK K
  refine AW.cF rfl ?_
  by_cases h3 : r = 930
  ·subst h3
   have e : letterB 930 = false:=rfl
   have q : ((930 : Int) == 930) = true:=rfl
   refine AW.rE (by rfl) fun K hK=>?_
   simp -implicitDefEqProofs only [go_sem,↓reduceIte,Nat.reduceAdd,Nat.reduceEqDiff,q]
   apply hK;clear hK K
   simp only [andThen]
   refine AW.cT rfl ?_
   refine AW.rT (by rfl) fun K hK=>?_
   simp -implicitDefEqProofs only [go_sem,Nat.reduceAdd]
   apply hK;clear hK K
   refine AW.ret ?_
   simp -implicitDefEqProofs only [go_sem,e]
  have f3:=B 930 h3
  refine AW.rE (by rfl) fun K hK=>?_
  simp -implicitDefEqProofs only [go_sem,↓reduceIte,Nat.reduceAdd,Nat.reduceEqDiff,f3]
  apply hK;clear hK K
  simp only [andThen]
  refine AW.cF rfl ?_
  refine AW.skip ?_
  simp only [andThen,inBlk]
  refine ⟨(),⟨h0,h1,h2,h3⟩,?_⟩
  refine Ghost.sub ?_ ?_ <;> simp -implicitDefEqProofs only [go_sem,↓reduceIte,reduceCtorEq,List.forall_mem_cons,List.not_mem_nil,false_implies,implies_true,and_self,AV.labsIn]
 have e : letterB r = (decide (97 ≤ r ∧ r ≤ 122) || decide (65 ≤ r ∧ r ≤ 90) || decide (192 ≤ r ∧ r ≤ 591) || decide (913 ≤ r ∧ r ≤ 969)):=by
  unfold letterB
  rw [← Bool.decide_or,← Bool.decide_or,← Bool.decide_or]
  exact decide_eq_decide.2 (by omega)
 have C1:=runes_in r 97 122
 have C2:=runes_in r 65 90
 have C3:=runes_in r 192 591
 have C4:=runes_in r 913 969
 generalize decide (97 ≤ r ∧ r ≤ 122) = b1 at *
 generalize decide (65 ≤ r ∧ r ≤ 90) = b2 at *
 generalize decide (192 ≤ r ∧ r ≤ 591) = b3 at *
 generalize decide (913 ≤ r ∧ r ≤ 969) = b4 at *
 rw [e]
 cases b1 with
 | true =>
  refine AW.rT (by rfl) fun K hK=>?_
  simp -implicitDefEqProofs only [go_sem,↓reduceIte]
  refine ⟨.pure _,C1,?_⟩
  try simp -implicitDefEqProofs only [go_sem,↓reduceIte,Nat.reduceAdd,Nat.reduceEqDiff]
  apply hK;clear hK K
  refine AW.ret ?_
  simp -implicitDefEqProofs only [go_sem]
  rfl
 | false =>
 cases b2 with
 | true =>
  refine AW.rT (by rfl) fun K hK=>?_
  simp -implicitDefEqProofs only [go_sem,↓reduceIte]
  refine ⟨.pure _,C1,?_⟩
  try simp -implicitDefEqProofs only [go_sem,↓reduceIte,Nat.reduceAdd,Nat.reduceEqDiff,reduceCtorEq]
  refine ⟨.pure _,C2,?_⟩
  try simp -implicitDefEqProofs only [go_sem,↓reduceIte,Nat.reduceAdd,Nat.reduceEqDiff]
  apply hK;clear hK K
  refine AW.ret ?_
  simp -implicitDefEqProofs only [go_sem]
  rfl
 | false =>
 cases b3 with
 | true =>
  refine AW.rT (by rfl) fun K hK=>?_
  simp -implicitDefEqProofs only [go_sem,↓reduceIte]
  refine ⟨.pure _,C1,?_⟩
  try simp -implicitDefEqProofs only [go_sem,↓reduceIte,Nat.reduceAdd,Nat.reduceEqDiff,reduceCtorEq]
  refine ⟨.pure _,C2,?_⟩
  try simp -implicitDefEqProofs only [go_sem,↓reduceIte,Nat.reduceAdd,Nat.reduceEqDiff,reduceCtorEq]
  refine ⟨.pure _,C3,?_⟩
  try simp -implicitDefEqProofs only [go_sem,↓reduceIte,Nat.reduceAdd,Nat.reduceEqDiff]
  apply hK;clear hK K
  refine AW.ret ?_
  simp -implicitDefEqProofs only [go_sem]
  rfl
 | false =>
  refine AW.rT (by rfl) fun K hK=>?_
  simp -implicitDefEqProofs only [go_sem,↓reduceIte]
  refine ⟨.pure _,C1,?_⟩
  try simp -implicitDefEqProofs only [go_sem,↓reduceIte,Nat.reduceAdd,Nat.reduceEqDiff,reduceCtorEq]
  refine ⟨.pure _,C2,?_⟩
  try simp -implicitDefEqProofs only [go_sem,↓reduceIte,Nat.reduceAdd,Nat.reduceEqDiff,reduceCtorEq]
  refine ⟨.pure _,C3,?_⟩
  try simp -implicitDefEqProofs only [go_sem,↓reduceIte,Nat.reduceAdd,Nat.reduceEqDiff,reduceCtorEq]
  refine ⟨.pure _,C4,?_⟩
  try simp -implicitDefEqProofs only [go_sem,↓reduceIte,Nat.reduceAdd,Nat.reduceEqDiff]
  apply hK;clear hK K
  refine AW.ret ?_
  simp -implicitDefEqProofs only [go_sem]
  rfl
def kS80 (s : List UInt8) : St:=⟨ofL [(4,.p (.bool (keyB s)))],ofH [],0⟩
theorem runes_Key (s : List UInt8) : PFn Tryz.prog 58 [.str s] (.bool (keyB s)):=by
 refine PFn.of Tryz.func58 rfl (by decide) Tryz.ntmps58 Tryz.results58 (Nat.le_of_ble_eq_true rfl) ?_
 simp only [argsT]
 refine AW.rT (by rfl) fun K hK=>?_
 simp -implicitDefEqProofs only [go_sem]
 apply hK;clear hK K
 refine AW.seq ?_
 refine AW.rT (by rfl) fun K hK=>?_
 simp -implicitDefEqProofs only [go_sem,↓reduceIte,Nat.reduceAdd,reduceCtorEq]
 apply hK;clear hK K
 refine AW.block ?_
 refine AW.cut (fun _ : Unit=>kS80 s) (fun _=>True) ?_ fun _ _=>?_
 ·refine AW.rT (by rfl) fun K hK=>?_
  simp -implicitDefEqProofs only [go_sem,↓reduceIte,Nat.reduceAdd]
  apply hK;clear hK K
  refine AW.cond _ (by simp -implicitDefEqProofs only [go_sem]; rfl) (fun hc=>?_) (fun hc=>?_)
  ·have e : keyB s = true:=by simp only [keyB,keyWords,List.contains_cons,List.contains_nil,Bool.true_or,Bool.or_false,hc]
   refine AW.skip ?_
   simp only [andThen]
   refine ⟨(),trivial,?_⟩
   simp only [kS80]
   refine Ghost.sub ?_ ?_ <;> simp -implicitDefEqProofs only [go_sem,↓reduceIte,reduceCtorEq,e,hc,List.forall_mem_cons,List.not_mem_nil,false_implies,implies_true,and_self,AV.labsIn]
  have h0 : (s == ([115,99,104,101,109,97] : List UInt8)) = false:=hc
  clear hc
  refine AW.rT (by rfl) fun K hK=>?_
  simp -implicitDefEqProofs only [go_sem,↓reduceIte,Nat.reduceAdd,Nat.reduceEqDiff]
  apply hK;clear hK K
  refine AW.cond _ (by simp -implicitDefEqProofs only [go_sem]; rfl) (fun hc=>?_) (fun hc=>?_)
  ·have e : keyB s = true:=by simp only [keyB,keyWords,List.contains_cons,List.contains_nil,Bool.true_or,Bool.or_false,Bool.or_true,h0,hc]
   refine AW.skip ?_
   simp only [andThen]
   refine ⟨(),trivial,?_⟩
   simp only [kS80]
   refine Ghost.sub ?_ ?_ <;> simp -implicitDefEqProofs only [go_sem,↓reduceIte,reduceCtorEq,e,hc,List.forall_mem_cons,List.not_mem_nil,false_implies,implies_true,and_self,AV.labsIn]
  have h1 : (s == ([109,101,115,115,97,103,101] : List UInt8)) = false:=hc
  clear hc
  refine AW.rT (by rfl) fun K hK=>?_
  simp -implicitDefEqProofs only [go_sem,↓reduceIte,Nat.reduceAdd,Nat.reduceEqDiff]
  apply hK;clear hK K
  refine AW.cond _ (by simp -implicitDefEqProofs only [go_sem]; rfl) (fun hc=>?_) (fun hc=>?_)
  ·have e : keyB s = true:=by simp only [keyB,keyWords,List.contains_cons,List.contains_nil,Bool.true_or,Bool.or_false,Bool.or_true,h0,h1,hc]
   refine AW.skip ?_
   simp only [andThen]
   refine ⟨(),trivial,?_⟩
   simp only [kS80]
   refine Ghost.sub ?_ ?_ <;> simp -implicitDefEqProofs only [go_sem,↓reduceIte,reduceCtorEq,e,hc,List.forall_mem_cons,List.not_mem_nil,false_implies,implies_true,and_self,AV.labsIn]
  have h2 : (s == ([101,110,117,109] : List UInt8)) = false:=hc
  clear hc
  refine AW.rT (by rfl) fun K hK=>?_
  simp -implicitDefEqProofs only [go_sem,↓reduceIte,Nat.reduceAdd,Nat.reduceEqDiff]
  apply hK;clear hK K
  refine AW.cond _ (by simp -implicitDefEqProofs only [go_sem]; rfl) (fun hc=>?_) (fun hc=>?_)
  ·have e : keyB s = true:=by simp only [keyB,keyWords,List.contains_cons,List.contains_nil,Bool.true_or,Bool.or_false,Bool.or_true,h0,h1,h2,hc]
   refine AW.skip ?_
   simp only [andThen]
   refine ⟨(),trivial,?_⟩
   simp only [kS80]
   refine Ghost.sub ?_ ?_ <;> simp -implicitDefEqProofs only [go_sem,↓reduceIte,reduceCtorEq,e,hc,List.forall_mem_cons,List.not_mem_nil,false_implies,implies_true,and_self,AV.labsIn]
  have h3 : (s == ([99,97,108,108] : List UInt8)) = false:=hc
  clear hc
  refine AW.rT (by rfl) fun K hK=>?_
  simp -implicitDefEqProofs only [go_sem,↓reduceIte,Nat.reduceAdd,Nat.reduceEqDiff]
  apply hK;clear hK K
  refine AW.cond _ (by simp -implicitDefEqProofs only [go_sem]; rfl) (fun hc=>?_) (fun hc=>?_)
  ·have e : keyB s = true:=by simp only [keyB,keyWords,List.contains_cons,List.contains_nil,Bool.true_or,Bool.or_false,Bool.or_true,h0,h1,h2,h3,hc]
   refine AW.skip ?_
   simp only [andThen]
   refine ⟨(),trivial,?_⟩
   simp only [kS80]
   refine Ghost.sub ?_ ?_ <;> simp -implicitDefEqProofs only [go_sem,↓reduceIte,reduceCtorEq,e,hc,List.forall_mem_cons,List.not_mem_nil,false_implies,implies_true,and_self,AV.labsIn]
  have h4 : (s == ([114,101,116,117,114,110,115] : List UInt8)) = false:=hc
  clear hc
  refine AW.rT (by rfl) fun K hK=>?_
  simp -implicitDefEqProofs only [go_sem,↓reduceIte,Nat.reduceAdd,Nat.reduceEqDiff]
  apply hK;clear hK K
  refine AW.cond _ (by simp -implicitDefEqProofs only [go_sem]; rfl) (fun hc=>?_) (fun hc=>?_)
  ·have e : keyB s = true:=by simp only [keyB,keyWords,List.contains_cons,List.contains_nil,Bool.true_or,Bool.or_false,Bool.or_true,h0,h1,h2,h3,h4,hc]
   refine AW.skip ?_
   simp only [andThen]
   refine ⟨(),trivial,?_⟩
   simp only [kS80]
   refine Ghost.sub ?_ ?_ <;> simp -implicitDefEqProofs only [go_sem,↓reduceIte,reduceCtorEq,e,hc,List.forall_mem_cons,List.not_mem_nil,false_implies,implies_true,and_self,AV.labsIn]
  have h5 : (s == ([114,101,115,101,114,118,101,100] : List UInt8)) = false:=hc
  clear hc
  refine AW.rT (by rfl) fun K hK=>?_
  simp -implicitDefEqProofs only [go_sem,↓reduceIte,Nat.reduceAdd,Nat.reduceEqDiff]
  apply hK;clear hK K
  refine AW.cond _ (by simp -implicitDefEqProofs only [go_sem]; rfl) (fun hc=>?_) (fun hc=>?_)
  ·have e : keyB s = true:=by simp only [keyB,keyWords,List.contains_cons,List.contains_nil,Bool.true_or,Bool.or_false,Bool.or_true,h0,h1,h2,h3,h4,h5,hc]
   refine AW.skip ?_
   simp only [andThen]
   refine ⟨(),trivial,?_⟩
   simp only [kS80]
   refine Ghost.sub ?_ ?_ <;> simp -implicitDefEqProofs only [go_sem,↓reduceIte,reduceCtorEq,e,hc,List.forall_mem_cons,List.not_mem_nil,false_implies,implies_true,and_self,AV.labsIn]
  have h6 : (s == ([111,112,116,105,111,110,97,108] : List UInt8)) = false:=hc
  clear hc
  refine AW.rT (by rfl) fun K hK=>?_
  simp -implicitDefEqProofs only [go_sem,↓reduceIte,Nat.reduceAdd,Nat.reduceEqDiff]
  apply hK;clear hK K
  refine AW.cond _ (by simp -implicitDefEqProofs only [go_sem]; rfl) (fun hc=>?_) (fun hc=>?_)
  ·have e : keyB s = true:=by simp only [keyB,keyWords,List.contains_cons,List.contains_nil,Bool.true_or,Bool.or_false,Bool.or_true,h0,h1,h2,h3,h4,h5,h6,hc]
   refine AW.skip ?_
   simp only [andThen]
   refine ⟨(),trivial,?_⟩
   simp only [kS80]
   refine Ghost.sub ?_ ?_ <;> simp -implicitDefEqProofs only [go_sem,↓reduceIte,reduceCtorEq,e,hc,List.forall_mem_cons,List.not_mem_nil,false_implies,implies_true,and_self,AV.labsIn]
  have h7 : (s == ([114,101,112,101,97,116,101,100] : List UInt8)) = false:=hc
  clear hc
  refine AW.rT (by rfl) fun K hK=>?_
  simp -implicitDefEqProofs only [go_sem,↓reduceIte,Nat.reduceAdd,Nat.reduceEqDiff]
  apply hK;clear hK K
  refine AW.cond _ (by simp -implicitDefEqProofs only [go_sem]; rfl) (fun hc=>?_) (fun hc=>?_)
  ·have e : keyB s = true:=by simp only [keyB,keyWords,List.contains_cons,List.contains_nil,Bool.true_or,Bool.or_false,Bool.or_true,h0,h1,h2,h3,h4,h5,h6,h7,hc]
   refine AW.skip ?_
   simp only [andThen]
   refine ⟨(),trivial,?_⟩
   simp only [kS80]
   refine Ghost.sub ?_ ?_ <;> simp -implicitDefEqProofs only [go_sem,↓reduceIte,reduceCtorEq,e,hc,List.forall_mem_cons,List.not_mem_nil,false_implies,implies_true,and_self,AV.labsIn]
  have h8 : (s == ([105,110,116,51,50] : List UInt8)) = false:=hc
  clear hc
  refine AW.rT (by rfl) fun K hK=>?_
  simp -implicitDefEqProofs only [go_sem,↓reduceIte,Nat.reduceAdd,Nat.reduceEqDiff]
  apply hK;clear hK K
  refine AW.cond _ (by simp -implicitDefEqProofs only [go_sem]; rfl) (fun hc=>?_) (fun hc=>?_)
  ·have e : keyB s = true:=by simp only [keyB,keyWords,List.contains_cons,List.contains_nil,Bool.true_or,Bool.or_false,Bool.or_true,h0,h1,h2,h3,h4,h5,h6,h7,h8,hc]
   refine AW.skip ?_
   simp only [andThen]
   refine ⟨(),trivial,?_⟩
   simp only [kS80]
   refine Ghost.sub ?_ ?_ <;> simp -implicitDefEqProofs only [go_sem,↓reduceIte,reduceCtorEq,e,hc,List.forall_mem_cons,List.not_mem_nil,false_implies,implies_true,and_self,AV.labsIn]
  have h9 : (s == ([105,110,116,54,52] : List UInt8)) = false:=hc
  clear hc
  refine AW.rT (by rfl) fun K hK=>?_
  simp -implicitDefEqProofs only [go_sem,↓reduceIte,Nat.reduceAdd,Nat.reduceEqDiff]
  apply hK;clear hK K
  refine AW.cond _ (by simp -implicitDefEqProofs only [go_sem]; rfl) (fun hc=>?_) (fun hc=>?_)
  ·have e : keyB s = true:=by simp only [keyB,keyWords,List.contains_cons,List.contains_nil,Bool.true_or,Bool.or_false,Bool.or_true,h0,h1,h2,h3,h4,h5,h6,h7,h8,h9,hc]
   refine AW.skip ?_
   simp only [andThen]
   refine ⟨(),trivial,?_⟩
   simp only [kS80]
   refine Ghost.sub ?_ ?_ <;> simp -implicitDefEqProofs only [go_sem,↓reduceIte,reduceCtorEq,e,hc,List.forall_mem_cons,List.not_mem_nil,false_implies,implies_true,and_self,AV.labsIn]
  have h10 : (s == ([98,111,111,108] : List UInt8)) = false:=hc
  clear hc
  refine AW.rT (by rfl) fun K hK=>?_
  simp -implicitDefEqProofs only [go_sem,↓reduceIte,Nat.reduceAdd,Nat.reduceEqDiff]
  apply hK;clear hK K
  refine AW.cond _ (by simp -implicitDefEqProofs only [go_sem]; rfl) (fun hc=>?_) (fun hc=>?_)
  ·have e : keyB s = true:=by simp only [keyB,keyWords,List.contains_cons,List.contains_nil,Bool.true_or,Bool.or_false,Bool.or_true,h0,h1,h2,h3,h4,h5,h6,h7,h8,h9,h10,hc]
   refine AW.skip ?_
   simp only [andThen]
   refine ⟨(),trivial,?_⟩
   simp only [kS80]
   refine Ghost.sub ?_ ?_ <;> simp -implicitDefEqProofs only [go_sem,↓reduceIte,reduceCtorEq,e,hc,List.forall_mem_cons,List.not_mem_nil,false_implies,implies_true,and_self,AV.labsIn]
  have h11 : (s == ([116,101,120,116] : List UInt8)) = false:=hc
  clear hc
  have e : keyB s = (s == ([98,121,116,101,115] : List UInt8)):=by simp only [keyB,keyWords,List.contains_cons,List.contains_nil,Bool.false_or,Bool.or_false,h0,h1,h2,h3,h4,h5,h6,h7,h8,h9,h10,h11]
  refine AW.rE (by rfl) fun K hK=>?_
  simp -implicitDefEqProofs only [go_sem,↓reduceIte,Nat.reduceAdd,Nat.reduceEqDiff]
  apply hK;clear hK K
  simp only [andThen]
  refine ⟨(),trivial,?_⟩
  simp only [kS80]
  refine Ghost.sub ?_ ?_ <;> simp -implicitDefEqProofs only [go_sem,↓reduceIte,reduceCtorEq,e,List.forall_mem_cons,List.not_mem_nil,false_implies,implies_true,and_self,AV.labsIn]
 simp only [kS80]
 refine AW.cond _ (by simp -implicitDefEqProofs only [go_sem,↓reduceIte]; rfl) (fun hc=>?_) (fun hc=>?_)
 ·refine AW.rT (by rfl) fun K hK=>?_
  simp -implicitDefEqProofs only [go_sem]
  apply hK;clear hK K
  refine AW.ret ?_
  simp -implicitDefEqProofs only [go_sem,hc]
 ·refine AW.skip ?_
  simp only [andThen,inBlk]
  refine AW.rT (by rfl) fun K hK=>?_
  simp -implicitDefEqProofs only [go_sem]
  apply hK;clear hK K
  refine AW.ret ?_
  simp -implicitDefEqProofs only [go_sem,hc]
def kS87 (s : List UInt8) : St:=⟨ofL [(4,.p (.bool (keyB s)))],ofH [],0⟩
theorem ref01_Key (s : List UInt8) : PFn Tryz.prog 37 [.str s] (.bool (keyB s)):=by
 refine PFn.of Tryz.func37 rfl (by decide) Tryz.ntmps37 Tryz.results37 (Nat.le_of_ble_eq_true rfl) ?_
 simp only [argsT]
 refine AW.rT (by rfl) fun K hK=>?_
 simp -implicitDefEqProofs only [go_sem]
 apply hK;clear hK K
 refine AW.seq ?_
 refine AW.rT (by rfl) fun K hK=>?_
 simp -implicitDefEqProofs only [go_sem,↓reduceIte,Nat.reduceAdd,reduceCtorEq]
 apply hK;clear hK K
 refine AW.block ?_
 refine AW.cut (fun _ : Unit=>kS87 s) (fun _=>True) ?_ fun _ _=>?_
 ·refine AW.rT (by rfl) fun K hK=>?_
  simp -implicitDefEqProofs only [go_sem,↓reduceIte,Nat.reduceAdd]
  apply hK;clear hK K
  refine AW.cond _ (by simp -implicitDefEqProofs only [go_sem]; rfl) (fun hc=>?_) (fun hc=>?_)
  ·have e : keyB s = true:=by simp only [keyB,keyWords,List.contains_cons,List.contains_nil,Bool.true_or,Bool.or_false,hc]
   refine AW.skip ?_
   simp only [andThen]
   refine ⟨(),trivial,?_⟩
   simp only [kS87]
   refine Ghost.sub ?_ ?_ <;> simp -implicitDefEqProofs only [go_sem,↓reduceIte,reduceCtorEq,e,hc,List.forall_mem_cons,List.not_mem_nil,false_implies,implies_true,and_self,AV.labsIn]
  have h0 : (s == ([115,99,104,101,109,97] : List UInt8)) = false:=hc
  clear hc
  refine AW.rT (by rfl) fun K hK=>?_
  simp -implicitDefEqProofs only [go_sem,↓reduceIte,Nat.reduceAdd,Nat.reduceEqDiff]
  apply hK;clear hK K
  refine AW.cond _ (by simp -implicitDefEqProofs only [go_sem]; rfl) (fun hc=>?_) (fun hc=>?_)
  ·have e : keyB s = true:=by simp only [keyB,keyWords,List.contains_cons,List.contains_nil,Bool.true_or,Bool.or_false,Bool.or_true,h0,hc]
   refine AW.skip ?_
   simp only [andThen]
   refine ⟨(),trivial,?_⟩
   simp only [kS87]
   refine Ghost.sub ?_ ?_ <;> simp -implicitDefEqProofs only [go_sem,↓reduceIte,reduceCtorEq,e,hc,List.forall_mem_cons,List.not_mem_nil,false_implies,implies_true,and_self,AV.labsIn]
  have h1 : (s == ([109,101,115,115,97,103,101] : List UInt8)) = false:=hc
  clear hc
  refine AW.rT (by rfl) fun K hK=>?_
  simp -implicitDefEqProofs only [go_sem,↓reduceIte,Nat.reduceAdd,Nat.reduceEqDiff]
  apply hK;clear hK K
  refine AW.cond _ (by simp -implicitDefEqProofs only [go_sem]; rfl) (fun hc=>?_) (fun hc=>?_)
  ·have e : keyB s = true:=by simp only [keyB,keyWords,List.contains_cons,List.contains_nil,Bool.true_or,Bool.or_false,Bool.or_true,h0,h1,hc]
   refine AW.skip ?_
   simp only [andThen]
   refine ⟨(),trivial,?_⟩
   simp only [kS87]
   refine Ghost.sub ?_ ?_ <;> simp -implicitDefEqProofs only [go_sem,↓reduceIte,reduceCtorEq,e,hc,List.forall_mem_cons,List.not_mem_nil,false_implies,implies_true,and_self,AV.labsIn]
  have h2 : (s == ([101,110,117,109] : List UInt8)) = false:=hc
  clear hc
  refine AW.rT (by rfl) fun K hK=>?_
  simp -implicitDefEqProofs only [go_sem,↓reduceIte,Nat.reduceAdd,Nat.reduceEqDiff]
  apply hK;clear hK K
  refine AW.cond _ (by simp -implicitDefEqProofs only [go_sem]; rfl) (fun hc=>?_) (fun hc=>?_)
  ·have e : keyB s = true:=by simp only [keyB,keyWords,List.contains_cons,List.contains_nil,Bool.true_or,Bool.or_false,Bool.or_true,h0,h1,h2,hc]
   refine AW.skip ?_
   simp only [andThen]
   refine ⟨(),trivial,?_⟩
   simp only [kS87]
   refine Ghost.sub ?_ ?_ <;> simp -implicitDefEqProofs only [go_sem,↓reduceIte,reduceCtorEq,e,hc,List.forall_mem_cons,List.not_mem_nil,false_implies,implies_true,and_self,AV.labsIn]
  have h3 : (s == ([99,97,108,108] : List UInt8)) = false:=hc
  clear hc
  refine AW.rT (by rfl) fun K hK=>?_
  simp -implicitDefEqProofs only [go_sem,↓reduceIte,Nat.reduceAdd,Nat.reduceEqDiff]
  apply hK;clear hK K
  refine AW.cond _ (by simp -implicitDefEqProofs only [go_sem]; rfl) (fun hc=>?_) (fun hc=>?_)
  ·have e : keyB s = true:=by simp only [keyB,keyWords,List.contains_cons,List.contains_nil,Bool.true_or,Bool.or_false,Bool.or_true,h0,h1,h2,h3,hc]
   refine AW.skip ?_
   simp only [andThen]
   refine ⟨(),trivial,?_⟩
   simp only [kS87]
   refine Ghost.sub ?_ ?_ <;> simp -implicitDefEqProofs only [go_sem,↓reduceIte,reduceCtorEq,e,hc,List.forall_mem_cons,List.not_mem_nil,false_implies,implies_true,and_self,AV.labsIn]
  have h4 : (s == ([114,101,116,117,114,110,115] : List UInt8)) = false:=hc
  clear hc
  refine AW.rT (by rfl) fun K hK=>?_
  simp -implicitDefEqProofs only [go_sem,↓reduceIte,Nat.reduceAdd,Nat.reduceEqDiff]
  apply hK;clear hK K
  refine AW.cond _ (by simp -implicitDefEqProofs only [go_sem]; rfl) (fun hc=>?_) (fun hc=>?_)
  ·have e : keyB s = true:=by simp only [keyB,keyWords,List.contains_cons,List.contains_nil,Bool.true_or,Bool.or_false,Bool.or_true,h0,h1,h2,h3,h4,hc]
   refine AW.skip ?_
   simp only [andThen]
   refine ⟨(),trivial,?_⟩
   simp only [kS87]
   refine Ghost.sub ?_ ?_ <;> simp -implicitDefEqProofs only [go_sem,↓reduceIte,reduceCtorEq,e,hc,List.forall_mem_cons,List.not_mem_nil,false_implies,implies_true,and_self,AV.labsIn]
  have h5 : (s == ([114,101,115,101,114,118,101,100] : List UInt8)) = false:=hc
  clear hc
  refine AW.rT (by rfl) fun K hK=>?_
  simp -implicitDefEqProofs only [go_sem,↓reduceIte,Nat.reduceAdd,Nat.reduceEqDiff]
  apply hK;clear hK K
  refine AW.cond _ (by simp -implicitDefEqProofs only [go_sem]; rfl) (fun hc=>?_) (fun hc=>?_)
  ·have e : keyB s = true:=by simp only [keyB,keyWords,List.contains_cons,List.contains_nil,Bool.true_or,Bool.or_false,Bool.or_true,h0,h1,h2,h3,h4,h5,hc]
   refine AW.skip ?_
   simp only [andThen]
   refine ⟨(),trivial,?_⟩
   simp only [kS87]
   refine Ghost.sub ?_ ?_ <;> simp -implicitDefEqProofs only [go_sem,↓reduceIte,reduceCtorEq,e,hc,List.forall_mem_cons,List.not_mem_nil,false_implies,implies_true,and_self,AV.labsIn]
  have h6 : (s == ([111,112,116,105,111,110,97,108] : List UInt8)) = false:=hc
  clear hc
  refine AW.rT (by rfl) fun K hK=>?_
  simp -implicitDefEqProofs only [go_sem,↓reduceIte,Nat.reduceAdd,Nat.reduceEqDiff]
  apply hK;clear hK K
  refine AW.cond _ (by simp -implicitDefEqProofs only [go_sem]; rfl) (fun hc=>?_) (fun hc=>?_)
  ·have e : keyB s = true:=by simp only [keyB,keyWords,List.contains_cons,List.contains_nil,Bool.true_or,Bool.or_false,Bool.or_true,h0,h1,h2,h3,h4,h5,h6,hc]
   refine AW.skip ?_
   simp only [andThen]
   refine ⟨(),trivial,?_⟩
   simp only [kS87]
   refine Ghost.sub ?_ ?_ <;> simp -implicitDefEqProofs only [go_sem,↓reduceIte,reduceCtorEq,e,hc,List.forall_mem_cons,List.not_mem_nil,false_implies,implies_true,and_self,AV.labsIn]
  have h7 : (s == ([114,101,112,101,97,116,101,100] : List UInt8)) = false:=hc
  clear hc
  refine AW.rT (by rfl) fun K hK=>?_
  simp -implicitDefEqProofs only [go_sem,↓reduceIte,Nat.reduceAdd,Nat.reduceEqDiff]
  apply hK;clear hK K
  refine AW.cond _ (by simp -implicitDefEqProofs only [go_sem]; rfl) (fun hc=>?_) (fun hc=>?_)
  ·have e : keyB s = true:=by simp only [keyB,keyWords,List.contains_cons,List.contains_nil,Bool.true_or,Bool.or_false,Bool.or_true,h0,h1,h2,h3,h4,h5,h6,h7,hc]
   refine AW.skip ?_
   simp only [andThen]
   refine ⟨(),trivial,?_⟩
   simp only [kS87]
   refine Ghost.sub ?_ ?_ <;> simp -implicitDefEqProofs only [go_sem,↓reduceIte,reduceCtorEq,e,hc,List.forall_mem_cons,List.not_mem_nil,false_implies,implies_true,and_self,AV.labsIn]
  have h8 : (s == ([105,110,116,51,50] : List UInt8)) = false:=hc
  clear hc
  refine AW.rT (by rfl) fun K hK=>?_
  simp -implicitDefEqProofs only [go_sem,↓reduceIte,Nat.reduceAdd,Nat.reduceEqDiff]
  apply hK;clear hK K
  refine AW.cond _ (by simp -implicitDefEqProofs only [go_sem]; rfl) (fun hc=>?_) (fun hc=>?_)
  ·have e : keyB s = true:=by simp only [keyB,keyWords,List.contains_cons,List.contains_nil,Bool.true_or,Bool.or_false,Bool.or_true,h0,h1,h2,h3,h4,h5,h6,h7,h8,hc]
   refine AW.skip ?_
   simp only [andThen]
   refine ⟨(),trivial,?_⟩
   simp only [kS87]
   refine Ghost.sub ?_ ?_ <;> simp -implicitDefEqProofs only [go_sem,↓reduceIte,reduceCtorEq,e,hc,List.forall_mem_cons,List.not_mem_nil,false_implies,implies_true,and_self,AV.labsIn]
  have h9 : (s == ([105,110,116,54,52] : List UInt8)) = false:=hc
  clear hc
  refine AW.rT (by rfl) fun K hK=>?_
  simp -implicitDefEqProofs only [go_sem,↓reduceIte,Nat.reduceAdd,Nat.reduceEqDiff]
  apply hK;clear hK K
  refine AW.cond _ (by simp -implicitDefEqProofs only [go_sem]; rfl) (fun hc=>?_) (fun hc=>?_)
  ·have e : keyB s = true:=by simp only [keyB,keyWords,List.contains_cons,List.contains_nil,Bool.true_or,Bool.or_false,Bool.or_true,h0,h1,h2,h3,h4,h5,h6,h7,h8,h9,hc]
   refine AW.skip ?_
   simp only [andThen]
   refine ⟨(),trivial,?_⟩
   simp only [kS87]
   refine Ghost.sub ?_ ?_ <;> simp -implicitDefEqProofs only [go_sem,↓reduceIte,reduceCtorEq,e,hc,List.forall_mem_cons,List.not_mem_nil,false_implies,implies_true,and_self,AV.labsIn]
  have h10 : (s == ([98,111,111,108] : List UInt8)) = false:=hc
  clear hc
  refine AW.rT (by rfl) fun K hK=>?_
  simp -implicitDefEqProofs only [go_sem,↓reduceIte,Nat.reduceAdd,Nat.reduceEqDiff]
  apply hK;clear hK K
  refine AW.cond _ (by simp -implicitDefEqProofs only [go_sem]; rfl) (fun hc=>?_) (fun hc=>?_)
  ·have e : keyB s = true:=by simp only [keyB,keyWords,List.contains_cons,List.contains_nil,Bool.true_or,Bool.or_false,Bool.or_true,h0,h1,h2,h3,h4,h5,h6,h7,h8,h9,h10,hc]
   refine AW.skip ?_
   simp only [andThen]
   refine ⟨(),trivial,?_⟩
   simp only [kS87]
   refine Ghost.sub ?_ ?_ <;> simp -implicitDefEqProofs only [go_sem,↓reduceIte,reduceCtorEq,e,hc,List.forall_mem_cons,List.not_mem_nil,false_implies,implies_true,and_self,AV.labsIn]
  have h11 : (s == ([116,101,120,116] : List UInt8)) = false:=hc
  clear hc
  have e : keyB s = (s == ([98,121,116,101,115] : List UInt8)):=by simp only [keyB,keyWords,List.contains_cons,List.contains_nil,Bool.false_or,Bool.or_false,h0,h1,h2,h3,h4,h5,h6,h7,h8,h9,h10,h11]
  refine AW.rE (by rfl) fun K hK=>?_
  simp -implicitDefEqProofs only [go_sem,↓reduceIte,Nat.reduceAdd,Nat.reduceEqDiff]
  apply hK;clear hK K
  simp only [andThen]
  refine ⟨(),trivial,?_⟩
  simp only [kS87]
  refine Ghost.sub ?_ ?_ <;> simp -implicitDefEqProofs only [go_sem,↓reduceIte,reduceCtorEq,e,List.forall_mem_cons,List.not_mem_nil,false_implies,implies_true,and_self,AV.labsIn]
 simp only [kS87]
 refine AW.cond _ (by simp -implicitDefEqProofs only [go_sem,↓reduceIte]; rfl) (fun hc=>?_) (fun hc=>?_)
 ·refine AW.rT (by rfl) fun K hK=>?_
  simp -implicitDefEqProofs only [go_sem]
  apply hK;clear hK K
  refine AW.ret ?_
  simp -implicitDefEqProofs only [go_sem,hc]
 ·refine AW.skip ?_
  simp only [andThen,inBlk]
  refine AW.rT (by rfl) fun K hK=>?_
  simp -implicitDefEqProofs only [go_sem]
  apply hK;clear hK K
  refine AW.ret ?_
  simp -implicitDefEqProofs only [go_sem,hc]
end Go.Aw
