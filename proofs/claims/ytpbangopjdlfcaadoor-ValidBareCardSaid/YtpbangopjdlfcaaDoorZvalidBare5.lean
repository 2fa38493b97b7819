/- What the law LawValidBare leans on, joined (part 5). -/
import Derived.Test.YtpbangopjdlfcaaDoorZvalidBare4
set_option linter.unusedSimpArgs false
set_option linter.unusedVariables false
namespace Go.Aw.T
open Go.Proofs
set_option linter.unusedSimpArgs false
set_option linter.unusedVariables false
theorem right_ent {t : Tr} (h : rightT t = true) : ∀ e ∈ t.ents, 1 ≤ e.2.length ∧ ∀ x ∈ e.2, rightT x = true := by
 have all : ∀ {l : List Tr} {k : Int}, rightTs l k = true → ∀ x ∈ l, rightT x = true := fun {l} => by
  induction l with
  | nil => intro k _ x hx; cases hx
  | cons a l ih =>
   intro k h x hx
   rw [rightTs] at h
   split at h
   ·cases h
   split at h
   ·rename_i h2
    rcases List.mem_cons.1 hx with rfl | hx
    ·exact h2
    ·exact ih h x hx
   ·cases h
 have ent : ∀ {es : List (Int × List Tr)} {last : Int}, rightE es last = true → ∀ e ∈ es, 1 ≤ e.2.length ∧ ∀ x ∈ e.2, rightT x = true := fun {es} => by
  induction es with
  | nil => intro k _ x hx; cases hx
  | cons a es ih =>
   obtain ⟨g, l⟩ := a
   intro k h x hx
   rw [rightE] at h
   split at h
   ·cases h
   rename_i h1
   split at h
   ·rename_i h2
    rcases List.mem_cons.1 hx with rfl | hx
    ·exact ⟨by simp only; omega, all h2⟩
    ·exact ih h x hx
   ·cases h
 rw [rightT_mk] at h
 intro e he
 split at h
 ·simp only [Bool.and_eq_true, List.isEmpty_iff] at h
  rw [h.1.2] at he; cases he
 split at h
 ·simp only [Bool.and_eq_true, List.isEmpty_iff] at h
  rw [h.1.2] at he; cases he
 split at h
 ·simp only [Bool.and_eq_true] at h
  exact ent h.1.2 e he
 ·cases h
def vm (S : Sc) (m : Ms) (t : Tr) (i : Nat) (l : List (Nat × AV)) (h : List (Nat × Blk)) (n : Nat) : St := ⟨ofL ((3, .ptr 0 0 0) :: (4, .ptr 1 0 0) :: (5, .ptr 2 0 0) :: (21, .p (.slice (t.ents.map encEn))) :: (22, .p (.int .i64 (t.ents.length : Int))) :: (23, .p (.int .i64 (i : Int))) :: l),
 ofH ((0, .row 4 [cellsSc S]) :: (1, .row 3 [cellsMs m]) :: (2, .row 5 [cellsT t]) :: h), n⟩
def vmL0 : List (Nat × AV) := [(8, .ptr 3 0 0), (9, .ptr 4 0 0)]
def vmL (e : Int × List Tr) (k : Nat) : List (Nat × AV) := [(8, .ptr 3 0 0), (9, .ptr 4 0 0), (48, .p (.slice (e.2.map encTr))), (49, .p (.int .i64 (e.2.length : Int))), (50, .p (.int .i64 (k : Int)))]
def vmH (e : Int × List Tr) (f : Fd) : List (Nat × Blk) := [(3, .row 2 [[.p (.int .i64 e.1), .p (.slice (e.2.map encTr))]]), (4, .row 5 [cellsFd f])]
def vr (S : Sc) (m : Ms) (t : Tr) (i : Nat) : St := ⟨ofL [(4, .ptr 1 0 0), (94, .p (.slice (t.rest.map encRaw))), (95, .p (.int .i64 (t.rest.length : Int))), (96, .p (.int .i64 (i : Int)))], ofH [(1, .row 3 [cellsMs m])], 2⟩
structure SizS (S : Sc) : Prop where
 msgs : S.msgs.length ≤ 1000000
 flds : ∀ m ∈ S.msgs, m.fields.length ≤ 1000000
theorem siz_of {S : Sc} (h : SizS S) (k : List UInt8) : (msOf S k).1.fields.length ≤ 1000000 := by
 unfold msOf firstP
 split
 ·rename_i m hm
  exact h.flds m (List.mem_of_find?_eq_some hm)
 ·simp [zMs]
set_option maxRecDepth 100000 in
set_option maxHeartbeats 8000000 in
theorem valid_message (S : Sc) (hS : SizS S) : ∀ (t : Tr) (m : Ms), m.fields.length ≤ 1000000 → lensT t = true → strT t = true → rightT t = true → PFn Tryd.prog 64 [.agg (encSc S), .agg (encMs m), .agg (encTr t)] (.int .i64 (msgV S m t)) := by
 intro t
 induction h : SizeOf.sizeOf t using Nat.strongRecOn generalizing t with
 | _ sz ih =>
 subst h
 intro m hm hlt hst hrt
 obtain ⟨la1, la2, la3⟩ := lensT_mk hlt
 obtain ⟨st1, st2⟩ := strT_mk hst
 have rE := right_ent hrt
 have MV := msgV_mk S m t
 have CF : ∀ k, PFn Tryd.prog 67 [.agg (encMs m), .int .i64 k] (.tuple [.agg (encFd (fldOf m k).1), .bool (fldOf m k).2]) := fun k => check_Field m k hm
 refine PFn.of Tryd.func64 rfl (by decide) Tryd.ntmps64 Tryd.results64 (Nat.le_of_ble_eq_true rfl) ?_
 simp only [argsT]
 simp only [encSc, encMs, encFd] at CF
 refine AW.rT (by rfl) fun K hK => ?_
 simp -implicitDefEqProofs only [go_sem, ↓reduceIte, Nat.reduceAdd, Nat.reduceMul, Nat.reduceEqDiff, Nat.reduceLeDiff, reduceCtorEq, Int.reduceToNat, encTr_eq, encSc, encMs]
 refine hK _ ?_; clear hK K
 refine AW.seq ?_
 refine AW.rT (by rfl) fun K hK => ?_
 simp -implicitDefEqProofs only [go_sem, ↓reduceIte, Nat.reduceAdd, Nat.reduceMul, Nat.reduceEqDiff, Nat.reduceLeDiff, reduceCtorEq, Int.reduceToNat, List.length_map]
 refine hK _ ?_; clear hK K
 refine AW.block ?_
 refine AW.loop (fun i : Nat => vm S m t i [] [] 3) (fun i => i ≤ t.ents.length ∧ entV S m t.ents = entV S m (t.ents.drop i)) (fun i => t.ents.length - i) 0 ?_ ⟨by simp, by rw [List.drop_zero]⟩ fun i hi => ?_
 ·simp only [vm, cellsT, cellsSc, cellsMs]
  refine Ghost.sub ?_ ?_ <;> simp -implicitDefEqProofs only [go_sem, ↓reduceIte, Nat.reduceAdd, Nat.reduceMul, Nat.reduceEqDiff, Nat.reduceLeDiff, reduceCtorEq, Int.reduceToNat,  List.forall_mem_cons, List.not_mem_nil, false_implies, implies_true, and_self, labsIn_lift, List.all_append, List.all_cons, List.all_nil, Nat.reduceLT, labsInL, AV.labsIn]
  rfl
 obtain ⟨g1, g2⟩ := hi
 simp only [vm, cellsT, cellsSc, cellsMs]
 by_cases hil : i < t.ents.length
 case neg =>
  have hc1 : ((i : Int) < (t.ents.length : Int)) = False := eq_false (by omega)
  rw [List.drop_of_length_le (by omega), entV] at g2
  rw [g2, orE_0] at MV
  refine AW.rT (by rfl) fun K hK => ?_
  simp -implicitDefEqProofs only [go_sem, ↓reduceIte, Nat.reduceAdd, Nat.reduceMul, Nat.reduceEqDiff, Nat.reduceLeDiff, reduceCtorEq, Int.reduceToNat, hc1]
  refine hK _ ?_; clear hK K
  refine AW.seq ?_
  refine AW.cond _ (by simp -implicitDefEqProofs only [go_sem, ↓reduceIte, Nat.reduceAdd, Nat.reduceMul, Nat.reduceEqDiff, Nat.reduceLeDiff, reduceCtorEq, Int.reduceToNat]; rfl) (fun hc => ?_) (fun hc => ?_)
  ·simp at hc
  refine AW.exit ?_
  simp only [andThen, inBlk, reduceCtorEq, ↓reduceIte, if_t, if_f]
  refine AW.seq ?_
  refine AW.rT (by rfl) fun K hK => ?_
  simp -implicitDefEqProofs only [go_sem, ↓reduceIte, Nat.reduceAdd, Nat.reduceMul, Nat.reduceEqDiff, Nat.reduceLeDiff, reduceCtorEq, Int.reduceToNat, List.length_map]
  refine hK _ ?_; clear hK K
  refine AW.block ?_
  refine AW.loop (fun i : Nat => vr S m t i) (fun i => i ≤ t.rest.length ∧ (t.rest.take i).any (fun x => (fldOf m x.tag).2) = false) (fun i => t.rest.length - i) 0 ?_ ⟨by simp, by simp⟩ fun i hi => ?_
  ·simp only [vr, cellsMs]
   refine Ghost.sub ?_ ?_ <;> simp -implicitDefEqProofs only [go_sem, ↓reduceIte, Nat.reduceAdd, Nat.reduceMul, Nat.reduceEqDiff, Nat.reduceLeDiff, reduceCtorEq, Int.reduceToNat,  List.forall_mem_cons, List.not_mem_nil, false_implies, implies_true, and_self, labsIn_lift, List.all_append, List.all_cons, List.all_nil, Nat.reduceLT, labsInL, AV.labsIn]
   rfl
  obtain ⟨g1, g2⟩ := hi
  simp only [vr, cellsMs]
  by_cases hjl : i < t.rest.length
  case neg =>
   have hc1 : ((i : Int) < (t.rest.length : Int)) = False := eq_false (by omega)
   rw [List.take_of_length_le (by omega)] at g2
   rw [g2] at MV
   simp only [Bool.false_eq_true, if_false] at MV
   refine AW.rT (by rfl) fun K hK => ?_
   simp -implicitDefEqProofs only [go_sem, ↓reduceIte, Nat.reduceAdd, Nat.reduceMul, Nat.reduceEqDiff, Nat.reduceLeDiff, reduceCtorEq, Int.reduceToNat, hc1]
   refine hK _ ?_; clear hK K
   refine AW.seq ?_
   refine AW.cond _ (by simp -implicitDefEqProofs only [go_sem, ↓reduceIte, Nat.reduceAdd, Nat.reduceMul, Nat.reduceEqDiff, Nat.reduceLeDiff, reduceCtorEq, Int.reduceToNat]; rfl) (fun hc => ?_) (fun hc => ?_)
   ·simp at hc
   refine AW.exit ?_
   simp only [andThen, inBlk, reduceCtorEq, ↓reduceIte, if_t, if_f]
   refine AW.rT (by rfl) fun K hK => ?_
   simp -implicitDefEqProofs only [go_sem, ↓reduceIte, Nat.reduceAdd, Nat.reduceMul, Nat.reduceEqDiff, Nat.reduceLeDiff, reduceCtorEq, Int.reduceToNat]
   refine hK _ ?_; clear hK K
   refine AW.ret ?_
   simp -implicitDefEqProofs only [go_sem, ↓reduceIte, Nat.reduceAdd, Nat.reduceMul, Nat.reduceEqDiff, Nat.reduceLeDiff, reduceCtorEq, Int.reduceToNat, MV]
  obtain ⟨r, hr⟩ : ∃ r, t.rest[i]? = some r := ⟨_, List.getElem?_eq_getElem hjl⟩
  have ⟨hr1, hr2, hr3⟩ := at_map' encRaw hr
  have hc1 : ((i : Int) < (t.rest.length : Int)) = True := eq_true (by omega)
  have C1 := CF r.tag
  rcases hfo : fldOf m r.tag with ⟨f, b⟩
  rw [hfo] at C1
  simp only at C1
  refine AW.rT (by rfl) fun K hK => ?_
  simp -implicitDefEqProofs only [go_sem, ↓reduceIte, Nat.reduceAdd, Nat.reduceMul, Nat.reduceEqDiff, Nat.reduceLeDiff, reduceCtorEq, Int.reduceToNat, hc1]
  refine hK _ ?_; clear hK K
  refine AW.seq ?_
  refine AW.cond _ (by simp -implicitDefEqProofs only [go_sem, ↓reduceIte, Nat.reduceAdd, Nat.reduceMul, Nat.reduceEqDiff, Nat.reduceLeDiff, reduceCtorEq, Int.reduceToNat]; rfl) (fun hc => ?_) (fun hc => ?_)
  rotate_left
  ·simp at hc
  refine AW.skip ?_
  simp only [andThen, inBlk, reduceCtorEq, ↓reduceIte, if_t, if_f]
  refine AW.seq ?_
  refine AW.block ?_
  refine AW.rT (by rfl) fun K hK => ?_
  simp -implicitDefEqProofs only [go_sem, ↓reduceIte, Nat.reduceAdd, Nat.reduceMul, Nat.reduceEqDiff, Nat.reduceLeDiff, reduceCtorEq, Int.reduceToNat, hr1, hr2, hr3, hc1, encRaw, List.length_map]
  refine hK _ ?_; clear hK K
  cases b with
  | true =>
   have HH : msgV S m t = 7 := by
    rw [MV, if_pos (List.any_eq_true.2 ⟨r, List.mem_of_getElem? hr, by rw [hfo]⟩)]
   refine AW.rT (by rfl) fun K hK => ?_
   simp -implicitDefEqProofs only [go_sem, ↓reduceIte, Nat.reduceAdd, Nat.reduceMul, Nat.reduceEqDiff, Nat.reduceLeDiff, reduceCtorEq, Int.reduceToNat]
   refine ⟨.pure _, C1, ?_⟩
   try simp -implicitDefEqProofs only [go_sem, ↓reduceIte, Nat.reduceAdd, Nat.reduceMul, Nat.reduceEqDiff, Nat.reduceLeDiff, reduceCtorEq, Int.reduceToNat]
   refine hK _ ?_; clear hK K
   refine AW.rT (by rfl) fun K hK => ?_
   simp -implicitDefEqProofs only [go_sem, ↓reduceIte, Nat.reduceAdd, Nat.reduceMul, Nat.reduceEqDiff, Nat.reduceLeDiff, reduceCtorEq, Int.reduceToNat]
   refine hK _ ?_; clear hK K
   refine AW.cond _ (by simp -implicitDefEqProofs only [go_sem, ↓reduceIte, Nat.reduceAdd, Nat.reduceMul, Nat.reduceEqDiff, Nat.reduceLeDiff, reduceCtorEq, Int.reduceToNat]; rfl) (fun hc => ?_) (fun hc => ?_)
   rotate_left
   ·simp at hc
   refine AW.rT (by rfl) fun K hK => ?_
   simp -implicitDefEqProofs only [go_sem, ↓reduceIte, Nat.reduceAdd, Nat.reduceMul, Nat.reduceEqDiff, Nat.reduceLeDiff, reduceCtorEq, Int.reduceToNat]
   refine hK _ ?_; clear hK K
   refine AW.ret ?_
   simp -implicitDefEqProofs only [go_sem, ↓reduceIte, Nat.reduceAdd, Nat.reduceMul, Nat.reduceEqDiff, Nat.reduceLeDiff, reduceCtorEq, Int.reduceToNat, HH]
  | false =>
   refine AW.rT (by rfl) fun K hK => ?_
   simp -implicitDefEqProofs only [go_sem, ↓reduceIte, Nat.reduceAdd, Nat.reduceMul, Nat.reduceEqDiff, Nat.reduceLeDiff, reduceCtorEq, Int.reduceToNat]
   refine ⟨.pure _, C1, ?_⟩
   try simp -implicitDefEqProofs only [go_sem, ↓reduceIte, Nat.reduceAdd, Nat.reduceMul, Nat.reduceEqDiff, Nat.reduceLeDiff, reduceCtorEq, Int.reduceToNat]
   refine hK _ ?_; clear hK K
   refine AW.rT (by rfl) fun K hK => ?_
   simp -implicitDefEqProofs only [go_sem, ↓reduceIte, Nat.reduceAdd, Nat.reduceMul, Nat.reduceEqDiff, Nat.reduceLeDiff, reduceCtorEq, Int.reduceToNat]
   refine hK _ ?_; clear hK K
   refine AW.cond _ (by simp -implicitDefEqProofs only [go_sem, ↓reduceIte, Nat.reduceAdd, Nat.reduceMul, Nat.reduceEqDiff, Nat.reduceLeDiff, reduceCtorEq, Int.reduceToNat]; rfl) (fun hc => ?_) (fun hc => ?_)
   ·simp at hc
   refine AW.skip ?_
   simp only [andThen, inBlk, reduceCtorEq, ↓reduceIte, if_t, if_f]
   have w1 : IntKind.wrap .i64 ((i : Int) + 1) = ((i + 1 : Nat) : Int) := by rw [w64] <;> omega
   refine AW.rE (by rfl) fun K hK => ?_
   simp -implicitDefEqProofs only [go_sem, ↓reduceIte, Nat.reduceAdd, Nat.reduceMul, Nat.reduceEqDiff, Nat.reduceLeDiff, reduceCtorEq, Int.reduceToNat, w1]
   refine hK _ ?_; clear hK K
   refine ⟨i + 1, ⟨by omega, ?_⟩, by omega, ?_⟩
   ·rw [List.take_add_one, hr, List.any_append, g2]
    simp [hfo]
   ·refine Ghost.sub ?_ ?_ <;> simp -implicitDefEqProofs only [go_sem, ↓reduceIte, Nat.reduceAdd, Nat.reduceMul, Nat.reduceEqDiff, Nat.reduceLeDiff, reduceCtorEq, Int.reduceToNat,  List.forall_mem_cons, List.not_mem_nil, false_implies, implies_true, and_self, labsIn_lift, List.all_append, List.all_cons, List.all_nil, Nat.reduceLT, labsInL, AV.labsIn]
 obtain ⟨e, he⟩ : ∃ e, t.ents[i]? = some e := ⟨_, List.getElem?_eq_getElem hil⟩
 have ⟨he1, he2, he3⟩ := at_map' encEn he
 have ⟨le1, le2⟩ := lensE_at la3 he
 have ⟨re1, re2⟩ := rE e (List.mem_of_getElem? he)
 have hc1 : ((i : Int) < (t.ents.length : Int)) = True := eq_true (by omega)
 have C1 := CF e.1
 have sE := entV_at (S := S) (m := m) he
 rcases hfo : fldOf m e.1 with ⟨f, b⟩
 rw [hfo] at C1 sE
 simp only at C1 sE
 refine AW.rT (by rfl) fun K hK => ?_
 simp -implicitDefEqProofs only [go_sem, ↓reduceIte, Nat.reduceAdd, Nat.reduceMul, Nat.reduceEqDiff, Nat.reduceLeDiff, reduceCtorEq, Int.reduceToNat, hc1]
 refine hK _ ?_; clear hK K
 refine AW.seq ?_
 refine AW.cond _ (by simp -implicitDefEqProofs only [go_sem, ↓reduceIte, Nat.reduceAdd, Nat.reduceMul, Nat.reduceEqDiff, Nat.reduceLeDiff, reduceCtorEq, Int.reduceToNat]; rfl) (fun hc => ?_) (fun hc => ?_)
 rotate_left
 ·simp at hc
 refine AW.skip ?_
 simp only [andThen, inBlk, reduceCtorEq, ↓reduceIte, if_t, if_f]
 refine AW.seq ?_
 refine AW.block ?_
 refine AW.rT (by rfl) fun K hK => ?_
 simp -implicitDefEqProofs only [go_sem, ↓reduceIte, Nat.reduceAdd, Nat.reduceMul, Nat.reduceEqDiff, Nat.reduceLeDiff, reduceCtorEq, Int.reduceToNat, he1, he2, he3, hc1, encEn, List.length_map]
 refine hK _ ?_; clear hK K
 cases b with
 | false =>
  rw [if_pos rfl] at sE
  have HH : msgV S m t = 7 := by rw [MV, g2, sE]; rfl
  refine AW.rT (by rfl) fun K hK => ?_
  simp -implicitDefEqProofs only [go_sem, ↓reduceIte, Nat.reduceAdd, Nat.reduceMul, Nat.reduceEqDiff, Nat.reduceLeDiff, reduceCtorEq, Int.reduceToNat]
  refine ⟨.pure _, C1, ?_⟩
  try simp -implicitDefEqProofs only [go_sem, ↓reduceIte, Nat.reduceAdd, Nat.reduceMul, Nat.reduceEqDiff, Nat.reduceLeDiff, reduceCtorEq, Int.reduceToNat]
  refine hK _ ?_; clear hK K
  refine AW.seq ?_
  refine AW.block ?_
  refine AW.rT (by rfl) fun K hK => ?_
  simp -implicitDefEqProofs only [go_sem, ↓reduceIte, Nat.reduceAdd, Nat.reduceMul, Nat.reduceEqDiff, Nat.reduceLeDiff, reduceCtorEq, Int.reduceToNat]
  refine hK _ ?_; clear hK K
  refine AW.cond _ (by simp -implicitDefEqProofs only [go_sem, ↓reduceIte, Nat.reduceAdd, Nat.reduceMul, Nat.reduceEqDiff, Nat.reduceLeDiff, reduceCtorEq, Int.reduceToNat]; rfl) (fun hc => ?_) (fun hc => ?_)
  rotate_left
  ·simp at hc
  refine AW.rT (by rfl) fun K hK => ?_
  simp -implicitDefEqProofs only [go_sem, ↓reduceIte, Nat.reduceAdd, Nat.reduceMul, Nat.reduceEqDiff, Nat.reduceLeDiff, reduceCtorEq, Int.reduceToNat]
  refine hK _ ?_; clear hK K
  refine AW.ret ?_
  simp -implicitDefEqProofs only [go_sem, ↓reduceIte, Nat.reduceAdd, Nat.reduceMul, Nat.reduceEqDiff, Nat.reduceLeDiff, reduceCtorEq, Int.reduceToNat, HH]
 | true =>
 rw [if_neg (by simp)] at sE
 refine AW.rT (by rfl) fun K hK => ?_
 simp -implicitDefEqProofs only [go_sem, ↓reduceIte, Nat.reduceAdd, Nat.reduceMul, Nat.reduceEqDiff, Nat.reduceLeDiff, reduceCtorEq, Int.reduceToNat]
 refine ⟨.pure _, C1, ?_⟩
 try simp -implicitDefEqProofs only [go_sem, ↓reduceIte, Nat.reduceAdd, Nat.reduceMul, Nat.reduceEqDiff, Nat.reduceLeDiff, reduceCtorEq, Int.reduceToNat]
 refine hK _ ?_; clear hK K
 refine AW.cut (fun _ : Unit => vm S m t i vmL0 (vmH e f) 5) (fun _ => ¬ (f.label ≠ 3 ∧ 1 < e.2.length)) ?_ fun _ hb => ?_
 ·refine AW.block ?_
  refine AW.rT (by rfl) fun K hK => ?_
  simp -implicitDefEqProofs only [go_sem, ↓reduceIte, Nat.reduceAdd, Nat.reduceMul, Nat.reduceEqDiff, Nat.reduceLeDiff, reduceCtorEq, Int.reduceToNat]
  refine hK _ ?_; clear hK K
  refine AW.cond _ (by simp -implicitDefEqProofs only [go_sem, ↓reduceIte, Nat.reduceAdd, Nat.reduceMul, Nat.reduceEqDiff, Nat.reduceLeDiff, reduceCtorEq, Int.reduceToNat]; rfl) (fun hc => ?_) (fun hc => ?_)
  ·simp at hc
  by_cases hb : f.label ≠ 3 ∧ 1 < e.2.length
  ·rw [if_pos hb] at sE
   have b1 : (f.label != 3) = true := by simpa using hb.1
   have b2 : ((e.2.length : Int) > 1) = True := eq_true (by omega)
   have HH : msgV S m t = 4 := by rw [MV, g2, sE]; rfl
   refine AW.rT (by rfl) fun K hK => ?_
   simp -implicitDefEqProofs only [go_sem, ↓reduceIte, Nat.reduceAdd, Nat.reduceMul, Nat.reduceEqDiff, Nat.reduceLeDiff, reduceCtorEq, Int.reduceToNat, b1, b2, List.length_map]
   refine hK _ ?_; clear hK K
   refine AW.cond _ (by simp -implicitDefEqProofs only [go_sem, ↓reduceIte, Nat.reduceAdd, Nat.reduceMul, Nat.reduceEqDiff, Nat.reduceLeDiff, reduceCtorEq, Int.reduceToNat]; rfl) (fun hc => ?_) (fun hc => ?_)
   rotate_left
   ·simp at hc
   refine AW.rT (by rfl) fun K hK => ?_
   simp -implicitDefEqProofs only [go_sem, ↓reduceIte, Nat.reduceAdd, Nat.reduceMul, Nat.reduceEqDiff, Nat.reduceLeDiff, reduceCtorEq, Int.reduceToNat]
   refine hK _ ?_; clear hK K
   refine AW.ret ?_
   simp -implicitDefEqProofs only [go_sem, ↓reduceIte, Nat.reduceAdd, Nat.reduceMul, Nat.reduceEqDiff, Nat.reduceLeDiff, reduceCtorEq, Int.reduceToNat, HH]
  by_cases hb1 : f.label = 3
  ·have b1 : (f.label != 3) = false := by simpa using hb1
   refine AW.rT (by rfl) fun K hK => ?_
   simp -implicitDefEqProofs only [go_sem, ↓reduceIte, Nat.reduceAdd, Nat.reduceMul, Nat.reduceEqDiff, Nat.reduceLeDiff, reduceCtorEq, Int.reduceToNat, b1]
   refine hK _ ?_; clear hK K
   refine AW.cond _ (by simp -implicitDefEqProofs only [go_sem, ↓reduceIte, Nat.reduceAdd, Nat.reduceMul, Nat.reduceEqDiff, Nat.reduceLeDiff, reduceCtorEq, Int.reduceToNat]; rfl) (fun hc => ?_) (fun hc => ?_)
   ·simp at hc
   refine AW.skip ?_
   simp only [andThen, inBlk, reduceCtorEq, ↓reduceIte, if_t, if_f]
   refine ⟨(), hb, ?_⟩
   simp only [vm, vmL0, vmH, cellsT, cellsSc, cellsMs, cellsFd]
   refine Ghost.ent (fun l => if l = 3 then 6 else if l = 4 then 15 else l) ?_ ?_ ?_ <;> simp -implicitDefEqProofs only [go_sem, ↓reduceIte, Nat.reduceAdd, Nat.reduceMul, Nat.reduceEqDiff, Nat.reduceLeDiff, reduceCtorEq, Int.reduceToNat,  List.forall_mem_cons, List.not_mem_nil, false_implies, implies_true, and_self, map_renL_lift, labsIn_lift, List.all_append, List.all_cons, List.all_nil, List.map_append, Nat.reduceLT, labsInL, AV.labsIn]
   done
  ·have b1 : (f.label != 3) = true := by simpa using hb1
   have b2 : ((e.2.length : Int) > 1) = False := eq_false (fun h => hb ⟨hb1, by omega⟩)
   refine AW.rT (by rfl) fun K hK => ?_
   simp -implicitDefEqProofs only [go_sem, ↓reduceIte, Nat.reduceAdd, Nat.reduceMul, Nat.reduceEqDiff, Nat.reduceLeDiff, reduceCtorEq, Int.reduceToNat, b1, b2, List.length_map]
   refine hK _ ?_; clear hK K
   refine AW.cond _ (by simp -implicitDefEqProofs only [go_sem, ↓reduceIte, Nat.reduceAdd, Nat.reduceMul, Nat.reduceEqDiff, Nat.reduceLeDiff, reduceCtorEq, Int.reduceToNat]; rfl) (fun hc => ?_) (fun hc => ?_)
   ·simp at hc
   refine AW.skip ?_
   simp only [andThen, inBlk, reduceCtorEq, ↓reduceIte, if_t, if_f]
   refine ⟨(), hb, ?_⟩
   simp only [vm, vmL0, vmH, cellsT, cellsSc, cellsMs, cellsFd]
   refine Ghost.ent (fun l => if l = 3 then 6 else if l = 4 then 15 else l) ?_ ?_ ?_ <;> simp -implicitDefEqProofs only [go_sem, ↓reduceIte, Nat.reduceAdd, Nat.reduceMul, Nat.reduceEqDiff, Nat.reduceLeDiff, reduceCtorEq, Int.reduceToNat,  List.forall_mem_cons, List.not_mem_nil, false_implies, implies_true, and_self, map_renL_lift, labsIn_lift, List.all_append, List.all_cons, List.all_nil, List.map_append, Nat.reduceLT, labsInL, AV.labsIn]
   done
 rw [if_neg hb] at sE
 have LM := oneL_M (S := S) (f := f) (l := e.2) (fun h => by
  rcases Nat.lt_or_ge 1 e.2.length with q | q
  ·exact absurd ⟨h, q⟩ hb
  ·exact q)
 simp only [vm, vmL0, vmH, cellsT, cellsSc, cellsMs, cellsFd, List.cons_append, List.nil_append]
 refine AW.seq ?_
 refine AW.rT (by rfl) fun K hK => ?_
 simp -implicitDefEqProofs only [go_sem, ↓reduceIte, Nat.reduceAdd, Nat.reduceMul, Nat.reduceEqDiff, Nat.reduceLeDiff, reduceCtorEq, Int.reduceToNat, List.length_map]
 refine hK _ ?_; clear hK K
 refine AW.block ?_
 refine AW.loop (fun k : Nat => vm S m t i (vmL e k) (vmH e f) 5) (fun k => k ≤ e.2.length ∧ oneM S f e.2 = oneM S f (e.2.drop k)) (fun k => e.2.length - k) 0 ?_ ⟨by simp, by rw [List.drop_zero]⟩ fun k hk => ?_
 ·simp only [vm, vmL, vmH, cellsT, cellsSc, cellsMs, cellsFd]
  refine Ghost.sub ?_ ?_ <;> simp -implicitDefEqProofs only [go_sem, ↓reduceIte, Nat.reduceAdd, Nat.reduceMul, Nat.reduceEqDiff, Nat.reduceLeDiff, reduceCtorEq, Int.reduceToNat,  List.forall_mem_cons, List.not_mem_nil, false_implies, implies_true, and_self, labsIn_lift, List.all_append, List.all_cons, List.all_nil, Nat.reduceLT, labsInL, AV.labsIn]
  rfl
 obtain ⟨f1, f2⟩ := hk
 simp only [vm, vmL, vmH, cellsT, cellsSc, cellsMs, cellsFd]
 by_cases hkl : k < e.2.length
 case neg =>
  have hc2 : ((k : Int) < (e.2.length : Int)) = False := eq_false (by omega)
  rw [List.drop_of_length_le (by omega), oneM] at f2
  rw [f2, orE_0] at LM
  obtain ⟨x0, hx0⟩ : ∃ x, e.2[0]? = some x := ⟨_, List.getElem?_eq_getElem (by omega)⟩
  have ⟨hy1, hy2, hy3⟩ := at_map' encTr hx0
  have hz0 : ((0 : Int) ≤ 0) = True := by simp
  have hz : ((0 : Int) < (e.2.length : Int)) = True := eq_true (by omega)
  have hh : e.2.head?.any zeroV = zeroV x0 := by
   cases hq : e.2 with
   | nil => rw [hq] at hx0; simp at hx0
   | cons y l => rw [hq] at hx0; simp at hx0; subst hx0; rfl
  rw [hh] at LM
  have w1 : IntKind.wrap .i64 ((i : Int) + 1) = ((i + 1 : Nat) : Int) := by rw [w64] <;> omega
  have next : oneL S f e.2 = 0 → entV S m t.ents = entV S m (t.ents.drop (i + 1)) := fun h => by rw [g2, sE, h, orE_0]
  refine AW.rT (by rfl) fun K hK => ?_
  simp -implicitDefEqProofs only [go_sem, ↓reduceIte, Nat.reduceAdd, Nat.reduceMul, Nat.reduceEqDiff, Nat.reduceLeDiff, reduceCtorEq, Int.reduceToNat, hc2]
  refine hK _ ?_; clear hK K
  refine AW.seq ?_
  refine AW.cond _ (by simp -implicitDefEqProofs only [go_sem, ↓reduceIte, Nat.reduceAdd, Nat.reduceMul, Nat.reduceEqDiff, Nat.reduceLeDiff, reduceCtorEq, Int.reduceToNat]; rfl) (fun hc => ?_) (fun hc => ?_)
  ·simp at hc
  refine AW.exit ?_
  simp only [andThen, inBlk, reduceCtorEq, ↓reduceIte, if_t, if_f]
  by_cases hb1 : f.label = 1
  ·have b1 := eqb hb1
   have CZ := valid_Zero x0
   rw [encTr_eq] at CZ
   cases hzv : zeroV x0 with
   | true =>
    rw [hzv] at CZ
    rw [if_pos ⟨hb1, hzv⟩] at LM
    have HH : msgV S m t = 12 := by rw [MV, g2, sE, LM]; rfl
    refine AW.rT (by rfl) fun K hK => ?_
    simp -implicitDefEqProofs only [go_sem, ↓reduceIte, Nat.reduceAdd, Nat.reduceMul, Nat.reduceEqDiff, Nat.reduceLeDiff, reduceCtorEq, Int.reduceToNat, b1, hy1, hy2, hy3, hz0, hz, encTr_eq, List.length_map]
    refine ⟨.pure _, CZ, ?_⟩
    try simp -implicitDefEqProofs only [go_sem, ↓reduceIte, Nat.reduceAdd, Nat.reduceMul, Nat.reduceEqDiff, Nat.reduceLeDiff, reduceCtorEq, Int.reduceToNat]
    refine hK _ ?_; clear hK K
    refine AW.cond _ (by simp -implicitDefEqProofs only [go_sem, ↓reduceIte, Nat.reduceAdd, Nat.reduceMul, Nat.reduceEqDiff, Nat.reduceLeDiff, reduceCtorEq, Int.reduceToNat]; rfl) (fun hc => ?_) (fun hc => ?_)
    rotate_left
    ·simp at hc
    refine AW.rT (by rfl) fun K hK => ?_
    simp -implicitDefEqProofs only [go_sem, ↓reduceIte, Nat.reduceAdd, Nat.reduceMul, Nat.reduceEqDiff, Nat.reduceLeDiff, reduceCtorEq, Int.reduceToNat]
    refine hK _ ?_; clear hK K
    refine AW.ret ?_
    simp -implicitDefEqProofs only [go_sem, ↓reduceIte, Nat.reduceAdd, Nat.reduceMul, Nat.reduceEqDiff, Nat.reduceLeDiff, reduceCtorEq, Int.reduceToNat, HH]
   | false =>
    rw [hzv] at CZ
    rw [if_neg (by rintro ⟨_, a⟩; rw [hzv] at a; cases a)] at LM
    refine AW.rT (by rfl) fun K hK => ?_
    simp -implicitDefEqProofs only [go_sem, ↓reduceIte, Nat.reduceAdd, Nat.reduceMul, Nat.reduceEqDiff, Nat.reduceLeDiff, reduceCtorEq, Int.reduceToNat, b1, hy1, hy2, hy3, hz0, hz, encTr_eq, List.length_map]
    refine ⟨.pure _, CZ, ?_⟩
    try simp -implicitDefEqProofs only [go_sem, ↓reduceIte, Nat.reduceAdd, Nat.reduceMul, Nat.reduceEqDiff, Nat.reduceLeDiff, reduceCtorEq, Int.reduceToNat]
    refine hK _ ?_; clear hK K
    refine AW.cond _ (by simp -implicitDefEqProofs only [go_sem, ↓reduceIte, Nat.reduceAdd, Nat.reduceMul, Nat.reduceEqDiff, Nat.reduceLeDiff, reduceCtorEq, Int.reduceToNat]; rfl) (fun hc => ?_) (fun hc => ?_)
    ·simp at hc
    refine AW.skip ?_
    simp only [andThen, inBlk, reduceCtorEq, ↓reduceIte, if_t, if_f]
    refine AW.rE (by rfl) fun K hK => ?_
    simp -implicitDefEqProofs only [go_sem, ↓reduceIte, Nat.reduceAdd, Nat.reduceMul, Nat.reduceEqDiff, Nat.reduceLeDiff, reduceCtorEq, Int.reduceToNat, w1]
    refine hK _ ?_; clear hK K
    refine ⟨i + 1, ⟨by omega, next LM⟩, by omega, ?_⟩
    show Ghost _ _ (vm S m t (i + 1) [] [] 3)
    simp only [vm, cellsT, cellsSc, cellsMs]
    refine Ghost.sub ?_ ?_ <;> simp -implicitDefEqProofs only [go_sem, ↓reduceIte, Nat.reduceAdd, Nat.reduceMul, Nat.reduceEqDiff, Nat.reduceLeDiff, reduceCtorEq, Int.reduceToNat,  List.forall_mem_cons, List.not_mem_nil, false_implies, implies_true, and_self, labsIn_lift, List.all_append, List.all_cons, List.all_nil, Nat.reduceLT, labsInL, AV.labsIn]
    done
  ·have b1 := beqf hb1
   rw [if_neg (by rintro ⟨a, _⟩; exact hb1 a)] at LM
   refine AW.rT (by rfl) fun K hK => ?_
   simp -implicitDefEqProofs only [go_sem, ↓reduceIte, Nat.reduceAdd, Nat.reduceMul, Nat.reduceEqDiff, Nat.reduceLeDiff, reduceCtorEq, Int.reduceToNat, b1]
   refine hK _ ?_; clear hK K
   refine AW.cond _ (by simp -implicitDefEqProofs only [go_sem, ↓reduceIte, Nat.reduceAdd, Nat.reduceMul, Nat.reduceEqDiff, Nat.reduceLeDiff, reduceCtorEq, Int.reduceToNat]; rfl) (fun hc => ?_) (fun hc => ?_)
   ·simp at hc
   refine AW.skip ?_
   simp only [andThen, inBlk, reduceCtorEq, ↓reduceIte, if_t, if_f]
   refine AW.rE (by rfl) fun K hK => ?_
   simp -implicitDefEqProofs only [go_sem, ↓reduceIte, Nat.reduceAdd, Nat.reduceMul, Nat.reduceEqDiff, Nat.reduceLeDiff, reduceCtorEq, Int.reduceToNat, w1]
   refine hK _ ?_; clear hK K
   refine ⟨i + 1, ⟨by omega, next LM⟩, by omega, ?_⟩
   show Ghost _ _ (vm S m t (i + 1) [] [] 3)
   simp only [vm, cellsT, cellsSc, cellsMs]
   refine Ghost.sub ?_ ?_ <;> simp -implicitDefEqProofs only [go_sem, ↓reduceIte, Nat.reduceAdd, Nat.reduceMul, Nat.reduceEqDiff, Nat.reduceLeDiff, reduceCtorEq, Int.reduceToNat,  List.forall_mem_cons, List.not_mem_nil, false_implies, implies_true, and_self, labsIn_lift, List.all_append, List.all_cons, List.all_nil, Nat.reduceLT, labsInL, AV.labsIn]
   done
 obtain ⟨x, hx⟩ : ∃ x, e.2[k]? = some x := ⟨_, List.getElem?_eq_getElem hkl⟩
 have ⟨hx1, hx2, hx3⟩ := at_map' encTr hx
 have hc2 : ((k : Int) < (e.2.length : Int)) = True := eq_true (by omega)
 have xm := List.mem_of_getElem? hx
 have sx := (strT_mk (st2 e (List.mem_of_getElem? he) x xm)).1
 have CX := valid_fits f.ty x sx
 have sM := oneM_at (S := S) (f := f) hx
 simp only [encTy, encTr_eq] at CX
 have w2 : IntKind.wrap .i64 ((k : Int) + 1) = ((k + 1 : Nat) : Int) := by rw [w64] <;> omega
 have bad : oneW S f x ≠ 0 → msgV S m t = oneW S f x := fun h => by rw [MV, g2, sE, LM, f2, sM, orE_ne h, orE_ne h, orE_ne h, orE_ne h]
 have good : oneW S f x = 0 → oneM S f e.2 = oneM S f (e.2.drop (k + 1)) := fun h => by rw [f2, sM, h, orE_0]
 refine AW.rT (by rfl) fun K hK => ?_
 simp -implicitDefEqProofs only [go_sem, ↓reduceIte, Nat.reduceAdd, Nat.reduceMul, Nat.reduceEqDiff, Nat.reduceLeDiff, reduceCtorEq, Int.reduceToNat, hc2]
 refine hK _ ?_; clear hK K
 refine AW.seq ?_
 refine AW.cond _ (by simp -implicitDefEqProofs only [go_sem, ↓reduceIte, Nat.reduceAdd, Nat.reduceMul, Nat.reduceEqDiff, Nat.reduceLeDiff, reduceCtorEq, Int.reduceToNat]; rfl) (fun hc => ?_) (fun hc => ?_)
 rotate_left
 ·simp at hc
 refine AW.skip ?_
 simp only [andThen, inBlk, reduceCtorEq, ↓reduceIte, if_t, if_f]
 refine AW.seq ?_
 refine AW.block ?_
 refine AW.rT (by rfl) fun K hK => ?_
 simp -implicitDefEqProofs only [go_sem, ↓reduceIte, Nat.reduceAdd, Nat.reduceMul, Nat.reduceEqDiff, Nat.reduceLeDiff, reduceCtorEq, Int.reduceToNat, hx1, hx2, hx3, hc2, encTr_eq, List.length_map]
 refine hK _ ?_; clear hK K
 refine AW.rT (by rfl) fun K hK => ?_
 simp -implicitDefEqProofs only [go_sem, ↓reduceIte, Nat.reduceAdd, Nat.reduceMul, Nat.reduceEqDiff, Nat.reduceLeDiff, reduceCtorEq, Int.reduceToNat]
 refine ⟨.pure _, CX, ?_⟩
 try simp -implicitDefEqProofs only [go_sem, ↓reduceIte, Nat.reduceAdd, Nat.reduceMul, Nat.reduceEqDiff, Nat.reduceLeDiff, reduceCtorEq, Int.reduceToNat]
 refine hK _ ?_; clear hK K
 refine AW.seq ?_
 by_cases hv : fitV f.ty x = 0
 case neg =>
  have b1 : (fitV f.ty x == 0) = false := beqf hv
  have b2 : (fitV f.ty x != 0) = true := by simpa using hv
  have ow : oneW S f x = fitV f.ty x := by unfold oneW; rw [orE_ne hv]
  have HH : msgV S m t = fitV f.ty x := by rw [bad (by rw [ow]; exact hv), ow]
  refine AW.rT (by rfl) fun K hK => ?_
  simp -implicitDefEqProofs only [go_sem, ↓reduceIte, Nat.reduceAdd, Nat.reduceMul, Nat.reduceEqDiff, Nat.reduceLeDiff, reduceCtorEq, Int.reduceToNat, b1]
  refine hK _ ?_; clear hK K
  refine AW.cond _ (by simp -implicitDefEqProofs only [go_sem, ↓reduceIte, Nat.reduceAdd, Nat.reduceMul, Nat.reduceEqDiff, Nat.reduceLeDiff, reduceCtorEq, Int.reduceToNat]; rfl) (fun hc => ?_) (fun hc => ?_)
  ·simp at hc
  refine AW.skip ?_
  simp only [andThen, inBlk, reduceCtorEq, ↓reduceIte, if_t, if_f]
  refine AW.rT (by rfl) fun K hK => ?_
  simp -implicitDefEqProofs only [go_sem, ↓reduceIte, Nat.reduceAdd, Nat.reduceMul, Nat.reduceEqDiff, Nat.reduceLeDiff, reduceCtorEq, Int.reduceToNat, b2]
  refine hK _ ?_; clear hK K
  refine AW.cond _ (by simp -implicitDefEqProofs only [go_sem, ↓reduceIte, Nat.reduceAdd, Nat.reduceMul, Nat.reduceEqDiff, Nat.reduceLeDiff, reduceCtorEq, Int.reduceToNat]; rfl) (fun hc => ?_) (fun hc => ?_)
  rotate_left
  ·simp at hc
  refine AW.rT (by rfl) fun K hK => ?_
  simp -implicitDefEqProofs only [go_sem, ↓reduceIte, Nat.reduceAdd, Nat.reduceMul, Nat.reduceEqDiff, Nat.reduceLeDiff, reduceCtorEq, Int.reduceToNat]
  refine hK _ ?_; clear hK K
  refine AW.ret ?_
  simp -implicitDefEqProofs only [go_sem, ↓reduceIte, Nat.reduceAdd, Nat.reduceMul, Nat.reduceEqDiff, Nat.reduceLeDiff, reduceCtorEq, Int.reduceToNat, HH]
 have b1 : (fitV f.ty x == 0) = true := eqb hv
 have b2 : (fitV f.ty x != 0) = false := by simp [hv]
 by_cases h7 : f.ty.kind = 7
 case neg =>
  have b7 := beqf h7
  have ow : oneW S f x = 0 := by unfold oneW; rw [hv, orE_0, if_neg h7]
  refine AW.rT (by rfl) fun K hK => ?_
  simp -implicitDefEqProofs only [go_sem, ↓reduceIte, Nat.reduceAdd, Nat.reduceMul, Nat.reduceEqDiff, Nat.reduceLeDiff, reduceCtorEq, Int.reduceToNat, b1, b7]
  refine hK _ ?_; clear hK K
  refine AW.cond _ (by simp -implicitDefEqProofs only [go_sem, ↓reduceIte, Nat.reduceAdd, Nat.reduceMul, Nat.reduceEqDiff, Nat.reduceLeDiff, reduceCtorEq, Int.reduceToNat]; rfl) (fun hc => ?_) (fun hc => ?_)
  ·simp at hc
  refine AW.skip ?_
  simp only [andThen, inBlk, reduceCtorEq, ↓reduceIte, if_t, if_f]
  refine AW.rT (by rfl) fun K hK => ?_
  simp -implicitDefEqProofs only [go_sem, ↓reduceIte, Nat.reduceAdd, Nat.reduceMul, Nat.reduceEqDiff, Nat.reduceLeDiff, reduceCtorEq, Int.reduceToNat, b2]
  refine hK _ ?_; clear hK K
  refine AW.cond _ (by simp -implicitDefEqProofs only [go_sem, ↓reduceIte, Nat.reduceAdd, Nat.reduceMul, Nat.reduceEqDiff, Nat.reduceLeDiff, reduceCtorEq, Int.reduceToNat]; rfl) (fun hc => ?_) (fun hc => ?_)
  ·simp at hc
  refine AW.skip ?_
  simp only [andThen, inBlk, reduceCtorEq, ↓reduceIte, if_t, if_f]
  refine AW.rE (by rfl) fun K hK => ?_
  simp -implicitDefEqProofs only [go_sem, ↓reduceIte, Nat.reduceAdd, Nat.reduceMul, Nat.reduceEqDiff, Nat.reduceLeDiff, reduceCtorEq, Int.reduceToNat, w2]
  refine hK _ ?_; clear hK K
  refine ⟨k + 1, ⟨by omega, good ow⟩, by omega, ?_⟩
  show Ghost _ _ (vm S m t i (vmL e (k + 1)) (vmH e f) 5)
  simp only [vm, vmL, vmH, cellsT, cellsSc, cellsMs, cellsFd]
  refine Ghost.sub ?_ ?_ <;> simp -implicitDefEqProofs only [go_sem, ↓reduceIte, Nat.reduceAdd, Nat.reduceMul, Nat.reduceEqDiff, Nat.reduceLeDiff, reduceCtorEq, Int.reduceToNat,  List.forall_mem_cons, List.not_mem_nil, false_implies, implies_true, and_self, labsIn_lift, List.all_append, List.all_cons, List.all_nil, Nat.reduceLT, labsInL, AV.labsIn]
  done
 have b7 := eqb h7
 have CM : PFn Tryd.prog 62 [.agg (encSc S), .str f.ty.name] (.tuple [.agg (encMs (msOf S f.ty.name).1), .bool (msOf S f.ty.name).2]) := check_Message S f.ty.name hS.msgs
 have IH := ih _ (size_ent he hx) x rfl (msOf S f.ty.name).1 (siz_of hS _) (lensTs_at le2 hx) (st2 e (List.mem_of_getElem? he) x xm) (re2 x xm)
 simp only [encSc, encMs, encTr_eq] at CM IH
 refine AW.rT (by rfl) fun K hK => ?_
 simp -implicitDefEqProofs only [go_sem, ↓reduceIte, Nat.reduceAdd, Nat.reduceMul, Nat.reduceEqDiff, Nat.reduceLeDiff, reduceCtorEq, Int.reduceToNat, b1, b7]
 refine hK _ ?_; clear hK K
 refine AW.cond _ (by simp -implicitDefEqProofs only [go_sem, ↓reduceIte, Nat.reduceAdd, Nat.reduceMul, Nat.reduceEqDiff, Nat.reduceLeDiff, reduceCtorEq, Int.reduceToNat]; rfl) (fun hc => ?_) (fun hc => ?_)
 rotate_left
 ·simp at hc
 refine AW.rT (by rfl) fun K hK => ?_
 simp -implicitDefEqProofs only [go_sem, ↓reduceIte, Nat.reduceAdd, Nat.reduceMul, Nat.reduceEqDiff, Nat.reduceLeDiff, reduceCtorEq, Int.reduceToNat]
 refine ⟨.pure _, CM, ?_⟩
 try simp -implicitDefEqProofs only [go_sem, ↓reduceIte, Nat.reduceAdd, Nat.reduceMul, Nat.reduceEqDiff, Nat.reduceLeDiff, reduceCtorEq, Int.reduceToNat]
 refine hK _ ?_; clear hK K
 refine AW.rE (by rfl) fun K hK => ?_
 simp -implicitDefEqProofs only [go_sem, ↓reduceIte, Nat.reduceAdd, Nat.reduceMul, Nat.reduceEqDiff, Nat.reduceLeDiff, reduceCtorEq, Int.reduceToNat]
 refine ⟨.pure _, IH, ?_⟩
 try simp -implicitDefEqProofs only [go_sem, ↓reduceIte, Nat.reduceAdd, Nat.reduceMul, Nat.reduceEqDiff, Nat.reduceLeDiff, reduceCtorEq, Int.reduceToNat]
 refine hK _ ?_; clear hK K
 simp only [andThen, inBlk, reduceCtorEq, ↓reduceIte, if_t, if_f]
 have ow : oneW S f x = msgV S (msOf S f.ty.name).1 x := by unfold oneW; rw [hv, orE_0, if_pos h7]
 generalize msgV S (msOf S f.ty.name).1 x = q at ow
 by_cases hq : q = 0
 ·have b3 : (q != 0) = false := by simp [hq]
  refine AW.rT (by rfl) fun K hK => ?_
  simp -implicitDefEqProofs only [go_sem, ↓reduceIte, Nat.reduceAdd, Nat.reduceMul, Nat.reduceEqDiff, Nat.reduceLeDiff, reduceCtorEq, Int.reduceToNat, b3]
  refine hK _ ?_; clear hK K
  refine AW.cond _ (by simp -implicitDefEqProofs only [go_sem, ↓reduceIte, Nat.reduceAdd, Nat.reduceMul, Nat.reduceEqDiff, Nat.reduceLeDiff, reduceCtorEq, Int.reduceToNat]; rfl) (fun hc => ?_) (fun hc => ?_)
  ·simp at hc
  refine AW.skip ?_
  simp only [andThen, inBlk, reduceCtorEq, ↓reduceIte, if_t, if_f]
  refine AW.rE (by rfl) fun K hK => ?_
  simp -implicitDefEqProofs only [go_sem, ↓reduceIte, Nat.reduceAdd, Nat.reduceMul, Nat.reduceEqDiff, Nat.reduceLeDiff, reduceCtorEq, Int.reduceToNat, w2]
  refine hK _ ?_; clear hK K
  refine ⟨k + 1, ⟨by omega, good (by rw [ow]; exact hq)⟩, by omega, ?_⟩
  show Ghost _ _ (vm S m t i (vmL e (k + 1)) (vmH e f) 5)
  simp only [vm, vmL, vmH, cellsT, cellsSc, cellsMs, cellsFd]
  refine Ghost.sub ?_ ?_ <;> simp -implicitDefEqProofs only [go_sem, ↓reduceIte, Nat.reduceAdd, Nat.reduceMul, Nat.reduceEqDiff, Nat.reduceLeDiff, reduceCtorEq, Int.reduceToNat,  List.forall_mem_cons, List.not_mem_nil, false_implies, implies_true, and_self, labsIn_lift, List.all_append, List.all_cons, List.all_nil, Nat.reduceLT, labsInL, AV.labsIn]
  done
 ·have b3 : (q != 0) = true := by simpa using hq
  have HH : msgV S m t = q := by rw [bad (by rw [ow]; exact hq), ow]
  refine AW.rT (by rfl) fun K hK => ?_
  simp -implicitDefEqProofs only [go_sem, ↓reduceIte, Nat.reduceAdd, Nat.reduceMul, Nat.reduceEqDiff, Nat.reduceLeDiff, reduceCtorEq, Int.reduceToNat, b3]
  refine hK _ ?_; clear hK K
  refine AW.cond _ (by simp -implicitDefEqProofs only [go_sem, ↓reduceIte, Nat.reduceAdd, Nat.reduceMul, Nat.reduceEqDiff, Nat.reduceLeDiff, reduceCtorEq, Int.reduceToNat]; rfl) (fun hc => ?_) (fun hc => ?_)
  rotate_left
  ·simp at hc
  refine AW.rT (by rfl) fun K hK => ?_
  simp -implicitDefEqProofs only [go_sem, ↓reduceIte, Nat.reduceAdd, Nat.reduceMul, Nat.reduceEqDiff, Nat.reduceLeDiff, reduceCtorEq, Int.reduceToNat]
  refine hK _ ?_; clear hK K
  refine AW.ret ?_
  simp -implicitDefEqProofs only [go_sem, ↓reduceIte, Nat.reduceAdd, Nat.reduceMul, Nat.reduceEqDiff, Nat.reduceLeDiff, reduceCtorEq, Int.reduceToNat, HH]
end Go.Aw.T
namespace Go.Aw.T
open Go.Proofs
set_option linter.unusedSimpArgs false
set_option linter.unusedVariables false
structure GoodF (S : Sc) (f : Fd) (d : Nat) (t : Tr) : Prop where
 one : oneV S f t = 0
 kind : t.kind = kdV f.ty
 right : rightT t = true
 deep : ∀ m, dT t m ≤ d
 lens : lensT t = true
 str : strT t = true
structure GoodE (S : Sc) (m : Ms) (d n : Nat) (es : List (Int × List Tr)) : Prop where
 right : rightE es 0 = true
 ent : entV S m es = 0
 tags : ∀ e ∈ es, e.1 ≤ n
 deep : ∀ q, dE es q 0 ≤ d
 lens : es.length ≤ n ∧ lensE es = true
 str : strE es = true
 some : ∀ e ∈ es, (fldOf m e.1).2 = true ∧ 1 ≤ e.2.length ∧ ∀ x ∈ e.2, GoodF S (fldOf m e.1).1 d x
end Go.Aw.T
namespace Go.Aw.T
open Go.Proofs
set_option linter.unusedSimpArgs false
set_option linter.unusedVariables false
theorem GoodE.up {S : Sc} {m : Ms} {d n : Nat} {es : List (Int × List Tr)} (h : GoodE S m d n es) : GoodE S m d (n + 1) es :=
 ⟨h.right, h.ent, fun e he => by have := h.tags e he; omega, h.deep, ⟨by have := h.lens.1; omega, h.lens.2⟩, h.str, h.some⟩
end Go.Aw.T
namespace Go.Aw.T
open Go.Proofs
set_option linter.unusedSimpArgs false
set_option linter.unusedVariables false
end Go.Aw.T
namespace Go.Aw.T
open Go.Proofs
set_option linter.unusedSimpArgs false
set_option linter.unusedVariables false
end Go.Aw.T
namespace Go.Aw
open Go.Proofs Go.RowKit
set_option linter.unusedSimpArgs false
set_option linter.unusedVariables false
end Go.Aw
namespace Go.Aw.T
open Go.Proofs
set_option linter.unusedSimpArgs false
set_option linter.unusedVariables false
theorem siz_right {S : Sc} (R : RightS S) : SizS S := ⟨by have := R.len; omega, fun m hm => by have := R.no m hm; omega⟩
theorem ok_right {t : Tr} (h : okT t = true) : rightT t = true := by
 unfold okT at h
 rw [Bool.and_eq_true] at h
 exact h.2
set_option maxRecDepth 100000 in
set_option maxHeartbeats 4000000 in
theorem valid_Valid (S : Sc) (k : List UInt8) (t : Tr) (L : LensS S) (hlt : lensT t = true) (hst : strT t = true) : PFn Tryd.prog 24 [.agg (encSc S), .str k, .agg (encTr t)] (.int .i64 (validV S k t)) := by
 have C1 := check_Check S L
 have C2 : PFn Tryd.prog 62 [.agg (encSc S), .str k] (.tuple [.agg (encMs (msOf S k).1), .bool (msOf S k).2]) := check_Message S k L.m
 have C3 := value_Check t hlt
 have C4 := fun h0 : checkC S = 0 => fun hr : rightT t = true => valid_message S (siz_right (right_of h0)) t (msOf S k).1 (siz_of (siz_right (right_of h0)) k) hlt hst hr
 simp only [encSc, encMs, encTr_eq] at C1 C2 C3 C4
 refine PFn.of Tryd.func24 rfl (by decide) Tryd.ntmps24 Tryd.results24 (Nat.le_of_ble_eq_true rfl) ?_
 simp only [argsT]
 refine AW.rT (by rfl) fun K hK => ?_
 simp -implicitDefEqProofs only [go_sem, ↓reduceIte, Nat.reduceAdd, Nat.reduceMul, Nat.reduceEqDiff, Nat.reduceLeDiff, reduceCtorEq, Int.reduceToNat, encSc, encTr_eq]
 refine hK _ ?_; clear hK K
 refine AW.seq ?_
 by_cases h0 : checkC S = 0
 case neg =>
  have b0 : (checkC S != 0) = true := by simpa using h0
  have HH : validV S k t = 1 := by unfold validV; rw [if_pos h0]
  refine AW.rT (by rfl) fun K hK => ?_
  simp -implicitDefEqProofs only [go_sem, ↓reduceIte, Nat.reduceAdd, Nat.reduceMul, Nat.reduceEqDiff, Nat.reduceLeDiff, reduceCtorEq, Int.reduceToNat]
  refine ⟨.pure _, C1, ?_⟩
  try simp -implicitDefEqProofs only [go_sem, ↓reduceIte, Nat.reduceAdd, Nat.reduceMul, Nat.reduceEqDiff, Nat.reduceLeDiff, reduceCtorEq, Int.reduceToNat, b0]
  refine hK _ ?_; clear hK K
  refine AW.cond _ (by simp -implicitDefEqProofs only [go_sem, ↓reduceIte, Nat.reduceAdd, Nat.reduceMul, Nat.reduceEqDiff, Nat.reduceLeDiff, reduceCtorEq, Int.reduceToNat]; rfl) (fun hc => ?_) (fun hc => ?_)
  rotate_left
  ·simp at hc
  refine AW.rT (by rfl) fun K hK => ?_
  simp -implicitDefEqProofs only [go_sem, ↓reduceIte, Nat.reduceAdd, Nat.reduceMul, Nat.reduceEqDiff, Nat.reduceLeDiff, reduceCtorEq, Int.reduceToNat]
  refine hK _ ?_; clear hK K
  refine AW.ret ?_
  simp -implicitDefEqProofs only [go_sem, ↓reduceIte, Nat.reduceAdd, Nat.reduceMul, Nat.reduceEqDiff, Nat.reduceLeDiff, reduceCtorEq, Int.reduceToNat, HH]
 have b0 : (checkC S != 0) = false := by simp [h0]
 have C4 := C4 h0
 refine AW.rT (by rfl) fun K hK => ?_
 simp -implicitDefEqProofs only [go_sem, ↓reduceIte, Nat.reduceAdd, Nat.reduceMul, Nat.reduceEqDiff, Nat.reduceLeDiff, reduceCtorEq, Int.reduceToNat]
 refine ⟨.pure _, C1, ?_⟩
 try simp -implicitDefEqProofs only [go_sem, ↓reduceIte, Nat.reduceAdd, Nat.reduceMul, Nat.reduceEqDiff, Nat.reduceLeDiff, reduceCtorEq, Int.reduceToNat, b0]
 refine hK _ ?_; clear hK K
 refine AW.cond _ (by simp -implicitDefEqProofs only [go_sem, ↓reduceIte, Nat.reduceAdd, Nat.reduceMul, Nat.reduceEqDiff, Nat.reduceLeDiff, reduceCtorEq, Int.reduceToNat]; rfl) (fun hc => ?_) (fun hc => ?_)
 ·simp at hc
 refine AW.skip ?_
 simp only [andThen, inBlk, reduceCtorEq, ↓reduceIte, if_t, if_f]
 rcases hmo : msOf S k with ⟨m, b⟩
 rw [hmo] at C2 C4
 simp only at C2 C4
 have V1 : validV S k t = if b = false then 14 else if t.kind ≠ 3 ∨ okT t = false then 1 else msgV S m t := by unfold validV; rw [if_neg (by simpa using h0), hmo]
 refine AW.rT (by rfl) fun K hK => ?_
 simp -implicitDefEqProofs only [go_sem, ↓reduceIte, Nat.reduceAdd, Nat.reduceMul, Nat.reduceEqDiff, Nat.reduceLeDiff, reduceCtorEq, Int.reduceToNat]
 refine ⟨.pure _, C2, ?_⟩
 try simp -implicitDefEqProofs only [go_sem, ↓reduceIte, Nat.reduceAdd, Nat.reduceMul, Nat.reduceEqDiff, Nat.reduceLeDiff, reduceCtorEq, Int.reduceToNat]
 refine hK _ ?_; clear hK K
 refine AW.seq ?_
 refine AW.block ?_
 refine AW.rT (by rfl) fun K hK => ?_
 simp -implicitDefEqProofs only [go_sem, ↓reduceIte, Nat.reduceAdd, Nat.reduceMul, Nat.reduceEqDiff, Nat.reduceLeDiff, reduceCtorEq, Int.reduceToNat]
 refine hK _ ?_; clear hK K
 cases b with
 | false =>
  have HH : validV S k t = 14 := by rw [V1, if_pos rfl]
  refine AW.cond _ (by simp -implicitDefEqProofs only [go_sem, ↓reduceIte, Nat.reduceAdd, Nat.reduceMul, Nat.reduceEqDiff, Nat.reduceLeDiff, reduceCtorEq, Int.reduceToNat]; rfl) (fun hc => ?_) (fun hc => ?_)
  rotate_left
  ·simp at hc
  refine AW.rT (by rfl) fun K hK => ?_
  simp -implicitDefEqProofs only [go_sem, ↓reduceIte, Nat.reduceAdd, Nat.reduceMul, Nat.reduceEqDiff, Nat.reduceLeDiff, reduceCtorEq, Int.reduceToNat]
  refine hK _ ?_; clear hK K
  refine AW.ret ?_
  simp -implicitDefEqProofs only [go_sem, ↓reduceIte, Nat.reduceAdd, Nat.reduceMul, Nat.reduceEqDiff, Nat.reduceLeDiff, reduceCtorEq, Int.reduceToNat, HH]
 | true =>
 rw [if_neg (by simp)] at V1
 refine AW.cond _ (by simp -implicitDefEqProofs only [go_sem, ↓reduceIte, Nat.reduceAdd, Nat.reduceMul, Nat.reduceEqDiff, Nat.reduceLeDiff, reduceCtorEq, Int.reduceToNat]; rfl) (fun hc => ?_) (fun hc => ?_)
 ·simp at hc
 by_cases h3 : t.kind = 3
 case neg =>
  have b3 : (t.kind != 3) = true := by simpa using h3
  have HH : validV S k t = 1 := by rw [V1, if_pos (.inl h3)]
  refine AW.rT (by rfl) fun K hK => ?_
  simp -implicitDefEqProofs only [go_sem, ↓reduceIte, Nat.reduceAdd, Nat.reduceMul, Nat.reduceEqDiff, Nat.reduceLeDiff, reduceCtorEq, Int.reduceToNat, b3]
  refine hK _ ?_; clear hK K
  refine AW.cond _ (by simp -implicitDefEqProofs only [go_sem, ↓reduceIte, Nat.reduceAdd, Nat.reduceMul, Nat.reduceEqDiff, Nat.reduceLeDiff, reduceCtorEq, Int.reduceToNat]; rfl) (fun hc => ?_) (fun hc => ?_)
  rotate_left
  ·simp at hc
  refine AW.rT (by rfl) fun K hK => ?_
  simp -implicitDefEqProofs only [go_sem, ↓reduceIte, Nat.reduceAdd, Nat.reduceMul, Nat.reduceEqDiff, Nat.reduceLeDiff, reduceCtorEq, Int.reduceToNat]
  refine hK _ ?_; clear hK K
  refine AW.ret ?_
  simp -implicitDefEqProofs only [go_sem, ↓reduceIte, Nat.reduceAdd, Nat.reduceMul, Nat.reduceEqDiff, Nat.reduceLeDiff, reduceCtorEq, Int.reduceToNat, HH]
 have b3 : (t.kind != 3) = false := by simp [h3]
 cases ho : okT t with
 | false =>
  rw [ho] at C3
  have HH : validV S k t = 1 := by rw [V1, if_pos (.inr ho)]
  refine AW.rT (by rfl) fun K hK => ?_
  simp -implicitDefEqProofs only [go_sem, ↓reduceIte, Nat.reduceAdd, Nat.reduceMul, Nat.reduceEqDiff, Nat.reduceLeDiff, reduceCtorEq, Int.reduceToNat, b3]
  refine ⟨.pure _, C3, ?_⟩
  try simp -implicitDefEqProofs only [go_sem, ↓reduceIte, Nat.reduceAdd, Nat.reduceMul, Nat.reduceEqDiff, Nat.reduceLeDiff, reduceCtorEq, Int.reduceToNat]
  refine hK _ ?_; clear hK K
  refine AW.cond _ (by simp -implicitDefEqProofs only [go_sem, ↓reduceIte, Nat.reduceAdd, Nat.reduceMul, Nat.reduceEqDiff, Nat.reduceLeDiff, reduceCtorEq, Int.reduceToNat]; rfl) (fun hc => ?_) (fun hc => ?_)
  rotate_left
  ·simp at hc
  refine AW.rT (by rfl) fun K hK => ?_
  simp -implicitDefEqProofs only [go_sem, ↓reduceIte, Nat.reduceAdd, Nat.reduceMul, Nat.reduceEqDiff, Nat.reduceLeDiff, reduceCtorEq, Int.reduceToNat]
  refine hK _ ?_; clear hK K
  refine AW.ret ?_
  simp -implicitDefEqProofs only [go_sem, ↓reduceIte, Nat.reduceAdd, Nat.reduceMul, Nat.reduceEqDiff, Nat.reduceLeDiff, reduceCtorEq, Int.reduceToNat, HH]
 | true =>
  rw [ho] at C3
  have HH : validV S k t = msgV S m t := by rw [V1, if_neg (by rintro (a | a); exact a h3; rw [ho] at a; cases a)]
  refine AW.rT (by rfl) fun K hK => ?_
  simp -implicitDefEqProofs only [go_sem, ↓reduceIte, Nat.reduceAdd, Nat.reduceMul, Nat.reduceEqDiff, Nat.reduceLeDiff, reduceCtorEq, Int.reduceToNat, b3]
  refine ⟨.pure _, C3, ?_⟩
  try simp -implicitDefEqProofs only [go_sem, ↓reduceIte, Nat.reduceAdd, Nat.reduceMul, Nat.reduceEqDiff, Nat.reduceLeDiff, reduceCtorEq, Int.reduceToNat]
  refine hK _ ?_; clear hK K
  refine AW.cond _ (by simp -implicitDefEqProofs only [go_sem, ↓reduceIte, Nat.reduceAdd, Nat.reduceMul, Nat.reduceEqDiff, Nat.reduceLeDiff, reduceCtorEq, Int.reduceToNat]; rfl) (fun hc => ?_) (fun hc => ?_)
  ·simp at hc
  refine AW.skip ?_
  simp only [andThen, inBlk, reduceCtorEq, ↓reduceIte, if_t, if_f]
  refine AW.rT (by rfl) fun K hK => ?_
  simp -implicitDefEqProofs only [go_sem, ↓reduceIte, Nat.reduceAdd, Nat.reduceMul, Nat.reduceEqDiff, Nat.reduceLeDiff, reduceCtorEq, Int.reduceToNat]
  refine ⟨.pure _, C4 (ok_right ho), ?_⟩
  try simp -implicitDefEqProofs only [go_sem, ↓reduceIte, Nat.reduceAdd, Nat.reduceMul, Nat.reduceEqDiff, Nat.reduceLeDiff, reduceCtorEq, Int.reduceToNat]
  refine hK _ ?_; clear hK K
  refine AW.ret ?_
  simp -implicitDefEqProofs only [go_sem, ↓reduceIte, Nat.reduceAdd, Nat.reduceMul, Nat.reduceEqDiff, Nat.reduceLeDiff, reduceCtorEq, Int.reduceToNat, HH]
end Go.Aw.T
namespace Go.Aw.T
open Go.Proofs
set_option linter.unusedSimpArgs false
set_option linter.unusedVariables false
theorem find_none {es : List (Int × List Tr)} {g : Int} (h : es.all (fun e => e.1 != g) = true) : es.find? (fun e => e.1 == g) = none := by
 rw [List.find?_eq_none]
 intro e he
 have := List.all_eq_true.1 h e he
 simpa using this
theorem find_some {es : List (Int × List Tr)} {g : Int} {i : Nat} {e : Int × List Tr} (h : (es.take i).all (fun e => e.1 != g) = true) (he : es[i]? = some e) (hg : e.1 = g) : es.find? (fun e => e.1 == g) = some e := by
 have hl := (List.getElem?_eq_some_iff.1 he).1
 have e1 : es = es.take i ++ e :: es.drop (i + 1) := by
  conv => lhs; rw [← List.take_append_drop i es, List.drop_eq_getElem_cons hl, (List.getElem?_eq_some_iff.1 he).2]
 rw [e1, List.find?_append, find_none h]
 simp [hg]
theorem all_take {es : List (Int × List Tr)} {g : Int} {i : Nat} {e : Int × List Tr} (he : es[i]? = some e) (h : (es.take i).all (fun e => e.1 != g) = true) (hg : e.1 ≠ g) : (es.take (i + 1)).all (fun e => e.1 != g) = true := by
 rw [List.take_add_one, he, List.all_append, h]
 simpa using hg
def vk (f : Fd) (t : Tr) (g : Int) (i : Nat) : St := ⟨ofL [(3, .p (.int .i64 g)), (12, .ptr 1 0 0), (40, .p (.slice (t.ents.map encEn))), (41, .p (.int .i64 (t.ents.length : Int))), (42, .p (.int .i64 (i : Int)))], ofH [(1, .row 5 [cellsFd f])], 2⟩
set_option maxRecDepth 100000 in
set_option maxHeartbeats 4000000 in
theorem valid_Get (S : Sc) (k : List UInt8) (t : Tr) (g : Int) (hS : SizS S) (hlt : lensT t = true) : PFn Tryd.prog 30 [.agg (encSc S), .str k, .agg (encTr t), .int .i64 g] (.tuple [.slice ((getV S k t g).1.map encTr), .bool (getV S k t g).2]) := by
 obtain ⟨la1, la2, la3⟩ := lensT_mk hlt
 have C2 : PFn Tryd.prog 62 [.agg (encSc S), .str k] (.tuple [.agg (encMs (msOf S k).1), .bool (msOf S k).2]) := check_Message S k hS.msgs
 have C3 : PFn Tryd.prog 67 [.agg (encMs (msOf S k).1), .int .i64 g] (.tuple [.agg (encFd (fldOf (msOf S k).1 g).1), .bool (fldOf (msOf S k).1 g).2]) := check_Field (msOf S k).1 g (siz_of hS k)
 have GV : getV S k t g = if (msOf S k).2 = false ∨ (fldOf (msOf S k).1 g).2 = false ∨ t.kind ≠ 3 then ([], false) else
  match t.ents.find? (fun e => e.1 == g) with
  | some e => (e.2, true)
  | none => if (fldOf (msOf S k).1 g).1.label = 1 then ([.mk (kdV (fldOf (msOf S k).1 g).1.ty) 0 [] [] []], true) else ([], true) := rfl
 have C4 := valid_kind (fldOf (msOf S k).1 g).1.ty
 rcases hmo : msOf S k with ⟨m, b⟩
 rw [hmo] at C2 C3 C4 GV
 simp only at C2 C3 C4 GV
 rcases hfo : fldOf m g with ⟨f, c⟩
 rw [hfo] at C3 C4 GV
 simp only [encSc, encMs, encFd, encTy] at C2 C3 C4 GV
 refine PFn.of Tryd.func30 rfl (by decide) Tryd.ntmps30 Tryd.results30 (Nat.le_of_ble_eq_true rfl) ?_
 simp only [argsT]
 refine AW.rT (by rfl) fun K hK => ?_
 simp -implicitDefEqProofs only [go_sem, ↓reduceIte, Nat.reduceAdd, Nat.reduceMul, Nat.reduceEqDiff, Nat.reduceLeDiff, reduceCtorEq, Int.reduceToNat, encSc, encTr_eq]
 refine hK _ ?_; clear hK K
 refine AW.rT (by rfl) fun K hK => ?_
 simp -implicitDefEqProofs only [go_sem, ↓reduceIte, Nat.reduceAdd, Nat.reduceMul, Nat.reduceEqDiff, Nat.reduceLeDiff, reduceCtorEq, Int.reduceToNat]
 refine ⟨.pure _, C2, ?_⟩
 try simp -implicitDefEqProofs only [go_sem, ↓reduceIte, Nat.reduceAdd, Nat.reduceMul, Nat.reduceEqDiff, Nat.reduceLeDiff, reduceCtorEq, Int.reduceToNat]
 refine hK _ ?_; clear hK K
 refine AW.rT (by rfl) fun K hK => ?_
 simp -implicitDefEqProofs only [go_sem, ↓reduceIte, Nat.reduceAdd, Nat.reduceMul, Nat.reduceEqDiff, Nat.reduceLeDiff, reduceCtorEq, Int.reduceToNat]
 refine ⟨.pure _, C3, ?_⟩
 try simp -implicitDefEqProofs only [go_sem, ↓reduceIte, Nat.reduceAdd, Nat.reduceMul, Nat.reduceEqDiff, Nat.reduceLeDiff, reduceCtorEq, Int.reduceToNat]
 refine hK _ ?_; clear hK K
 refine AW.seq ?_
 cases b with
 | false =>
  have HH : getV S k t g = ([], false) := by rw [GV, if_pos (.inl rfl)]
  refine AW.rT (by rfl) fun K hK => ?_
  simp -implicitDefEqProofs only [go_sem, ↓reduceIte, Nat.reduceAdd, Nat.reduceMul, Nat.reduceEqDiff, Nat.reduceLeDiff, reduceCtorEq, Int.reduceToNat]
  refine hK _ ?_; clear hK K
  refine AW.cond _ (by simp -implicitDefEqProofs only [go_sem, ↓reduceIte, Nat.reduceAdd, Nat.reduceMul, Nat.reduceEqDiff, Nat.reduceLeDiff, reduceCtorEq, Int.reduceToNat]; rfl) (fun hc => ?_) (fun hc => ?_)
  rotate_left
  ·simp at hc
  refine AW.rT (by rfl) fun K hK => ?_
  simp -implicitDefEqProofs only [go_sem, ↓reduceIte, Nat.reduceAdd, Nat.reduceMul, Nat.reduceEqDiff, Nat.reduceLeDiff, reduceCtorEq, Int.reduceToNat]
  refine hK _ ?_; clear hK K
  refine AW.ret ?_
  simp -implicitDefEqProofs only [go_sem, ↓reduceIte, Nat.reduceAdd, Nat.reduceMul, Nat.reduceEqDiff, Nat.reduceLeDiff, reduceCtorEq, Int.reduceToNat, HH, List.map_nil]
 | true =>
 cases c with
 | false =>
  have HH : getV S k t g = ([], false) := by rw [GV, if_pos (.inr (.inl rfl))]
  refine AW.rT (by rfl) fun K hK => ?_
  simp -implicitDefEqProofs only [go_sem, ↓reduceIte, Nat.reduceAdd, Nat.reduceMul, Nat.reduceEqDiff, Nat.reduceLeDiff, reduceCtorEq, Int.reduceToNat]
  refine hK _ ?_; clear hK K
  refine AW.cond _ (by simp -implicitDefEqProofs only [go_sem, ↓reduceIte, Nat.reduceAdd, Nat.reduceMul, Nat.reduceEqDiff, Nat.reduceLeDiff, reduceCtorEq, Int.reduceToNat]; rfl) (fun hc => ?_) (fun hc => ?_)
  rotate_left
  ·simp at hc
  refine AW.rT (by rfl) fun K hK => ?_
  simp -implicitDefEqProofs only [go_sem, ↓reduceIte, Nat.reduceAdd, Nat.reduceMul, Nat.reduceEqDiff, Nat.reduceLeDiff, reduceCtorEq, Int.reduceToNat]
  refine hK _ ?_; clear hK K
  refine AW.ret ?_
  simp -implicitDefEqProofs only [go_sem, ↓reduceIte, Nat.reduceAdd, Nat.reduceMul, Nat.reduceEqDiff, Nat.reduceLeDiff, reduceCtorEq, Int.reduceToNat, HH, List.map_nil]
 | true =>
 by_cases h3 : t.kind = 3
 case neg =>
  have b3 : (t.kind != 3) = true := by simpa using h3
  have HH : getV S k t g = ([], false) := by rw [GV, if_pos (.inr (.inr h3))]
  refine AW.rT (by rfl) fun K hK => ?_
  simp -implicitDefEqProofs only [go_sem, ↓reduceIte, Nat.reduceAdd, Nat.reduceMul, Nat.reduceEqDiff, Nat.reduceLeDiff, reduceCtorEq, Int.reduceToNat, b3]
  refine hK _ ?_; clear hK K
  refine AW.cond _ (by simp -implicitDefEqProofs only [go_sem, ↓reduceIte, Nat.reduceAdd, Nat.reduceMul, Nat.reduceEqDiff, Nat.reduceLeDiff, reduceCtorEq, Int.reduceToNat]; rfl) (fun hc => ?_) (fun hc => ?_)
  rotate_left
  ·simp at hc
  refine AW.rT (by rfl) fun K hK => ?_
  simp -implicitDefEqProofs only [go_sem, ↓reduceIte, Nat.reduceAdd, Nat.reduceMul, Nat.reduceEqDiff, Nat.reduceLeDiff, reduceCtorEq, Int.reduceToNat]
  refine hK _ ?_; clear hK K
  refine AW.ret ?_
  simp -implicitDefEqProofs only [go_sem, ↓reduceIte, Nat.reduceAdd, Nat.reduceMul, Nat.reduceEqDiff, Nat.reduceLeDiff, reduceCtorEq, Int.reduceToNat, HH, List.map_nil]
 have b3 : (t.kind != 3) = false := by simp [h3]
 rw [if_neg (by simp [h3])] at GV
 refine AW.rT (by rfl) fun K hK => ?_
 simp -implicitDefEqProofs only [go_sem, ↓reduceIte, Nat.reduceAdd, Nat.reduceMul, Nat.reduceEqDiff, Nat.reduceLeDiff, reduceCtorEq, Int.reduceToNat, b3]
 refine hK _ ?_; clear hK K
 refine AW.cond _ (by simp -implicitDefEqProofs only [go_sem, ↓reduceIte, Nat.reduceAdd, Nat.reduceMul, Nat.reduceEqDiff, Nat.reduceLeDiff, reduceCtorEq, Int.reduceToNat]; rfl) (fun hc => ?_) (fun hc => ?_)
 ·simp at hc
 refine AW.skip ?_
 simp only [andThen, inBlk, reduceCtorEq, ↓reduceIte, if_t, if_f]
 refine AW.seq ?_
 refine AW.rT (by rfl) fun K hK => ?_
 simp -implicitDefEqProofs only [go_sem, ↓reduceIte, Nat.reduceAdd, Nat.reduceMul, Nat.reduceEqDiff, Nat.reduceLeDiff, reduceCtorEq, Int.reduceToNat, List.length_map]
 refine hK _ ?_; clear hK K
 refine AW.block ?_
 refine AW.loop (fun i : Nat => vk f t g i) (fun i => i ≤ t.ents.length ∧ (t.ents.take i).all (fun e => e.1 != g) = true) (fun i => t.ents.length - i) 0 ?_ ⟨by simp, by simp⟩ fun i hi => ?_
 ·simp only [vk, cellsFd]
  refine Ghost.ent (fun l => if l = 1 then 19 else l) ?_ ?_ ?_ <;> simp -implicitDefEqProofs only [go_sem, ↓reduceIte, Nat.reduceAdd, Nat.reduceMul, Nat.reduceEqDiff, Nat.reduceLeDiff, reduceCtorEq, Int.reduceToNat,  List.forall_mem_cons, List.not_mem_nil, false_implies, implies_true, and_self, map_renL_lift, labsIn_lift, List.all_append, List.all_cons, List.all_nil, List.map_append, Nat.reduceLT, labsInL, AV.labsIn]
  all_goals first | rfl | simp
 obtain ⟨g1, g2⟩ := hi
 simp only [vk, cellsFd]
 by_cases hil : i < t.ents.length
 case neg =>
  have hc1 : ((i : Int) < (t.ents.length : Int)) = False := eq_false (by omega)
  rw [List.take_of_length_le (by omega)] at g2
  rw [find_none g2] at GV
  simp only at GV
  refine AW.rT (by rfl) fun K hK => ?_
  simp -implicitDefEqProofs only [go_sem, ↓reduceIte, Nat.reduceAdd, Nat.reduceMul, Nat.reduceEqDiff, Nat.reduceLeDiff, reduceCtorEq, Int.reduceToNat, hc1]
  refine hK _ ?_; clear hK K
  refine AW.seq ?_
  refine AW.cond _ (by simp -implicitDefEqProofs only [go_sem, ↓reduceIte, Nat.reduceAdd, Nat.reduceMul, Nat.reduceEqDiff, Nat.reduceLeDiff, reduceCtorEq, Int.reduceToNat]; rfl) (fun hc => ?_) (fun hc => ?_)
  ·simp at hc
  refine AW.exit ?_
  simp only [andThen, inBlk, reduceCtorEq, ↓reduceIte, if_t, if_f]
  refine AW.seq ?_
  by_cases hb : f.label = 1
  ·have b1 := eqb hb
   rw [if_pos hb] at GV
   have HH : getV S k t g = ([.mk (kdV f.ty) 0 [] [] []], true) := GV
   refine AW.rT (by rfl) fun K hK => ?_
   simp -implicitDefEqProofs only [go_sem, ↓reduceIte, Nat.reduceAdd, Nat.reduceMul, Nat.reduceEqDiff, Nat.reduceLeDiff, reduceCtorEq, Int.reduceToNat, b1]
   refine hK _ ?_; clear hK K
   refine AW.cond _ (by simp -implicitDefEqProofs only [go_sem, ↓reduceIte, Nat.reduceAdd, Nat.reduceMul, Nat.reduceEqDiff, Nat.reduceLeDiff, reduceCtorEq, Int.reduceToNat]; rfl) (fun hc => ?_) (fun hc => ?_)
   rotate_left
   ·simp at hc
   refine AW.rT (by rfl) fun K hK => ?_
   simp -implicitDefEqProofs only [go_sem, ↓reduceIte, Nat.reduceAdd, Nat.reduceMul, Nat.reduceEqDiff, Nat.reduceLeDiff, reduceCtorEq, Int.reduceToNat]
   refine ⟨.pure _, C4, ?_⟩
   try simp -implicitDefEqProofs only [go_sem, ↓reduceIte, Nat.reduceAdd, Nat.reduceMul, Nat.reduceEqDiff, Nat.reduceLeDiff, reduceCtorEq, Int.reduceToNat]
   refine hK _ ?_; clear hK K
   refine AW.ret ?_
   simp -implicitDefEqProofs only [go_sem, ↓reduceIte, Nat.reduceAdd, Nat.reduceMul, Nat.reduceEqDiff, Nat.reduceLeDiff, reduceCtorEq, Int.reduceToNat, HH, List.map_nil, List.map_cons, encTr, encEs]
   done
  ·have b1 := beqf hb
   rw [if_neg hb] at GV
   have HH : getV S k t g = ([], true) := GV
   refine AW.rT (by rfl) fun K hK => ?_
   simp -implicitDefEqProofs only [go_sem, ↓reduceIte, Nat.reduceAdd, Nat.reduceMul, Nat.reduceEqDiff, Nat.reduceLeDiff, reduceCtorEq, Int.reduceToNat, b1]
   refine hK _ ?_; clear hK K
   refine AW.cond _ (by simp -implicitDefEqProofs only [go_sem, ↓reduceIte, Nat.reduceAdd, Nat.reduceMul, Nat.reduceEqDiff, Nat.reduceLeDiff, reduceCtorEq, Int.reduceToNat]; rfl) (fun hc => ?_) (fun hc => ?_)
   ·simp at hc
   refine AW.skip ?_
   simp only [andThen, inBlk, reduceCtorEq, ↓reduceIte, if_t, if_f]
   refine AW.rT (by rfl) fun K hK => ?_
   simp -implicitDefEqProofs only [go_sem, ↓reduceIte, Nat.reduceAdd, Nat.reduceMul, Nat.reduceEqDiff, Nat.reduceLeDiff, reduceCtorEq, Int.reduceToNat]
   refine hK _ ?_; clear hK K
   refine AW.ret ?_
   simp -implicitDefEqProofs only [go_sem, ↓reduceIte, Nat.reduceAdd, Nat.reduceMul, Nat.reduceEqDiff, Nat.reduceLeDiff, reduceCtorEq, Int.reduceToNat, HH, List.map_nil]
 obtain ⟨e, he⟩ : ∃ e, t.ents[i]? = some e := ⟨_, List.getElem?_eq_getElem hil⟩
 have ⟨he1, he2, he3⟩ := at_map' encEn he
 have ⟨le1, le2⟩ := lensE_at la3 he
 have hc1 : ((i : Int) < (t.ents.length : Int)) = True := eq_true (by omega)
 refine AW.rT (by rfl) fun K hK => ?_
 simp -implicitDefEqProofs only [go_sem, ↓reduceIte, Nat.reduceAdd, Nat.reduceMul, Nat.reduceEqDiff, Nat.reduceLeDiff, reduceCtorEq, Int.reduceToNat, hc1]
 refine hK _ ?_; clear hK K
 refine AW.seq ?_
 refine AW.cond _ (by simp -implicitDefEqProofs only [go_sem, ↓reduceIte, Nat.reduceAdd, Nat.reduceMul, Nat.reduceEqDiff, Nat.reduceLeDiff, reduceCtorEq, Int.reduceToNat]; rfl) (fun hc => ?_) (fun hc => ?_)
 rotate_left
 ·simp at hc
 refine AW.skip ?_
 simp only [andThen, inBlk, reduceCtorEq, ↓reduceIte, if_t, if_f]
 refine AW.seq ?_
 refine AW.block ?_
 refine AW.rT (by rfl) fun K hK => ?_
 simp -implicitDefEqProofs only [go_sem, ↓reduceIte, Nat.reduceAdd, Nat.reduceMul, Nat.reduceEqDiff, Nat.reduceLeDiff, reduceCtorEq, Int.reduceToNat, he1, he2, he3, hc1, encEn, List.length_map]
 refine hK _ ?_; clear hK K
 by_cases hg : e.1 = g
 ·have b1 := eqb hg
  have HH : getV S k t g = (e.2, true) := by rw [GV, find_some g2 he hg]
  refine AW.rT (by rfl) fun K hK => ?_
  simp -implicitDefEqProofs only [go_sem, ↓reduceIte, Nat.reduceAdd, Nat.reduceMul, Nat.reduceEqDiff, Nat.reduceLeDiff, reduceCtorEq, Int.reduceToNat, b1]
  refine hK _ ?_; clear hK K
  refine AW.cond _ (by simp -implicitDefEqProofs only [go_sem, ↓reduceIte, Nat.reduceAdd, Nat.reduceMul, Nat.reduceEqDiff, Nat.reduceLeDiff, reduceCtorEq, Int.reduceToNat]; rfl) (fun hc => ?_) (fun hc => ?_)
  rotate_left
  ·simp at hc
  refine AW.rT (by rfl) fun K hK => ?_
  simp -implicitDefEqProofs only [go_sem, ↓reduceIte, Nat.reduceAdd, Nat.reduceMul, Nat.reduceEqDiff, Nat.reduceLeDiff, reduceCtorEq, Int.reduceToNat]
  refine ⟨⟨liftE_len fun e he => by
    obtain ⟨x, _, rfl⟩ := List.mem_map.1 he
    rw [encTr_eq]
    rfl, liftE_one fun e he p hp => by
    obtain ⟨x, _, rfl⟩ := List.mem_map.1 he
    rw [encTr_eq] at hp
    simp at hp
    rcases hp with rfl | rfl | rfl | rfl | rfl <;> rfl, by simp⟩, ⟨.inl trivial, by simp, by simp [liftE_length]; omega⟩, ?_⟩
  refine hK _ ?_; clear hK K
  refine AW.ret ?_
  simp -implicitDefEqProofs only [go_sem, ↓reduceIte, Nat.reduceAdd, Nat.reduceMul, Nat.reduceEqDiff, Nat.reduceLeDiff, reduceCtorEq, Int.reduceToNat, HH]
  done
 ·have b1 := beqf hg
  have w1 : IntKind.wrap .i64 ((i : Int) + 1) = ((i + 1 : Nat) : Int) := by rw [w64] <;> omega
  refine AW.rT (by rfl) fun K hK => ?_
  simp -implicitDefEqProofs only [go_sem, ↓reduceIte, Nat.reduceAdd, Nat.reduceMul, Nat.reduceEqDiff, Nat.reduceLeDiff, reduceCtorEq, Int.reduceToNat, b1]
  refine hK _ ?_; clear hK K
  refine AW.cond _ (by simp -implicitDefEqProofs only [go_sem, ↓reduceIte, Nat.reduceAdd, Nat.reduceMul, Nat.reduceEqDiff, Nat.reduceLeDiff, reduceCtorEq, Int.reduceToNat]; rfl) (fun hc => ?_) (fun hc => ?_)
  ·simp at hc
  refine AW.skip ?_
  simp only [andThen, inBlk, reduceCtorEq, ↓reduceIte, if_t, if_f]
  refine AW.rE (by rfl) fun K hK => ?_
  simp -implicitDefEqProofs only [go_sem, ↓reduceIte, Nat.reduceAdd, Nat.reduceMul, Nat.reduceEqDiff, Nat.reduceLeDiff, reduceCtorEq, Int.reduceToNat, w1]
  refine hK _ ?_; clear hK K
  refine ⟨i + 1, ⟨by omega, all_take he g2 hg⟩, by omega, ?_⟩
  show Ghost _ _ (vk f t g (i + 1))
  simp only [vk, cellsFd]
  refine Ghost.sub ?_ ?_ <;> simp -implicitDefEqProofs only [go_sem, ↓reduceIte, Nat.reduceAdd, Nat.reduceMul, Nat.reduceEqDiff, Nat.reduceLeDiff, reduceCtorEq, Int.reduceToNat,  List.forall_mem_cons, List.not_mem_nil, false_implies, implies_true, and_self, labsIn_lift, List.all_append, List.all_cons, List.all_nil, Nat.reduceLT, labsInL, AV.labsIn]
  done
end Go.Aw.T
namespace Go.Aw.T
open Go.Proofs
set_option linter.unusedSimpArgs false
set_option linter.unusedVariables false
def nF : Fd := ⟨[120], 1, 1, ⟨1, []⟩⟩
def nM : Ms := ⟨[109], [nF], []⟩
def nS : Sc := ⟨[97], [nM], [], []⟩
def nE : Tr := .mk 3 0 [] [] []
def nN : Tr := .mk 1 0 [] [] []
def nZ : Tr := .mk 3 0 [] [(1, [nN])] []
theorem lens_few {S : Sc} (h : fewB S = true) : LensS S := (few_spec h).lens
theorem nS_lens : LensS nS := lens_few (by decide +kernel)
theorem nS_check : checkC nS = 0 := by decide +kernel
theorem n_zero : validV nS [109] nZ = 12 := by decide +kernel
theorem n_ok : validV nS [109] nE = 0 := by decide +kernel
theorem n_get : getV nS [109] nE 1 = ([nN], true) := by rfl
def nk0 : St := ⟨ofL [(1, .ptr 0 0 0), (2, .ptr 1 0 0)], ofH [(0, .row 4 [[.p (.str [97]), .own 2, .ex [], .ex []]]), (1, .row 5 [[.p (.int .i64 3), .p (.int .i64 0), .p (.str []), .own 4, .ex []]]), (2, .row 3 [[.p (.str [109]), .own 3, .ex []]]), (3, .row 5 (liftE ([nF].map encFd))), (4, .row 2 [[.p (.int .i64 1), .own 5]]), (5, .row 5 [[.p (.int .i64 1), .p (.int .i64 0), .p (.str []), .ex [], .ex []]])], 6⟩
def nk1 : St := ⟨ofL [(1, .ptr 0 0 0), (2, .ptr 1 0 0)], ofH [(0, .row 4 [[.p (.str [97]), .own 2, .ex [], .ex []]]), (1, .row 5 [[.p (.int .i64 3), .p (.int .i64 0), .p (.str []), .own 4, .ex []]]), (2, .row 3 [[.p (.str [109]), .p (.slice ([nF].map encFd)), .ex []]]), (4, .row 2 [[.p (.int .i64 1), .own 5]]), (5, .row 5 [[.p (.int .i64 1), .p (.int .i64 0), .p (.str []), .ex [], .ex []]])], 6⟩
def nk2 : St := ⟨ofL [(1, .ptr 0 0 0), (2, .ptr 1 0 0)], ofH [(0, .row 4 [[.p (.str [97]), .p (.slice [encMs nM]), .ex [], .ex []]]), (1, .row 5 [[.p (.int .i64 3), .p (.int .i64 0), .p (.str []), .own 4, .ex []]]), (4, .row 2 [[.p (.int .i64 1), .own 5]]), (5, .row 5 [[.p (.int .i64 1), .p (.int .i64 0), .p (.str []), .ex [], .ex []]])], 6⟩
def nk3 : St := ⟨ofL [(1, .ptr 0 0 0), (2, .ptr 1 0 0)], ofH [(0, .row 4 [[.p (.str [97]), .p (.slice [encMs nM]), .ex [], .ex []]]), (1, .row 5 [[.p (.int .i64 3), .p (.int .i64 0), .p (.str []), .own 4, .ex []]]), (4, .row 2 [[.p (.int .i64 1), .p (.slice [encTr nN])]])], 6⟩
def nk4 : St := ⟨ofL [(1, .ptr 0 0 0), (2, .ptr 1 0 0)], ofH [(0, .row 4 [[.p (.str [97]), .p (.slice [encMs nM]), .ex [], .ex []]]), (1, .row 5 [[.p (.int .i64 3), .p (.int .i64 0), .p (.str []), .p (.slice [encEn (1, [nN])]), .ex []]])], 6⟩
set_option maxRecDepth 100000 in
set_option maxHeartbeats 4000000 in
theorem law10_awake : PFn Tryd.prog 21 [] (.bool true) := by
 have C1 := valid_Get nS [109] nE 1 (siz_right (right_of nS_check)) (by decide +kernel)
 have C2 := valid_Valid nS [109] nZ nS_lens (by decide +kernel) (by decide +kernel)
 have C3 := valid_Valid nS [109] nE nS_lens (by decide +kernel) (by decide +kernel)
 rw [n_get] at C1
 rw [n_zero] at C2
 rw [n_ok] at C3
 simp only [encSc, nS, List.map_cons, List.map_nil, encTr_eq, nE, nZ, nN, Tr.kind, Tr.n, Tr.s, Tr.ents, Tr.rest, encEn] at C1 C2 C3
 refine PFn.of Tryd.func21 rfl (by decide) Tryd.ntmps21 Tryd.results21 (Nat.le_of_ble_eq_true rfl) ?_
 simp only [argsT]
 refine AW.rT (by rfl) fun K hK => ?_
 simp -implicitDefEqProofs only [go_sem, ↓reduceIte, Nat.reduceAdd, Nat.reduceMul, Nat.reduceEqDiff, Nat.reduceLeDiff, reduceCtorEq, Int.reduceToNat]
 refine hK _ ?_; clear hK K
 refine AW.rT (by rfl) fun K hK => ?_
 simp -implicitDefEqProofs only [go_sem, ↓reduceIte, Nat.reduceAdd, Nat.reduceMul, Nat.reduceEqDiff, Nat.reduceLeDiff, reduceCtorEq, Int.reduceToNat]
 refine hK _ ?_; clear hK K
 refine AW.rT (by rfl) fun K hK => ?_
 simp -implicitDefEqProofs only [go_sem, ↓reduceIte, Nat.reduceAdd, Nat.reduceMul, Nat.reduceEqDiff, Nat.reduceLeDiff, reduceCtorEq, Int.reduceToNat]
 refine hK _ ?_; clear hK K
 refine AW.ghost (s' := nk0) ?_ ?_
 ·simp only [nk0]
  refine Ghost.ent (fun l => if l = 0 then 7 else if l = 1 then 14 else if l = 2 then 5 else if l = 3 then 3 else if l = 4 then 12 else 10) ?_ ?_ ?_ <;> simp -implicitDefEqProofs only [go_sem, ↓reduceIte, Nat.reduceAdd, Nat.reduceMul, Nat.reduceEqDiff, Nat.reduceLeDiff, reduceCtorEq, Int.reduceToNat, nF, encFd, liftE_cons, liftE_nil, List.map_cons, List.map_nil, List.forall_mem_cons, List.not_mem_nil, false_implies, implies_true, and_self, map_renL_lift, labsIn_lift, List.all_append, List.all_cons, List.all_nil, List.map_append, Nat.reduceLT, labsInL, AV.labsIn]
  all_goals first | rfl | decide | skip
 refine AW.ghost (s' := nk1) (Ghost.trans (Ghost.freeze (lb := 3) (ps := [nF].map encFd) rfl (unlift_liftE _)) ?_) ?_
 ·simp only [nk0, nk1]
  refine Ghost.sub ?_ ?_ <;> simp -implicitDefEqProofs only [go_sem, ↓reduceIte, Nat.reduceAdd, Nat.reduceMul, Nat.reduceEqDiff, Nat.reduceLeDiff, reduceCtorEq, Int.reduceToNat, thaw, thaw1, Option.map_some, List.map_cons, List.map_nil, nF, encFd, liftE_cons, liftE_nil, List.forall_mem_cons, List.not_mem_nil, false_implies, implies_true, and_self, labsIn_lift, List.all_append, List.all_cons, List.all_nil, Nat.reduceLT, labsInL, AV.labsIn]
  all_goals first | rfl | decide | skip
 refine AW.ghost (s' := nk2) (Ghost.trans (Ghost.freeze (lb := 2) (ps := [encMs nM]) rfl (by rfl)) ?_) ?_
 ·simp only [nk1, nk2]
  refine Ghost.sub ?_ ?_ <;> simp -implicitDefEqProofs only [go_sem, ↓reduceIte, Nat.reduceAdd, Nat.reduceMul, Nat.reduceEqDiff, Nat.reduceLeDiff, reduceCtorEq, Int.reduceToNat, thaw, thaw1, Option.map_some, List.map_cons, List.map_nil, nF, nM, encFd, encMs, liftE_cons, liftE_nil, List.forall_mem_cons, List.not_mem_nil, false_implies, implies_true, and_self, labsIn_lift, List.all_append, List.all_cons, List.all_nil, Nat.reduceLT, labsInL, AV.labsIn]
  all_goals first | rfl | decide | skip
 refine AW.ghost (s' := nk3) (Ghost.trans (Ghost.freeze (lb := 5) (ps := [encTr nN]) rfl (by rfl)) ?_) ?_
 ·simp only [nk2, nk3]
  refine Ghost.sub ?_ ?_ <;> simp -implicitDefEqProofs only [go_sem, ↓reduceIte, Nat.reduceAdd, Nat.reduceMul, Nat.reduceEqDiff, Nat.reduceLeDiff, reduceCtorEq, Int.reduceToNat, thaw, thaw1, Option.map_some, List.map_cons, List.map_nil, List.forall_mem_cons, List.not_mem_nil, false_implies, implies_true, and_self, labsIn_lift, List.all_append, List.all_cons, List.all_nil, Nat.reduceLT, labsInL, AV.labsIn]
  all_goals first | rfl | decide | skip
 refine AW.ghost (s' := nk4) (Ghost.trans (Ghost.freeze (lb := 4) (ps := [encEn (1, [nN])]) rfl (by rfl)) ?_) ?_
 ·simp only [nk3, nk4]
  refine Ghost.sub ?_ ?_ <;> simp -implicitDefEqProofs only [go_sem, ↓reduceIte, Nat.reduceAdd, Nat.reduceMul, Nat.reduceEqDiff, Nat.reduceLeDiff, reduceCtorEq, Int.reduceToNat, thaw, thaw1, Option.map_some, List.map_cons, List.map_nil, List.forall_mem_cons, List.not_mem_nil, false_implies, implies_true, and_self, labsIn_lift, List.all_append, List.all_cons, List.all_nil, Nat.reduceLT, labsInL, AV.labsIn]
  all_goals first | rfl | decide | skip
 simp only [nk4, encEn, encTr_eq, nN, List.map_cons, List.map_nil, Tr.kind, Tr.n, Tr.s, Tr.ents, Tr.rest]
 refine AW.rT (by rfl) fun K hK => ?_
 simp -implicitDefEqProofs only [go_sem, ↓reduceIte, Nat.reduceAdd, Nat.reduceMul, Nat.reduceEqDiff, Nat.reduceLeDiff, reduceCtorEq, Int.reduceToNat]
 refine ⟨.pure _, C1, ?_⟩
 try simp -implicitDefEqProofs only [go_sem, ↓reduceIte, Nat.reduceAdd, Nat.reduceMul, Nat.reduceEqDiff, Nat.reduceLeDiff, reduceCtorEq, Int.reduceToNat]
 refine hK _ ?_; clear hK K
 refine AW.rT (by rfl) fun K hK => ?_
 simp -implicitDefEqProofs only [go_sem, ↓reduceIte, Nat.reduceAdd, Nat.reduceMul, Nat.reduceEqDiff, Nat.reduceLeDiff, reduceCtorEq, Int.reduceToNat]
 refine ⟨.pure _, C2, ?_⟩
 try simp -implicitDefEqProofs only [go_sem, ↓reduceIte, Nat.reduceAdd, Nat.reduceMul, Nat.reduceEqDiff, Nat.reduceLeDiff, reduceCtorEq, Int.reduceToNat]
 refine ⟨.pure _, C3, ?_⟩
 try simp -implicitDefEqProofs only [go_sem, ↓reduceIte, Nat.reduceAdd, Nat.reduceMul, Nat.reduceEqDiff, Nat.reduceLeDiff, reduceCtorEq, Int.reduceToNat]
 have w1 : (((1 : Nat) : Int) == 1) = true := rfl
 have w2 : (0 : Int) < ((1 : Nat) : Int) := by decide
 simp -implicitDefEqProofs only [go_sem, ↓reduceIte, Nat.reduceAdd, Nat.reduceMul, Nat.reduceEqDiff, Nat.reduceLeDiff, reduceCtorEq, Int.reduceToNat, w1, w2, Int.le_refl, true_and, List.getD_cons_zero, List.length_cons, List.length_nil, List.getElem?_cons_zero]
 refine hK _ ?_; clear hK K
 refine AW.ret ?_
 simp -implicitDefEqProofs only [go_sem, ↓reduceIte, Nat.reduceAdd, Nat.reduceMul, Nat.reduceEqDiff, Nat.reduceLeDiff, reduceCtorEq, Int.reduceToNat]
end Go.Aw.T
namespace Go.Aw.T
open Go.Proofs
set_option linter.unusedSimpArgs false
set_option linter.unusedVariables false
def bareN (e : Int × List Tr) : Int × List Tr := (e.1, e.2.map bareT)
theorem bare_enc (x : Tr) : encTr (bareT x) = [.int .i64 x.kind, .int .i64 x.n, .str x.s, .slice ((x.ents.map bareN).map encEn), .slice []] := by
 rw [bareT_mk, encTr_eq]
 rfl
def bx (t : Tr) (i : Nat) : St := ⟨ofL [(1, .ptr 0 0 0), (2, .ptr 1 0 0), (3, .ptr 2 0 0), (4, .p (.int .i64 (i : Int)))],
 ofH [(0, .row 5 [cellsT t]), (1, .row 5 [[.p (.int .i64 0), .p (.int .i64 0), .p (.str []), .ex [], .ex []]]), (2, .row 5 [[.p (.int .i64 t.kind), .p (.int .i64 t.n), .p (.str t.s), .own 3, .ex []]]),
  (3, .row 2 (liftE (((t.ents.map bareN).take i).map encEn)))], 4⟩
def bz (t : Tr) (i : Nat) (e : Int × List Tr) : St := ⟨ofL [(1, .ptr 0 0 0), (2, .ptr 1 0 0), (3, .ptr 2 0 0), (4, .p (.int .i64 (i : Int))), (5, .ptr 4 0 0)],
 ofH [(0, .row 5 [cellsT t]), (1, .row 5 [[.p (.int .i64 0), .p (.int .i64 0), .p (.str []), .ex [], .ex []]]), (2, .row 5 [[.p (.int .i64 t.kind), .p (.int .i64 t.n), .p (.str t.s), .own 3, .ex []]]),
  (3, .row 2 (liftE (((t.ents.map bareN).take i).map encEn))), (4, .row 2 [[.p (.int .i64 e.1), .p (.slice ((e.2.map bareT).map encTr))]])], 5⟩
theorem map_at {α β : Type} {f : α → β} {l : List α} {i : Nat} {x : α} (h : l[i]? = some x) : (l.map f)[i]? = some (f x) := by rw [List.getElem?_map, h]; rfl
end Go.Aw.T
namespace Go.Aw.T
open Go.Proofs
set_option linter.unusedSimpArgs false
set_option linter.unusedVariables false
def cx (t : Tr) (i : Nat) (l : List (Nat × AV)) (h : List (Nat × Blk)) (n : Nat) : St := ⟨ofL ((1, .ptr 0 0 0) :: (2, .ptr 1 0 0) :: (3, .own 2) :: (11, .p (.slice (t.ents.map encEn))) :: (12, .p (.int .i64 (t.ents.length : Int))) :: (13, .p (.int .i64 (i : Int))) :: l),
 ofH ((0, .row 5 [[.p (.int .i64 t.kind), .p (.int .i64 t.n), .p (.str t.s), .p (.slice (t.ents.map encEn)), .ex []]]) :: (1, .row 5 [[.p (.int .i64 0), .p (.int .i64 0), .p (.str []), .ex [], .ex []]]) ::
  (2, .row 2 (liftE (((t.ents.map bareN).take i).map encEn))) :: h), n⟩
def cyL (e : Int × List Tr) (k : Nat) : List (Nat × AV) := [(6, .ptr 3 0 0), (21, .p (.slice (e.2.map encTr))), (22, .p (.int .i64 (e.2.length : Int))), (23, .p (.int .i64 (k : Int)))]
def cyH (e : Int × List Tr) (k : Nat) : List (Nat × Blk) := [(3, .row 2 [[.p (.int .i64 e.1), .own 4]]), (4, .row 5 (liftE (((e.2.map bareT).take k).map encTr)))]
def czH (e : Int × List Tr) : List (Nat × Blk) := [(3, .row 2 [[.p (.int .i64 e.1), .p (.slice ((e.2.map bareT).map encTr))]])]
def cw (t : Tr) : St := ⟨ofL [(1, .ptr 0 0 0), (2, .ptr 1 0 0), (3, .p (.slice ((t.ents.map bareN).map encEn)))],
 ofH [(0, .row 5 [[.p (.int .i64 t.kind), .p (.int .i64 t.n), .p (.str t.s), .p (.slice (t.ents.map encEn)), .ex []]]), (1, .row 5 [[.p (.int .i64 0), .p (.int .i64 0), .p (.str []), .ex [], .ex []]])], 3⟩
set_option maxRecDepth 100000 in
set_option maxHeartbeats 4000000 in
theorem valid_Bare : ∀ (t : Tr), lensT t = true → PFn Tryd.prog 39 [.agg (encTr t)] (.agg (encTr (bareT t))) := by
 intro t
 induction h : SizeOf.sizeOf t using Nat.strongRecOn generalizing t with
 | _ sz ih =>
 subst h
 intro hlt
 obtain ⟨la1, la2, la3⟩ := lensT_mk hlt
 refine PFn.of Tryd.func39 rfl (by decide) Tryd.ntmps39 Tryd.results39 (Nat.le_of_ble_eq_true rfl) ?_
 simp only [argsT]
 refine AW.rT (by rfl) fun K hK => ?_
 simp -implicitDefEqProofs only [go_sem, ↓reduceIte, Nat.reduceAdd, Nat.reduceMul, Nat.reduceEqDiff, Nat.reduceLeDiff, reduceCtorEq, Int.reduceToNat, encTr_eq]
 refine hK _ ?_; clear hK K
 refine AW.rT (by rfl) fun K hK => ?_
 simp -implicitDefEqProofs only [go_sem, ↓reduceIte, Nat.reduceAdd, Nat.reduceMul, Nat.reduceEqDiff, Nat.reduceLeDiff, reduceCtorEq, Int.reduceToNat, List.set_cons_zero, List.set_cons_succ]
 refine hK _ ?_; clear hK K
 refine AW.rT (by rfl) fun K hK => ?_
 simp -implicitDefEqProofs only [go_sem, ↓reduceIte, Nat.reduceAdd, Nat.reduceMul, Nat.reduceEqDiff, Nat.reduceLeDiff, reduceCtorEq, Int.reduceToNat]
 refine hK _ ?_; clear hK K
 refine AW.seq ?_
 refine AW.rT (by rfl) fun K hK => ?_
 simp -implicitDefEqProofs only [go_sem, ↓reduceIte, Nat.reduceAdd, Nat.reduceMul, Nat.reduceEqDiff, Nat.reduceLeDiff, reduceCtorEq, Int.reduceToNat, List.length_map]
 refine hK _ ?_; clear hK K
 refine AW.block ?_
 refine AW.loop (fun i => cx t i [] [] 3) (fun i => i ≤ t.ents.length) (fun i => t.ents.length - i) 0 ?_ (by simp) fun i hi => ?_
 ·refine Ghost.trans (Ghost.nil (t := 3) (sz := 2) rfl) ?_
  simp only [cx]
  refine Ghost.ent (fun l => if l = 2 then 9 else l) ?_ ?_ ?_ <;> simp -implicitDefEqProofs only [go_sem, ↓reduceIte, Nat.reduceAdd, Nat.reduceMul, Nat.reduceEqDiff, Nat.reduceLeDiff, reduceCtorEq, Int.reduceToNat, List.take_zero, List.map_nil, liftE_nil, List.set_cons_zero, List.set_cons_succ, List.forall_mem_cons, List.not_mem_nil, false_implies, implies_true, and_self, map_renL_lift, labsIn_lift, List.all_append, List.all_cons, List.all_nil, List.map_append, Nat.reduceLT, labsInL, AV.labsIn]
  all_goals first | rfl | simp | skip
 simp only [cx]
 by_cases hil : i < t.ents.length
 ·obtain ⟨e, he⟩ : ∃ e, t.ents[i]? = some e := ⟨_, List.getElem?_eq_getElem hil⟩
  have ⟨he1, he2, he3⟩ := at_map' encEn he
  have ⟨le1, le2⟩ := lensE_at la3 he
  have hc1 : ((i : Int) < (t.ents.length : Int)) = True := by simp; omega
  refine AW.rT (by rfl) fun K hK => ?_
  simp -implicitDefEqProofs only [go_sem, ↓reduceIte, Nat.reduceAdd, Nat.reduceMul, Nat.reduceEqDiff, Nat.reduceLeDiff, reduceCtorEq, Int.reduceToNat, hc1]
  refine hK _ ?_; clear hK K
  refine AW.seq ?_
  refine AW.cond _ (by simp -implicitDefEqProofs only [go_sem, ↓reduceIte, Nat.reduceAdd, Nat.reduceMul, Nat.reduceEqDiff, Nat.reduceLeDiff, reduceCtorEq, Int.reduceToNat]; rfl) (fun hc => ?_) (fun hc => ?_)
  rotate_left
  ·simp at hc
  refine AW.skip ?_
  simp only [andThen, inBlk, reduceCtorEq, ↓reduceIte, if_t, if_f]
  refine AW.seq ?_
  refine AW.block ?_
  refine AW.rT (by rfl) fun K hK => ?_
  simp -implicitDefEqProofs only [go_sem, ↓reduceIte, Nat.reduceAdd, Nat.reduceMul, Nat.reduceEqDiff, Nat.reduceLeDiff, reduceCtorEq, Int.reduceToNat, he1, he2, he3, hc1, encEn, List.length_map]
  refine hK _ ?_; clear hK K
  refine AW.rT (by rfl) fun K hK => ?_
  simp -implicitDefEqProofs only [go_sem, ↓reduceIte, Nat.reduceAdd, Nat.reduceMul, Nat.reduceEqDiff, Nat.reduceLeDiff, reduceCtorEq, Int.reduceToNat]
  refine hK _ ?_; clear hK K
  refine AW.seq ?_
  refine AW.rT (by rfl) fun K hK => ?_
  simp -implicitDefEqProofs only [go_sem, ↓reduceIte, Nat.reduceAdd, Nat.reduceMul, Nat.reduceEqDiff, Nat.reduceLeDiff, reduceCtorEq, Int.reduceToNat, List.length_map]
  refine hK _ ?_; clear hK K
  refine AW.block ?_
  refine AW.loop (fun k => cx t i (cyL e k) (cyH e k) 5) (fun k => k ≤ e.2.length) (fun k => e.2.length - k) 0 ?_ (by simp) fun k hk => ?_
  ·refine Ghost.trans (Ghost.nilH (l := 11) (i := 0) (j := 1) (sz' := 5) rfl rfl rfl) ?_
   simp only [cx, cyL, cyH]
   refine Ghost.ent (fun l => if l = 3 then 11 else if l = 4 then 17 else l) ?_ ?_ ?_ <;> simp -implicitDefEqProofs only [go_sem, ↓reduceIte, Nat.reduceAdd, Nat.reduceMul, Nat.reduceEqDiff, Nat.reduceLeDiff, reduceCtorEq, Int.reduceToNat, List.take_zero, List.map_nil, liftE_nil, List.set_cons_zero, List.set_cons_succ, List.forall_mem_cons, List.not_mem_nil, false_implies, implies_true, and_self, map_renL_lift, labsIn_lift, List.all_append, List.all_cons, List.all_nil, List.map_append, Nat.reduceLT, labsInL, AV.labsIn]
   all_goals first | rfl | simp | skip
  simp only [cx, cyL, cyH]
  by_cases hkl : k < e.2.length
  ·obtain ⟨x, hx⟩ : ∃ x, e.2[k]? = some x := ⟨_, List.getElem?_eq_getElem hkl⟩
   have ⟨hx1, hx2, hx3⟩ := at_map' encTr hx
   have hc2 : ((k : Int) < (e.2.length : Int)) = True := by simp; omega
   have IH := ih _ (size_ent he hx) x rfl (lensTs_at le2 hx)
   rw [encTr_eq x, bare_enc] at IH
   refine AW.rT (by rfl) fun K hK => ?_
   simp -implicitDefEqProofs only [go_sem, ↓reduceIte, Nat.reduceAdd, Nat.reduceMul, Nat.reduceEqDiff, Nat.reduceLeDiff, reduceCtorEq, Int.reduceToNat, hc2]
   refine hK _ ?_; clear hK K
   refine AW.seq ?_
   refine AW.cond _ (by simp -implicitDefEqProofs only [go_sem, ↓reduceIte, Nat.reduceAdd, Nat.reduceMul, Nat.reduceEqDiff, Nat.reduceLeDiff, reduceCtorEq, Int.reduceToNat]; rfl) (fun hc => ?_) (fun hc => ?_)
   rotate_left
   ·simp at hc
   refine AW.skip ?_
   simp only [andThen, inBlk, reduceCtorEq, ↓reduceIte, if_t, if_f]
   refine AW.seq ?_
   refine AW.block ?_
   refine AW.rT (by rfl) fun K hK => ?_
   simp -implicitDefEqProofs only [go_sem, ↓reduceIte, Nat.reduceAdd, Nat.reduceMul, Nat.reduceEqDiff, Nat.reduceLeDiff, reduceCtorEq, Int.reduceToNat, hc2, hx1, hx2, hx3, encTr_eq, List.length_map]
   refine hK _ ?_; clear hK K
   refine AW.dE mixed (by rfl) (by decide +kernel) fun K hK => ?_
   simp -implicitDefEqProofs only [go_sem, ↓reduceIte, Nat.reduceAdd, Nat.reduceMul, Nat.reduceEqDiff, Nat.reduceLeDiff, reduceCtorEq, Int.reduceToNat]
   refine ⟨.pure _, IH, ?_⟩
   try simp -implicitDefEqProofs only [go_sem, ↓reduceIte, Nat.reduceAdd, Nat.reduceMul, Nat.reduceEqDiff, Nat.reduceLeDiff, reduceCtorEq, Int.reduceToNat]
   refine ⟨⟨by simp, by simp [oneAll, AV.one, PV.one], by simp⟩, by simp [liftE_length]; omega, by decide +kernel, ?_⟩
   refine hK _ ?_; clear hK K
   simp only [andThen, inBlk, reduceCtorEq, ↓reduceIte, if_t, if_f]
   have w1 : IntKind.wrap .i64 ((k : Int) + 1) = ((k + 1 : Nat) : Int) := by rw [w64] <;> omega
   have e7 : liftE (((e.2.map bareT).take k).map encTr) ++ [[AV.p (.int .i64 x.kind), .p (.int .i64 x.n), .p (.str x.s), .p (.slice ((x.ents.map bareN).map encEn)), .p (.slice [])]] = liftE (((e.2.map bareT).take (k + 1)).map encTr) := by
    rw [List.take_add_one, map_at hx]
    simp [liftE, bare_enc]
   refine AW.rE (by rfl) fun K hK => ?_
   simp -implicitDefEqProofs only [go_sem, ↓reduceIte, Nat.reduceAdd, Nat.reduceMul, Nat.reduceEqDiff, Nat.reduceLeDiff, reduceCtorEq, Int.reduceToNat, w1]
   refine hK _ ?_; clear hK K
   refine ⟨k + 1, by omega, by omega, ?_⟩
   show Ghost _ _ (cx t i (cyL e (k + 1)) (cyH e (k + 1)) 5)
   simp only [cx, cyL, cyH]
   rw [← e7]
   refine Ghost.ent (fun l => if l = 4 then 15 else l) ?_ ?_ ?_ <;> simp -implicitDefEqProofs only [go_sem, ↓reduceIte, Nat.reduceAdd, Nat.reduceMul, Nat.reduceEqDiff, Nat.reduceLeDiff, reduceCtorEq, Int.reduceToNat, List.set_cons_zero, List.set_cons_succ, List.forall_mem_cons, List.not_mem_nil, false_implies, implies_true, and_self, map_renL_lift, labsIn_lift, List.all_append, List.all_cons, List.all_nil, List.map_append, Nat.reduceLT, labsInL, AV.labsIn]
   all_goals first | rfl | skip
  ·have hc2 : ((k : Int) < (e.2.length : Int)) = False := by simp; omega
   have hk' : k = e.2.length := by omega
   subst hk'
   refine AW.rT (by rfl) fun K hK => ?_
   simp -implicitDefEqProofs only [go_sem, ↓reduceIte, Nat.reduceAdd, Nat.reduceMul, Nat.reduceEqDiff, Nat.reduceLeDiff, reduceCtorEq, Int.reduceToNat, hc2]
   refine hK _ ?_; clear hK K
   refine AW.seq ?_
   refine AW.cond _ (by simp -implicitDefEqProofs only [go_sem, ↓reduceIte, Nat.reduceAdd, Nat.reduceMul, Nat.reduceEqDiff, Nat.reduceLeDiff, reduceCtorEq, Int.reduceToNat]; rfl) (fun hc => ?_) (fun hc => ?_)
   ·simp at hc
   refine AW.exit ?_
   simp only [andThen, inBlk, reduceCtorEq, ↓reduceIte, if_t, if_f]
   refine AW.ghost (s' := cx t i [(6, .ptr 3 0 0)] (czH e) 4) (Ghost.trans (Ghost.freeze (lb := 4) (ps := ((e.2.map bareT).take e.2.length).map encTr) rfl (unlift_liftE _)) ?_) ?_
   ·rw [List.take_of_length_le (by simp)]
    simp only [cx, czH]
    refine Ghost.sub ?_ ?_ <;> simp -implicitDefEqProofs only [go_sem, ↓reduceIte, Nat.reduceAdd, Nat.reduceMul, Nat.reduceEqDiff, Nat.reduceLeDiff, reduceCtorEq, Int.reduceToNat, thaw, thaw1, Option.map_some, List.map_cons, List.map_nil, thaw_lift, List.forall_mem_cons, List.not_mem_nil, false_implies, implies_true, and_self, labsIn_lift, List.all_append, List.all_cons, List.all_nil, Nat.reduceLT, labsInL, AV.labsIn]
    done
   simp only [cx, czH]
   refine AW.rE (by rfl) fun K hK => ?_
   simp -implicitDefEqProofs only [go_sem, ↓reduceIte, Nat.reduceAdd, Nat.reduceMul, Nat.reduceEqDiff, Nat.reduceLeDiff, reduceCtorEq, Int.reduceToNat]
   refine ⟨⟨by simp, by simp [oneAll, AV.one, PV.one], by simp⟩, by simp [liftE_length]; omega, ?_⟩
   refine hK _ ?_; clear hK K
   simp only [andThen, inBlk, reduceCtorEq, ↓reduceIte, if_t, if_f]
   have w1 : IntKind.wrap .i64 ((i : Int) + 1) = ((i + 1 : Nat) : Int) := by rw [w64] <;> omega
   have e8 : liftE (((t.ents.map bareN).take i).map encEn) ++ [[AV.p (.int .i64 e.1), .p (.slice ((e.2.map bareT).map encTr))]] = liftE (((t.ents.map bareN).take (i + 1)).map encEn) := by
    rw [List.take_add_one, map_at he]
    simp [liftE, encEn, bareN]
   refine AW.rE (by rfl) fun K hK => ?_
   simp -implicitDefEqProofs only [go_sem, ↓reduceIte, Nat.reduceAdd, Nat.reduceMul, Nat.reduceEqDiff, Nat.reduceLeDiff, reduceCtorEq, Int.reduceToNat, w1]
   refine hK _ ?_; clear hK K
   refine ⟨i + 1, by omega, by omega, ?_⟩
   show Ghost _ _ (cx t (i + 1) [] [] 3)
   simp only [cx]
   rw [← e8]
   refine Ghost.ent (fun l => if l = 2 then 7 else l) ?_ ?_ ?_ <;> simp -implicitDefEqProofs only [go_sem, ↓reduceIte, Nat.reduceAdd, Nat.reduceMul, Nat.reduceEqDiff, Nat.reduceLeDiff, reduceCtorEq, Int.reduceToNat, List.set_cons_zero, List.set_cons_succ, List.forall_mem_cons, List.not_mem_nil, false_implies, implies_true, and_self, map_renL_lift, labsIn_lift, List.all_append, List.all_cons, List.all_nil, List.map_append, Nat.reduceLT, labsInL, AV.labsIn]
   all_goals first | rfl | skip
 ·have hc1 : ((i : Int) < (t.ents.length : Int)) = False := by simp; omega
  have hi' : i = t.ents.length := by omega
  subst hi'
  refine AW.rT (by rfl) fun K hK => ?_
  simp -implicitDefEqProofs only [go_sem, ↓reduceIte, Nat.reduceAdd, Nat.reduceMul, Nat.reduceEqDiff, Nat.reduceLeDiff, reduceCtorEq, Int.reduceToNat, hc1]
  refine hK _ ?_; clear hK K
  refine AW.seq ?_
  refine AW.cond _ (by simp -implicitDefEqProofs only [go_sem, ↓reduceIte, Nat.reduceAdd, Nat.reduceMul, Nat.reduceEqDiff, Nat.reduceLeDiff, reduceCtorEq, Int.reduceToNat]; rfl) (fun hc => ?_) (fun hc => ?_)
  ·simp at hc
  refine AW.exit ?_
  simp only [andThen, inBlk, reduceCtorEq, ↓reduceIte, if_t, if_f]
  refine AW.ghost (s' := cw t) (Ghost.trans (Ghost.freeze (lb := 2) (ps := ((t.ents.map bareN).take t.ents.length).map encEn) rfl (unlift_liftE _)) ?_) ?_
  ·rw [List.take_of_length_le (by simp)]
   simp only [cw]
   refine Ghost.sub ?_ ?_ <;> simp -implicitDefEqProofs only [go_sem, ↓reduceIte, Nat.reduceAdd, Nat.reduceMul, Nat.reduceEqDiff, Nat.reduceLeDiff, reduceCtorEq, Int.reduceToNat, thaw, thaw1, Option.map_some, List.map_cons, List.map_nil, List.forall_mem_cons, List.not_mem_nil, false_implies, implies_true, and_self, labsIn_lift, List.all_append, List.all_cons, List.all_nil, Nat.reduceLT, labsInL, AV.labsIn]
   done
  simp only [cw]
  refine AW.rT (by rfl) fun K hK => ?_
  simp -implicitDefEqProofs only [go_sem, ↓reduceIte, Nat.reduceAdd, Nat.reduceMul, Nat.reduceEqDiff, Nat.reduceLeDiff, reduceCtorEq, Int.reduceToNat, List.set_cons_zero, List.set_cons_succ]
  refine hK _ ?_; clear hK K
  refine AW.rT (by rfl) fun K hK => ?_
  simp -implicitDefEqProofs only [go_sem, ↓reduceIte, Nat.reduceAdd, Nat.reduceMul, Nat.reduceEqDiff, Nat.reduceLeDiff, reduceCtorEq, Int.reduceToNat]
  refine hK _ ?_; clear hK K
  refine AW.ret ?_
  simp -implicitDefEqProofs only [go_sem, ↓reduceIte, Nat.reduceAdd, Nat.reduceMul, Nat.reduceEqDiff, Nat.reduceLeDiff, reduceCtorEq, Int.reduceToNat, bare_enc]
  done
end Go.Aw.T
namespace Go.Aw.T
open Go.Proofs
set_option linter.unusedSimpArgs false
set_option linter.unusedVariables false
theorem lensTs_iff : ∀ {l : List Tr}, lensTs l = true ↔ ∀ x ∈ l, lensT x = true
 | [] => by simp [lensTs]
 | x :: l => by rw [lensTs, Bool.and_eq_true, lensTs_iff]; simp
theorem lensE_iff : ∀ {es : List (Int × List Tr)}, lensE es = true ↔ ∀ e ∈ es, e.2.length ≤ 1000 ∧ lensTs e.2 = true
 | [] => by simp [lensE]
 | (g, l) :: es => by
  rw [lensE, Bool.and_eq_true, Bool.and_eq_true, decide_eq_true_eq, lensE_iff]
  simp
theorem bare_lens : ∀ (t : Tr), lensT t = true → lensT (bareT t) = true := by
 intro t
 induction h : SizeOf.sizeOf t using Nat.strongRecOn generalizing t with
 | _ sz ih =>
 subst h
 intro hl
 obtain ⟨l1, l2, l3⟩ := lensT_mk hl
 rw [bareT_mk, lensT]
 simp only [List.length_nil, Nat.zero_le, decide_true, Bool.true_and, Bool.and_eq_true, decide_eq_true_eq, List.length_map]
 refine ⟨l2, lensE_iff.2 fun e he => ?_⟩
 obtain ⟨e, hm, rfl⟩ := List.mem_map.1 he
 obtain ⟨a1, a2⟩ := lensE_iff.1 l3 e hm
 refine ⟨by simpa using a1, lensTs_iff.2 fun x hx => ?_⟩
 simp only at hx
 obtain ⟨x, hn, rfl⟩ := List.mem_map.1 hx
 obtain ⟨i, hi⟩ := List.getElem?_of_mem hm
 obtain ⟨j, hj⟩ := List.getElem?_of_mem hn
 exact ih _ (size_ent hi hj) x rfl (lensTs_iff.1 a2 x hn)
theorem bare_str : ∀ (t : Tr), strT t = true → strT (bareT t) = true := by
 intro t
 induction h : SizeOf.sizeOf t using Nat.strongRecOn generalizing t with
 | _ sz ih =>
 subst h
 intro hl
 obtain ⟨l1, l2⟩ := strT_mk hl
 rw [bareT_mk, strT, Bool.and_eq_true, decide_eq_true_eq]
 refine ⟨l1, strE_iff.2 fun e he => ?_⟩
 obtain ⟨e, hm, rfl⟩ := List.mem_map.1 he
 refine strTs_iff.2 fun x hx => ?_
 simp only at hx
 obtain ⟨x, hn, rfl⟩ := List.mem_map.1 hx
 obtain ⟨i, hi⟩ := List.getElem?_of_mem hm
 obtain ⟨j, hj⟩ := List.getElem?_of_mem hn
 exact ih _ (size_ent hi hj) x rfl (l2 e hm x hn)
theorem same_self (t : Tr) : sameT t t = true := (sameT_iff t t).2 rfl
theorem same_of {a b : Tr} {f : FuncId} (h : PFn Tryd.prog f [.agg (encTr a), .agg (encTr b)] (.bool (sameT a b))) (e : a = b) : PFn Tryd.prog f [.agg (encTr a), .agg (encTr b)] (.bool true) := by
 rw [e] at h ⊢
 rwa [same_self] at h
end Go.Aw.T
namespace Go.Aw.T
theorem big_of {S : Sc} (G : GSc S) : bigS S := ⟨G.name, fun m hm => (G.msgs.2 m hm).name⟩
end Go.Aw.T
namespace Go.Aw.T
open Go.Proofs
set_option linter.unusedSimpArgs false
set_option linter.unusedVariables false
theorem bare_bare : ∀ (t : Tr), bareT (bareT t) = bareT t := by
 intro t
 induction h : SizeOf.sizeOf t using Nat.strongRecOn generalizing t with
 | _ sz ih =>
 subst h
 rw [bareT_mk t, bareT_mk]
 simp only [Tr.kind, Tr.n, Tr.s, Tr.ents, List.map_map]
 congr 1
 refine List.map_congr_left fun e he => ?_
 simp only [Function.comp, List.map_map, Prod.mk.injEq, true_and]
 refine List.map_congr_left fun x hx => ?_
 obtain ⟨i, hi⟩ := List.getElem?_of_mem he
 obtain ⟨j, hj⟩ := List.getElem?_of_mem hx
 exact ih _ (size_ent hi hj) x rfl
theorem bare_kind (t : Tr) : (bareT t).kind = t.kind ∧ (bareT t).n = t.n ∧ (bareT t).s = t.s ∧ (bareT t).rest = [] := by
 rw [bareT_mk]
 exact ⟨rfl, rfl, rfl, rfl⟩
theorem bare_ents (t : Tr) : (bareT t).ents = t.ents.map fun e => (e.1, e.2.map bareT) := by
 rw [bareT_mk]
 rfl
theorem bare_d : ∀ (t : Tr) (q : Nat), dT (bareT t) q = dT t q := by
 intro t
 induction h : SizeOf.sizeOf t using Nat.strongRecOn generalizing t with
 | _ sz ih =>
 subst h
 intro q
 have ts : ∀ {l : List Tr} {m d : Nat}, (∀ x ∈ l, ∀ q, dT (bareT x) q = dT x q) → dTs (l.map bareT) m d = dTs l m d := fun {l} => by
  induction l with
  | nil => intro m d _; rfl
  | cons a l ih =>
   intro m d h
   rw [List.map_cons, dTs, dTs, h a (List.mem_cons_self)]
   exact ih fun x hx => h x (List.mem_cons_of_mem _ hx)
 have es : ∀ {l : List (Int × List Tr)} {m d : Nat}, (∀ e ∈ l, ∀ x ∈ e.2, ∀ q, dT (bareT x) q = dT x q) → dE (l.map fun e => (e.1, e.2.map bareT)) m d = dE l m d := fun {l} => by
  induction l with
  | nil => intro m d _; rfl
  | cons a l ih =>
   obtain ⟨g, r⟩ := a
   intro m d h
   rw [List.map_cons, dE, dE, ts (h (g, r) (List.mem_cons_self))]
   exact ih fun x hx => h x (List.mem_cons_of_mem _ hx)
 rw [dT_mk, dT_mk t, (bare_kind t).1, bare_ents]
 rw [es fun e he x hx => by
  obtain ⟨i, hi⟩ := List.getElem?_of_mem he
  obtain ⟨j, hj⟩ := List.getElem?_of_mem hx
  exact ih _ (size_ent hi hj) x rfl]
theorem bare_right : ∀ (t : Tr), rightT t = true → rightT (bareT t) = true := by
 intro t
 induction h : SizeOf.sizeOf t using Nat.strongRecOn generalizing t with
 | _ sz ih =>
 subst h
 intro hr
 have ts : ∀ {l : List Tr} {k : Int}, (∀ x ∈ l, rightT x = true → rightT (bareT x) = true) → rightTs l k = true → rightTs (l.map bareT) k = true := fun {l} => by
  induction l with
  | nil => intro k _ _; rw [List.map_nil, rightTs]
  | cons a l ih =>
   intro k h h2
   rw [rightTs] at h2
   split at h2
   ·cases h2
   rename_i hk
   split at h2
   ·rename_i h3
    rw [List.map_cons, rightTs, (bare_kind a).1, if_neg hk, if_pos (h a (List.mem_cons_self) h3)]
    exact ih (fun x hx => h x (List.mem_cons_of_mem _ hx)) h2
   ·cases h2
 have hk : ∀ l : List Tr, headK (l.map bareT) = headK l := fun l => by
  cases l with
  | nil => rfl
  | cons a l => rw [List.map_cons, headK, headK, (bare_kind a).1]
 have es : ∀ {l : List (Int × List Tr)} {k : Int}, (∀ e ∈ l, ∀ x ∈ e.2, rightT x = true → rightT (bareT x) = true) → rightE l k = true → rightE (l.map fun e => (e.1, e.2.map bareT)) k = true := fun {l} => by
  induction l with
  | nil => intro k _ _; rw [List.map_nil, rightE]
  | cons a l ih =>
   obtain ⟨g, r⟩ := a
   intro k h h2
   rw [rightE] at h2
   split at h2
   ·cases h2
   rename_i h3
   split at h2
   ·rename_i h4
    rw [List.map_cons, rightE, if_neg (by simpa using h3), hk, if_pos (ts (h (g, r) (List.mem_cons_self)) h4)]
    exact ih (fun x hx => h x (List.mem_cons_of_mem _ hx)) h2
   ·cases h2
 rw [rightT_mk] at hr ⊢
 obtain ⟨b1, b2, b3, b4⟩ := bare_kind t
 rw [b1, b2, b3, b4]
 have be : (bareT t).ents = t.ents.map fun e => (e.1, e.2.map bareT) := by rw [bareT_mk]; rfl
 rw [be]
 by_cases k1 : t.kind = 1
 ·rw [if_pos k1] at hr ⊢
  simp only [Bool.and_eq_true, List.isEmpty_iff, decide_eq_true_eq] at hr
  rw [hr.1.1, hr.1.2]
  rfl
 rw [if_neg k1] at hr ⊢
 by_cases k2 : t.kind = 2
 ·rw [if_pos k2] at hr ⊢
  simp only [Bool.and_eq_true, List.isEmpty_iff, decide_eq_true_eq] at hr
  rw [hr.1.1, hr.1.2]
  rfl
 rw [if_neg k2] at hr ⊢
 by_cases k3 : t.kind = 3
 ·rw [if_pos k3] at hr ⊢
  simp only [Bool.and_eq_true, decide_eq_true_eq] at hr ⊢
  refine ⟨⟨hr.1.1, es (fun e he x hx => ?_) hr.1.2⟩, rfl⟩
  obtain ⟨i, hi⟩ := List.getElem?_of_mem he
  obtain ⟨j, hj⟩ := List.getElem?_of_mem hx
  exact ih _ (size_ent hi hj) x rfl
 ·rw [if_neg k3] at hr
  cases hr
def or12 (x : Int) : Prop := x = 0 ∨ x = 12
theorem or12_or {a b : Int} (ha : or12 a) (hb : or12 b) : or12 (orE a b) := by
 unfold orE
 split
 ·exact ha
 ·exact hb
theorem bare_msg (S : Sc) : ∀ (t : Tr) (m : Ms), msgV S m t = 0 → or12 (msgV S m (bareT t)) := by
 intro t
 induction h : SizeOf.sizeOf t using Nat.strongRecOn generalizing t with
 | _ sz ih =>
 subst h
 intro m hm
 have one : ∀ (f : Fd) (x : Tr), (∀ m, msgV S m x = 0 → or12 (msgV S m (bareT x))) → oneV S f x = 0 → or12 (oneV S f (bareT x)) := fun f x hx h => by
  unfold oneV at h ⊢
  obtain ⟨h1, h2⟩ := orE_eq.1 h
  obtain ⟨h2, h3⟩ := orE_eq.1 h2
  have e : fitV f.ty (bareT x) = fitV f.ty x := by
   unfold fitV
   rw [(bare_kind x).1, (bare_kind x).2.1, (bare_kind x).2.2.1]
  rw [e, h1, orE_0]
  refine or12_or ?_ ?_
  ·by_cases k7 : f.ty.kind = 7
   ·rw [if_pos k7] at h2 ⊢
    exact hx _ h2
   ·rw [if_neg k7]
    exact .inl rfl
  ·split
   ·exact .inr rfl
   ·exact .inl rfl
 have ts : ∀ {l : List Tr} {f : Fd}, (∀ x ∈ l, ∀ m, msgV S m x = 0 → or12 (msgV S m (bareT x))) → oneL S f l = 0 → or12 (oneL S f (l.map bareT)) := fun {l} => by
  induction l with
  | nil => intro f _ _; rw [List.map_nil, oneL]; exact .inl rfl
  | cons a l ih =>
   intro f h h2
   rw [oneL_cons] at h2
   obtain ⟨h3, h4⟩ := orE_eq.1 h2
   rw [List.map_cons, oneL_cons]
   exact or12_or (one f a (h a (List.mem_cons_self)) h3) (ih (fun x hx => h x (List.mem_cons_of_mem _ hx)) h4)
 have es : ∀ {l : List (Int × List Tr)}, (∀ e ∈ l, ∀ x ∈ e.2, ∀ m, msgV S m x = 0 → or12 (msgV S m (bareT x))) → entV S m l = 0 → or12 (entV S m (l.map fun e => (e.1, e.2.map bareT))) := fun {l} => by
  induction l with
  | nil => intro _ _; rw [List.map_nil, entV]; exact .inl rfl
  | cons a l ih =>
   obtain ⟨g, r⟩ := a
   intro h h2
   rw [entV] at h2
   split at h2
   ·cases h2
   rename_i h3
   split at h2
   ·cases h2
   rename_i h4
   obtain ⟨h5, h6⟩ := orE_eq.1 h2
   rw [List.map_cons, entV, if_neg h3, if_neg (by simpa using h4)]
   exact or12_or (ts (h (g, r) (List.mem_cons_self)) h5) (ih (fun x hx => h x (List.mem_cons_of_mem _ hx)) h6)
 rw [msgV_mk] at hm ⊢
 obtain ⟨h1, h2⟩ := orE_eq.1 hm
 have be : (bareT t).ents = t.ents.map fun e => (e.1, e.2.map bareT) := by rw [bareT_mk]; rfl
 rw [be, (bare_kind t).2.2.2]
 refine or12_or (es (fun e he x hx => ?_) h1) (.inl rfl)
 obtain ⟨i, hi⟩ := List.getElem?_of_mem he
 obtain ⟨j, hj⟩ := List.getElem?_of_mem hx
 exact ih _ (size_ent hi hj) x rfl
theorem bare_valid {S : Sc} {k : List UInt8} {t : Tr} (h : validV S k t = 0) : or12 (validV S k (bareT t)) := by
 unfold validV at h ⊢
 by_cases h0 : checkC S ≠ 0
 ·rw [if_pos h0] at h; cases h
 rw [if_neg h0] at h ⊢
 by_cases h1 : (msOf S k).2 = false
 ·rw [if_pos h1] at h; cases h
 rw [if_neg h1] at h ⊢
 by_cases h2 : t.kind ≠ 3 ∨ okT t = false
 ·rw [if_pos h2] at h; cases h
 rw [if_neg h2] at h
 have h3 : ¬ ((bareT t).kind ≠ 3 ∨ okT (bareT t) = false) := by
  rw [(bare_kind t).1]
  rintro (a | a)
  ·exact h2 (.inl a)
  ·have ho : okT t = true := by
    cases hq : okT t
    ·exact absurd (.inr hq) h2
    ·rfl
   unfold okT at ho a
   rw [Bool.and_eq_true] at ho
   rw [bare_d, ho.1, bare_right t ho.2] at a
   cases a
 rw [if_neg h3]
 exact bare_msg S t _ h
set_option maxRecDepth 100000 in
set_option maxHeartbeats 8000000 in
theorem law10_ValidBare (S : Sc) (k : List UInt8) (t : Tr) (B : bigS S) : PFn Tryd.prog 8 [.agg (encSc S), .str k, .agg (encTr t)] (.bool true) := by
 have CF := law00_Few S B
 have CS := law00_Small t
 simp only [encSc, encTr_eq] at CF CS
 refine PFn.of Tryd.func8 rfl (by decide) Tryd.ntmps8 Tryd.results8 (Nat.le_of_ble_eq_true rfl) ?_
 simp only [argsT]
 refine AW.rT (by rfl) fun K hK => ?_
 simp -implicitDefEqProofs only [go_sem, ↓reduceIte, Nat.reduceAdd, Nat.reduceMul, Nat.reduceEqDiff, Nat.reduceLeDiff, reduceCtorEq, Int.reduceToNat, encSc, encTr_eq]
 refine hK _ ?_; clear hK K
 refine AW.seq ?_
 cases hf : fewB S with
 | false =>
  rw [hf] at CF
  refine AW.rT (by rfl) fun K hK => ?_
  simp -implicitDefEqProofs only [go_sem, ↓reduceIte, Nat.reduceAdd, Nat.reduceMul, Nat.reduceEqDiff, Nat.reduceLeDiff, reduceCtorEq, Int.reduceToNat]
  refine ⟨.pure _, CF, ?_⟩
  try simp -implicitDefEqProofs only [go_sem, ↓reduceIte, Nat.reduceAdd, Nat.reduceMul, Nat.reduceEqDiff, Nat.reduceLeDiff, reduceCtorEq, Int.reduceToNat]
  refine hK _ ?_; clear hK K
  refine AW.cond _ (by simp -implicitDefEqProofs only [go_sem, ↓reduceIte, Nat.reduceAdd, Nat.reduceMul, Nat.reduceEqDiff, Nat.reduceLeDiff, reduceCtorEq, Int.reduceToNat]; rfl) (fun hc => ?_) (fun hc => ?_)
  rotate_left
  ·simp at hc
  refine AW.rT (by rfl) fun K hK => ?_
  simp -implicitDefEqProofs only [go_sem, ↓reduceIte, Nat.reduceAdd, Nat.reduceMul, Nat.reduceEqDiff, Nat.reduceLeDiff, reduceCtorEq, Int.reduceToNat]
  refine ⟨.pure _, law10_awake, ?_⟩
  try simp -implicitDefEqProofs only [go_sem, ↓reduceIte, Nat.reduceAdd, Nat.reduceMul, Nat.reduceEqDiff, Nat.reduceLeDiff, reduceCtorEq, Int.reduceToNat]
  refine hK _ ?_; clear hK K
  refine AW.ret ?_
  simp -implicitDefEqProofs only [go_sem, ↓reduceIte, Nat.reduceAdd, Nat.reduceMul, Nat.reduceEqDiff, Nat.reduceLeDiff, reduceCtorEq, Int.reduceToNat]
 | true =>
 rw [hf] at CF
 cases hs : smallB t with
 | false =>
  rw [hs] at CS
  refine AW.rT (by rfl) fun K hK => ?_
  simp -implicitDefEqProofs only [go_sem, ↓reduceIte, Nat.reduceAdd, Nat.reduceMul, Nat.reduceEqDiff, Nat.reduceLeDiff, reduceCtorEq, Int.reduceToNat]
  refine ⟨.pure _, CF, ?_⟩
  try simp -implicitDefEqProofs only [go_sem, ↓reduceIte, Nat.reduceAdd, Nat.reduceMul, Nat.reduceEqDiff, Nat.reduceLeDiff, reduceCtorEq, Int.reduceToNat]
  refine ⟨.pure _, CS, ?_⟩
  try simp -implicitDefEqProofs only [go_sem, ↓reduceIte, Nat.reduceAdd, Nat.reduceMul, Nat.reduceEqDiff, Nat.reduceLeDiff, reduceCtorEq, Int.reduceToNat]
  refine hK _ ?_; clear hK K
  refine AW.cond _ (by simp -implicitDefEqProofs only [go_sem, ↓reduceIte, Nat.reduceAdd, Nat.reduceMul, Nat.reduceEqDiff, Nat.reduceLeDiff, reduceCtorEq, Int.reduceToNat]; rfl) (fun hc => ?_) (fun hc => ?_)
  rotate_left
  ·simp at hc
  refine AW.rT (by rfl) fun K hK => ?_
  simp -implicitDefEqProofs only [go_sem, ↓reduceIte, Nat.reduceAdd, Nat.reduceMul, Nat.reduceEqDiff, Nat.reduceLeDiff, reduceCtorEq, Int.reduceToNat]
  refine ⟨.pure _, law10_awake, ?_⟩
  try simp -implicitDefEqProofs only [go_sem, ↓reduceIte, Nat.reduceAdd, Nat.reduceMul, Nat.reduceEqDiff, Nat.reduceLeDiff, reduceCtorEq, Int.reduceToNat]
  refine hK _ ?_; clear hK K
  refine AW.ret ?_
  simp -implicitDefEqProofs only [go_sem, ↓reduceIte, Nat.reduceAdd, Nat.reduceMul, Nat.reduceEqDiff, Nat.reduceLeDiff, reduceCtorEq, Int.reduceToNat]
 | true =>
 rw [hs] at CS
 refine AW.rT (by rfl) fun K hK => ?_
 simp -implicitDefEqProofs only [go_sem, ↓reduceIte, Nat.reduceAdd, Nat.reduceMul, Nat.reduceEqDiff, Nat.reduceLeDiff, reduceCtorEq, Int.reduceToNat]
 refine ⟨.pure _, CF, ?_⟩
 try simp -implicitDefEqProofs only [go_sem, ↓reduceIte, Nat.reduceAdd, Nat.reduceMul, Nat.reduceEqDiff, Nat.reduceLeDiff, reduceCtorEq, Int.reduceToNat]
 refine ⟨.pure _, CS, ?_⟩
 try simp -implicitDefEqProofs only [go_sem, ↓reduceIte, Nat.reduceAdd, Nat.reduceMul, Nat.reduceEqDiff, Nat.reduceLeDiff, reduceCtorEq, Int.reduceToNat]
 refine hK _ ?_; clear hK K
 refine AW.cond _ (by simp -implicitDefEqProofs only [go_sem, ↓reduceIte, Nat.reduceAdd, Nat.reduceMul, Nat.reduceEqDiff, Nat.reduceLeDiff, reduceCtorEq, Int.reduceToNat]; rfl) (fun hc => ?_) (fun hc => ?_)
 ·simp at hc
 refine AW.skip ?_
 simp only [andThen, inBlk, reduceCtorEq, ↓reduceIte, if_t, if_f]
 have F := few_spec hf
 have L := F.lens
 have hl : lensT t = true := lens_small t 0 0 hs
 have hst : strT t = true := str_small t 0 0 hs
 have hbl := bare_lens t hl
 have hbs := bare_str t hst
 have C1 := law00_Schema S F
 have C2 := law00_Tree t hl
 have C3 := valid_Valid S k t L hl hst
 have C4 := valid_Valid S k (bareT t) L hbl hbs
 have C9 := valid_Bare t hl
 have C10 := law00_Tree (bareT t) hbl
 have C11 := valid_Bare (bareT t) hbl
 have C12 := same_of (ref09_Same (bareT t) (bareT t) hbl) rfl
 have BV := bare_valid (S := S) (k := k) (t := t)
 rw [bare_bare] at C11
 generalize validV S k t = v1 at C3 BV
 generalize validV S k (bareT t) = v2 at C4 BV
 simp only [encSc, encTr_eq t, bare_enc] at C1 C2 C3 C4 C9 C10 C11 C12
 refine AW.rT (by rfl) fun K hK => ?_
 simp -implicitDefEqProofs only [go_sem, ↓reduceIte, Nat.reduceAdd, Nat.reduceMul, Nat.reduceEqDiff, Nat.reduceLeDiff, reduceCtorEq, Int.reduceToNat]
 refine ⟨.pure _, C2, ?_⟩
 try simp -implicitDefEqProofs only [go_sem, ↓reduceIte, Nat.reduceAdd, Nat.reduceMul, Nat.reduceEqDiff, Nat.reduceLeDiff, reduceCtorEq, Int.reduceToNat]
 refine ⟨.pure _, C9, ?_⟩
 try simp -implicitDefEqProofs only [go_sem, ↓reduceIte, Nat.reduceAdd, Nat.reduceMul, Nat.reduceEqDiff, Nat.reduceLeDiff, reduceCtorEq, Int.reduceToNat]
 refine hK _ ?_; clear hK K
 refine AW.seq ?_
 refine AW.dT mixed (by rfl) (by decide +kernel) fun K hK => ?_
 simp -implicitDefEqProofs only [go_sem, ↓reduceIte, Nat.reduceAdd, Nat.reduceMul, Nat.reduceEqDiff, Nat.reduceLeDiff, reduceCtorEq, Int.reduceToNat]
 refine ⟨.pure _, C10, ?_⟩
 try simp -implicitDefEqProofs only [go_sem, ↓reduceIte, Nat.reduceAdd, Nat.reduceMul, Nat.reduceEqDiff, Nat.reduceLeDiff, reduceCtorEq, Int.reduceToNat]
 refine ⟨.pure _, C11, ?_⟩
 try simp -implicitDefEqProofs only [go_sem, ↓reduceIte, Nat.reduceAdd, Nat.reduceMul, Nat.reduceEqDiff, Nat.reduceLeDiff, reduceCtorEq, Int.reduceToNat]
 refine ⟨.pure _, C12, ?_⟩
 try simp -implicitDefEqProofs only [go_sem, ↓reduceIte, Nat.reduceAdd, Nat.reduceMul, Nat.reduceEqDiff, Nat.reduceLeDiff, reduceCtorEq, Int.reduceToNat]
 refine ⟨heapOK_nil rfl, ?_⟩
 refine hK _ ?_; clear hK K
 refine AW.cond _ (by simp -implicitDefEqProofs only [go_sem, ↓reduceIte, Nat.reduceAdd, Nat.reduceMul, Nat.reduceEqDiff, Nat.reduceLeDiff, reduceCtorEq, Int.reduceToNat]; rfl) (fun hc => ?_) (fun hc => ?_)
 ·simp at hc
 refine AW.skip ?_
 simp only [andThen, inBlk, reduceCtorEq, ↓reduceIte, if_t, if_f]
 refine AW.seq ?_
 by_cases h0 : v1 = 0
 case neg =>
  have b0 : (v1 != 0) = true := by simpa using h0
  refine AW.dT mixed (by rfl) (by decide +kernel) fun K hK => ?_
  simp -implicitDefEqProofs only [go_sem, ↓reduceIte, Nat.reduceAdd, Nat.reduceMul, Nat.reduceEqDiff, Nat.reduceLeDiff, reduceCtorEq, Int.reduceToNat]
  refine ⟨.pure _, C1, ?_⟩
  try simp -implicitDefEqProofs only [go_sem, ↓reduceIte, Nat.reduceAdd, Nat.reduceMul, Nat.reduceEqDiff, Nat.reduceLeDiff, reduceCtorEq, Int.reduceToNat]
  refine ⟨.pure _, C2, ?_⟩
  try simp -implicitDefEqProofs only [go_sem, ↓reduceIte, Nat.reduceAdd, Nat.reduceMul, Nat.reduceEqDiff, Nat.reduceLeDiff, reduceCtorEq, Int.reduceToNat]
  refine ⟨.pure _, C3, ?_⟩
  try simp -implicitDefEqProofs only [go_sem, ↓reduceIte, Nat.reduceAdd, Nat.reduceMul, Nat.reduceEqDiff, Nat.reduceLeDiff, reduceCtorEq, Int.reduceToNat, b0]
  refine ⟨heapOK_nil rfl, ?_⟩
  refine hK _ ?_; clear hK K
  refine AW.cond _ (by simp -implicitDefEqProofs only [go_sem, ↓reduceIte, Nat.reduceAdd, Nat.reduceMul, Nat.reduceEqDiff, Nat.reduceLeDiff, reduceCtorEq, Int.reduceToNat]; rfl) (fun hc => ?_) (fun hc => ?_)
  rotate_left
  ·simp at hc
  refine AW.rT (by rfl) fun K hK => ?_
  simp -implicitDefEqProofs only [go_sem, ↓reduceIte, Nat.reduceAdd, Nat.reduceMul, Nat.reduceEqDiff, Nat.reduceLeDiff, reduceCtorEq, Int.reduceToNat]
  refine ⟨.pure _, law10_awake, ?_⟩
  try simp -implicitDefEqProofs only [go_sem, ↓reduceIte, Nat.reduceAdd, Nat.reduceMul, Nat.reduceEqDiff, Nat.reduceLeDiff, reduceCtorEq, Int.reduceToNat]
  refine hK _ ?_; clear hK K
  refine AW.ret ?_
  simp -implicitDefEqProofs only [go_sem, ↓reduceIte, Nat.reduceAdd, Nat.reduceMul, Nat.reduceEqDiff, Nat.reduceLeDiff, reduceCtorEq, Int.reduceToNat]
 have b0 : (v1 != 0) = false := by simp [h0]
 refine AW.dT mixed (by rfl) (by decide +kernel) fun K hK => ?_
 simp -implicitDefEqProofs only [go_sem, ↓reduceIte, Nat.reduceAdd, Nat.reduceMul, Nat.reduceEqDiff, Nat.reduceLeDiff, reduceCtorEq, Int.reduceToNat]
 refine ⟨.pure _, C1, ?_⟩
 try simp -implicitDefEqProofs only [go_sem, ↓reduceIte, Nat.reduceAdd, Nat.reduceMul, Nat.reduceEqDiff, Nat.reduceLeDiff, reduceCtorEq, Int.reduceToNat]
 refine ⟨.pure _, C2, ?_⟩
 try simp -implicitDefEqProofs only [go_sem, ↓reduceIte, Nat.reduceAdd, Nat.reduceMul, Nat.reduceEqDiff, Nat.reduceLeDiff, reduceCtorEq, Int.reduceToNat]
 refine ⟨.pure _, C3, ?_⟩
 try simp -implicitDefEqProofs only [go_sem, ↓reduceIte, Nat.reduceAdd, Nat.reduceMul, Nat.reduceEqDiff, Nat.reduceLeDiff, reduceCtorEq, Int.reduceToNat, b0]
 refine ⟨heapOK_nil rfl, ?_⟩
 refine hK _ ?_; clear hK K
 refine AW.cond _ (by simp -implicitDefEqProofs only [go_sem, ↓reduceIte, Nat.reduceAdd, Nat.reduceMul, Nat.reduceEqDiff, Nat.reduceLeDiff, reduceCtorEq, Int.reduceToNat]; rfl) (fun hc => ?_) (fun hc => ?_)
 ·simp at hc
 refine AW.skip ?_
 simp only [andThen, inBlk, reduceCtorEq, ↓reduceIte, if_t, if_f]
 refine AW.dT mixed (by rfl) (by decide +kernel) fun K hK => ?_
 simp -implicitDefEqProofs only [go_sem, ↓reduceIte, Nat.reduceAdd, Nat.reduceMul, Nat.reduceEqDiff, Nat.reduceLeDiff, reduceCtorEq, Int.reduceToNat]
 refine ⟨.pure _, C1, ?_⟩
 try simp -implicitDefEqProofs only [go_sem, ↓reduceIte, Nat.reduceAdd, Nat.reduceMul, Nat.reduceEqDiff, Nat.reduceLeDiff, reduceCtorEq, Int.reduceToNat]
 refine ⟨.pure _, C4, ?_⟩
 try simp -implicitDefEqProofs only [go_sem, ↓reduceIte, Nat.reduceAdd, Nat.reduceMul, Nat.reduceEqDiff, Nat.reduceLeDiff, reduceCtorEq, Int.reduceToNat]
 refine ⟨heapOK_nil rfl, ?_⟩
 refine hK _ ?_; clear hK K
 have z0 : (((([] : List (List PV)).length : Nat) : Int) == 0) = true := rfl
 rcases BV h0 with hv | hv
 ·have b1 : (v2 == 0) = true := eqb hv
  refine AW.rT (by rfl) fun K hK => ?_
  simp -implicitDefEqProofs only [go_sem, ↓reduceIte, Nat.reduceAdd, Nat.reduceMul, Nat.reduceEqDiff, Nat.reduceLeDiff, reduceCtorEq, Int.reduceToNat, b1, z0]
  refine ⟨.pure _, law10_awake, ?_⟩
  try simp -implicitDefEqProofs only [go_sem, ↓reduceIte, Nat.reduceAdd, Nat.reduceMul, Nat.reduceEqDiff, Nat.reduceLeDiff, reduceCtorEq, Int.reduceToNat]
  refine hK _ ?_; clear hK K
  refine AW.ret ?_
  simp -implicitDefEqProofs only [go_sem, ↓reduceIte, Nat.reduceAdd, Nat.reduceMul, Nat.reduceEqDiff, Nat.reduceLeDiff, reduceCtorEq, Int.reduceToNat]
 ·have b1 : (v2 == 0) = false := beqf (by omega)
  have b2 : (v2 == 12) = true := eqb hv
  refine AW.rT (by rfl) fun K hK => ?_
  simp -implicitDefEqProofs only [go_sem, ↓reduceIte, Nat.reduceAdd, Nat.reduceMul, Nat.reduceEqDiff, Nat.reduceLeDiff, reduceCtorEq, Int.reduceToNat, b1, b2, z0]
  refine ⟨.pure _, law10_awake, ?_⟩
  try simp -implicitDefEqProofs only [go_sem, ↓reduceIte, Nat.reduceAdd, Nat.reduceMul, Nat.reduceEqDiff, Nat.reduceLeDiff, reduceCtorEq, Int.reduceToNat]
  refine hK _ ?_; clear hK K
  refine AW.ret ?_
  simp -implicitDefEqProofs only [go_sem, ↓reduceIte, Nat.reduceAdd, Nat.reduceMul, Nat.reduceEqDiff, Nat.reduceLeDiff, reduceCtorEq, Int.reduceToNat]
end Go.Aw.T
namespace Go.Aw.T
open Go.RowKit Go.ChangeShapes
open Go.Proofs
variable {P : Program} {w : World}
def OpnB (B : Nat → Prop) (P : Program) (w : World) (t : TypeId) {α : Type} (e : α → List PV) (G : α → Prop) : Prop :=
 (∀ a, ∀ p ∈ e a, p.one = true) ∧ ∀ (H : Type) (enc : TypeId × Value → H) (fuel : Nat), B fuel → ∀ (cs : List Value) (d : DataW H × List MemPlace), DataW.trod enc P w 0 (fun _ => true) true fuel t cs = some d →
  ∃ a, G a ∧ cs.length = (e a).length ∧ ∀ (j : Nat) u p, cs[j]? = some u → (e a)[j]? = some p → rep w (old w) u p
theorem OpnB.mapG {B : Nat → Prop} {t : TypeId} {α β : Type} {e : α → List PV} {G : α → Prop} {e' : β → List PV} {G' : β → Prop} (h : OpnB B P w t e G) (f : α → β) (he : ∀ a, e' (f a) = e a) (h1 : ∀ b, ∀ p ∈ e' b, p.one = true) (hg : ∀ a, G a → G' (f a)) : OpnB B P w t e' G' := by
 refine ⟨h1, fun H enc fuel hB cs d hd => ?_⟩
 obtain ⟨a, g, l, r⟩ := h.2 H enc fuel hB cs d hd
 exact ⟨f a, hg a g, by rw [he]; exact l, by rw [he]; exact r⟩
theorem OpnB.mono {B B' : Nat → Prop} {t : TypeId} {α : Type} {e : α → List PV} {G : α → Prop} (h : OpnB B P w t e G) (hb : ∀ n, B' n → B n) : OpnB B' P w t e G := ⟨h.1, fun H enc fuel hB cs d hd => h.2 H enc fuel (hb _ hB) cs d hd⟩
theorem Opn.toB {B : Nat → Prop} {t : TypeId} {α : Type} {e : α → List PV} {G : α → Prop} (h : Opn P w t e G) : OpnB B P w t e G := ⟨h.1, fun H enc fuel _ cs d hd => h.2 H enc fuel cs d hd⟩
theorem opn_of_B {t : TypeId} {α : Type} {e : α → List PV} {G : α → Prop} (h : ∀ N, OpnB (fun n => n < N) P w t e G) : Opn P w t e G := ⟨(h 0).1, fun H enc fuel cs d hd => (h (fuel + 1)).2 H enc fuel (Nat.lt_succ_self _) cs d hd⟩
theorem opnB_slice {B : Nat → Prop} {t te : TypeId} {sz : Nat} {α : Type} {e : α → List PV} {G : α → Prop} (hu : P.underlying t = some (.slice te)) (hz : P.cellsOf te = sz) (hp : 0 < sz) (h : OpnB (fun n => B (n + 1)) P w te e G) (hs : ∀ a, (e a).length = sz) :
  OpnB B P w t (fun l : List α => [.slice (l.map e)]) (fun l => l.length ≤ maxLen ∧ ∀ a ∈ l, G a) := by
 refine ⟨fun a p hp => by simp at hp; subst hp; rfl, fun H enc fuel hB cs d hd => ?_⟩
 have one : ∀ (v : Value) (l : List α), rep w (old w) v (.slice (l.map e)) → ∀ (j : Nat) u p, [v][j]? = some u → ([PV.slice (l.map e)])[j]? = some p → rep w (old w) u p := by
  intro v l hr j u p h1 h2
  cases j with
  | zero => simp at h1 h2; subst h1; subst h2; exact hr
  | succ j => simp at h1
 cases fuel with
 | zero => simp [DataW.trod] at hd
 | succ n =>
  unfold DataW.trod at hd
  rw [hu] at hd
  split at hd <;> rename_i hh <;> try (cases hh; done)
  all_goals try cases hh
  ·exact ⟨[], ⟨by simp, by simp⟩, rfl, one _ [] (.empty _ _)⟩
  ·rename_i a len cap
   dsimp only at hd
   split at hd
   ·rename_i hc
    obtain ⟨_, hlc, hcm⟩ := hc
    simp only [Option.bind_eq_some_iff] at hd
    obtain ⟨els, he, _⟩ := hd
    obtain ⟨hl, hg⟩ := mapM_get he
    have each : ∀ i, i < len → ∃ x : List Value × α, w.cells? 0 (a.add (i * sz)) sz = some x.1 ∧ G x.2 ∧ x.1.length = (e x.2).length ∧ ∀ (j : Nat) u p, x.1[j]? = some u → (e x.2)[j]? = some p → rep w (old w) u p := by
     intro i hi
     obtain ⟨y, _, hy⟩ := hg i i (by simp [hi])
     obtain ⟨c, hc1, hc2⟩ := Option.bind_eq_some_iff.1 hy
     rw [hz] at hc1
     obtain ⟨b, g, l, r⟩ := h.2 H enc n hB c y hc2
     exact ⟨(c, b), hc1, g, l, r⟩
    obtain ⟨xs, hxl, hx⟩ := list_choose len each
    have hgl : (xs.map (·.2)).length ≤ maxLen ∧ ∀ b ∈ xs.map (·.2), G b := by
     refine ⟨by rw [List.length_map, hxl]; exact Nat.le_trans hlc hcm, fun b hb => ?_⟩
     obtain ⟨x, hx1, rfl⟩ := List.mem_map.1 hb
     obtain ⟨i, hi⟩ := List.getElem?_of_mem hx1
     exact (hx i x hi).2.1
    refine ⟨xs.map (·.2), hgl, rfl, one _ _ ?_⟩
    rcases Nat.eq_zero_or_pos len with h0 | h0
    ·subst h0
     have : xs = [] := List.eq_nil_of_length_eq_zero hxl
     subst this
     exact .empty _ _
    ·obtain ⟨x0, hx0⟩ : ∃ x, xs[0]? = some x := ⟨_, List.getElem?_eq_getElem (by omega)⟩
     obtain ⟨c0, _, l0, _⟩ := hx 0 x0 hx0
     obtain ⟨_, cl0, cg0⟩ := World.cells?_some c0
     have q0 := cg0 0 hp
     rw [Nat.zero_mul] at q0
     have hadd : (a.add 0).add 0 = a := by simp [Addr.add]
     rw [hadd, List.getElem?_eq_getElem (by omega)] at q0
     have hsp : a.spot = none ∧ a.block < w.heap.size := by
      unfold World.cell? at q0
      split at q0
      ·rename_i hb
       split at q0
       ·cases q0
       ·rename_i hs'
        refine ⟨by simpa using hs', ?_⟩
        rcases Nat.lt_or_ge a.block w.heap.size with h' | h'
        ·exact h'
        ·rw [Array.getElem?_eq_none h'] at hb; cases hb
      ·cases q0
     obtain ⟨b, o, sp⟩ := a
     obtain ⟨hsp, hbl⟩ := hsp
     dsimp only at hsp hbl
     subst hsp
     refine rep.slice (I := old w) b o len cap sz ((xs.map (·.2)).map e) (fun i j => ((xs.getD i ([], x0.2)).1.getD j .nilIface)) (by simp [hxl]) hlc ?_ hbl ?_ ?_ ?_
     ·intro x hx
      simp only [List.map_map, List.mem_map] at hx
      obtain ⟨y, _, rfl⟩ := hx
      exact hs _
     ·intro x hx p hp'
      simp only [List.map_map, List.mem_map] at hx
      obtain ⟨y, _, rfl⟩ := hx
      exact h.1 _ _ hp'
     ·intro i x j p hi hj
      simp only [List.map_map, List.getElem?_map, Option.map_eq_some_iff] at hi
      obtain ⟨y, hy, rfl⟩ := hi
      obtain ⟨c1, _, l1, r1⟩ := hx i y hy
      obtain ⟨_, cl1, cg1⟩ := World.cells?_some c1
      have hjl : j < sz := by rw [← hs y.2]; exact (List.getElem?_eq_some_iff.1 hj).1
      have := cg1 j hjl
      have ea : ((⟨b, o, none⟩ : Addr).add (i * sz)).add j = ⟨b, o + (i * sz + j), none⟩ := by
       unfold Addr.add
       repeat' split
       all_goals simp <;> omega
      rw [ea, List.getElem?_eq_getElem (by omega)] at this
      rw [this]
      simp [List.getD, hy, List.getElem?_eq_getElem (show j < y.1.length by omega)]
     ·intro i x j p hi hj
      simp only [List.map_map, List.getElem?_map, Option.map_eq_some_iff] at hi
      obtain ⟨y, hy, rfl⟩ := hi
      obtain ⟨c1, _, l1, r1⟩ := hx i y hy
      obtain ⟨_, cl1, cg1⟩ := World.cells?_some c1
      have hjl : j < sz := by rw [← hs y.2]; exact (List.getElem?_eq_some_iff.1 hj).1
      refine r1 j _ p ?_ hj
      simp [List.getD, hy, List.getElem?_eq_getElem (show j < y.1.length by omega)]
   ·cases hd
  all_goals cases hd
def OpnFB (B : Nat → Prop) (P : Program) (w : World) (off : Nat) (fs : List Field) {α : Type} (e : α → List PV) (G : α → Prop) : Prop :=
 (∀ a, ∀ p ∈ e a, p.one = true) ∧ (∀ a, (e a).length = (fs.map fun f => P.cellsOf f.type).sum) ∧ ∀ (H : Type) (enc : TypeId × Value → H) (n : Nat), B n → ∀ (cs : List Value) (xs : List (DataW H × List MemPlace)),
  fs.mapM (fun f => DataW.trod enc P w 0 (fun _ => true) true n f.type ((cs.drop f.offset).take (P.cellsOf f.type))) = some xs →
  ∃ a, G a ∧ ∀ (j : Nat) u p, cs[off + j]? = some u → (e a)[j]? = some p → rep w (old w) u p
theorem opnFB_nil {B : Nat → Prop} {off : Nat} : OpnFB B P w off [] (fun _ : Unit => []) (fun _ => True) :=
 ⟨fun a p hp => by simp at hp, fun a => rfl, fun H enc n hB cs xs h => ⟨(), trivial, fun j u p h1 h2 => by simp at h2⟩⟩
theorem opnFB_cons {B : Nat → Prop} {off sz : Nat} {f : Field} {fs : List Field} {α β : Type} {e : α → List PV} {G : α → Prop} {e' : β → List PV} {G' : β → Prop} (ho : f.offset = off) (hz : P.cellsOf f.type = sz) (h : OpnB B P w f.type e G) (hs : ∀ a, (e a).length = sz) (h' : OpnFB B P w (off + sz) fs e' G') :
  OpnFB B P w off (f :: fs) (fun x : α × β => e x.1 ++ e' x.2) (fun x => G x.1 ∧ G' x.2) := by
 refine ⟨fun a p hp => ?_, fun a => by simp [hs, hz, h'.2.1], fun H enc n hB cs xs hx => ?_⟩
 ·rcases List.mem_append.1 hp with hp | hp
  ·exact h.1 _ _ hp
  ·exact h'.1 _ _ hp
 ·simp only [List.mapM_cons, Option.bind_eq_bind, Option.bind_eq_some_iff, Option.pure_def, Option.some.injEq] at hx
  obtain ⟨y, hy, ys, hys, rfl⟩ := hx
  obtain ⟨a, ga, la, ra⟩ := h.2 H enc n hB _ y hy
  obtain ⟨b, gb, rb⟩ := h'.2.2 H enc n hB cs ys hys
  refine ⟨(a, b), ⟨ga, gb⟩, fun j u p h1 h2 => ?_⟩
  rcases Nat.lt_or_ge j sz with hj | hj
  ·rw [List.getElem?_append_left (by rw [hs]; exact hj)] at h2
   refine ra j u p ?_ h2
   rw [ho, hz, List.getElem?_take, if_pos hj, List.getElem?_drop]
   exact h1
  ·rw [List.getElem?_append_right (by rw [hs]; exact hj), hs] at h2
   exact rb (j - sz) u p (by rw [← h1]; congr 1; omega) h2
theorem opnB_struct {B : Nat → Prop} {t : TypeId} {fs : Array Field} {α : Type} {e : α → List PV} {G : α → Prop} (hu : P.underlying t = some (.struct fs)) (hz : P.cellsOf t = (fs.toList.map fun f => P.cellsOf f.type).sum) (h : OpnFB (fun n => B (n + 1)) P w 0 fs.toList e G) : OpnB B P w t e G := by
 refine ⟨h.1, fun H enc fuel hB cs d hd => ?_⟩
 cases fuel with
 | zero => simp [DataW.trod] at hd
 | succ n =>
  unfold DataW.trod at hd
  rw [hu] at hd
  split at hd <;> rename_i hh <;> try (cases hh; done)
  all_goals try cases hh
  all_goals try (cases hd; done)
  all_goals
   split at hd
   ·rename_i hl
    obtain ⟨xs, hx, _⟩ := Option.map_eq_some_iff.1 hd
    obtain ⟨a, ga, ra⟩ := h.2.2 H enc n hB _ xs hx
    exact ⟨a, ga, by rw [hl, hz, h.2.1], fun j u p h1 h2 => ra j u p (by rw [Nat.zero_add]; exact h1) h2⟩
   ·cases hd
inductive okTr : Tr → Prop
 | mk (k n : Int) (s : List UInt8) (es : List (Int × List Tr)) (rest : List Raw) : i64ok k → i64ok n → strOK s → es.length ≤ maxLen → (∀ e ∈ es, i64ok e.1) → (∀ e ∈ es, e.2.length ≤ maxLen) → (∀ e ∈ es, ∀ x ∈ e.2, okTr x) → rest.length ≤ maxLen → (∀ r ∈ rest, rawOK r) → okTr (.mk k n s es rest)
theorem opn_tree (W : World) : Opn Tryd.prog W 39 encTr okTr := by
 refine opn_of_B fun N => ?_
 induction N with
 | zero => exact ⟨fun a p hp => by rw [encTr_eq] at hp; simp at hp; rcases hp with rfl | rfl | rfl | rfl | rfl <;> rfl, fun H enc fuel hB => absurd hB (Nat.not_lt_zero _)⟩
 | succ N ih => 
  have i3 : ∀ B : Nat → Prop, OpnB B Tryd.prog W 3 (fun n : Int => [.int .i64 n]) i64ok := fun B => Opn.toB (opn_i64 W)
  have s9 : ∀ B : Nat → Prop, OpnB B Tryd.prog W 9 (fun s : List UInt8 => [.str s]) strOK := fun B => Opn.toB (opn_str Tryd.underlying9)
  have r22 : ∀ B : Nat → Prop, OpnB B Tryd.prog W 37 (fun l : List Raw => [.slice (l.map encRaw)]) (fun l => l.length ≤ maxLen ∧ ∀ a ∈ l, rawOK a) := fun B => Opn.toB (opn_raws W)
  have c3 : Tryd.prog.cellsOf 3 = 1 := by kernel_rfl
  have c9 : Tryd.prog.cellsOf 9 = 1 := by kernel_rfl
  have c22 : Tryd.prog.cellsOf 37 = 1 := by kernel_rfl
  have c44 : Tryd.prog.cellsOf 36 = 1 := by kernel_rfl
  have c51 : Tryd.prog.cellsOf 50 = 1 := by kernel_rfl
  have ts : OpnB (fun n => n + 1 + 1 + 1 < N + 1) Tryd.prog W 50 (fun l : List Tr => [.slice (l.map encTr)]) (fun l => l.length ≤ maxLen ∧ ∀ a ∈ l, okTr a) :=
   opnB_slice (sz := 5) Tryd.underlying50 (by kernel_rfl) (by decide) (ih.mono fun n h => by omega) (fun a => by rw [encTr_eq]; rfl)
  have en : OpnB (fun n => n + 1 + 1 < N + 1) Tryd.prog W 52 encEn (fun e => i64ok e.1 ∧ e.2.length ≤ maxLen ∧ ∀ a ∈ e.2, okTr a) := by
   refine OpnB.mapG (G := fun x : Int × List Tr × Unit => i64ok x.1 ∧ (x.2.1.length ≤ maxLen ∧ ∀ a ∈ x.2.1, okTr a) ∧ True) (opnB_struct Tryd.underlying52 (by kernel_rfl) ?_) (fun x : Int × List Tr × Unit => ((x.1, x.2.1) : Int × List Tr)) (fun a => rfl) (fun b p hp => by simp [encEn] at hp; rcases hp with rfl | rfl <;> rfl) (fun a h => ⟨h.1, h.2.1.1, h.2.1.2⟩)
   have f1 := opnFB_cons (B := fun n => n + 1 + 1 + 1 < N + 1) (P := Tryd.prog) (w := W) (off := 1) (f := { name := "Trees", type := 50, offset := 1, embedded := false, tag := "", pkgPath := "", byteOffset := 8 }) rfl c51 ts (fun _ => rfl) opnFB_nil
   have f0 := opnFB_cons (B := fun n => n + 1 + 1 + 1 < N + 1) (P := Tryd.prog) (w := W) (off := 0) (f := { name := "Tag", type := 3, offset := 0, embedded := false, tag := "", pkgPath := "", byteOffset := 0 }) rfl c3 (i3 _) (fun _ => rfl) f1
   exact f0
  have es : OpnB (fun n => n + 1 < N + 1) Tryd.prog W 36 (fun l : List (Int × List Tr) => [.slice (l.map encEn)]) (fun l => l.length ≤ maxLen ∧ ∀ e ∈ l, i64ok e.1 ∧ e.2.length ≤ maxLen ∧ ∀ a ∈ e.2, okTr a) :=
   opnB_slice (sz := 2) Tryd.underlying36 (by kernel_rfl) (by decide) en (fun a => rfl)
  refine OpnB.mapG (G := fun x : Int × Int × List UInt8 × List (Int × List Tr) × List Raw × Unit => i64ok x.1 ∧ i64ok x.2.1 ∧ strOK x.2.2.1 ∧ (x.2.2.2.1.length ≤ maxLen ∧ ∀ e ∈ x.2.2.2.1, i64ok e.1 ∧ e.2.length ≤ maxLen ∧ ∀ a ∈ e.2, okTr a) ∧ (x.2.2.2.2.1.length ≤ maxLen ∧ ∀ a ∈ x.2.2.2.2.1, rawOK a) ∧ True) (opnB_struct Tryd.underlying39 (by kernel_rfl) ?_)
   (fun x : Int × Int × List UInt8 × List (Int × List Tr) × List Raw × Unit => Tr.mk x.1 x.2.1 x.2.2.1 x.2.2.2.1 x.2.2.2.2.1) (fun a => encTr_eq _) (fun b p hp => by rw [encTr_eq] at hp; simp at hp; rcases hp with rfl | rfl | rfl | rfl | rfl <;> rfl) ?_
  ·have f4 := opnFB_cons (B := fun n => n + 1 < N + 1) (P := Tryd.prog) (w := W) (off := 4) (f := { name := "Rest", type := 37, offset := 4, embedded := false, tag := "", pkgPath := "", byteOffset := 56 }) rfl c22 (r22 _) (fun _ => rfl) opnFB_nil
   have f3 := opnFB_cons (B := fun n => n + 1 < N + 1) (P := Tryd.prog) (w := W) (off := 3) (f := { name := "Entries", type := 36, offset := 3, embedded := false, tag := "", pkgPath := "", byteOffset := 32 }) rfl c44 es (fun _ => rfl) f4
   have f2 := opnFB_cons (B := fun n => n + 1 < N + 1) (P := Tryd.prog) (w := W) (off := 2) (f := { name := "S", type := 9, offset := 2, embedded := false, tag := "", pkgPath := "", byteOffset := 16 }) rfl c9 (s9 _) (fun _ => rfl) f3
   have f1 := opnFB_cons (B := fun n => n + 1 < N + 1) (P := Tryd.prog) (w := W) (off := 1) (f := { name := "N", type := 3, offset := 1, embedded := false, tag := "", pkgPath := "", byteOffset := 8 }) rfl c3 (i3 _) (fun _ => rfl) f2
   have f0 := opnFB_cons (B := fun n => n + 1 < N + 1) (P := Tryd.prog) (w := W) (off := 0) (f := { name := "Kind", type := 3, offset := 0, embedded := false, tag := "", pkgPath := "", byteOffset := 0 }) rfl c3 (i3 _) (fun _ => rfl) f1
   exact f0
  ·intro x h
   obtain ⟨h1, h2, h3, ⟨h4, h5⟩, ⟨h6, h7⟩, _⟩ := h
   exact .mk _ _ _ _ _ h1 h2 h3 h4 (fun e he => (h5 e he).1) (fun e he => (h5 e he).2.1) (fun e he => (h5 e he).2.2) h6 h7
end Go.Aw.T
namespace Go.Aw.T
open Go.Proofs Go.RowKit Go.ChangeShapes
theorem opnW_tree (W : World) : OpnW Tryd.prog W 39 encTr okTr := Opn.toW (opn_tree W)
end Go.Aw.T
