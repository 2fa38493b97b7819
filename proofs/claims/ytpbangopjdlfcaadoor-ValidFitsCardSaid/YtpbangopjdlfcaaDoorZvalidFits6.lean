/- What the law LawValidFits leans on, joined (part 6). -/
import Derived.Test.YtpbangopjdlfcaaDoorZvalidFits5
set_option linter.unusedSimpArgs false
set_option linter.unusedVariables false
namespace Go.Aw.T
open Go.Proofs Go.RowKit
set_option linter.unusedSimpArgs false
set_option linter.unusedVariables false
def vz (S : Sc) (m : Ms) (t : Tr) (k : Int) (L : List (Nat × AV)) (H : List (Nat × Blk)) (n : Nat) : St :=
 ⟨ofL ((4, .ptr 0 0 0) :: (9, .ptr 1 0 0) :: (10, .ptr 2 0 0) :: (11, .p (.int .i64 k)) :: L), ofH ((0, .row 4 [cellsSc S]) :: (1, .row 3 [cellsMs m]) :: (2, .row 5 [cellsT t]) :: H), n⟩
set_option maxRecDepth 100000 in
set_option maxHeartbeats 8000000 in
theorem law10_ValidFits (S : Sc) (p : Int) (l : List Int) (v : Int) (B : bigS S) (hp : -9223372036854775808 ≤ p) (hp' : p ≤ 9223372036854775807) (hv : -9223372036854775808 ≤ v) (hv' : v ≤ 9223372036854775807) : PFn Tryd.prog 3 [.agg (encSc S), .int .i64 p, .slice (l.map encI), .int .i64 v] (.bool true) := by
 have CF := law00_Few S B
 simp only [encSc] at CF
 refine PFn.of Tryd.func3 rfl (by decide) Tryd.ntmps3 Tryd.results3 (Nat.le_of_ble_eq_true rfl) ?_
 simp only [argsT]
 refine AW.rT (by rfl) fun K hK => ?_
 simp -implicitDefEqProofs only [go_sem, Nat.reduceAdd, encSc]
 refine hK _ ?_; clear hK K
 refine AW.seq ?_
 cases hf : fewB S with
 | false =>
  rw [hf] at CF
  refine AW.rT (by rfl) fun K hK => ?_
  simp -implicitDefEqProofs only [go_sem, ↓reduceIte, Nat.reduceAdd, Nat.reduceEqDiff, Nat.reduceLeDiff]
  refine ⟨.pure _, CF, ?_⟩
  try simp -implicitDefEqProofs only [go_sem, ↓reduceIte, Nat.reduceAdd, Nat.reduceEqDiff]
  refine hK _ ?_; clear hK K
  refine AW.cond _ (by simp -implicitDefEqProofs only [go_sem]; rfl) (fun hc => ?_) (fun hc => ?_)
  rotate_left
  ·simp at hc
  refine AW.rT (by rfl) fun K hK => ?_
  simp -implicitDefEqProofs only [go_sem]
  refine ⟨.pure _, law10_awake, ?_⟩
  try simp -implicitDefEqProofs only [go_sem, Nat.reduceAdd]
  refine hK _ ?_; clear hK K
  refine AW.ret ?_
  simp -implicitDefEqProofs only [go_sem]
 | true =>
 rw [hf] at CF
 have F := few_spec hf
 have L := F.lens
 have C1 := ref07_Check S L
 simp only [encSc] at C1
 by_cases h0 : checkC S = 0
 case neg =>
  have b0 : (checkC S != 0) = true := by simpa using h0
  refine AW.rT (by rfl) fun K hK => ?_
  simp -implicitDefEqProofs only [go_sem, ↓reduceIte, Nat.reduceAdd, Nat.reduceEqDiff, Nat.reduceLeDiff]
  refine ⟨.pure _, CF, ?_⟩
  try simp -implicitDefEqProofs only [go_sem, ↓reduceIte, Nat.reduceAdd, Nat.reduceEqDiff, Nat.reduceLeDiff]
  refine ⟨.pure _, C1, ?_⟩
  try simp -implicitDefEqProofs only [go_sem, ↓reduceIte, Nat.reduceAdd, Nat.reduceEqDiff, b0]
  refine hK _ ?_; clear hK K
  refine AW.cond _ (by simp -implicitDefEqProofs only [go_sem]; rfl) (fun hc => ?_) (fun hc => ?_)
  rotate_left
  ·simp at hc
  refine AW.rT (by rfl) fun K hK => ?_
  simp -implicitDefEqProofs only [go_sem]
  refine ⟨.pure _, law10_awake, ?_⟩
  try simp -implicitDefEqProofs only [go_sem, Nat.reduceAdd]
  refine hK _ ?_; clear hK K
  refine AW.ret ?_
  simp -implicitDefEqProofs only [go_sem]
 have b0 : (checkC S != 0) = false := by simp [h0]
 by_cases hl : l.length > 200
 ·have b1 : ((l.length : Int) > 200) = True := eq_true (by omega)
  refine AW.rT (by rfl) fun K hK => ?_
  simp -implicitDefEqProofs only [go_sem, ↓reduceIte, Nat.reduceAdd, Nat.reduceEqDiff, Nat.reduceLeDiff]
  refine ⟨.pure _, CF, ?_⟩
  try simp -implicitDefEqProofs only [go_sem, ↓reduceIte, Nat.reduceAdd, Nat.reduceEqDiff, Nat.reduceLeDiff]
  refine ⟨.pure _, C1, ?_⟩
  try simp -implicitDefEqProofs only [go_sem, ↓reduceIte, Nat.reduceAdd, Nat.reduceEqDiff, reduceCtorEq, b0, b1, List.length_map]
  refine hK _ ?_; clear hK K
  refine AW.cond _ (by simp -implicitDefEqProofs only [go_sem]; rfl) (fun hc => ?_) (fun hc => ?_)
  rotate_left
  ·simp at hc
  refine AW.rT (by rfl) fun K hK => ?_
  simp -implicitDefEqProofs only [go_sem]
  refine ⟨.pure _, law10_awake, ?_⟩
  try simp -implicitDefEqProofs only [go_sem, Nat.reduceAdd]
  refine hK _ ?_; clear hK K
  refine AW.ret ?_
  simp -implicitDefEqProofs only [go_sem]
 have b1 : ((l.length : Int) > 200) = False := eq_false (by omega)
 refine AW.rT (by rfl) fun K hK => ?_
 simp -implicitDefEqProofs only [go_sem, ↓reduceIte, Nat.reduceAdd, Nat.reduceEqDiff, Nat.reduceLeDiff]
 refine ⟨.pure _, CF, ?_⟩
 try simp -implicitDefEqProofs only [go_sem, ↓reduceIte, Nat.reduceAdd, Nat.reduceEqDiff, Nat.reduceLeDiff]
 refine ⟨.pure _, C1, ?_⟩
 try simp -implicitDefEqProofs only [go_sem, ↓reduceIte, Nat.reduceAdd, Nat.reduceEqDiff, reduceCtorEq, b0, b1, List.length_map]
 refine hK _ ?_; clear hK K
 refine AW.cond _ (by simp -implicitDefEqProofs only [go_sem]; rfl) (fun hc => ?_) (fun hc => ?_)
 ·simp at hc
 refine AW.skip ?_
 simp only [andThen]
 have R := right_of h0
 have hn := R.len.1
 have CP := Go.Aw.law00_Place p (S.msgs.length : Int) (by omega) (by have := R.len; omega) hp hp'
 have hq0 := Int.emod_nonneg p (show (S.msgs.length : Int) ≠ 0 by omega)
 have hq1 := Int.emod_lt_of_pos p (show (0 : Int) < (S.msgs.length : Int) by omega)
 obtain ⟨q, hq⟩ := Int.eq_ofNat_of_zero_le hq0
 rw [hq] at CP hq1
 obtain ⟨m, hm⟩ : ∃ m, S.msgs[q]? = some m := ⟨_, List.getElem?_eq_getElem (by omega)⟩
 have hmm := List.mem_of_getElem? hm
 have ⟨hm1, hm2, hm3⟩ := at_map' encMs hm
 have hq2 : ((q : Int) < (S.msgs.length : Int)) = True := eq_true (by omega)
 have FT := fit_t h0 hm l
 have SZ := siz_right R
 have CT := law00_Fit S SZ (flds_all R) l (by omega) m.name (by rw [FT.ms])
 have hents : (fitB S m.name l).ents.length ≤ 500 := by
  unfold fitB
  rw [fitF_eq]
  exact tags_len 500
 generalize fitB S m.name l = t at FT CT hents
 have G := FT.good
 have C2 := law00_Schema S F
 have C3 := law00_Tree t G.lens
 have C4 := valid_Valid S m.name t L G.lens G.str
 rw [FT.valid] at C4
 have TE := law00_TreeE t G.lens
 simp only [encSc, encTr_eq t] at C2 C3 CT C4 TE
 obtain ⟨la1, la2, la3⟩ := lensT_mk G.lens
 have CK := Go.Aw.law00_Place v 500 (by omega) (by omega) hv hv'
 have hk0 := Int.emod_nonneg v (show (500 : Int) ≠ 0 by omega)
 have hk1 := Int.emod_lt_of_pos v (show (0 : Int) < 500 by omega)
 generalize v % 500 = kk at CK hk0 hk1
 have wk : IntKind.wrap .i64 (1 + kk) = 1 + kk := by rw [w64] <;> omega
 refine AW.dT mixed (by rfl) (by decide +kernel) fun K hK => ?_
 simp -implicitDefEqProofs only [go_sem, ↓reduceIte, Nat.reduceAdd, Nat.reduceEqDiff, List.length_map]
 refine ⟨.pure _, CP, ?_⟩
 try simp -implicitDefEqProofs only [go_sem, ↓reduceIte, Nat.reduceAdd, Nat.reduceEqDiff, Nat.reduceLeDiff, hm1, hm3, hq2, encMs, List.length_map]
 refine ⟨by decide +kernel, ?_⟩
 refine hK _ ?_; clear hK K
 refine AW.rT (by rfl) fun K hK => ?_
 simp -implicitDefEqProofs only [go_sem, ↓reduceIte, Nat.reduceAdd, Nat.reduceEqDiff, Nat.reduceLeDiff, reduceCtorEq]
 refine ⟨.pure _, CT, ?_⟩
 try simp -implicitDefEqProofs only [go_sem, ↓reduceIte, Nat.reduceAdd, Nat.reduceEqDiff, Nat.reduceLeDiff]
 refine hK _ ?_; clear hK K
 refine AW.seq ?_
 have nz : ((0 : Int) != 0) = false := by simp
 refine AW.dT mixed (by rfl) (by decide +kernel) fun K hK => ?_
 simp -implicitDefEqProofs only [go_sem, ↓reduceIte, Nat.reduceAdd, Nat.reduceEqDiff, Nat.reduceLeDiff, reduceCtorEq]
 refine ⟨.pure _, C2, ?_⟩
 try simp -implicitDefEqProofs only [go_sem, ↓reduceIte, Nat.reduceAdd, Nat.reduceEqDiff, Nat.reduceLeDiff]
 refine ⟨.pure _, C3, ?_⟩
 try simp -implicitDefEqProofs only [go_sem, ↓reduceIte, Nat.reduceAdd, Nat.reduceEqDiff]
 refine ⟨.pure _, C4, ?_⟩
 try simp -implicitDefEqProofs only [go_sem, ↓reduceIte, Nat.reduceAdd, nz]
 refine ⟨by decide +kernel, ?_⟩
 refine hK _ ?_; clear hK K
 refine AW.cond _ (by simp -implicitDefEqProofs only [go_sem]; rfl) (fun hc => ?_) (fun hc => ?_)
 ·simp at hc
 refine AW.skip ?_
 simp only [andThen]
 refine AW.rT (by rfl) fun K hK => ?_
 simp -implicitDefEqProofs only [go_sem, ↓reduceIte, Nat.reduceAdd, Nat.reduceEqDiff, reduceCtorEq]
 refine ⟨.pure _, CK, ?_⟩
 try simp -implicitDefEqProofs only [go_sem, ↓reduceIte, Nat.reduceAdd, wk]
 refine hK _ ?_; clear hK K
 generalize hkk : 1 + kk = k
 have hk2 : 1 ≤ k := by omega
 have hk3 : k ≤ 500 := by omega
 refine AW.ghost (s' := vz S m t k [] [] 3) ?_ ?_
 ·simp only [vz, cellsSc, cellsMs, cellsT]
  refine Ghost.ent (fun l => if l = 1 then 24 else if l = 2 then 31 else l) ?_ ?_ ?_ <;> simp -implicitDefEqProofs only [go_sem, ↓reduceIte, Nat.reduceEqDiff, reduceCtorEq, List.forall_mem_cons, List.not_mem_nil, false_implies, implies_true, and_self, List.all_cons, List.all_nil, Nat.reduceLT, labsInL, AV.labsIn]
  all_goals first | rfl | skip
 have C8 : PFn Tryd.prog 27 [.agg (encMs m), .int .i64 k] (.tuple [.agg (encFd (fldOf m k).1), .bool (fldOf m k).2]) := ref07_Field m k (SZ.flds m hmm)
 rcases hfo : fldOf m k with ⟨f, fok⟩
 rw [hfo] at C8
 simp only [encMs, encFd] at C8
 simp only [vz, cellsSc, cellsMs, cellsT]
 have rt := G.right
 rw [rightT_mk, if_neg (by rw [G.kind]; decide), if_neg (by rw [G.kind]; decide), if_pos G.kind] at rt
 simp only [Bool.and_eq_true, decide_eq_true_eq] at rt
 refine AW.cut (fun _ : Unit => vz S m t k [] [] 3) (fun _ => fok = false ∧ ∀ e ∈ t.ents, e.1 < k) ?_ fun _ hj => ?_
 ·refine AW.rT (by rfl) fun K hK => ?_
  simp -implicitDefEqProofs only [go_sem, ↓reduceIte, Nat.reduceAdd, Nat.reduceEqDiff, Nat.reduceLeDiff]
  refine ⟨.pure _, C8, ?_⟩
  try simp -implicitDefEqProofs only [go_sem, ↓reduceIte, Nat.reduceAdd, Nat.reduceEqDiff, Nat.reduceLeDiff]
  refine hK _ ?_; clear hK K
  cases fok with
  | true =>
   refine AW.rT (by rfl) fun K hK => ?_
   simp -implicitDefEqProofs only [go_sem, ↓reduceIte, Nat.reduceAdd, Nat.reduceEqDiff]
   refine hK _ ?_; clear hK K
   refine AW.cond _ (by simp -implicitDefEqProofs only [go_sem]; rfl) (fun hc => ?_) (fun hc => ?_)
   rotate_left
   ·simp at hc
   refine AW.rT (by rfl) fun K hK => ?_
   simp -implicitDefEqProofs only [go_sem]
   refine ⟨.pure _, law10_awake, ?_⟩
   try simp -implicitDefEqProofs only [go_sem, Nat.reduceAdd]
   refine hK _ ?_; clear hK K
   refine AW.ret ?_
   simp -implicitDefEqProofs only [go_sem]
  | false =>
  by_cases he0 : t.ents = []
  ·have z0 : (((((t.ents.map encEn).length : Nat) : Int)) > 0) = False := eq_false (by rw [he0]; simp)
   refine AW.rT (by rfl) fun K hK => ?_
   simp -implicitDefEqProofs only [go_sem, ↓reduceIte, Nat.reduceAdd, Nat.reduceEqDiff, reduceCtorEq, z0]
   refine hK _ ?_; clear hK K
   refine AW.cond _ (by simp -implicitDefEqProofs only [go_sem]; rfl) (fun hc => ?_) (fun hc => ?_)
   ·simp at hc
   refine AW.skip ?_
   simp only [andThen]
   refine ⟨(), ⟨trivial, by rw [he0]; intro e h; cases h⟩, ?_⟩
   simp only [vz, cellsSc, cellsMs, cellsT]
   refine Ghost.sub ?_ ?_ <;> simp -implicitDefEqProofs only [go_sem, ↓reduceIte, Nat.reduceEqDiff, reduceCtorEq, List.forall_mem_cons, List.not_mem_nil, false_implies, implies_true, and_self, List.all_cons, List.all_nil, Nat.reduceLT, labsInL, AV.labsIn]
   done
  have hel : 0 < t.ents.length := List.length_pos_iff.2 he0
  have z0 : ((t.ents.length : Int) > 0) = True := eq_true (by omega)
  have ws : IntKind.wrap .i64 ((t.ents.length : Int) - 1) = ((t.ents.length - 1 : Nat) : Int) := by rw [w64] <;> omega
  obtain ⟨e, he⟩ : ∃ e, t.ents[t.ents.length - 1]? = some e := ⟨_, List.getElem?_eq_getElem (by omega)⟩
  have ⟨he1, he2, he3⟩ := at_map' encEn he
  have hi2 : (((t.ents.length - 1 : Nat) : Int) < (t.ents.length : Int)) = True := eq_true (by omega)
  have hlast := rightE_last rt.1.2 he
  by_cases hge : e.1 ≥ k
  ·have b3 : (e.1 ≥ k) = True := eq_true hge
   refine AW.rT (by rfl) fun K hK => ?_
   simp -implicitDefEqProofs only [go_sem, ↓reduceIte, Nat.reduceAdd, Nat.reduceEqDiff, reduceCtorEq, z0, ws, he1, he3, hi2, encEn, b3, List.length_map]
   refine hK _ ?_; clear hK K
   refine AW.cond _ (by simp -implicitDefEqProofs only [go_sem]; rfl) (fun hc => ?_) (fun hc => ?_)
   rotate_left
   ·simp at hc
   refine AW.rT (by rfl) fun K hK => ?_
   simp -implicitDefEqProofs only [go_sem]
   refine ⟨.pure _, law10_awake, ?_⟩
   try simp -implicitDefEqProofs only [go_sem, Nat.reduceAdd]
   refine hK _ ?_; clear hK K
   refine AW.ret ?_
   simp -implicitDefEqProofs only [go_sem]
  ·have b3 : (e.1 ≥ k) = False := eq_false hge
   refine AW.rT (by rfl) fun K hK => ?_
   simp -implicitDefEqProofs only [go_sem, ↓reduceIte, Nat.reduceAdd, Nat.reduceEqDiff, reduceCtorEq, z0, ws, he1, he3, hi2, encEn, b3, List.length_map]
   refine hK _ ?_; clear hK K
   refine AW.cond _ (by simp -implicitDefEqProofs only [go_sem]; rfl) (fun hc => ?_) (fun hc => ?_)
   ·simp at hc
   refine AW.skip ?_
   simp only [andThen]
   refine ⟨(), ⟨trivial, fun e' h => by have := hlast e' h; omega⟩, ?_⟩
   simp only [vz, cellsSc, cellsMs, cellsT]
   refine Ghost.sub ?_ ?_ <;> simp -implicitDefEqProofs only [go_sem, ↓reduceIte, Nat.reduceEqDiff, reduceCtorEq, List.forall_mem_cons, List.not_mem_nil, false_implies, implies_true, and_self, List.all_cons, List.all_nil, Nat.reduceLT, labsInL, AV.labsIn]
   done
 obtain ⟨rfl, hlt⟩ := hj
 have hfk : (fldOf m k).2 = false := by rw [hfo]
 have M1 := more_ent h0 FT hk3 hk2 hfk hlt (by omega)
 have M2 := more_rest h0 FT hk3 hk2 hfk hlt
 have C5 := valid_Valid S m.name (moreE t k) L M1.lens M1.str
 have C6 := valid_Valid S m.name (moreR t k) L M2.lens M2.str
 rw [M1.valid] at C5
 rw [M2.valid] at C6
 have c1 : encTr (moreE t k) = [.int .i64 t.kind, .int .i64 t.n, .str t.s, .slice ((t.ents ++ [(k, [oneN])]).map encEn), .slice (t.rest.map encRaw)] := by rw [encTr_eq]; rfl
 have c2 : encTr (moreR t k) = [.int .i64 t.kind, .int .i64 t.n, .str t.s, .slice (t.ents.map encEn), .slice ([⟨k, 0, 1, []⟩].map encRaw)] := by rw [encTr_eq]; rfl
 rw [c1] at C5
 rw [c2] at C6
 simp only [encSc] at C5 C6
 simp only [vz, cellsSc, cellsMs, cellsT]
 refine AW.rR (SeqR.ev 1 (by rfl) (by decide) ?_)
 simp -implicitDefEqProofs only [go_sem, ↓reduceIte, Nat.reduceAdd, Nat.reduceEqDiff, Nat.reduceLeDiff, reduceCtorEq]
 refine SeqR.call (fun k => k) rfl rfl TE ⟨?_, rfl, (fun x hx => by cases hx), rfl, rfl, rfl, rfl, rfl, ?_⟩ ?_
 ·simp -implicitDefEqProofs only [go_sem, argD]
 ·have h1 := labsBy_lift (p := fun l => ([] : List Nat).contains l || decide (0 ≤ l)) (sz := 2) (es := t.ents.map encEn)
  simp only [List.all_cons, List.all_nil, h1]
  rfl
 refine SeqR.ev 2 (by rfl) (by decide) ?_
 simp -implicitDefEqProofs only [go_sem, ↓reduceIte, Nat.reduceAdd, Nat.reduceEqDiff, Nat.reduceLeDiff]
 refine SeqR.last rfl ?_
 refine AW.ghost (s' := vz S m t k [(14, .ptr 3 0 0)] [(3, .row 5 [[.p (.int .i64 t.kind), .p (.int .i64 t.n), .p (.str t.s), .own 4, .p (.slice (t.rest.map encRaw))]]), (4, .row 2 (liftE (t.ents.map encEn)))] 5) ?_ ?_
 ·simp only [vz, cellsSc, cellsMs, cellsT]
  refine Ghost.ent (fun l => if l = 3 then 5 else if l = 4 then 4 else l) ?_ ?_ ?_ <;> simp -implicitDefEqProofs only [go_sem, ↓reduceIte, Nat.reduceEqDiff, reduceCtorEq, lift2, goneU, newU, Nat.reduceSub, List.forall_mem_cons, List.not_mem_nil, false_implies, implies_true, and_self, map_renL_lift, labsIn_lift, List.all_cons, List.all_nil, Nat.reduceLT, labsInL, AV.labsIn]
  all_goals first | rfl | skip
 simp only [vz, cellsSc, cellsMs, cellsT]
 refine AW.rT (by rfl) fun K hK => ?_
 simp -implicitDefEqProofs only [go_sem, ↓reduceIte, Nat.reduceAdd, Nat.reduceMul, Nat.reduceEqDiff, Nat.reduceLeDiff, reduceCtorEq]
 refine ⟨⟨by simp, by simp [oneAll, AV.one, PV.one], by simp⟩, by simp [liftE_length]; omega, ?_⟩
 try simp -implicitDefEqProofs only [go_sem, ↓reduceIte, Nat.reduceAdd, Nat.reduceMul, Nat.reduceEqDiff, Nat.reduceLeDiff, reduceCtorEq, Int.reduceToNat]
 refine hK _ ?_; clear hK K
 refine AW.ghost (s' := vz S m t k [(14, .ptr 3 0 0)] [(3, .row 5 [[.p (.int .i64 t.kind), .p (.int .i64 t.n), .p (.str t.s), .own 4, .p (.slice (t.rest.map encRaw))]]), (4, .row 2 (liftE (t.ents.map encEn) ++ [[.p (.int .i64 k), .own 5]])), (5, .row 5 [[.p (.int .i64 1), .p (.int .i64 1), .p (.str []), .ex [], .ex []]])] 6) ?_ ?_
 ·simp only [vz, cellsSc, cellsMs, cellsT]
  refine Ghost.ent (fun l => if l = 3 then 3 else if l = 4 then 12 else if l = 5 then 9 else l) ?_ ?_ ?_ <;> simp -implicitDefEqProofs only [go_sem, ↓reduceIte, Nat.reduceEqDiff, reduceCtorEq, List.forall_mem_cons, List.not_mem_nil, false_implies, implies_true, and_self, map_renL_lift, labsIn_lift, List.all_append, List.all_cons, List.all_nil, List.map_append, Nat.reduceLT, labsInL, AV.labsIn]
  all_goals first | rfl | skip
 have th : (liftE (t.ents.map encEn) ++ [[AV.p (.int .i64 k), .own 5]]).map (fun e => e.map (thaw1 5 [encTr oneN])) = liftE ((t.ents ++ [(k, [oneN])]).map encEn) := by
  rw [List.map_append, thaw_lift]
  simp [thaw1, encEn, liftE]
 refine AW.ghost (s' := vz S m t k [(14, .ptr 3 0 0)] [(3, .row 5 [[.p (.int .i64 t.kind), .p (.int .i64 t.n), .p (.str t.s), .own 4, .p (.slice (t.rest.map encRaw))]]), (4, .row 2 (liftE ((t.ents ++ [(k, [oneN])]).map encEn)))] 5) (Ghost.trans (Ghost.freeze (lb := 5) (ps := [encTr oneN]) rfl (by rfl)) ?_) ?_
 ·simp only [vz, cellsSc, cellsMs, cellsT]
  refine Ghost.sub ?_ ?_ <;> simp -implicitDefEqProofs only [go_sem, ↓reduceIte, Nat.reduceEqDiff, reduceCtorEq, thaw, thaw1, Option.map_some, List.map_cons, List.map_nil, th, List.forall_mem_cons, List.not_mem_nil, false_implies, implies_true, and_self, labsIn_lift, List.all_cons, List.all_nil, Nat.reduceLT, labsInL, AV.labsIn]
  done
 refine AW.ghost (s' := vz S m t k [(14, .ptr 3 0 0)] [(3, .row 5 [[.p (.int .i64 t.kind), .p (.int .i64 t.n), .p (.str t.s), .p (.slice ((t.ents ++ [(k, [oneN])]).map encEn)), .p (.slice (t.rest.map encRaw))]])] 4) (Ghost.trans (Ghost.freeze (lb := 4) (ps := (t.ents ++ [(k, [oneN])]).map encEn) rfl (unlift_liftE _)) ?_) ?_
 ·simp only [vz, cellsSc, cellsMs, cellsT]
  refine Ghost.sub ?_ ?_ <;> simp -implicitDefEqProofs only [go_sem, ↓reduceIte, Nat.reduceEqDiff, reduceCtorEq, thaw, thaw1, Option.map_some, List.map_cons, List.map_nil, List.forall_mem_cons, List.not_mem_nil, false_implies, implies_true, and_self, List.all_cons, List.all_nil, Nat.reduceLT, labsInL, AV.labsIn]
  done
 simp only [vz, cellsSc, cellsMs, cellsT]
 refine AW.rT (by rfl) fun K hK => ?_
 simp -implicitDefEqProofs only [go_sem, ↓reduceIte, Nat.reduceAdd, Nat.reduceEqDiff, Nat.reduceLeDiff, reduceCtorEq]
 refine ⟨.pure _, C3, ?_⟩
 try simp -implicitDefEqProofs only [go_sem, ↓reduceIte, Nat.reduceAdd, Nat.reduceEqDiff, Nat.reduceLeDiff]
 refine hK _ ?_; clear hK K
 refine AW.rT (by rfl) fun K hK => ?_
 simp -implicitDefEqProofs only [go_sem, ↓reduceIte, Nat.reduceAdd, Nat.reduceMul, Nat.reduceEqDiff, Nat.reduceLeDiff]
 refine hK _ ?_; clear hK K
 refine AW.ghost (s' := vz S m t k [(14, .ptr 3 0 0), (15, .ptr 4 0 0)] [(3, .row 5 [[.p (.int .i64 t.kind), .p (.int .i64 t.n), .p (.str t.s), .p (.slice ((t.ents ++ [(k, [oneN])]).map encEn)), .p (.slice (t.rest.map encRaw))]]), (4, .row 5 [[.p (.int .i64 t.kind), .p (.int .i64 t.n), .p (.str t.s), .p (.slice (t.ents.map encEn)), .own 5]]), (5, .row 4 (liftE ([⟨k, 0, 1, []⟩].map encRaw)))] 6) ?_ ?_
 ·simp only [vz, cellsSc, cellsMs, cellsT]
  refine Ghost.ent (fun l => if l = 4 then 6 else if l = 5 then 10 else l) ?_ ?_ ?_ <;> simp -implicitDefEqProofs only [go_sem, ↓reduceIte, Nat.reduceEqDiff, reduceCtorEq, encRaw, liftE_cons, liftE_nil, List.map_cons, List.map_nil, List.forall_mem_cons, List.not_mem_nil, false_implies, implies_true, and_self, List.all_cons, List.all_nil, List.map_append, Nat.reduceLT, labsInL, AV.labsIn]
  all_goals first | rfl | skip
 refine AW.ghost (s' := vz S m t k [(14, .ptr 3 0 0), (15, .ptr 4 0 0)] [(3, .row 5 [[.p (.int .i64 t.kind), .p (.int .i64 t.n), .p (.str t.s), .p (.slice ((t.ents ++ [(k, [oneN])]).map encEn)), .p (.slice (t.rest.map encRaw))]]), (4, .row 5 [[.p (.int .i64 t.kind), .p (.int .i64 t.n), .p (.str t.s), .p (.slice (t.ents.map encEn)), .p (.slice ([⟨k, 0, 1, []⟩].map encRaw))]])] 5) (Ghost.trans (Ghost.freeze (lb := 5) (ps := [⟨k, 0, 1, []⟩].map encRaw) rfl (unlift_liftE _)) ?_) ?_
 ·simp only [vz, cellsSc, cellsMs, cellsT]
  generalize ([⟨k, 0, 1, []⟩] : List Raw).map encRaw = rw'
  refine Ghost.sub ?_ ?_ <;> simp -implicitDefEqProofs only [go_sem, ↓reduceIte, Nat.reduceEqDiff, reduceCtorEq, thaw, thaw1, Option.map_some, List.map_cons, List.map_nil, List.forall_mem_cons, List.not_mem_nil, false_implies, implies_true, and_self, List.all_cons, List.all_nil, Nat.reduceLT, labsInL, AV.labsIn]
  done
 generalize ([⟨k, 0, 1, []⟩] : List Raw).map encRaw = rw' at C6
 simp only [vz, cellsSc, cellsMs, cellsT]
 have n7 : ((7 : Int) == 7) = true := rfl
 have n0 : ((0 : Int) == 0) = true := rfl
 refine AW.rT (by rfl) fun K hK => ?_
 simp -implicitDefEqProofs only [go_sem, ↓reduceIte, Nat.reduceAdd, Nat.reduceEqDiff, Nat.reduceLeDiff, reduceCtorEq]
 refine ⟨.pure _, C5, ?_⟩
 try simp -implicitDefEqProofs only [go_sem, ↓reduceIte, Nat.reduceAdd, Nat.reduceEqDiff, Nat.reduceLeDiff, reduceCtorEq, n7]
 refine ⟨.pure _, C6, ?_⟩
 try simp -implicitDefEqProofs only [go_sem, ↓reduceIte, Nat.reduceAdd, Nat.reduceEqDiff, n0]
 refine ⟨.pure _, law10_awake, ?_⟩
 try simp -implicitDefEqProofs only [go_sem, ↓reduceIte, Nat.reduceAdd, Nat.reduceEqDiff]
 refine hK _ ?_; clear hK K
 refine AW.ret ?_
 simp -implicitDefEqProofs only [go_sem]
end Go.Aw.T
namespace Go.Aw.T
open Go.RowKit Go.ChangeShapes
open Go.Proofs
variable {P : Program} {w : World}
def OpnB (B : Nat → Prop) (P : Program) (w : World) (t : TypeId) {α : Type} (e : α → List PV) (G : α → Prop) : Prop :=
 (∀ a, ∀ p ∈ e a, p.one = true) ∧ ∀ (H : Type) (enc : TypeId × Value → H) (fuel : Nat), B fuel → ∀ (cs : List Value) (d : DataW H × List MemPlace), DataW.trod enc P w 0 (fun _ => true) true fuel t cs = some d →
  ∃ a, G a ∧ cs.length = (e a).length ∧ ∀ (j : Nat) u p, cs[j]? = some u → (e a)[j]? = some p → rep w (old w) u p
theorem OpnB.mono {B B' : Nat → Prop} {t : TypeId} {α : Type} {e : α → List PV} {G : α → Prop} (h : OpnB B P w t e G) (hb : ∀ n, B' n → B n) : OpnB B' P w t e G := ⟨h.1, fun H enc fuel hB cs d hd => h.2 H enc fuel (hb _ hB) cs d hd⟩
end Go.Aw.T
namespace Go.Aw.T
open Go.Proofs Go.RowKit Go.ChangeShapes
end Go.Aw.T
