/- What the law LawValidOther leans on, joined (part 6). -/
import Derived.Test.YtpbangopjdlfcaaDoorZvalidOther5
set_option linter.unusedSimpArgs false
set_option linter.unusedVariables false
namespace Go.Aw.T
open Go.Proofs Go.RowKit
set_option linter.unusedSimpArgs false
set_option linter.unusedVariables false
theorem rowE_by {p : Nat → Bool} (t : Tr) (a : Nat) (g : Int) (l i : Nat) (h : p l = true) : (Blk.row 2 (rowE t a g l i)).labsBy p = true := by
 have h1 := labsBy_lift (p := p) (sz := 2) (es := (t.ents.take i).map encEn)
 have h2 := labsBy_lift (p := p) (sz := 2) (es := (t.ents.take a).map encEn)
 have h3 := labsBy_lift (p := p) (sz := 2) (es := ((t.ents.take i).drop (a + 1)).map encEn)
 unfold rowE
 split
 ·exact h1
 ·simp only [Blk.labsBy] at h2 h3 ⊢
  rw [List.all_append, List.all_cons, h2, h3]
  simp [labsByL, AV.labsBy, h]
def vx (S : Sc) (m : Ms) (t : Tr) (q : Nat) (g : Int) (R : List (List AV)) (L : List (Nat × AV)) (H : List (Nat × Blk)) (n : Nat) : St :=
 ⟨ofL ((4, .ptr 0 0 0) :: (9, .ptr 1 0 0) :: (10, .ptr 2 0 0) :: L), ofH ((0, .row 4 [cellsSc S]) :: (1, .row 3 [cellsMs m]) :: (2, .row 5 [[.p (.int .i64 t.kind), .p (.int .i64 t.n), .p (.str t.s), .own 3, .own 4]]) ::
  (3, .row 2 (rowE t q g 5 t.ents.length)) :: (4, .row 4 (liftE (t.rest.map encRaw))) :: (5, .row 5 R) :: H), n⟩
set_option maxRecDepth 100000 in
set_option maxHeartbeats 8000000 in
theorem law10_ValidOther (S : Sc) (p : Int) (l : List Int) (v : Int) (B : bigS S) (hp : -9223372036854775808 ≤ p) (hp' : p ≤ 9223372036854775807) (hv : -9223372036854775808 ≤ v) (hv' : v ≤ 9223372036854775807) : PFn Tryd.prog 6 [.agg (encSc S), .int .i64 p, .slice (l.map encI), .int .i64 v] (.bool true) := by
 have CF := law00_Few S B
 simp only [encSc] at CF
 refine PFn.of Tryd.func6 rfl (by decide) Tryd.ntmps6 Tryd.results6 (Nat.le_of_ble_eq_true rfl) ?_
 simp only [argsT]
 refine AW.rT (by rfl) fun K hK => ?_
 simp -implicitDefEqProofs only [go_sem, Nat.reduceAdd, encSc]
 refine hK _ ?_; clear hK K
 refine AW.seq ?_
 cases hf : fewB S with
 | false =>
  rw [hf] at CF
  refine AW.rT (by rfl) fun K hK => ?_
  simp -implicitDefEqProofs only [go_sem, ↓reduceIte, Nat.reduceAdd, Nat.reduceEqDiff, Nat.reduceLeDiff]
  refine ⟨.pure _, CF, ?_⟩
  try simp -implicitDefEqProofs only [go_sem, ↓reduceIte, Nat.reduceAdd, Nat.reduceEqDiff]
  refine hK _ ?_; clear hK K
  refine AW.cond _ (by simp -implicitDefEqProofs only [go_sem]; rfl) (fun hc => ?_) (fun hc => ?_)
  rotate_left
  ·simp at hc
  refine AW.rT (by rfl) fun K hK => ?_
  simp -implicitDefEqProofs only [go_sem]
  refine ⟨.pure _, law10_awake, ?_⟩
  try simp -implicitDefEqProofs only [go_sem, Nat.reduceAdd]
  refine hK _ ?_; clear hK K
  refine AW.ret ?_
  simp -implicitDefEqProofs only [go_sem]
 | true =>
 rw [hf] at CF
 have F := few_spec hf
 have L := F.lens
 have C1 := ref07_Check S L
 simp only [encSc] at C1
 by_cases h0 : checkC S = 0
 case neg =>
  have b0 : (checkC S != 0) = true := by simpa using h0
  refine AW.rT (by rfl) fun K hK => ?_
  simp -implicitDefEqProofs only [go_sem, ↓reduceIte, Nat.reduceAdd, Nat.reduceEqDiff, Nat.reduceLeDiff]
  refine ⟨.pure _, CF, ?_⟩
  try simp -implicitDefEqProofs only [go_sem, ↓reduceIte, Nat.reduceAdd, Nat.reduceEqDiff, Nat.reduceLeDiff]
  refine ⟨.pure _, C1, ?_⟩
  try simp -implicitDefEqProofs only [go_sem, ↓reduceIte, Nat.reduceAdd, Nat.reduceEqDiff, b0]
  refine hK _ ?_; clear hK K
  refine AW.cond _ (by simp -implicitDefEqProofs only [go_sem]; rfl) (fun hc => ?_) (fun hc => ?_)
  rotate_left
  ·simp at hc
  refine AW.rT (by rfl) fun K hK => ?_
  simp -implicitDefEqProofs only [go_sem]
  refine ⟨.pure _, law10_awake, ?_⟩
  try simp -implicitDefEqProofs only [go_sem, Nat.reduceAdd]
  refine hK _ ?_; clear hK K
  refine AW.ret ?_
  simp -implicitDefEqProofs only [go_sem]
 have b0 : (checkC S != 0) = false := by simp [h0]
 by_cases hl : l.length > 200
 ·have b1 : ((l.length : Int) > 200) = True := eq_true (by omega)
  refine AW.rT (by rfl) fun K hK => ?_
  simp -implicitDefEqProofs only [go_sem, ↓reduceIte, Nat.reduceAdd, Nat.reduceEqDiff, Nat.reduceLeDiff]
  refine ⟨.pure _, CF, ?_⟩
  try simp -implicitDefEqProofs only [go_sem, ↓reduceIte, Nat.reduceAdd, Nat.reduceEqDiff, Nat.reduceLeDiff]
  refine ⟨.pure _, C1, ?_⟩
  try simp -implicitDefEqProofs only [go_sem, ↓reduceIte, Nat.reduceAdd, Nat.reduceEqDiff, reduceCtorEq, b0, b1, List.length_map]
  refine hK _ ?_; clear hK K
  refine AW.cond _ (by simp -implicitDefEqProofs only [go_sem]; rfl) (fun hc => ?_) (fun hc => ?_)
  rotate_left
  ·simp at hc
  refine AW.rT (by rfl) fun K hK => ?_
  simp -implicitDefEqProofs only [go_sem]
  refine ⟨.pure _, law10_awake, ?_⟩
  try simp -implicitDefEqProofs only [go_sem, Nat.reduceAdd]
  refine hK _ ?_; clear hK K
  refine AW.ret ?_
  simp -implicitDefEqProofs only [go_sem]
 have b1 : ((l.length : Int) > 200) = False := eq_false (by omega)
 refine AW.rT (by rfl) fun K hK => ?_
 simp -implicitDefEqProofs only [go_sem, ↓reduceIte, Nat.reduceAdd, Nat.reduceEqDiff, Nat.reduceLeDiff]
 refine ⟨.pure _, CF, ?_⟩
 try simp -implicitDefEqProofs only [go_sem, ↓reduceIte, Nat.reduceAdd, Nat.reduceEqDiff, Nat.reduceLeDiff]
 refine ⟨.pure _, C1, ?_⟩
 try simp -implicitDefEqProofs only [go_sem, ↓reduceIte, Nat.reduceAdd, Nat.reduceEqDiff, reduceCtorEq, b0, b1, List.length_map]
 refine hK _ ?_; clear hK K
 refine AW.cond _ (by simp -implicitDefEqProofs only [go_sem]; rfl) (fun hc => ?_) (fun hc => ?_)
 ·simp at hc
 refine AW.skip ?_
 simp only [andThen]
 have R := right_of h0
 have hn := R.len.1
 have CP := Go.Aw.law00_Place p (S.msgs.length : Int) (by omega) (by have := R.len; omega) hp hp'
 have hq0 := Int.emod_nonneg p (show (S.msgs.length : Int) ≠ 0 by omega)
 have hq1 := Int.emod_lt_of_pos p (show (0 : Int) < (S.msgs.length : Int) by omega)
 obtain ⟨q, hq⟩ := Int.eq_ofNat_of_zero_le hq0
 rw [hq] at CP hq1
 obtain ⟨m, hm⟩ : ∃ m, S.msgs[q]? = some m := ⟨_, List.getElem?_eq_getElem (by omega)⟩
 have hmm := List.mem_of_getElem? hm
 have ⟨hm1, hm2, hm3⟩ := at_map' encMs hm
 have hq2 : ((q : Int) < (S.msgs.length : Int)) = True := eq_true (by omega)
 have FT := fit_t h0 hm l
 have SZ := siz_right R
 have CT := law00_Fit S SZ (flds_all R) l (by omega) m.name (by rw [FT.ms])
 generalize fitB S m.name l = t at FT CT
 have G := FT.good
 have C2 := law00_Schema S F
 have C3 := law00_Tree t G.lens
 simp only [encSc, encTr_eq t] at C2 C3 CT
 obtain ⟨la1, la2, la3⟩ := lensT_mk G.lens
 refine AW.dT mixed (by rfl) (by decide +kernel) fun K hK => ?_
 simp -implicitDefEqProofs only [go_sem, ↓reduceIte, Nat.reduceAdd, Nat.reduceEqDiff, List.length_map]
 refine ⟨.pure _, CP, ?_⟩
 try simp -implicitDefEqProofs only [go_sem, ↓reduceIte, Nat.reduceAdd, Nat.reduceEqDiff, Nat.reduceLeDiff, hm1, hm3, hq2, encMs, List.length_map]
 refine ⟨by decide +kernel, ?_⟩
 refine hK _ ?_; clear hK K
 by_cases he0 : t.ents = []
 ·have z0 : ((((t.ents.map encEn).length : Nat) : Int) == 0) = true := by rw [he0]; rfl
  refine AW.rT (by rfl) fun K hK => ?_
  simp -implicitDefEqProofs only [go_sem, ↓reduceIte, Nat.reduceAdd, Nat.reduceEqDiff, Nat.reduceLeDiff, reduceCtorEq]
  refine ⟨.pure _, CT, ?_⟩
  try simp -implicitDefEqProofs only [go_sem, Nat.reduceAdd]
  refine ⟨.pure _, C3, ?_⟩
  try simp -implicitDefEqProofs only [go_sem, ↓reduceIte, Nat.reduceAdd, Nat.reduceEqDiff, Nat.reduceLeDiff]
  refine hK _ ?_; clear hK K
  refine AW.seq ?_
  refine AW.rT (by rfl) fun K hK => ?_
  simp -implicitDefEqProofs only [go_sem, ↓reduceIte, Nat.reduceAdd, z0]
  refine hK _ ?_; clear hK K
  refine AW.cond _ (by simp -implicitDefEqProofs only [go_sem]; rfl) (fun hc => ?_) (fun hc => ?_)
  rotate_left
  ·simp at hc
  refine AW.rT (by rfl) fun K hK => ?_
  simp -implicitDefEqProofs only [go_sem]
  refine ⟨.pure _, law10_awake, ?_⟩
  try simp -implicitDefEqProofs only [go_sem, Nat.reduceAdd]
  refine hK _ ?_; clear hK K
  refine AW.ret ?_
  simp -implicitDefEqProofs only [go_sem]
 have hel : 0 < t.ents.length := List.length_pos_iff.2 he0
 have CP2 := Go.Aw.law00_Place v (t.ents.length : Int) (by omega) (by omega) hv hv'
 have hv0 := Int.emod_nonneg v (show (t.ents.length : Int) ≠ 0 by omega)
 have hv1 := Int.emod_lt_of_pos v (show (0 : Int) < (t.ents.length : Int) by omega)
 obtain ⟨a, hva⟩ := Int.eq_ofNat_of_zero_le hv0
 rw [hva] at CP2 hv1
 have hal : a < t.ents.length := by omega
 obtain ⟨e, he⟩ : ∃ e, t.ents[a]? = some e := ⟨_, List.getElem?_eq_getElem hal⟩
 have hem := List.mem_of_getElem? he
 obtain ⟨ge1, ge2, ge3⟩ := G.some e hem
 obtain ⟨x, hx⟩ : ∃ x, e.2[0]? = some x := ⟨_, List.getElem?_eq_getElem (by omega)⟩
 obtain ⟨le1, le2⟩ := lensE_at la3 he
 have OT := other_valid h0 FT he hx
 have TA := law00_TreeA t G.lens a e he
 rw [encTr_eq t] at TA
 refine AW.rR (SeqR.ev 5 (by rfl) (by decide) ?_)
 simp -implicitDefEqProofs only [go_sem, ↓reduceIte, Nat.reduceAdd, Nat.reduceEqDiff, Nat.reduceLeDiff, reduceCtorEq]
 refine ⟨.pure _, CT, ?_⟩
 try simp -implicitDefEqProofs only [go_sem, Nat.reduceAdd]
 refine SeqR.call (fun k => k) rfl rfl TA ⟨?_, rfl, (fun x hx => by cases hx), rfl, rfl, rfl, rfl, rfl, ?_⟩ ?_
 ·simp -implicitDefEqProofs only [go_sem, argD]
 ·have h1 := labsBy_lift (p := fun l => ([] : List Nat).contains l || decide (0 ≤ l)) (sz := 4) (es := t.rest.map encRaw)
  have h2 := labsBy_lift (p := fun l => ([] : List Nat).contains l || decide (0 ≤ l)) (sz := 5) (es := e.2.map encTr)
  have h3 := rowE_by (p := fun l => ([] : List Nat).contains l || decide (0 ≤ l)) t a e.1 2 t.ents.length rfl
  simp only [List.all_cons, List.all_nil, h1, h2, h3]
  rfl
 refine SeqR.ev 2 (by rfl) (by decide) ?_
 simp -implicitDefEqProofs only [go_sem, ↓reduceIte, Nat.reduceAdd, Nat.reduceEqDiff, Nat.reduceLeDiff]
 refine SeqR.last rfl ?_
 refine AW.ghost (s' := vx S m t a e.1 (liftE (e.2.map encTr)) [(3, .p (.int .i64 v))] [] 6) ?_ ?_
 ·simp only [vx, cellsSc, cellsMs]
  refine Ghost.ent (fun l => if l = 1 then 24 else if l = 2 then 34 else if l = 3 then 31 else if l = 4 then 32 else if l = 5 then 33 else l) ?_ ?_ ?_ <;> simp -implicitDefEqProofs only [go_sem, ↓reduceIte, Nat.reduceAdd, Nat.reduceEqDiff, reduceCtorEq, lift2, goneU, newU, Nat.reduceSub, rowE_ren, rowE_labs t a e.1 5 t.ents.length 6 (by decide), List.forall_mem_cons, List.not_mem_nil, false_implies, implies_true, and_self, map_renL_lift, labsIn_lift, List.all_cons, List.all_nil, Nat.reduceLT, labsInL, AV.labsIn]
  all_goals first | rfl | skip
 have rl := rowE_len t a e.1 5 t.ents.length (Nat.le_refl _)
 have ra := rowE_at (g := e.1) (l := 5) hal
 have z0 : ((t.ents.length : Int) == 0) = false := beqf (by omega)
 simp only [vx, cellsSc, cellsMs]
 refine AW.seq ?_
 refine AW.rT (by rfl) fun K hK => ?_
 simp -implicitDefEqProofs only [go_sem, ↓reduceIte, Nat.reduceAdd, Nat.reduceEqDiff, reduceCtorEq, rl, z0]
 refine hK _ ?_; clear hK K
 refine AW.cond _ (by simp -implicitDefEqProofs only [go_sem]; rfl) (fun hc => ?_) (fun hc => ?_)
 ·simp at hc
 refine AW.skip ?_
 simp only [andThen]
 have hv2 : ((a : Int) < (t.ents.length : Int)) = True := eq_true (by omega)
 refine AW.dT mixed (by rfl) (by decide +kernel) fun K hK => ?_
 simp -implicitDefEqProofs only [go_sem, ↓reduceIte, Nat.reduceAdd, Nat.reduceEqDiff, reduceCtorEq, rl]
 refine ⟨.pure _, CP2, ?_⟩
 try simp -implicitDefEqProofs only [go_sem, ↓reduceIte, Nat.reduceAdd, Nat.reduceEqDiff, reduceCtorEq, rl, hv2]
 refine ⟨by omega, by decide +kernel, ?_⟩
 refine hK _ ?_; clear hK K
 refine AW.rT (by rfl) fun K hK => ?_
 simp -implicitDefEqProofs only [go_sem, ↓reduceIte, Nat.reduceAdd, Nat.reduceEqDiff, Nat.reduceLeDiff]
 refine hK _ ?_; clear hK K
 have el : (liftE (e.2.map encTr)).length = e.2.length := by rw [liftE_length, List.length_map]
 have r0 : (liftE (e.2.map encTr))[0]? = some [.p (.int .i64 x.kind), .p (.int .i64 x.n), .p (.str x.s), .p (.slice (x.ents.map encEn)), .p (.slice (x.rest.map encRaw))] := by
  unfold liftE
  rw [List.getElem?_map, List.getElem?_map, hx]
  simp [encTr_eq]
 have zl : ((0 : Int) < (e.2.length : Int)) = True := eq_true (by omega)
 have zz : ((0 : Int) ≤ 0) = True := by simp
 refine AW.cut (fun _ : Unit => vx S m t a e.1 (liftE (e.2.map encTr)) [(11, .ptr 3 a 0), (12, .ptr 6 0 0)] [(6, .row 5 [cellsT (otherT x.kind)])] 7) (fun _ => True) ?_ fun _ _ => ?_
 ·by_cases hk : x.kind = 1
  ·have b3 := eqb hk
   have cT : cellsT (.mk 2 0 [97] [] []) = [.p (.int .i64 2), .p (.int .i64 0), .p (.str [97]), .p (.slice []), .p (.slice [])] := rfl
   have oT : otherT x.kind = .mk 2 0 [97] [] [] := by unfold otherT; rw [if_pos hk]
   rw [oT]
   refine AW.rT (by rfl) fun K hK => ?_
   simp -implicitDefEqProofs only [go_sem, ↓reduceIte, Nat.reduceAdd, Nat.reduceEqDiff, reduceCtorEq, Int.reduceToNat, ra, el, r0, zl, zz, b3]
   refine hK _ ?_; clear hK K
   refine AW.cond _ (by simp -implicitDefEqProofs only [go_sem]; rfl) (fun hc => ?_) (fun hc => ?_)
   rotate_left
   ·simp at hc
   refine AW.rE (by rfl) fun K hK => ?_
   simp -implicitDefEqProofs only [go_sem, ↓reduceIte, Nat.reduceAdd, Nat.reduceEqDiff, Nat.reduceLeDiff]
   refine hK _ ?_; clear hK K
   simp only [andThen]
   refine ⟨(), trivial, Ghost.trans (Ghost.exH (l := 20) (i := 0) (j := 3) rfl rfl rfl) (Ghost.trans (Ghost.exH (l := 20) (i := 0) (j := 4) rfl rfl rfl) ?_)⟩
   simp only [vx, cellsSc, cellsMs, cT]
   refine Ghost.ent (fun l => if l = 6 then 20 else l) ?_ ?_ ?_ <;> simp -implicitDefEqProofs only [go_sem, ↓reduceIte, Nat.reduceEqDiff, reduceCtorEq, List.set_cons_zero, List.set_cons_succ, rowE_ren, rowE_labs t a e.1 5 t.ents.length 7 (by decide), List.forall_mem_cons, List.not_mem_nil, false_implies, implies_true, and_self, map_renL_lift, labsIn_lift, List.all_cons, List.all_nil, Nat.reduceLT, labsInL, AV.labsIn]
   all_goals first | rfl | skip
  ·have b3 := beqf hk
   have cT : cellsT (.mk 1 1 [] [] []) = [.p (.int .i64 1), .p (.int .i64 1), .p (.str []), .p (.slice []), .p (.slice [])] := rfl
   have oT : otherT x.kind = .mk 1 1 [] [] [] := by unfold otherT; rw [if_neg hk]
   rw [oT]
   refine AW.rT (by rfl) fun K hK => ?_
   simp -implicitDefEqProofs only [go_sem, ↓reduceIte, Nat.reduceAdd, Nat.reduceEqDiff, reduceCtorEq, Int.reduceToNat, ra, el, r0, zl, zz, b3]
   refine hK _ ?_; clear hK K
   refine AW.cond _ (by simp -implicitDefEqProofs only [go_sem]; rfl) (fun hc => ?_) (fun hc => ?_)
   ·simp at hc
   refine AW.skip ?_
   simp only [andThen]
   refine ⟨(), trivial, Ghost.trans (Ghost.exH (l := 20) (i := 0) (j := 3) rfl rfl rfl) (Ghost.trans (Ghost.exH (l := 20) (i := 0) (j := 4) rfl rfl rfl) ?_)⟩
   simp only [vx, cellsSc, cellsMs, cT]
   refine Ghost.ent (fun l => if l = 6 then 20 else l) ?_ ?_ ?_ <;> simp -implicitDefEqProofs only [go_sem, ↓reduceIte, Nat.reduceEqDiff, reduceCtorEq, List.set_cons_zero, List.set_cons_succ, rowE_ren, rowE_labs t a e.1 5 t.ents.length 7 (by decide), List.forall_mem_cons, List.not_mem_nil, false_implies, implies_true, and_self, map_renL_lift, labsIn_lift, List.all_cons, List.all_nil, Nat.reduceLT, labsInL, AV.labsIn]
   all_goals first | rfl | skip
 simp only [vx, cellsSc, cellsMs, cellsT]
 have OK1 : (otherT x.kind).ents = [] ∧ (otherT x.kind).rest = [] := by unfold otherT; split <;> exact ⟨rfl, rfl⟩
 generalize otherT x.kind = o at *
 refine AW.seq ?_
 refine AW.rT (by rfl) fun K hK => ?_
 simp -implicitDefEqProofs only [go_sem, Nat.reduceAdd]
 refine hK _ ?_; clear hK K
 refine AW.block ?_
 refine AW.loop (fun i : Nat => vx S m t a e.1 (liftE ((List.replicate i o ++ e.2.drop i).map encTr)) [(11, .ptr 3 a 0), (12, .ptr 6 0 0), (13, .p (.int .i64 (i : Int)))] [(6, .row 5 [cellsT o])] 7) (fun i => i ≤ e.2.length) (fun i => e.2.length - i) 0 ?_ (by simp) fun i hi => ?_
 ·simp only [vx, cellsSc, cellsMs, cellsT, List.replicate_zero, List.nil_append, List.drop_zero]
  refine Ghost.sub ?_ ?_ <;> simp -implicitDefEqProofs only [go_sem, ↓reduceIte, Nat.reduceEqDiff, reduceCtorEq, rowE_labs t a e.1 5 t.ents.length 7 (by decide), List.forall_mem_cons, List.not_mem_nil, false_implies, implies_true, and_self, labsIn_lift, List.all_cons, List.all_nil, Nat.reduceLT, labsInL, AV.labsIn]
  all_goals first | rfl | skip
 have w1 : IntKind.wrap .i64 ((i : Int) + 1) = ((i + 1 : Nat) : Int) := by rw [w64] <;> omega
 have eli : (liftE ((List.replicate i o ++ e.2.drop i).map encTr)).length = e.2.length := by rw [liftE_length, List.length_map, List.length_append, List.length_replicate, List.length_drop]; omega
 simp only [vx, cellsSc, cellsMs, cellsT]
 refine AW.seq ?_
 by_cases hil : i < e.2.length
 ·have hc1 : ((i : Int) < (e.2.length : Int)) = True := eq_true (by omega)
  have hset : (liftE ((List.replicate i o ++ e.2.drop i).map encTr)).set i ((encTr o).map AV.p) = liftE ((List.replicate (i + 1) o ++ e.2.drop (i + 1)).map encTr) := by
   rw [setL]
   congr 2
   rw [List.set_append_right i _ (by simp), List.length_replicate, Nat.sub_self, List.drop_eq_getElem_cons hil, List.set_cons_zero, List.replicate_succ', List.append_assoc]
   rfl
  refine AW.rT (by rfl) fun K hK => ?_
  simp -implicitDefEqProofs only [go_sem, ↓reduceIte, Nat.reduceAdd, Nat.reduceEqDiff, reduceCtorEq, ra, eli, hc1]
  refine hK _ ?_; clear hK K
  refine AW.cond _ (by simp -implicitDefEqProofs only [go_sem]; rfl) (fun hc => ?_) (fun hc => ?_)
  rotate_left
  ·simp at hc
  refine AW.skip ?_
  simp only [andThen]
  refine AW.seq ?_
  refine AW.block ?_
  obtain ⟨y, hy⟩ : ∃ y, e.2[i]? = some y := ⟨_, List.getElem?_eq_getElem hil⟩
  have ri : (liftE ((List.replicate i o ++ e.2.drop i).map encTr))[i]? = some [.p (.int .i64 y.kind), .p (.int .i64 y.n), .p (.str y.s), .p (.slice (y.ents.map encEn)), .p (.slice (y.rest.map encRaw))] := by
   unfold liftE
   rw [List.getElem?_map, List.getElem?_map, List.getElem?_append_right (by simp), List.length_replicate, Nat.sub_self, List.getElem?_drop, Nat.add_zero, hy]
   simp [encTr_eq]
  rw [encTr_eq] at hset
  simp only [List.map_cons, List.map_nil] at hset
  have i0 : ((0 : Int) ≤ (i : Int)) = True := eq_true (by omega)
  refine AW.dE mixed (by rfl) (by decide +kernel) fun K hK => ?_
  simp -implicitDefEqProofs only [go_sem, ↓reduceIte, Nat.reduceAdd, Nat.reduceEqDiff, Nat.reduceLeDiff, reduceCtorEq, ra, eli, hc1, ri, i0]
  refine ⟨by decide +kernel, ?_⟩
  refine hK _ ?_; clear hK K
  simp only [andThen, inBlk]
  refine AW.rE (by rfl) fun K hK => ?_
  simp -implicitDefEqProofs only [go_sem, ↓reduceIte, Nat.reduceAdd, Nat.reduceEqDiff, w1]
  refine hK _ ?_; clear hK K
  refine ⟨i + 1, by omega, by omega, ?_⟩
  show Ghost _ _ (vx S m t a e.1 (liftE ((List.replicate (i + 1) o ++ e.2.drop (i + 1)).map encTr)) [(11, .ptr 3 a 0), (12, .ptr 6 0 0), (13, .p (.int .i64 ((i + 1 : Nat) : Int)))] [(6, .row 5 [cellsT o])] 7)
  simp only [vx, cellsSc, cellsMs, cellsT]
  refine Ghost.sub ?_ ?_ <;> simp -implicitDefEqProofs only [go_sem, ↓reduceIte, Nat.reduceEqDiff, reduceCtorEq, hset, rowE_labs t a e.1 5 t.ents.length 7 (by decide), List.forall_mem_cons, List.not_mem_nil, false_implies, implies_true, and_self, labsIn_lift, List.all_cons, List.all_nil, Nat.reduceLT, labsInL, AV.labsIn]
  all_goals first | rfl | skip
 have hi' : i = e.2.length := by omega
 have hc1 : ((i : Int) < (e.2.length : Int)) = False := eq_false (by omega)
 have hfin : List.replicate i o ++ e.2.drop i = List.replicate e.2.length o := by rw [hi', List.drop_length, List.append_nil]
 refine AW.rT (by rfl) fun K hK => ?_
 simp -implicitDefEqProofs only [go_sem, ↓reduceIte, Nat.reduceAdd, Nat.reduceEqDiff, reduceCtorEq, ra, eli, hc1]
 refine hK _ ?_; clear hK K
 refine AW.cond _ (by simp -implicitDefEqProofs only [go_sem]; rfl) (fun hc => ?_) (fun hc => ?_)
 ·simp at hc
 refine AW.exit ?_
 simp only [andThen, inBlk, ↓reduceIte]
 rw [hfin]
 have C5 := valid_Valid S m.name (chT t a e.1 (List.replicate e.2.length o)) L OT.lens OT.str
 rw [OT.valid] at C5
 have cc : encTr (chT t a e.1 (List.replicate e.2.length o)) = [.int .i64 t.kind, .int .i64 t.n, .str t.s, .slice ((t.ents.set a (e.1, List.replicate e.2.length o)).map encEn), .slice (t.rest.map encRaw)] := by rw [encTr_eq]; rfl
 rw [cc] at C5
 simp only [encSc] at C5
 generalize List.replicate e.2.length o = ls at *
 refine AW.ghost (s' := ⟨ofL [(4, .ptr 0 0 0), (9, .ptr 1 0 0), (10, .ptr 2 0 0)], ofH [(0, .row 4 [cellsSc S]), (1, .row 3 [cellsMs m]), (2, .row 5 [[.p (.int .i64 t.kind), .p (.int .i64 t.n), .p (.str t.s), .own 3, .own 4]]), (3, .row 2 (liftE ((t.ents.set a (e.1, ls)).map encEn))), (4, .row 4 (liftE (t.rest.map encRaw)))], 5⟩) (Ghost.trans (Ghost.freeze (lb := 5) (ps := ls.map encTr) rfl (unlift_liftE _)) ?_) ?_
 ·simp only [cellsSc, cellsMs]
  refine Ghost.sub ?_ ?_ <;> simp -implicitDefEqProofs only [go_sem, ↓reduceIte, Nat.reduceEqDiff, reduceCtorEq, thaw, thaw1, Option.map_some, List.map_cons, List.map_nil, thaw_lift, rowE_shutG hal, List.forall_mem_cons, List.not_mem_nil, false_implies, implies_true, and_self, labsIn_lift, List.all_cons, List.all_nil, Nat.reduceLT, labsInL, AV.labsIn]
  done
 refine AW.ghost (s' := ⟨ofL [(4, .ptr 0 0 0), (9, .ptr 1 0 0), (10, .ptr 2 0 0)], ofH [(0, .row 4 [cellsSc S]), (1, .row 3 [cellsMs m]), (2, .row 5 [[.p (.int .i64 t.kind), .p (.int .i64 t.n), .p (.str t.s), .p (.slice ((t.ents.set a (e.1, ls)).map encEn)), .own 4]]), (4, .row 4 (liftE (t.rest.map encRaw)))], 5⟩) (Ghost.trans (Ghost.freeze (lb := 3) (ps := (t.ents.set a (e.1, ls)).map encEn) rfl (unlift_liftE _)) ?_) ?_
 ·simp only [cellsSc, cellsMs]
  refine Ghost.sub ?_ ?_ <;> simp -implicitDefEqProofs only [go_sem, ↓reduceIte, Nat.reduceEqDiff, reduceCtorEq, thaw, thaw1, Option.map_some, List.map_cons, List.map_nil, thaw_lift, List.forall_mem_cons, List.not_mem_nil, false_implies, implies_true, and_self, labsIn_lift, List.all_cons, List.all_nil, Nat.reduceLT, labsInL, AV.labsIn]
  done
 refine AW.ghost (s' := ⟨ofL [(4, .ptr 0 0 0), (9, .ptr 1 0 0), (10, .ptr 2 0 0)], ofH [(0, .row 4 [cellsSc S]), (1, .row 3 [cellsMs m]), (2, .row 5 [[.p (.int .i64 t.kind), .p (.int .i64 t.n), .p (.str t.s), .p (.slice ((t.ents.set a (e.1, ls)).map encEn)), .p (.slice (t.rest.map encRaw))]])], 5⟩) (Ghost.trans (Ghost.freeze (lb := 4) (ps := t.rest.map encRaw) rfl (unlift_liftE _)) ?_) ?_
 ·simp only [cellsSc, cellsMs]
  refine Ghost.sub ?_ ?_ <;> simp -implicitDefEqProofs only [go_sem, ↓reduceIte, Nat.reduceEqDiff, reduceCtorEq, thaw, thaw1, Option.map_some, List.map_cons, List.map_nil, List.forall_mem_cons, List.not_mem_nil, false_implies, implies_true, and_self, List.all_cons, List.all_nil, Nat.reduceLT, labsInL, AV.labsIn]
  done
 simp only [cellsSc, cellsMs]
 refine AW.dT mixed (by rfl) (by decide +kernel) fun K hK => ?_
 simp -implicitDefEqProofs only [go_sem, ↓reduceIte, Nat.reduceAdd, Nat.reduceLeDiff]
 refine ⟨.pure _, C2, ?_⟩
 try simp -implicitDefEqProofs only [go_sem, ↓reduceIte, Nat.reduceAdd, Nat.reduceEqDiff, Nat.reduceLeDiff, reduceCtorEq]
 refine ⟨.pure _, C5, ?_⟩
 try simp -implicitDefEqProofs only [go_sem, ↓reduceIte, Nat.reduceAdd]
 refine ⟨.pure _, law10_awake, ?_⟩
 try simp -implicitDefEqProofs only [go_sem, ↓reduceIte, Nat.reduceAdd, Nat.reduceEqDiff]
 refine ⟨by decide +kernel, ?_⟩
 refine hK _ ?_; clear hK K
 refine AW.ret ?_
 simp -implicitDefEqProofs only [go_sem]
end Go.Aw.T
namespace Go.Aw.T
open Go.RowKit Go.ChangeShapes
open Go.Proofs
variable {P : Program} {w : World}
def OpnB (B : Nat → Prop) (P : Program) (w : World) (t : TypeId) {α : Type} (e : α → List PV) (G : α → Prop) : Prop :=
 (∀ a, ∀ p ∈ e a, p.one = true) ∧ ∀ (H : Type) (enc : TypeId × Value → H) (fuel : Nat), B fuel → ∀ (cs : List Value) (d : DataW H × List MemPlace), DataW.trod enc P w 0 (fun _ => true) true fuel t cs = some d →
  ∃ a, G a ∧ cs.length = (e a).length ∧ ∀ (j : Nat) u p, cs[j]? = some u → (e a)[j]? = some p → rep w (old w) u p
theorem OpnB.mono {B B' : Nat → Prop} {t : TypeId} {α : Type} {e : α → List PV} {G : α → Prop} (h : OpnB B P w t e G) (hb : ∀ n, B' n → B n) : OpnB B' P w t e G := ⟨h.1, fun H enc fuel hB cs d hd => h.2 H enc fuel (hb _ hB) cs d hd⟩
end Go.Aw.T
namespace Go.Aw.T
open Go.Proofs Go.RowKit Go.ChangeShapes
end Go.Aw.T
