/- What the law LawProjectDrops leans on, joined (part 4). -/
import Derived.Test.YtpbangopjdlfcaaDoorZprojectDrops3
set_option linter.unusedSimpArgs false
set_option linter.unusedVariables false
namespace Go.Aw
open Go.Proofs Go.RowKit
set_option linter.unusedSimpArgs false
set_option linter.unusedVariables false
def rm1 (S : Sc) (m : Ms) (i : Nat) : St := ⟨ofL [(2, .ptr 0 0 0), (3, .ptr 1 0 0), (5, .p (.int .i64 (i : Int)))], ofH [(0, .row 4 [cellsSc S]), (1, .row 3 [cellsMs m])], 2⟩
def rm2 (S : Sc) (m : Ms) (i : Nat) : St := ⟨ofL [(2, .ptr 0 0 0), (3, .ptr 1 0 0), (6, .own 2), (7, .p (.int .i64 (i : Int)))], ofH [(0, .row 4 [cellsSc S]), (1, .row 3 [cellsMs m]), (2, .row 1 (liftE (((m.fields.take i).map Fd.name).map encS)))], 3⟩
theorem found_tag {l : List Fd} {i : Nat} {t : Int} : (firstP (fun x : Fd => x.tag == t) zFd (l.take i)).2 = ((l.take i).map Fd.tag).contains t := by
 rw [contains_any, List.any_map]
 unfold firstP
 cases h : (l.take i).find? fun x => x.tag == t with
 | none =>
  rw [List.find?_eq_none] at h
  symm
  rw [List.any_eq_false]
  intro x hx
  have := h x hx
  simp at this ⊢
  intro e
  exact this e.symm
 | some x =>
  symm
  rw [List.any_eq_true]
  exact ⟨x, List.mem_of_find?_eq_some h, by have := List.find?_some h; simp at this ⊢; exact this.symm⟩
theorem tag_split (t : Int) : t < 1 ∨ 500 < t ∨ (1 ≤ t ∧ t ≤ 500) := by omega
theorem len_encI {l : List Int} : ∀ y ∈ List.map encI l, 1 = y.length := by
 intro y hy
 obtain ⟨a, _, rfl⟩ := List.mem_map.1 hy
 rfl
theorem len_encFd {l : List Fd} : ∀ y ∈ List.map encFd l, 5 = y.length := by
 intro y hy
 obtain ⟨a, _, rfl⟩ := List.mem_map.1 hy
 rfl
set_option maxRecDepth 100000 in
set_option maxHeartbeats 4000000 in
theorem ref07_message (S : Sc) (m : Ms) (h1 : S.msgs.length ≤ 1000000) (h2 : S.enums.length ≤ 1000000) (hm : lensF m) :
  PFn Tryd.prog 88 [.agg (encSc S), .agg (encMs m)] (.int .i64 (bodyC S m)) := by
 refine PFn.of Tryd.func88 rfl (by decide) Tryd.ntmps88 Tryd.results88 (Nat.le_of_ble_eq_true rfl) ?_
 simp only [argsT, encSc, encMs]
 refine AW.rT (by rfl) fun K hK => ?_
 simp -implicitDefEqProofs only [go_sem, ↓reduceIte, Nat.reduceAdd, Nat.reduceEqDiff]
 refine hK _ ?_; clear hK K
 refine AW.seq ?_
 by_cases c1 : m.fields.length > 16
 ·have b1 : ((m.fields.length : Int) > 16) = True := eq_true (by omega)
  have e : bodyC S m = 4 := by unfold bodyC; rw [if_pos (.inl c1)]
  refine AW.rT (by rfl) fun K hK => ?_
  simp -implicitDefEqProofs only [go_sem, ↓reduceIte, Nat.reduceAdd, Nat.reduceEqDiff, b1, List.length_map]
  refine hK _ ?_; clear hK K
  refine AW.cond _ (by simp -implicitDefEqProofs only [go_sem]; rfl) (fun hc => ?_) (fun hc => ?_)
  rotate_left
  ·simp at hc
  refine AW.rT (by rfl) fun K hK => ?_
  simp -implicitDefEqProofs only [go_sem, Nat.reduceAdd]
  refine hK _ ?_; clear hK K
  refine AW.ret ?_
  simp -implicitDefEqProofs only [go_sem, e]
 have b1 : ((m.fields.length : Int) > 16) = False := eq_false (by omega)
 by_cases c2 : m.res.length > 32
 ·have b2 : ((m.res.length : Int) > 32) = True := eq_true (by omega)
  have e : bodyC S m = 4 := by unfold bodyC; rw [if_pos (.inr c2)]
  refine AW.rT (by rfl) fun K hK => ?_
  simp -implicitDefEqProofs only [go_sem, ↓reduceIte, Nat.reduceAdd, Nat.reduceEqDiff, b1, b2, List.length_map]
  refine hK _ ?_; clear hK K
  refine AW.cond _ (by simp -implicitDefEqProofs only [go_sem]; rfl) (fun hc => ?_) (fun hc => ?_)
  rotate_left
  ·simp at hc
  refine AW.rT (by rfl) fun K hK => ?_
  simp -implicitDefEqProofs only [go_sem, Nat.reduceAdd]
  refine hK _ ?_; clear hK K
  refine AW.ret ?_
  simp -implicitDefEqProofs only [go_sem, e]
 have b2 : ((m.res.length : Int) > 32) = False := eq_false (by omega)
 refine AW.rT (by rfl) fun K hK => ?_
 simp -implicitDefEqProofs only [go_sem, ↓reduceIte, Nat.reduceAdd, Nat.reduceEqDiff, b1, b2, List.length_map]
 refine hK _ ?_; clear hK K
 refine AW.cond _ (by simp -implicitDefEqProofs only [go_sem]; rfl) (fun hc => ?_) (fun hc => ?_)
 ·simp at hc
 refine AW.skip ?_
 simp only [andThen]
 have e0 : bodyC S m = if resBad [] m.res = true then 7 else fldsC S [] m.res m.fields := by unfold bodyC; rw [if_neg (by omega)]
 refine AW.seq ?_
 refine AW.rT (by rfl) fun K hK => ?_
 simp -implicitDefEqProofs only [go_sem, Nat.reduceAdd]
 refine hK _ ?_; clear hK K
 refine AW.block ?_
 refine AW.loop (rm1 S m) (fun i => i ≤ m.res.length ∧ resBad [] m.res = resBad (m.res.take i) (m.res.drop i)) (fun i => m.res.length - i) 0 ?_ ⟨by omega, by rw [List.drop_zero, List.take_zero]⟩ fun i hi => ?_
 ·simp only [rm1, cellsSc, cellsMs]
  refine Ghost.sub ?_ ?_ <;> simp -implicitDefEqProofs only [go_sem, ↓reduceIte, Nat.reduceEqDiff, reduceCtorEq, List.forall_mem_cons, List.not_mem_nil, false_implies, implies_true, and_self, List.all_cons, List.all_nil, Nat.reduceLT, labsInL, AV.labsIn]
  rfl
 obtain ⟨i1, i2⟩ := hi
 simp only [rm1, cellsSc, cellsMs]
 refine AW.seq ?_
 by_cases hil : i < m.res.length
 case neg =>
  have hc1 : ((i : Int) < (m.res.length : Int)) = False := eq_false (by omega)
  rw [List.take_of_length_le (by omega), List.drop_of_length_le (by omega), resBad] at i2
  rw [i2, if_neg (by simp)] at e0
  clear hil
  refine AW.rT (by rfl) fun K hK => ?_
  simp -implicitDefEqProofs only [go_sem, ↓reduceIte, Nat.reduceAdd, Nat.reduceEqDiff, hc1, List.length_map]
  refine hK _ ?_; clear hK K
  refine AW.cond _ (by simp -implicitDefEqProofs only [go_sem]; rfl) (fun hc => ?_) (fun hc => ?_)
  ·simp at hc
  refine AW.exit ?_
  simp only [andThen, inBlk, ↓reduceIte]
  refine AW.rT (by rfl) fun K hK => ?_
  simp -implicitDefEqProofs only [go_sem, Nat.reduceAdd]
  refine hK _ ?_; clear hK K
  refine AW.seq ?_
  refine AW.rT (by rfl) fun K hK => ?_
  simp -implicitDefEqProofs only [go_sem, Nat.reduceAdd]
  refine hK _ ?_; clear hK K
  refine AW.block ?_
  refine AW.loop (rm2 S m) (fun i => i ≤ m.fields.length ∧ fldsC S [] m.res m.fields = fldsC S ((m.fields.take i).map Fd.name) (m.res ++ (m.fields.take i).map Fd.tag) (m.fields.drop i)) (fun i => m.fields.length - i) 0 ?_ ⟨by omega, by simp⟩ fun j hj => ?_
  ·refine Ghost.trans (Ghost.nil (t := 6) (sz := 1) rfl) ?_
   simp only [rm2, cellsSc, cellsMs]
   refine Ghost.ent (fun l => if l = 2 then 9 else l) ?_ ?_ ?_ <;> simp -implicitDefEqProofs only [go_sem, ↓reduceIte, Nat.reduceEqDiff, reduceCtorEq, List.take_zero, List.map_nil, liftE_nil, List.forall_mem_cons, List.not_mem_nil, false_implies, implies_true, and_self, List.all_cons, List.all_nil, Nat.reduceLT, labsInL, AV.labsIn]
   all_goals first | rfl | decide | skip
  obtain ⟨j1, j2⟩ := hj
  simp only [rm2, cellsSc, cellsMs]
  refine AW.seq ?_
  by_cases hjl : j < m.fields.length
  case neg =>
   have hc2 : ((j : Int) < (m.fields.length : Int)) = False := eq_false (by omega)
   rw [List.drop_of_length_le (by omega), fldsC] at j2
   rw [j2] at e0
   refine AW.rT (by rfl) fun K hK => ?_
   simp -implicitDefEqProofs only [go_sem, ↓reduceIte, Nat.reduceAdd, Nat.reduceEqDiff, hc2, List.length_map]
   refine hK _ ?_; clear hK K
   refine AW.cond _ (by simp -implicitDefEqProofs only [go_sem]; rfl) (fun hc => ?_) (fun hc => ?_)
   ·simp at hc
   refine AW.exit ?_
   simp only [andThen, inBlk, ↓reduceIte]
   refine AW.rT (by rfl) fun K hK => ?_
   simp -implicitDefEqProofs only [go_sem, Nat.reduceAdd]
   refine hK _ ?_; clear hK K
   refine AW.ret ?_
   simp -implicitDefEqProofs only [go_sem, e0]
  obtain ⟨f, hf⟩ : ∃ f, m.fields[j]? = some f := ⟨_, List.getElem?_eq_getElem hjl⟩
  have ⟨hf1, hf2, hf3⟩ := at_map' encFd hf
  have hc2 : ((j : Int) < (m.fields.length : Int)) = True := eq_true (by omega)
  have hj3 : ((j : Int) ≤ (m.fields.length : Int)) := by omega
  have w1 : IntKind.wrap .i64 ((j : Int) + 1) = ((j + 1 : Nat) : Int) := by rw [w64] <;> omega
  rw [fldsC_at hf] at j2
  have hnx := take_map_next Fd.name hf
  have htx := take_map_next Fd.tag hf
  have hft := found_tag (l := m.fields) (i := j) (t := f.tag)
  have hNl : ((m.fields.take j).map Fd.name).length ≤ 1000000 := by rw [List.length_map, List.length_take]; omega
  have CFd := ref07_Field ⟨[], m.fields.take j, []⟩ f.tag (by show (m.fields.take j).length ≤ 1000000; rw [List.length_take]; omega)
  have CRs := ref07_Reserved m f.tag (by omega)
  have eF : encMs ⟨[], m.fields.take j, []⟩ = [.str [], .slice ((m.fields.map encFd).take j), .slice []] := by simp [encMs, List.map_take]
  rw [eF] at CFd
  simp only [encMs, encFd] at CRs CFd
  generalize hN : (m.fields.take j).map Fd.name = N at *
  generalize hT : (m.fields.take j).map Fd.tag = T at *
  have FR := ref07_fresh N f.name (by omega) (hm.2 f (List.mem_of_getElem? hf))
  refine AW.rT (by rfl) fun K hK => ?_
  simp -implicitDefEqProofs only [go_sem, ↓reduceIte, Nat.reduceAdd, Nat.reduceEqDiff, hc2, List.length_map]
  refine hK _ ?_; clear hK K
  refine AW.cond _ (by simp -implicitDefEqProofs only [go_sem]; rfl) (fun hc => ?_) (fun hc => ?_)
  rotate_left
  ·simp at hc
  refine AW.skip ?_
  simp only [andThen]
  refine AW.seq ?_
  refine AW.block ?_
  refine AW.rT (by rfl) fun K hK => ?_
  simp -implicitDefEqProofs only [go_sem, ↓reduceIte, Nat.reduceAdd, Nat.reduceEqDiff, Nat.reduceLeDiff, hf1, hf3, hc2, encFd, List.length_map]
  refine hK _ ?_; clear hK K
  refine AW.seq ?_
  cases ht2 : takesB N f.name with
  | false =>
   rw [ht2] at FR
   rw [ht2, if_neg (by simp)] at j2
   rw [j2] at e0
   refine AW.rT (by rfl) fun K hK => ?_
   simp -implicitDefEqProofs only [go_sem, ↓reduceIte, Nat.reduceAdd, Nat.reduceEqDiff, reduceCtorEq]
   refine ⟨.peek _, ⟨FR, rfl⟩, ?_⟩
   try simp -implicitDefEqProofs only [go_sem, Nat.reduceAdd]
   refine hK _ ?_; clear hK K
   refine AW.cond _ (by simp -implicitDefEqProofs only [go_sem]; rfl) (fun hc => ?_) (fun hc => ?_)
   rotate_left
   ·simp at hc
   refine AW.rT (by rfl) fun K hK => ?_
   simp -implicitDefEqProofs only [go_sem, Nat.reduceAdd]
   refine hK _ ?_; clear hK K
   refine AW.ret ?_
   simp -implicitDefEqProofs only [go_sem, e0]
  | true =>
  rw [ht2] at FR
  rw [ht2, if_pos rfl] at j2
  refine AW.rT (by rfl) fun K hK => ?_
  simp -implicitDefEqProofs only [go_sem, ↓reduceIte, Nat.reduceAdd, Nat.reduceEqDiff, reduceCtorEq]
  refine ⟨.peek _, ⟨FR, rfl⟩, ?_⟩
  try simp -implicitDefEqProofs only [go_sem, Nat.reduceAdd]
  refine hK _ ?_; clear hK K
  refine AW.cond _ (by simp -implicitDefEqProofs only [go_sem]; rfl) (fun hc => ?_) (fun hc => ?_)
  ·simp at hc
  refine AW.skip ?_
  simp only [andThen]
  refine AW.rT (by rfl) fun K hK => ?_
  simp -implicitDefEqProofs only [go_sem, ↓reduceIte, Nat.reduceAdd, Nat.reduceMul, Nat.reduceEqDiff, Nat.reduceLeDiff, reduceCtorEq]
  refine ⟨⟨by simp, by simp [oneAll, AV.one, PV.one], by simp⟩, by simp [liftE_length]; omega, ?_⟩
  refine hK _ ?_; clear hK K
  refine AW.seq ?_
  refine AW.dT mixed (by rfl) (by decide +kernel) fun K hK => ?_
  simp -implicitDefEqProofs only [go_sem, ↓reduceIte, Nat.reduceAdd, Nat.reduceEqDiff, Nat.reduceLeDiff, hj3, List.length_map]
  refine ⟨len_encFd, by simp, ⟨by simp, by simp <;> omega⟩, ?_⟩
  refine ⟨.pure _, CFd, ?_⟩
  try simp -implicitDefEqProofs only [go_sem, ↓reduceIte, Nat.reduceAdd, Nat.reduceEqDiff, Nat.reduceLeDiff]
  refine ⟨by decide +kernel, ?_⟩
  refine hK _ ?_; clear hK K
  cases hTc : T.contains f.tag with
  | true =>
   have hb : (tagB f.tag && !(m.res ++ T).contains f.tag) = false := by
    have : (m.res ++ T).contains f.tag = true := by
     rw [List.contains_iff_mem] at hTc ⊢
     exact List.mem_append_right _ hTc
    rw [this]; simp
   rw [hb, if_neg (by simp)] at j2
   rw [j2] at e0
   rw [hTc] at hft
   refine AW.rT (by rfl) fun K hK => ?_
   simp -implicitDefEqProofs only [go_sem, ↓reduceIte, Nat.reduceAdd, Nat.reduceEqDiff, hft]
   refine hK _ ?_; clear hK K
   refine AW.cond _ (by simp -implicitDefEqProofs only [go_sem]; rfl) (fun hc => ?_) (fun hc => ?_)
   rotate_left
   ·simp at hc
   refine AW.rT (by rfl) fun K hK => ?_
   simp -implicitDefEqProofs only [go_sem, Nat.reduceAdd]
   refine hK _ ?_; clear hK K
   refine AW.ret ?_
   simp -implicitDefEqProofs only [go_sem, e0]
  | false =>
  rw [hTc] at hft
  rcases tag_split f.tag with htg | htg | htg
  ·have hb : tagB f.tag = false := decide_eq_false (by omega)
   rw [hb, Bool.false_and, if_neg (by simp)] at j2
   rw [j2] at e0
   have f1 : (f.tag < 1) = True := eq_true htg
   refine AW.rT (by rfl) fun K hK => ?_
   simp -implicitDefEqProofs only [go_sem, ↓reduceIte, Nat.reduceAdd, Nat.reduceEqDiff, hft, f1]
   refine hK _ ?_; clear hK K
   refine AW.cond _ (by simp -implicitDefEqProofs only [go_sem]; rfl) (fun hc => ?_) (fun hc => ?_)
   rotate_left
   ·simp at hc
   refine AW.rT (by rfl) fun K hK => ?_
   simp -implicitDefEqProofs only [go_sem, Nat.reduceAdd]
   refine hK _ ?_; clear hK K
   refine AW.ret ?_
   simp -implicitDefEqProofs only [go_sem, e0]
  ·have hb : tagB f.tag = false := decide_eq_false (by omega)
   rw [hb, Bool.false_and, if_neg (by simp)] at j2
   rw [j2] at e0
   have f1 : (f.tag < 1) = False := eq_false (by omega)
   have f2 : (f.tag > 500) = True := eq_true htg
   refine AW.rT (by rfl) fun K hK => ?_
   simp -implicitDefEqProofs only [go_sem, ↓reduceIte, Nat.reduceAdd, Nat.reduceEqDiff, hft, f1, f2]
   refine hK _ ?_; clear hK K
   refine AW.cond _ (by simp -implicitDefEqProofs only [go_sem]; rfl) (fun hc => ?_) (fun hc => ?_)
   rotate_left
   ·simp at hc
   refine AW.rT (by rfl) fun K hK => ?_
   simp -implicitDefEqProofs only [go_sem, Nat.reduceAdd]
   refine hK _ ?_; clear hK K
   refine AW.ret ?_
   simp -implicitDefEqProofs only [go_sem, e0]
  have hb : tagB f.tag = true := decide_eq_true htg
  rw [hb, Bool.true_and] at j2
  have f1 : (f.tag < 1) = False := eq_false (by omega)
  have f2 : (f.tag > 500) = False := eq_false (by omega)
  cases hRc : m.res.contains f.tag with
  | true =>
   have hb : (m.res ++ T).contains f.tag = true := by
    rw [List.contains_iff_mem] at hRc ⊢
    exact List.mem_append_left _ hRc
   rw [hb, if_neg (by simp)] at j2
   rw [j2] at e0
   refine AW.rT (by rfl) fun K hK => ?_
   simp -implicitDefEqProofs only [go_sem, ↓reduceIte, Nat.reduceAdd, Nat.reduceEqDiff, Nat.reduceLeDiff, hft, f1, f2]
   refine ⟨.pure _, CRs, ?_⟩
   try simp -implicitDefEqProofs only [go_sem, ↓reduceIte, Nat.reduceAdd, Nat.reduceEqDiff, hRc]
   refine hK _ ?_; clear hK K
   refine AW.cond _ (by simp -implicitDefEqProofs only [go_sem]; rfl) (fun hc => ?_) (fun hc => ?_)
   rotate_left
   ·simp at hc
   refine AW.rT (by rfl) fun K hK => ?_
   simp -implicitDefEqProofs only [go_sem, Nat.reduceAdd]
   refine hK _ ?_; clear hK K
   refine AW.ret ?_
   simp -implicitDefEqProofs only [go_sem, e0]
  | false =>
  have hb : (m.res ++ T).contains f.tag = false := by
   rw [contains_any] at hRc hTc ⊢
   rw [List.any_append, hRc, hTc]; rfl
  rw [hb, if_pos (by simp)] at j2
  refine AW.rT (by rfl) fun K hK => ?_
  simp -implicitDefEqProofs only [go_sem, ↓reduceIte, Nat.reduceAdd, Nat.reduceEqDiff, Nat.reduceLeDiff, hft, f1, f2]
  refine ⟨.pure _, CRs, ?_⟩
  try simp -implicitDefEqProofs only [go_sem, ↓reduceIte, Nat.reduceAdd, Nat.reduceEqDiff, hRc]
  refine hK _ ?_; clear hK K
  refine AW.cond _ (by simp -implicitDefEqProofs only [go_sem]; rfl) (fun hc => ?_) (fun hc => ?_)
  ·simp at hc
  refine AW.skip ?_
  simp only [andThen]
  rcases label_cases f.label with hlb | hlb | hlb
  ·have hb : fieldB S f = false := by
    have : labelB f.label = false := decide_eq_false (by omega)
    unfold fieldB; rw [this]; rfl
   rw [hb, if_neg (by simp)] at j2
   rw [j2] at e0
   have g1 : (f.label < 1) = True := eq_true hlb
   refine AW.rT (by rfl) fun K hK => ?_
   simp -implicitDefEqProofs only [go_sem, ↓reduceIte, Nat.reduceAdd, Nat.reduceEqDiff, g1]
   refine hK _ ?_; clear hK K
   refine AW.cond _ (by simp -implicitDefEqProofs only [go_sem]; rfl) (fun hc => ?_) (fun hc => ?_)
   rotate_left
   ·simp at hc
   refine AW.rT (by rfl) fun K hK => ?_
   simp -implicitDefEqProofs only [go_sem, Nat.reduceAdd]
   refine hK _ ?_; clear hK K
   refine AW.ret ?_
   simp -implicitDefEqProofs only [go_sem, e0]
  rotate_left
  ·have hb : fieldB S f = false := by
    have : labelB f.label = false := decide_eq_false (by omega)
    unfold fieldB; rw [this]; rfl
   rw [hb, if_neg (by simp)] at j2
   rw [j2] at e0
   have g1 : (f.label < 1) = False := eq_false (by omega)
   have g2 : (f.label > 3) = True := eq_true hlb
   refine AW.rT (by rfl) fun K hK => ?_
   simp -implicitDefEqProofs only [go_sem, ↓reduceIte, Nat.reduceAdd, Nat.reduceEqDiff, g1, g2]
   refine hK _ ?_; clear hK K
   refine AW.cond _ (by simp -implicitDefEqProofs only [go_sem]; rfl) (fun hc => ?_) (fun hc => ?_)
   rotate_left
   ·simp at hc
   refine AW.rT (by rfl) fun K hK => ?_
   simp -implicitDefEqProofs only [go_sem, Nat.reduceAdd]
   refine hK _ ?_; clear hK K
   refine AW.ret ?_
   simp -implicitDefEqProofs only [go_sem, e0]
  have hb : fieldB S f = kindB S f.ty := by
   have : labelB f.label = true := decide_eq_true hlb
   unfold fieldB; rw [this]; rfl
  rw [hb] at j2
  have g1 : (f.label < 1) = False := eq_false (by omega)
  have g2 : (f.label > 3) = False := eq_false (by omega)
  have CK := ref07_kind S f.ty h1 h2
  simp only [encSc, encTy] at CK
  refine AW.rT (by rfl) fun K hK => ?_
  simp -implicitDefEqProofs only [go_sem, ↓reduceIte, Nat.reduceAdd, Nat.reduceEqDiff, Nat.reduceLeDiff, reduceCtorEq, g1, g2]
  refine ⟨.pure _, CK, ?_⟩
  try simp -implicitDefEqProofs only [go_sem, ↓reduceIte, Nat.reduceAdd, Nat.reduceEqDiff]
  cases hk : kindB S f.ty with
  | false =>
   rw [hk, if_neg (by simp)] at j2
   rw [j2] at e0
   simp -implicitDefEqProofs only [go_sem]
   refine hK _ ?_; clear hK K
   refine AW.cond _ (by simp -implicitDefEqProofs only [go_sem]; rfl) (fun hc => ?_) (fun hc => ?_)
   rotate_left
   ·simp at hc
   refine AW.rT (by rfl) fun K hK => ?_
   simp -implicitDefEqProofs only [go_sem, Nat.reduceAdd]
   refine hK _ ?_; clear hK K
   refine AW.ret ?_
   simp -implicitDefEqProofs only [go_sem, e0]
  | true =>
   rw [hk, if_pos rfl] at j2
   simp -implicitDefEqProofs only [go_sem]
   refine hK _ ?_; clear hK K
   refine AW.cond _ (by simp -implicitDefEqProofs only [go_sem]; rfl) (fun hc => ?_) (fun hc => ?_)
   ·simp at hc
   refine AW.skip ?_
   simp only [andThen, inBlk]
   refine AW.rE (by rfl) fun K hK => ?_
   simp -implicitDefEqProofs only [go_sem, ↓reduceIte, Nat.reduceAdd, Nat.reduceEqDiff, w1]
   refine hK _ ?_; clear hK K
   refine ⟨j + 1, ⟨by omega, by rw [hnx, htx, ← List.append_assoc]; exact j2⟩, by omega, ?_⟩
   rw [hnx]
   refine Ghost.ent (fun l => if l = 2 then 24 else l) ?_ ?_ ?_ <;> simp -implicitDefEqProofs only [go_sem, ↓reduceIte, Nat.reduceEqDiff, reduceCtorEq, encS, List.map_append, liftE_append, liftE_cons, liftE_nil, List.forall_mem_cons, List.not_mem_nil, false_implies, implies_true, and_self, map_renL_lift, labsIn_lift, List.all_append, List.all_cons, List.all_nil, List.map_append, Nat.reduceLT, labsInL, AV.labsIn]
 obtain ⟨t, ht⟩ : ∃ t, m.res[i]? = some t := ⟨_, List.getElem?_eq_getElem hil⟩
 have ⟨ht1, ht2, ht3⟩ := at_map' encI ht
 have ht3' : (m.res.map encI).getD i [] = [.int .i64 t] := ht3
 have hc1 : ((i : Int) < (m.res.length : Int)) = True := eq_true (by omega)
 have hi3 : ((i : Int) ≤ (m.res.length : Int)) := by omega
 have w1 : IntKind.wrap .i64 ((i : Int) + 1) = ((i + 1 : Nat) : Int) := by rw [w64] <;> omega
 rw [resBad_at ht] at i2
 have hnx : m.res.take (i + 1) = m.res.take i ++ [t] := by rw [List.take_add_one, ht]; rfl
 have CRs := ref07_Reserved ⟨[], [], m.res.take i⟩ t (by show (m.res.take i).length ≤ 1000000; rw [List.length_take]; omega)
 have eF : encMs ⟨[], [], m.res.take i⟩ = [.str [], .slice [], .slice ((m.res.map encI).take i)] := by simp [encMs, List.map_take]
 rw [eF] at CRs
 refine AW.rT (by rfl) fun K hK => ?_
 simp -implicitDefEqProofs only [go_sem, ↓reduceIte, Nat.reduceAdd, Nat.reduceEqDiff, hc1, List.length_map]
 refine hK _ ?_; clear hK K
 refine AW.cond _ (by simp -implicitDefEqProofs only [go_sem]; rfl) (fun hc => ?_) (fun hc => ?_)
 rotate_left
 ·simp at hc
 refine AW.skip ?_
 simp only [andThen]
 refine AW.seq ?_
 refine AW.block ?_
 rcases tag_split t with htg | htg | htg
 ·have hb : tagB t = false := decide_eq_false (by omega)
  rw [hb, Bool.false_and, if_neg (by simp)] at i2
  rw [i2, if_pos rfl] at e0
  have f1 : (t < 1) = True := eq_true htg
  refine AW.dT mixed (by rfl) (by decide +kernel) fun K hK => ?_
  simp -implicitDefEqProofs only [go_sem, ↓reduceIte, Nat.reduceAdd, Nat.reduceEqDiff, ht1, ht3', hc1, List.length_map, f1]
  refine ⟨heapOK_nil rfl, ?_⟩
  refine hK _ ?_; clear hK K
  refine AW.cond _ (by simp -implicitDefEqProofs only [go_sem]; rfl) (fun hc => ?_) (fun hc => ?_)
  rotate_left
  ·simp at hc
  refine AW.rT (by rfl) fun K hK => ?_
  simp -implicitDefEqProofs only [go_sem, Nat.reduceAdd]
  refine hK _ ?_; clear hK K
  refine AW.ret ?_
  simp -implicitDefEqProofs only [go_sem, e0]
 ·have hb : tagB t = false := decide_eq_false (by omega)
  rw [hb, Bool.false_and, if_neg (by simp)] at i2
  rw [i2, if_pos rfl] at e0
  have f1 : (t < 1) = False := eq_false (by omega)
  have f2 : (t > 500) = True := eq_true htg
  refine AW.dT mixed (by rfl) (by decide +kernel) fun K hK => ?_
  simp -implicitDefEqProofs only [go_sem, ↓reduceIte, Nat.reduceAdd, Nat.reduceEqDiff, ht1, ht3', hc1, List.length_map, f1, f2]
  refine ⟨heapOK_nil rfl, ?_⟩
  refine hK _ ?_; clear hK K
  refine AW.cond _ (by simp -implicitDefEqProofs only [go_sem]; rfl) (fun hc => ?_) (fun hc => ?_)
  rotate_left
  ·simp at hc
  refine AW.rT (by rfl) fun K hK => ?_
  simp -implicitDefEqProofs only [go_sem, Nat.reduceAdd]
  refine hK _ ?_; clear hK K
  refine AW.ret ?_
  simp -implicitDefEqProofs only [go_sem, e0]
 have hb : tagB t = true := decide_eq_true htg
 rw [hb, Bool.true_and] at i2
 have f1 : (t < 1) = False := eq_false (by omega)
 have f2 : (t > 500) = False := eq_false (by omega)
 cases hus : (m.res.take i).contains t with
 | true =>
  rw [hus, if_neg (by simp)] at i2
  rw [i2, if_pos rfl] at e0
  refine AW.dT mixed (by rfl) (by decide +kernel) fun K hK => ?_
  simp -implicitDefEqProofs only [go_sem, ↓reduceIte, Nat.reduceAdd, Nat.reduceEqDiff, Nat.reduceLeDiff, ht1, ht3', hc1, List.length_map, f1, f2]
  refine ⟨len_encI, by simp, ⟨by simp, by simp <;> omega⟩, ?_⟩
  try simp -implicitDefEqProofs only [go_sem, ↓reduceIte, Nat.reduceAdd, Nat.reduceMul, Nat.reduceEqDiff, Nat.reduceLeDiff, reduceCtorEq, Int.reduceToNat, ht1, ht2, ht3', hc1, List.length_map, f1, f2]
  refine ⟨.pure _, CRs, ?_⟩
  try simp -implicitDefEqProofs only [go_sem, ↓reduceIte, Nat.reduceAdd, Nat.reduceEqDiff, hus]
  refine ⟨heapOK_nil rfl, ?_⟩
  refine hK _ ?_; clear hK K
  refine AW.cond _ (by simp -implicitDefEqProofs only [go_sem]; rfl) (fun hc => ?_) (fun hc => ?_)
  rotate_left
  ·simp at hc
  refine AW.rT (by rfl) fun K hK => ?_
  simp -implicitDefEqProofs only [go_sem, Nat.reduceAdd]
  refine hK _ ?_; clear hK K
  refine AW.ret ?_
  simp -implicitDefEqProofs only [go_sem, e0]
 | false =>
  rw [hus, if_pos (by simp)] at i2
  refine AW.dT mixed (by rfl) (by decide +kernel) fun K hK => ?_
  simp -implicitDefEqProofs only [go_sem, ↓reduceIte, Nat.reduceAdd, Nat.reduceEqDiff, Nat.reduceLeDiff, ht1, ht3', hc1, List.length_map, f1, f2]
  refine ⟨len_encI, by simp, ⟨by simp, by simp <;> omega⟩, ?_⟩
  try simp -implicitDefEqProofs only [go_sem, ↓reduceIte, Nat.reduceAdd, Nat.reduceMul, Nat.reduceEqDiff, Nat.reduceLeDiff, reduceCtorEq, Int.reduceToNat, ht1, ht2, ht3', hc1, List.length_map, f1, f2]
  refine ⟨.pure _, CRs, ?_⟩
  try simp -implicitDefEqProofs only [go_sem, ↓reduceIte, Nat.reduceAdd, Nat.reduceEqDiff, hus]
  refine ⟨heapOK_nil rfl, ?_⟩
  refine hK _ ?_; clear hK K
  refine AW.cond _ (by simp -implicitDefEqProofs only [go_sem]; rfl) (fun hc => ?_) (fun hc => ?_)
  ·simp at hc
  refine AW.skip ?_
  simp only [andThen, inBlk]
  refine AW.rE (by rfl) fun K hK => ?_
  simp -implicitDefEqProofs only [go_sem, ↓reduceIte, Nat.reduceAdd, Nat.reduceEqDiff, w1]
  refine hK _ ?_; clear hK K
  refine ⟨i + 1, ⟨by omega, by rw [hnx]; exact i2⟩, by omega, ?_⟩
  refine Ghost.sub ?_ ?_ <;> simp -implicitDefEqProofs only [go_sem, ↓reduceIte, Nat.reduceEqDiff, List.forall_mem_cons, List.not_mem_nil, false_implies, implies_true, and_self, List.all_cons, List.all_nil, Nat.reduceLT, labsInL, AV.labsIn]
end Go.Aw
namespace Go.Aw
open Go.Proofs Go.RowKit
set_option linter.unusedSimpArgs false
set_option linter.unusedVariables false
def numB (n : Int) : Bool := decide (0 ≤ n ∧ n ≤ 2147483647)
def valsC (ns : List (List UInt8)) (us : List Int) : List Nm → Int
 | [] => 0
 | v :: l => if takesB ns v.name = true then (if (numB v.n && !us.contains v.n) = true then valsC (ns ++ [v.name]) (us ++ [v.n]) l else 11) else 6
theorem valsC_at {l : List Nm} {i : Nat} {v : Nm} {ns : List (List UInt8)} {us : List Int} (h : l[i]? = some v) :
  valsC ns us (l.drop i) = if takesB ns v.name = true then (if (numB v.n && !us.contains v.n) = true then valsC (ns ++ [v.name]) (us ++ [v.n]) (l.drop (i + 1)) else 11) else 6 := by
 rw [List.drop_eq_getElem_cons (List.getElem?_eq_some_iff.1 h).1, (List.getElem?_eq_some_iff.1 h).2, valsC]
def enumBody (e : En) : Int := if e.vals.length > 16 then 4 else if (e.vals.any fun v => v.n == 0) = true then valsC [] [] e.vals else 12
def enumC (ns : List (List UInt8)) (e : En) : Int := if takesB ns e.name = true then enumBody e else 6
def lensV (e : En) : Prop := e.name.length ≤ 1000000000 ∧ ∀ v ∈ e.vals, v.name.length ≤ 1000000000
def zeroB (e : En) (i : Nat) : Bool := (e.vals.take i).any fun v => v.n == 0
theorem zeroB_next {e : En} {i : Nat} {v : Nm} (h : e.vals[i]? = some v) : zeroB e (i + 1) = (zeroB e i || v.n == 0) := by
 unfold zeroB
 rw [List.take_add_one, h, List.any_append]
 simp
theorem num_split (n : Int) : n < 0 ∨ 2147483647 < n ∨ (0 ≤ n ∧ n ≤ 2147483647) := by omega
def en1 (e : En) (ns : List (List UInt8)) (i : Nat) : St := ⟨ofL [(0, .map 0), (3, .ptr 1 0 0), (5, .p (.bool (zeroB e i))), (24, .p (.slice (e.vals.map encNm))), (25, .p (.int .i64 (e.vals.length : Int))), (26, .p (.int .i64 (i : Int)))],
 ofH [(0, .map (mS ns)), (1, .row 2 [cellsEn e])], 2⟩
def en2 (e : En) (ns : List (List UInt8)) (i : Nat) : St := ⟨ofL [(0, .map 0), (8, .map 1), (9, .map 2), (42, .p (.slice (e.vals.map encNm))), (43, .p (.int .i64 (e.vals.length : Int))), (44, .p (.int .i64 (i : Int)))],
 ofH [(0, .map (mS ns)), (1, .map (mS ((e.vals.take i).map Nm.name))), (2, .map (mI ((e.vals.take i).map Nm.n)))], 3⟩
set_option maxRecDepth 100000 in
set_option maxHeartbeats 4000000 in
theorem check_enum (ns : List (List UInt8)) (e : En) (hm : lensV e) :
  LFn Tryd.prog 94 [.map (setM ns), .v (.agg (encEn e))] [some (.map (setM (takeN ns e.name))), none] (.int .i64 (enumC ns e)) := by
 refine LFn.of Tryd.func94 rfl (by decide) Tryd.ntmps94 Tryd.results94 (Nat.le_of_ble_eq_true rfl) rfl fun val => ?_
 simp only [laT, laH, laPins, LA.av, List.length_cons, List.length_nil, lift_setM, encEn]
 refine AW.rT (by rfl) fun K hK => ?_
 simp -implicitDefEqProofs only [go_sem, ↓reduceIte, Nat.reduceAdd]
 refine hK _ ?_; clear hK K
 refine AW.seq ?_
 refine AW.block ?_
 have TK := check_takes ns e.name hm.1
 cases ht : takesB ns e.name with
 | false =>
  have er : enumC ns e = 6 := by unfold enumC; rw [ht]; rfl
  have e2 : takeN ns e.name = ns := by unfold takeN; rw [ht]; rfl
  rw [ht, e2] at TK
  refine AW.rT (by rfl) fun K hK => ?_
  simp -implicitDefEqProofs only [go_sem, ↓reduceIte, Nat.reduceAdd, Nat.reduceEqDiff, reduceCtorEq]
  refine ⟨.lend [some 0, none] [.map (setM ns), .v (.str e.name)] [some (.map (setM ns)), none] (.bool false), ⟨TK, rfl, ?_⟩, ?_⟩
  ·simp -implicitDefEqProofs only [go_sem, ↓reduceIte, Nat.reduceEqDiff, reduceCtorEq, lift_setM]
  try simp -implicitDefEqProofs only [go_sem, Nat.reduceAdd, lift_setM]
  refine hK _ ?_; clear hK K
  refine AW.cond _ (by simp -implicitDefEqProofs only [go_sem]; rfl) (fun hc => ?_) (fun hc => ?_)
  rotate_left
  ·simp at hc
  refine AW.rT (by rfl) fun K hK => ?_
  simp -implicitDefEqProofs only [go_sem, Nat.reduceAdd]
  refine hK _ ?_; clear hK K
  refine AW.ret (show _ ∧ ((∃ l, _ ∧ _) ∧ True) from ⟨?_, ⟨0, ?_, ?_⟩, trivial⟩) <;> simp -implicitDefEqProofs only [go_sem, ↓reduceIte, reduceCtorEq, er, e2, lift_setM]
 | true =>
 have e0 : enumC ns e = enumBody e := by unfold enumC; rw [ht]; rfl
 have e2 : takeN ns e.name = ns ++ [e.name] := by unfold takeN; rw [ht]; rfl
 rw [ht, e2] at TK
 refine AW.rT (by rfl) fun K hK => ?_
 simp -implicitDefEqProofs only [go_sem, ↓reduceIte, Nat.reduceAdd, Nat.reduceEqDiff, reduceCtorEq]
 refine ⟨.lend [some 0, none] [.map (setM ns), .v (.str e.name)] [some (.map (setM (ns ++ [e.name]))), none] (.bool true), ⟨TK, rfl, ?_⟩, ?_⟩
 ·simp -implicitDefEqProofs only [go_sem, ↓reduceIte, Nat.reduceEqDiff, reduceCtorEq, lift_setM]
 try simp -implicitDefEqProofs only [go_sem, Nat.reduceAdd, lift_setM]
 refine hK _ ?_; clear hK K
 refine AW.cond _ (by simp -implicitDefEqProofs only [go_sem]; rfl) (fun hc => ?_) (fun hc => ?_)
 ·simp at hc
 generalize ns ++ [e.name] = ns' at *
 by_cases c1 : e.vals.length > 16
 ·have b1 : ((e.vals.length : Int) > 16) = True := eq_true (by omega)
  have er : enumC ns e = 4 := by rw [e0]; unfold enumBody; rw [if_pos c1]
  refine AW.rT (by rfl) fun K hK => ?_
  simp -implicitDefEqProofs only [go_sem, ↓reduceIte, Nat.reduceAdd, Nat.reduceEqDiff, reduceCtorEq, b1, List.length_map]
  refine hK _ ?_; clear hK K
  refine AW.cond _ (by simp -implicitDefEqProofs only [go_sem]; rfl) (fun hc => ?_) (fun hc => ?_)
  rotate_left
  ·simp at hc
  refine AW.rT (by rfl) fun K hK => ?_
  simp -implicitDefEqProofs only [go_sem, Nat.reduceAdd]
  refine hK _ ?_; clear hK K
  refine AW.ret (show _ ∧ ((∃ l, _ ∧ _) ∧ True) from ⟨?_, ⟨0, ?_, ?_⟩, trivial⟩) <;> simp -implicitDefEqProofs only [go_sem, ↓reduceIte, reduceCtorEq, er, e2, lift_setM]
 have b1 : ((e.vals.length : Int) > 16) = False := eq_false (by omega)
 have e0 : enumC ns e = if (e.vals.any fun v => v.n == 0) = true then valsC [] [] e.vals else 12 := by rw [e0]; unfold enumBody; rw [if_neg c1]
 refine AW.rT (by rfl) fun K hK => ?_
 simp -implicitDefEqProofs only [go_sem, ↓reduceIte, Nat.reduceAdd, Nat.reduceEqDiff, reduceCtorEq, b1, List.length_map]
 refine hK _ ?_; clear hK K
 refine AW.cond _ (by simp -implicitDefEqProofs only [go_sem]; rfl) (fun hc => ?_) (fun hc => ?_)
 ·simp at hc
 refine AW.skip ?_
 simp only [andThen, inBlk]
 refine AW.rT (by rfl) fun K hK => ?_
 simp -implicitDefEqProofs only [go_sem, Nat.reduceAdd]
 refine hK _ ?_; clear hK K
 refine AW.seq ?_
 refine AW.rT (by rfl) fun K hK => ?_
 simp -implicitDefEqProofs only [go_sem, ↓reduceIte, Nat.reduceAdd, Nat.reduceEqDiff, reduceCtorEq, List.length_map]
 refine hK _ ?_; clear hK K
 refine AW.block ?_
 refine AW.loop (en1 e ns') (fun i => i ≤ e.vals.length) (fun i => e.vals.length - i) 0 ?_ (by omega) fun i i1 => ?_
 ·simp only [en1, cellsEn]
  refine Ghost.ent (fun l => if l = 0 then 0 else 2) ?_ ?_ ?_ <;> simp -implicitDefEqProofs only [go_sem, ↓reduceIte, Nat.reduceEqDiff, reduceCtorEq, zeroB, List.take_zero, List.any_nil, List.forall_mem_cons, List.not_mem_nil, false_implies, implies_true, and_self, List.all_cons, List.all_nil, Nat.reduceLT, labsInL, AV.labsIn]
  all_goals first | rfl | decide | skip
 simp only [en1, cellsEn]
 by_cases hil : i < e.vals.length
 case neg =>
  have hc1 : ((i : Int) < (e.vals.length : Int)) = False := eq_false (by omega)
  have ez : zeroB e i = e.vals.any fun v => v.n == 0 := by unfold zeroB; rw [List.take_of_length_le (by omega)]
  rw [← ez] at e0
  clear hil
  refine AW.rT (by rfl) fun K hK => ?_
  simp -implicitDefEqProofs only [go_sem, ↓reduceIte, Nat.reduceAdd, Nat.reduceEqDiff, reduceCtorEq, hc1]
  refine hK _ ?_; clear hK K
  refine AW.seq ?_
  refine AW.cond _ (by simp -implicitDefEqProofs only [go_sem]; rfl) (fun hc => ?_) (fun hc => ?_)
  ·simp at hc
  refine AW.exit ?_
  simp only [andThen, inBlk, ↓reduceIte]
  refine AW.seq ?_
  cases hz : zeroB e i with
  | false =>
   rw [hz, if_neg (by simp)] at e0
   refine AW.rT (by rfl) fun K hK => ?_
   simp -implicitDefEqProofs only [go_sem, ↓reduceIte, Nat.reduceAdd, Nat.reduceEqDiff, reduceCtorEq]
   refine hK _ ?_; clear hK K
   refine AW.cond _ (by simp -implicitDefEqProofs only [go_sem]; rfl) (fun hc => ?_) (fun hc => ?_)
   rotate_left
   ·simp at hc
   refine AW.rT (by rfl) fun K hK => ?_
   simp -implicitDefEqProofs only [go_sem, Nat.reduceAdd]
   refine hK _ ?_; clear hK K
   refine AW.ret (show _ ∧ ((∃ l, _ ∧ _) ∧ True) from ⟨?_, ⟨0, ?_, ?_⟩, trivial⟩) <;> simp -implicitDefEqProofs only [go_sem, ↓reduceIte, reduceCtorEq, e0, e2, lift_setM]
  | true =>
  rw [hz, if_pos rfl] at e0
  refine AW.rT (by rfl) fun K hK => ?_
  simp -implicitDefEqProofs only [go_sem, ↓reduceIte, Nat.reduceAdd, Nat.reduceEqDiff, reduceCtorEq]
  refine hK _ ?_; clear hK K
  refine AW.cond _ (by simp -implicitDefEqProofs only [go_sem]; rfl) (fun hc => ?_) (fun hc => ?_)
  ·simp at hc
  refine AW.skip ?_
  simp only [andThen]
  refine AW.rT (by rfl) fun K hK => ?_
  simp -implicitDefEqProofs only [go_sem, ↓reduceIte, Nat.reduceAdd, Nat.reduceEqDiff]
  refine hK _ ?_; clear hK K
  refine AW.seq ?_
  refine AW.rT (by rfl) fun K hK => ?_
  simp -implicitDefEqProofs only [go_sem, ↓reduceIte, Nat.reduceAdd, Nat.reduceEqDiff, reduceCtorEq, List.length_map]
  refine hK _ ?_; clear hK K
  refine AW.block ?_
  refine AW.loop (en2 e ns') (fun i => i ≤ e.vals.length ∧ valsC [] [] e.vals = valsC ((e.vals.take i).map Nm.name) ((e.vals.take i).map Nm.n) (e.vals.drop i)) (fun i => e.vals.length - i) 0 ?_ ⟨by omega, by simp⟩ fun j hj => ?_
  ·simp only [en2]
   refine Ghost.ent (fun l => if l = 0 then 0 else if l = 1 then 5 else 6) ?_ ?_ ?_ <;> simp -implicitDefEqProofs only [go_sem, ↓reduceIte, Nat.reduceEqDiff, reduceCtorEq, List.take_zero, List.map_nil, mS_nil, mI_nil, List.forall_mem_cons, List.not_mem_nil, false_implies, implies_true, and_self, List.all_nil, Nat.reduceLT, AV.labsIn]
   all_goals first | rfl | decide | skip
  obtain ⟨j1, j2⟩ := hj
  simp only [en2]
  by_cases hjl : j < e.vals.length
  case neg =>
   have hc1 : ((j : Int) < (e.vals.length : Int)) = False := eq_false (by omega)
   rw [List.drop_of_length_le (by omega), valsC] at j2
   rw [j2] at e0
   refine AW.rT (by rfl) fun K hK => ?_
   simp -implicitDefEqProofs only [go_sem, ↓reduceIte, Nat.reduceAdd, Nat.reduceEqDiff, reduceCtorEq, hc1]
   refine hK _ ?_; clear hK K
   refine AW.seq ?_
   refine AW.cond _ (by simp -implicitDefEqProofs only [go_sem]; rfl) (fun hc => ?_) (fun hc => ?_)
   ·simp at hc
   refine AW.exit ?_
   simp only [andThen, inBlk, ↓reduceIte]
   refine AW.rT (by rfl) fun K hK => ?_
   simp -implicitDefEqProofs only [go_sem, Nat.reduceAdd]
   refine hK _ ?_; clear hK K
   refine AW.ret (show _ ∧ ((∃ l, _ ∧ _) ∧ True) from ⟨?_, ⟨0, ?_, ?_⟩, trivial⟩) <;> simp -implicitDefEqProofs only [go_sem, ↓reduceIte, reduceCtorEq, e0, e2, lift_setM]
  obtain ⟨v, hv⟩ : ∃ v, e.vals[j]? = some v := ⟨_, List.getElem?_eq_getElem hjl⟩
  have ⟨hv1, hv2, hv3⟩ := at_map' encNm hv
  have hc1 : ((j : Int) < (e.vals.length : Int)) = True := eq_true (by omega)
  have w1 : IntKind.wrap .i64 ((j : Int) + 1) = ((j + 1 : Nat) : Int) := by rw [w64] <;> omega
  rw [valsC_at hv] at j2
  have hnx := take_map_next Nm.name hv
  have htx := take_map_next Nm.n hv
  generalize hN : (e.vals.take j).map Nm.name = N at *
  generalize hT : (e.vals.take j).map Nm.n = T at *
  have TK := check_takes N v.name (hm.2 v (List.mem_of_getElem? hv))
  refine AW.rT (by rfl) fun K hK => ?_
  simp -implicitDefEqProofs only [go_sem, ↓reduceIte, Nat.reduceAdd, Nat.reduceEqDiff, reduceCtorEq, hc1]
  refine hK _ ?_; clear hK K
  refine AW.seq ?_
  refine AW.cond _ (by simp -implicitDefEqProofs only [go_sem]; rfl) (fun hc => ?_) (fun hc => ?_)
  rotate_left
  ·simp at hc
  refine AW.skip ?_
  simp only [andThen]
  refine AW.seq ?_
  refine AW.block ?_
  refine AW.rT (by rfl) fun K hK => ?_
  simp -implicitDefEqProofs only [go_sem, ↓reduceIte, Nat.reduceAdd, Nat.reduceEqDiff, Nat.reduceLeDiff, reduceCtorEq, hv1, hv3, hc1, encNm, List.length_map]
  refine hK _ ?_; clear hK K
  refine AW.seq ?_
  refine AW.block ?_
  cases ht2 : takesB N v.name with
  | false =>
   have e3 : takeN N v.name = N := by unfold takeN; rw [ht2]; rfl
   rw [ht2, e3] at TK
   rw [ht2, if_neg (by simp)] at j2
   rw [j2] at e0
   refine AW.rT (by rfl) fun K hK => ?_
   simp -implicitDefEqProofs only [go_sem, ↓reduceIte, Nat.reduceAdd, Nat.reduceEqDiff, reduceCtorEq]
   refine ⟨.lend [some 1, none] [.map (setM N), .v (.str v.name)] [some (.map (setM N)), none] (.bool false), ⟨TK, rfl, ?_⟩, ?_⟩
   ·simp -implicitDefEqProofs only [go_sem, ↓reduceIte, Nat.reduceEqDiff, lift_setM]
   try simp -implicitDefEqProofs only [go_sem, Nat.reduceAdd, lift_setM]
   refine hK _ ?_; clear hK K
   refine AW.cond _ (by simp -implicitDefEqProofs only [go_sem]; rfl) (fun hc => ?_) (fun hc => ?_)
   rotate_left
   ·simp at hc
   refine AW.rT (by rfl) fun K hK => ?_
   simp -implicitDefEqProofs only [go_sem, Nat.reduceAdd]
   refine hK _ ?_; clear hK K
   refine AW.ret (show _ ∧ ((∃ l, _ ∧ _) ∧ True) from ⟨?_, ⟨0, ?_, ?_⟩, trivial⟩) <;> simp -implicitDefEqProofs only [go_sem, ↓reduceIte, reduceCtorEq, e0, e2, lift_setM]
  | true =>
  have e3 : takeN N v.name = N ++ [v.name] := by unfold takeN; rw [ht2]; rfl
  rw [ht2, e3] at TK
  rw [ht2, if_pos rfl] at j2
  refine AW.rT (by rfl) fun K hK => ?_
  simp -implicitDefEqProofs only [go_sem, ↓reduceIte, Nat.reduceAdd, Nat.reduceEqDiff, reduceCtorEq]
  refine ⟨.lend [some 1, none] [.map (setM N), .v (.str v.name)] [some (.map (setM (N ++ [v.name]))), none] (.bool true), ⟨TK, rfl, ?_⟩, ?_⟩
  ·simp -implicitDefEqProofs only [go_sem, ↓reduceIte, Nat.reduceEqDiff, lift_setM]
  try simp -implicitDefEqProofs only [go_sem, Nat.reduceAdd, lift_setM]
  refine hK _ ?_; clear hK K
  refine AW.cond _ (by simp -implicitDefEqProofs only [go_sem]; rfl) (fun hc => ?_) (fun hc => ?_)
  ·simp at hc
  rcases num_split v.n with hnb | hnb | hnb
  ·have hb : numB v.n = false := decide_eq_false (by omega)
   rw [hb, Bool.false_and, if_neg (by simp)] at j2
   rw [j2] at e0
   have f1 : (v.n < 0) = True := eq_true hnb
   refine AW.rT (by rfl) fun K hK => ?_
   simp -implicitDefEqProofs only [go_sem, ↓reduceIte, Nat.reduceAdd, Nat.reduceEqDiff, f1]
   refine hK _ ?_; clear hK K
   refine AW.cond _ (by simp -implicitDefEqProofs only [go_sem]; rfl) (fun hc => ?_) (fun hc => ?_)
   rotate_left
   ·simp at hc
   refine AW.rT (by rfl) fun K hK => ?_
   simp -implicitDefEqProofs only [go_sem, Nat.reduceAdd]
   refine hK _ ?_; clear hK K
   refine AW.ret (show _ ∧ ((∃ l, _ ∧ _) ∧ True) from ⟨?_, ⟨0, ?_, ?_⟩, trivial⟩) <;> simp -implicitDefEqProofs only [go_sem, ↓reduceIte, reduceCtorEq, e0, e2, lift_setM]
  ·have hb : numB v.n = false := decide_eq_false (by omega)
   rw [hb, Bool.false_and, if_neg (by simp)] at j2
   rw [j2] at e0
   have f1 : (v.n < 0) = False := eq_false (by omega)
   have f2 : (v.n > 2147483647) = True := eq_true hnb
   refine AW.rT (by rfl) fun K hK => ?_
   simp -implicitDefEqProofs only [go_sem, ↓reduceIte, Nat.reduceAdd, Nat.reduceEqDiff, f1, f2]
   refine hK _ ?_; clear hK K
   refine AW.cond _ (by simp -implicitDefEqProofs only [go_sem]; rfl) (fun hc => ?_) (fun hc => ?_)
   rotate_left
   ·simp at hc
   refine AW.rT (by rfl) fun K hK => ?_
   simp -implicitDefEqProofs only [go_sem, Nat.reduceAdd]
   refine hK _ ?_; clear hK K
   refine AW.ret (show _ ∧ ((∃ l, _ ∧ _) ∧ True) from ⟨?_, ⟨0, ?_, ?_⟩, trivial⟩) <;> simp -implicitDefEqProofs only [go_sem, ↓reduceIte, reduceCtorEq, e0, e2, lift_setM]
  have hb : numB v.n = true := decide_eq_true hnb
  rw [hb, Bool.true_and] at j2
  have f1 : (v.n < 0) = False := eq_false (by omega)
  have f2 : (v.n > 2147483647) = False := eq_false (by omega)
  cases hus : T.contains v.n with
  | true =>
   rw [hus, if_neg (by simp)] at j2
   rw [j2] at e0
   obtain ⟨q, hq⟩ := mI_yes hus
   refine AW.rT (by rfl) fun K hK => ?_
   simp -implicitDefEqProofs only [go_sem, ↓reduceIte, Nat.reduceAdd, Nat.reduceEqDiff, reduceCtorEq, f1, f2]
   refine ⟨keyI v.n, _, hq, _, rfl, ?_⟩
   try simp -implicitDefEqProofs only [go_sem, ↓reduceIte, Nat.reduceAdd, Nat.reduceMul, Nat.reduceEqDiff, Nat.reduceLeDiff, reduceCtorEq, Int.reduceToNat]
   refine hK _ ?_; clear hK K
   refine AW.cond _ (by simp -implicitDefEqProofs only [go_sem]; rfl) (fun hc => ?_) (fun hc => ?_)
   rotate_left
   ·simp at hc
   refine AW.rT (by rfl) fun K hK => ?_
   simp -implicitDefEqProofs only [go_sem, Nat.reduceAdd]
   refine hK _ ?_; clear hK K
   refine AW.ret (show _ ∧ ((∃ l, _ ∧ _) ∧ True) from ⟨?_, ⟨0, ?_, ?_⟩, trivial⟩) <;> simp -implicitDefEqProofs only [go_sem, ↓reduceIte, reduceCtorEq, e0, e2, lift_setM]
  | false =>
   rw [hus, if_pos (by simp)] at j2
   have hq := mI_no hus
   refine AW.rT (by rfl) fun K hK => ?_
   simp -implicitDefEqProofs only [go_sem, ↓reduceIte, Nat.reduceAdd, Nat.reduceEqDiff, reduceCtorEq, f1, f2]
   refine ⟨keyI v.n, _, hq, _, rfl, ?_⟩
   try simp -implicitDefEqProofs only [go_sem, ↓reduceIte, Nat.reduceAdd, Nat.reduceMul, Nat.reduceEqDiff, Nat.reduceLeDiff, reduceCtorEq, Int.reduceToNat]
   refine hK _ ?_; clear hK K
   refine AW.cond _ (by simp -implicitDefEqProofs only [go_sem]; rfl) (fun hc => ?_) (fun hc => ?_)
   ·simp at hc
   refine AW.skip ?_
   simp only [andThen, inBlk]
   refine AW.rE (by rfl) fun K hK => ?_
   simp -implicitDefEqProofs only [go_sem, ↓reduceIte, Nat.reduceAdd, Nat.reduceEqDiff, reduceCtorEq]
   refine ⟨keyI v.n, _, hq, ?_⟩
   try simp -implicitDefEqProofs only [go_sem]
   refine hK _ ?_; clear hK K
   simp only [andThen, inBlk]
   refine AW.rE (by rfl) fun K hK => ?_
   simp -implicitDefEqProofs only [go_sem, ↓reduceIte, Nat.reduceAdd, Nat.reduceEqDiff, reduceCtorEq, w1]
   refine hK _ ?_; clear hK K
   refine ⟨j + 1, ⟨by omega, by rw [hnx, htx]; exact j2⟩, by omega, ?_⟩
   rw [hnx, htx]
   refine Ghost.sub ?_ ?_ <;> simp -implicitDefEqProofs only [go_sem, ↓reduceIte, Nat.reduceEqDiff, reduceCtorEq, mI_add, List.forall_mem_cons, List.not_mem_nil, false_implies, implies_true, and_self, Nat.reduceLT, AV.labsIn]
 obtain ⟨v, hv⟩ : ∃ v, e.vals[i]? = some v := ⟨_, List.getElem?_eq_getElem hil⟩
 have ⟨hv1, hv2, hv3⟩ := at_map' encNm hv
 have hc1 : ((i : Int) < (e.vals.length : Int)) = True := eq_true (by omega)
 have w1 : IntKind.wrap .i64 ((i : Int) + 1) = ((i + 1 : Nat) : Int) := by rw [w64] <;> omega
 have hz := zeroB_next hv
 refine AW.rT (by rfl) fun K hK => ?_
 simp -implicitDefEqProofs only [go_sem, ↓reduceIte, Nat.reduceAdd, Nat.reduceEqDiff, reduceCtorEq, hc1]
 refine hK _ ?_; clear hK K
 refine AW.seq ?_
 refine AW.cond _ (by simp -implicitDefEqProofs only [go_sem]; rfl) (fun hc => ?_) (fun hc => ?_)
 rotate_left
 ·simp at hc
 refine AW.skip ?_
 simp only [andThen]
 refine AW.seq ?_
 refine AW.block ?_
 refine AW.rT (by rfl) fun K hK => ?_
 simp -implicitDefEqProofs only [go_sem, ↓reduceIte, Nat.reduceAdd, Nat.reduceEqDiff, Nat.reduceLeDiff, reduceCtorEq, hv1, hv3, hc1, encNm, List.length_map]
 refine hK _ ?_; clear hK K
 cases hb : zeroB e i with
 | true =>
  rw [hb, Bool.true_or] at hz
  refine AW.rE (by rfl) fun K hK => ?_
  simp -implicitDefEqProofs only [go_sem, ↓reduceIte, Nat.reduceAdd, Nat.reduceEqDiff, reduceCtorEq]
  refine hK _ ?_; clear hK K
  simp only [andThen, inBlk]
  refine AW.rE (by rfl) fun K hK => ?_
  simp -implicitDefEqProofs only [go_sem, ↓reduceIte, Nat.reduceAdd, Nat.reduceEqDiff, reduceCtorEq, w1]
  refine hK _ ?_; clear hK K
  refine ⟨i + 1, by omega, by omega, ?_⟩
  refine Ghost.sub ?_ ?_ <;> simp -implicitDefEqProofs only [go_sem, ↓reduceIte, Nat.reduceEqDiff, reduceCtorEq, hz, List.forall_mem_cons, List.not_mem_nil, false_implies, implies_true, and_self, List.all_cons, List.all_nil, Nat.reduceLT, labsInL, AV.labsIn]
 | false =>
  rw [hb, Bool.false_or] at hz
  refine AW.rE (by rfl) fun K hK => ?_
  simp -implicitDefEqProofs only [go_sem, ↓reduceIte, Nat.reduceAdd, Nat.reduceEqDiff, reduceCtorEq]
  refine hK _ ?_; clear hK K
  simp only [andThen, inBlk]
  refine AW.rE (by rfl) fun K hK => ?_
  simp -implicitDefEqProofs only [go_sem, ↓reduceIte, Nat.reduceAdd, Nat.reduceEqDiff, reduceCtorEq, w1]
  refine hK _ ?_; clear hK K
  refine ⟨i + 1, by omega, by omega, ?_⟩
  refine Ghost.sub ?_ ?_ <;> simp -implicitDefEqProofs only [go_sem, ↓reduceIte, Nat.reduceEqDiff, reduceCtorEq, hz, List.forall_mem_cons, List.not_mem_nil, false_implies, implies_true, and_self, List.all_cons, List.all_nil, Nat.reduceLT, labsInL, AV.labsIn]
def re1 (e : En) (i : Nat) : St := ⟨ofL [(1, .ptr 0 0 0), (3, .p (.bool (zeroB e i))), (4, .p (.int .i64 (i : Int)))], ofH [(0, .row 2 [cellsEn e])], 1⟩
def re2 (e : En) (i : Nat) : St := ⟨ofL [(1, .ptr 0 0 0), (5, .own 1), (6, .p (.int .i64 (i : Int)))], ofH [(0, .row 2 [cellsEn e]), (1, .row 1 (liftE (((e.vals.take i).map Nm.name).map encS)))], 2⟩
def re3 (e : En) (v : Nm) (ns : List (List UInt8)) (i k : Nat) : St := ⟨ofL [(1, .ptr 0 0 0), (5, .own 1), (6, .p (.int .i64 (i : Int))), (7, .ptr 2 0 0), (8, .p (.int .i64 (k : Int)))], ofH [(0, .row 2 [cellsEn e]), (1, .row 1 (liftE (ns.map encS))), (2, .row 2 [[.p (.str v.name), .p (.int .i64 v.n)]])], 3⟩
set_option maxRecDepth 100000 in
set_option maxHeartbeats 4000000 in
theorem ref07_enum (e : En) (hm : lensV e) : PFn Tryd.prog 89 [.agg (encEn e)] (.int .i64 (enumBody e)) := by
 refine PFn.of Tryd.func89 rfl (by decide) Tryd.ntmps89 Tryd.results89 (Nat.le_of_ble_eq_true rfl) ?_
 simp only [argsT, encEn]
 refine AW.rT (by rfl) fun K hK => ?_
 simp -implicitDefEqProofs only [go_sem, Nat.reduceAdd]
 refine hK _ ?_; clear hK K
 refine AW.seq ?_
 by_cases c1 : e.vals.length > 16
 ·have b1 : ((e.vals.length : Int) > 16) = True := eq_true (by omega)
  have er : enumBody e = 4 := by unfold enumBody; rw [if_pos c1]
  refine AW.rT (by rfl) fun K hK => ?_
  simp -implicitDefEqProofs only [go_sem, ↓reduceIte, Nat.reduceAdd, Nat.reduceEqDiff, b1, List.length_map]
  refine hK _ ?_; clear hK K
  refine AW.cond _ (by simp -implicitDefEqProofs only [go_sem]; rfl) (fun hc => ?_) (fun hc => ?_)
  rotate_left
  ·simp at hc
  refine AW.rT (by rfl) fun K hK => ?_
  simp -implicitDefEqProofs only [go_sem, Nat.reduceAdd]
  refine hK _ ?_; clear hK K
  refine AW.ret ?_
  simp -implicitDefEqProofs only [go_sem, er]
 have b1 : ((e.vals.length : Int) > 16) = False := eq_false (by omega)
 have e0 : enumBody e = if (e.vals.any fun v => v.n == 0) = true then valsC [] [] e.vals else 12 := by unfold enumBody; rw [if_neg c1]
 refine AW.rT (by rfl) fun K hK => ?_
 simp -implicitDefEqProofs only [go_sem, ↓reduceIte, Nat.reduceAdd, Nat.reduceEqDiff, b1, List.length_map]
 refine hK _ ?_; clear hK K
 refine AW.cond _ (by simp -implicitDefEqProofs only [go_sem]; rfl) (fun hc => ?_) (fun hc => ?_)
 ·simp at hc
 refine AW.skip ?_
 simp only [andThen]
 refine AW.rT (by rfl) fun K hK => ?_
 simp -implicitDefEqProofs only [go_sem, Nat.reduceAdd]
 refine hK _ ?_; clear hK K
 refine AW.seq ?_
 refine AW.rT (by rfl) fun K hK => ?_
 simp -implicitDefEqProofs only [go_sem, Nat.reduceAdd]
 refine hK _ ?_; clear hK K
 refine AW.block ?_
 refine AW.loop (re1 e) (fun i => i ≤ e.vals.length) (fun i => e.vals.length - i) 0 ?_ (by omega) fun i i1 => ?_
 ·simp only [re1, cellsEn]
  refine Ghost.sub ?_ ?_ <;> simp -implicitDefEqProofs only [go_sem, ↓reduceIte, Nat.reduceEqDiff, zeroB, List.take_zero, List.any_nil, List.forall_mem_cons, List.not_mem_nil, false_implies, implies_true, and_self, List.all_cons, List.all_nil, Nat.reduceLT, labsInL, AV.labsIn]
  all_goals first | rfl | decide | skip
 simp only [re1, cellsEn]
 refine AW.seq ?_
 by_cases hil : i < e.vals.length
 case neg =>
  have hc1 : ((i : Int) < (e.vals.length : Int)) = False := eq_false (by omega)
  have ez : zeroB e i = e.vals.any fun v => v.n == 0 := by unfold zeroB; rw [List.take_of_length_le (by omega)]
  rw [← ez] at e0
  clear hil
  refine AW.rT (by rfl) fun K hK => ?_
  simp -implicitDefEqProofs only [go_sem, ↓reduceIte, Nat.reduceAdd, Nat.reduceEqDiff, hc1, List.length_map]
  refine hK _ ?_; clear hK K
  refine AW.cond _ (by simp -implicitDefEqProofs only [go_sem]; rfl) (fun hc => ?_) (fun hc => ?_)
  ·simp at hc
  refine AW.exit ?_
  simp only [andThen, inBlk, ↓reduceIte]
  refine AW.seq ?_
  cases hz : zeroB e i with
  | false =>
   rw [hz, if_neg (by simp)] at e0
   refine AW.rT (by rfl) fun K hK => ?_
   simp -implicitDefEqProofs only [go_sem, ↓reduceIte, Nat.reduceAdd, Nat.reduceEqDiff]
   refine hK _ ?_; clear hK K
   refine AW.cond _ (by simp -implicitDefEqProofs only [go_sem]; rfl) (fun hc => ?_) (fun hc => ?_)
   rotate_left
   ·simp at hc
   refine AW.rT (by rfl) fun K hK => ?_
   simp -implicitDefEqProofs only [go_sem, Nat.reduceAdd]
   refine hK _ ?_; clear hK K
   refine AW.ret ?_
   simp -implicitDefEqProofs only [go_sem, e0]
  | true =>
  rw [hz, if_pos rfl] at e0
  refine AW.rT (by rfl) fun K hK => ?_
  simp -implicitDefEqProofs only [go_sem, ↓reduceIte, Nat.reduceAdd, Nat.reduceEqDiff]
  refine hK _ ?_; clear hK K
  refine AW.cond _ (by simp -implicitDefEqProofs only [go_sem]; rfl) (fun hc => ?_) (fun hc => ?_)
  ·simp at hc
  refine AW.skip ?_
  simp only [andThen]
  refine AW.rT (by rfl) fun K hK => ?_
  simp -implicitDefEqProofs only [go_sem, Nat.reduceAdd]
  refine hK _ ?_; clear hK K
  refine AW.seq ?_
  refine AW.rT (by rfl) fun K hK => ?_
  simp -implicitDefEqProofs only [go_sem, Nat.reduceAdd]
  refine hK _ ?_; clear hK K
  refine AW.block ?_
  refine AW.loop (re2 e) (fun i => i ≤ e.vals.length ∧ valsC [] [] e.vals = valsC ((e.vals.take i).map Nm.name) ((e.vals.take i).map Nm.n) (e.vals.drop i)) (fun i => e.vals.length - i) 0 ?_ ⟨by omega, by simp⟩ fun j hj => ?_
  ·refine Ghost.trans (Ghost.nil (t := 5) (sz := 1) rfl) ?_
   simp only [re2, cellsEn]
   refine Ghost.ent (fun l => if l = 0 then 0 else 10) ?_ ?_ ?_ <;> simp -implicitDefEqProofs only [go_sem, ↓reduceIte, Nat.reduceEqDiff, reduceCtorEq, List.take_zero, List.map_nil, liftE_nil, List.forall_mem_cons, List.not_mem_nil, false_implies, implies_true, and_self, List.all_cons, List.all_nil, Nat.reduceLT, labsInL, AV.labsIn]
   all_goals first | rfl | decide | skip
  obtain ⟨j1, j2⟩ := hj
  simp only [re2, cellsEn]
  refine AW.seq ?_
  by_cases hjl : j < e.vals.length
  case neg =>
   have hc1 : ((j : Int) < (e.vals.length : Int)) = False := eq_false (by omega)
   rw [List.drop_of_length_le (by omega), valsC] at j2
   rw [j2] at e0
   refine AW.rT (by rfl) fun K hK => ?_
   simp -implicitDefEqProofs only [go_sem, ↓reduceIte, Nat.reduceAdd, Nat.reduceEqDiff, hc1, List.length_map]
   refine hK _ ?_; clear hK K
   refine AW.cond _ (by simp -implicitDefEqProofs only [go_sem]; rfl) (fun hc => ?_) (fun hc => ?_)
   ·simp at hc
   refine AW.exit ?_
   simp only [andThen, inBlk, ↓reduceIte]
   refine AW.rT (by rfl) fun K hK => ?_
   simp -implicitDefEqProofs only [go_sem, Nat.reduceAdd]
   refine hK _ ?_; clear hK K
   refine AW.ret ?_
   simp -implicitDefEqProofs only [go_sem, e0]
  obtain ⟨v, hv⟩ : ∃ v, e.vals[j]? = some v := ⟨_, List.getElem?_eq_getElem hjl⟩
  have ⟨hv1, hv2, hv3⟩ := at_map' encNm hv
  have hc1 : ((j : Int) < (e.vals.length : Int)) = True := eq_true (by omega)
  have w1 : IntKind.wrap .i64 ((j : Int) + 1) = ((j + 1 : Nat) : Int) := by rw [w64] <;> omega
  rw [valsC_at hv] at j2
  have hnx := take_map_next Nm.name hv
  have htx := take_map_next Nm.n hv
  have hNl : ((e.vals.take j).map Nm.name).length ≤ 1000000 := by rw [List.length_map, List.length_take]; omega
  generalize hN : (e.vals.take j).map Nm.name = N at *
  generalize hT : (e.vals.take j).map Nm.n = T at *
  have FR := ref07_fresh N v.name (by omega) (hm.2 v (List.mem_of_getElem? hv))
  refine AW.rT (by rfl) fun K hK => ?_
  simp -implicitDefEqProofs only [go_sem, ↓reduceIte, Nat.reduceAdd, Nat.reduceEqDiff, hc1, List.length_map]
  refine hK _ ?_; clear hK K
  refine AW.cond _ (by simp -implicitDefEqProofs only [go_sem]; rfl) (fun hc => ?_) (fun hc => ?_)
  rotate_left
  ·simp at hc
  refine AW.skip ?_
  simp only [andThen]
  refine AW.seq ?_
  refine AW.block ?_
  refine AW.rT (by rfl) fun K hK => ?_
  simp -implicitDefEqProofs only [go_sem, ↓reduceIte, Nat.reduceAdd, Nat.reduceEqDiff, Nat.reduceLeDiff, hv1, hv3, hc1, encNm, List.length_map]
  refine hK _ ?_; clear hK K
  refine AW.seq ?_
  cases ht2 : takesB N v.name with
  | false =>
   rw [ht2] at FR
   rw [ht2, if_neg (by simp)] at j2
   rw [j2] at e0
   refine AW.rT (by rfl) fun K hK => ?_
   simp -implicitDefEqProofs only [go_sem, ↓reduceIte, Nat.reduceAdd, Nat.reduceEqDiff]
   refine ⟨.peek _, ⟨FR, rfl⟩, ?_⟩
   try simp -implicitDefEqProofs only [go_sem, Nat.reduceAdd]
   refine hK _ ?_; clear hK K
   refine AW.cond _ (by simp -implicitDefEqProofs only [go_sem]; rfl) (fun hc => ?_) (fun hc => ?_)
   rotate_left
   ·simp at hc
   refine AW.rT (by rfl) fun K hK => ?_
   simp -implicitDefEqProofs only [go_sem, Nat.reduceAdd]
   refine hK _ ?_; clear hK K
   refine AW.ret ?_
   simp -implicitDefEqProofs only [go_sem, e0]
  | true =>
  rw [ht2] at FR
  rw [ht2, if_pos rfl] at j2
  refine AW.rT (by rfl) fun K hK => ?_
  simp -implicitDefEqProofs only [go_sem, ↓reduceIte, Nat.reduceAdd, Nat.reduceEqDiff]
  refine ⟨.peek _, ⟨FR, rfl⟩, ?_⟩
  try simp -implicitDefEqProofs only [go_sem, Nat.reduceAdd]
  refine hK _ ?_; clear hK K
  refine AW.cond _ (by simp -implicitDefEqProofs only [go_sem]; rfl) (fun hc => ?_) (fun hc => ?_)
  ·simp at hc
  refine AW.skip ?_
  simp only [andThen]
  refine AW.rT (by rfl) fun K hK => ?_
  simp -implicitDefEqProofs only [go_sem, ↓reduceIte, Nat.reduceAdd, Nat.reduceMul, Nat.reduceEqDiff, Nat.reduceLeDiff, reduceCtorEq]
  refine ⟨⟨by simp, by simp [oneAll, AV.one, PV.one], by simp⟩, by simp [liftE_length]; omega, ?_⟩
  refine hK _ ?_; clear hK K
  refine AW.seq ?_
  rcases num_split v.n with hnb | hnb | hnb
  ·have hb : numB v.n = false := decide_eq_false (by omega)
   rw [hb, Bool.false_and, if_neg (by simp)] at j2
   rw [j2] at e0
   have f1 : (v.n < 0) = True := eq_true hnb
   refine AW.rT (by rfl) fun K hK => ?_
   simp -implicitDefEqProofs only [go_sem, ↓reduceIte, Nat.reduceAdd, Nat.reduceEqDiff, f1]
   refine hK _ ?_; clear hK K
   refine AW.cond _ (by simp -implicitDefEqProofs only [go_sem]; rfl) (fun hc => ?_) (fun hc => ?_)
   rotate_left
   ·simp at hc
   refine AW.rT (by rfl) fun K hK => ?_
   simp -implicitDefEqProofs only [go_sem, Nat.reduceAdd]
   refine hK _ ?_; clear hK K
   refine AW.ret ?_
   simp -implicitDefEqProofs only [go_sem, e0]
  ·have hb : numB v.n = false := decide_eq_false (by omega)
   rw [hb, Bool.false_and, if_neg (by simp)] at j2
   rw [j2] at e0
   have f1 : (v.n < 0) = False := eq_false (by omega)
   have f2 : (v.n > 2147483647) = True := eq_true hnb
   refine AW.rT (by rfl) fun K hK => ?_
   simp -implicitDefEqProofs only [go_sem, ↓reduceIte, Nat.reduceAdd, Nat.reduceEqDiff, f1, f2]
   refine hK _ ?_; clear hK K
   refine AW.cond _ (by simp -implicitDefEqProofs only [go_sem]; rfl) (fun hc => ?_) (fun hc => ?_)
   rotate_left
   ·simp at hc
   refine AW.rT (by rfl) fun K hK => ?_
   simp -implicitDefEqProofs only [go_sem, Nat.reduceAdd]
   refine hK _ ?_; clear hK K
   refine AW.ret ?_
   simp -implicitDefEqProofs only [go_sem, e0]
  have hb : numB v.n = true := decide_eq_true hnb
  rw [hb, Bool.true_and] at j2
  have f1 : (v.n < 0) = False := eq_false (by omega)
  have f2 : (v.n > 2147483647) = False := eq_false (by omega)
  refine AW.rT (by rfl) fun K hK => ?_
  simp -implicitDefEqProofs only [go_sem, ↓reduceIte, Nat.reduceAdd, Nat.reduceEqDiff, f1, f2]
  refine hK _ ?_; clear hK K
  refine AW.cond _ (by simp -implicitDefEqProofs only [go_sem]; rfl) (fun hc => ?_) (fun hc => ?_)
  ·simp at hc
  refine AW.skip ?_
  simp only [andThen]
  refine AW.rT (by rfl) fun K hK => ?_
  simp -implicitDefEqProofs only [go_sem, Nat.reduceAdd]
  refine hK _ ?_; clear hK K
  refine AW.block ?_
  refine AW.loop (re3 e v (N ++ [v.name]) j) (fun k => k ≤ j ∧ (T.take k).all (fun n => !(n == v.n)) = true) (fun k => j - k) 0 ?_ ⟨by omega, by simp⟩ fun k hk => ?_
  ·simp only [re3, cellsEn]
   refine Ghost.ent (fun l => if l = 0 then 0 else if l = 1 then 23 else 12) ?_ ?_ ?_ <;> simp -implicitDefEqProofs only [go_sem, ↓reduceIte, Nat.reduceEqDiff, reduceCtorEq, encS, List.map_append, liftE_append, List.map_cons, List.map_nil, liftE_cons, liftE_nil, List.forall_mem_cons, List.not_mem_nil, false_implies, implies_true, and_self, map_renL_lift, labsIn_lift, List.all_append, List.all_cons, List.all_nil, List.map_append, Nat.reduceLT, labsInL, AV.labsIn]
   all_goals first | rfl | decide | skip
  obtain ⟨k1, k2⟩ := hk
  simp only [re3, cellsEn]
  have hTl : T.length = j := by rw [← hT, List.length_map, List.length_take]; omega
  refine AW.seq ?_
  by_cases hkl : k < j
  case neg =>
   have hc2 : ((k : Int) < (j : Int)) = False := eq_false (by omega)
   rw [List.take_of_length_le (by omega)] at k2
   rw [res_no k2, if_pos (by simp)] at j2
   refine AW.rT (by rfl) fun K hK => ?_
   simp -implicitDefEqProofs only [go_sem, ↓reduceIte, Nat.reduceAdd, Nat.reduceEqDiff, hc2]
   refine hK _ ?_; clear hK K
   refine AW.cond _ (by simp -implicitDefEqProofs only [go_sem]; rfl) (fun hc => ?_) (fun hc => ?_)
   ·simp at hc
   refine AW.exit ?_
   simp only [andThen, inBlk, ↓reduceIte]
   refine AW.rE (by rfl) fun K hK => ?_
   simp -implicitDefEqProofs only [go_sem, ↓reduceIte, Nat.reduceAdd, Nat.reduceEqDiff, w1]
   refine hK _ ?_; clear hK K
   refine ⟨j + 1, ⟨by omega, by rw [hnx, htx]; exact j2⟩, by omega, ?_⟩
   rw [hnx]
   refine Ghost.sub ?_ ?_ <;> simp -implicitDefEqProofs only [go_sem, ↓reduceIte, Nat.reduceEqDiff, List.forall_mem_cons, List.not_mem_nil, false_implies, implies_true, and_self, labsIn_lift, List.all_cons, List.all_nil, Nat.reduceLT, labsInL, AV.labsIn]
  have hc2 : ((k : Int) < (j : Int)) = True := eq_true (by omega)
  obtain ⟨x, hx⟩ : ∃ x, e.vals[k]? = some x := ⟨_, List.getElem?_eq_getElem (by omega)⟩
  have ⟨hx1, hx2, hx3⟩ := at_map' encNm hx
  have hx2' : (k : Int) < (e.vals.length : Int) := by omega
  have hTx : T[k]? = some x.n := by rw [← hT, List.getElem?_map, List.getElem?_take, if_pos hkl, hx]; rfl
  have w2 : IntKind.wrap .i64 ((k : Int) + 1) = ((k + 1 : Nat) : Int) := by rw [w64] <;> omega
  refine AW.rT (by rfl) fun K hK => ?_
  simp -implicitDefEqProofs only [go_sem, ↓reduceIte, Nat.reduceAdd, Nat.reduceEqDiff, hc2]
  refine hK _ ?_; clear hK K
  refine AW.cond _ (by simp -implicitDefEqProofs only [go_sem]; rfl) (fun hc => ?_) (fun hc => ?_)
  rotate_left
  ·simp at hc
  refine AW.skip ?_
  simp only [andThen]
  refine AW.seq ?_
  refine AW.block ?_
  cases hq : (x.n == v.n) with
  | true =>
   have hus : T.contains v.n = true := by
    have : x.n = v.n := by simpa using hq
    rw [List.contains_iff_mem, ← this]
    exact List.mem_of_getElem? hTx
   rw [hus, if_neg (by simp)] at j2
   rw [j2] at e0
   refine AW.dT mixed (by rfl) (by decide +kernel) fun K hK => ?_
   simp -implicitDefEqProofs only [go_sem, ↓reduceIte, Nat.reduceAdd, Nat.reduceEqDiff, reduceCtorEq, hx1, hx2', hx3, encNm, List.length_map, hq]
   refine ⟨heapOK_nil rfl, ?_⟩
   refine hK _ ?_; clear hK K
   refine AW.cond _ (by simp -implicitDefEqProofs only [go_sem]; rfl) (fun hc => ?_) (fun hc => ?_)
   rotate_left
   ·simp at hc
   refine AW.rT (by rfl) fun K hK => ?_
   simp -implicitDefEqProofs only [go_sem, Nat.reduceAdd]
   refine hK _ ?_; clear hK K
   refine AW.ret ?_
   simp -implicitDefEqProofs only [go_sem, e0]
  | false =>
   refine AW.dT mixed (by rfl) (by decide +kernel) fun K hK => ?_
   simp -implicitDefEqProofs only [go_sem, ↓reduceIte, Nat.reduceAdd, Nat.reduceEqDiff, reduceCtorEq, hx1, hx2', hx3, encNm, List.length_map, hq]
   refine ⟨heapOK_nil rfl, ?_⟩
   refine hK _ ?_; clear hK K
   refine AW.cond _ (by simp -implicitDefEqProofs only [go_sem]; rfl) (fun hc => ?_) (fun hc => ?_)
   ·simp at hc
   refine AW.skip ?_
   simp only [andThen, inBlk]
   refine AW.rE (by rfl) fun K hK => ?_
   simp -implicitDefEqProofs only [go_sem, ↓reduceIte, Nat.reduceAdd, Nat.reduceEqDiff, w2]
   refine hK _ ?_; clear hK K
   refine ⟨k + 1, ⟨by omega, all_next hTx k2 (by rw [hq]; rfl)⟩, by omega, ?_⟩
   refine Ghost.sub ?_ ?_ <;> simp -implicitDefEqProofs only [go_sem, ↓reduceIte, Nat.reduceEqDiff, reduceCtorEq, List.forall_mem_cons, List.not_mem_nil, false_implies, implies_true, and_self, labsIn_lift, List.all_cons, List.all_nil, Nat.reduceLT, labsInL, AV.labsIn]
 obtain ⟨v, hv⟩ : ∃ v, e.vals[i]? = some v := ⟨_, List.getElem?_eq_getElem hil⟩
 have ⟨hv1, hv2, hv3⟩ := at_map' encNm hv
 have hv2' : (i : Int) < (e.vals.length : Int) := by omega
 have hc1 : ((i : Int) < (e.vals.length : Int)) = True := eq_true (by omega)
 have w1 : IntKind.wrap .i64 ((i : Int) + 1) = ((i + 1 : Nat) : Int) := by rw [w64] <;> omega
 have hz := zeroB_next hv
 refine AW.rT (by rfl) fun K hK => ?_
 simp -implicitDefEqProofs only [go_sem, ↓reduceIte, Nat.reduceAdd, Nat.reduceEqDiff, hc1, List.length_map]
 refine hK _ ?_; clear hK K
 refine AW.cond _ (by simp -implicitDefEqProofs only [go_sem]; rfl) (fun hc => ?_) (fun hc => ?_)
 rotate_left
 ·simp at hc
 refine AW.skip ?_
 simp only [andThen]
 refine AW.seq ?_
 refine AW.block ?_
 cases hb : zeroB e i with
 | true =>
  rw [hb, Bool.true_or] at hz
  refine AW.rE (by rfl) fun K hK => ?_
  simp -implicitDefEqProofs only [go_sem, ↓reduceIte, Nat.reduceAdd, Nat.reduceEqDiff]
  refine hK _ ?_; clear hK K
  simp only [andThen, inBlk]
  refine AW.rE (by rfl) fun K hK => ?_
  simp -implicitDefEqProofs only [go_sem, ↓reduceIte, Nat.reduceAdd, Nat.reduceEqDiff, w1]
  refine hK _ ?_; clear hK K
  refine ⟨i + 1, by omega, by omega, ?_⟩
  refine Ghost.sub ?_ ?_ <;> simp -implicitDefEqProofs only [go_sem, ↓reduceIte, Nat.reduceEqDiff, hz, List.forall_mem_cons, List.not_mem_nil, false_implies, implies_true, and_self, List.all_cons, List.all_nil, Nat.reduceLT, labsInL, AV.labsIn]
 | false =>
  rw [hb, Bool.false_or] at hz
  refine AW.rE (by rfl) fun K hK => ?_
  simp -implicitDefEqProofs only [go_sem, ↓reduceIte, Nat.reduceAdd, Nat.reduceEqDiff, hv1, hv2', hv3, encNm, List.length_map]
  refine hK _ ?_; clear hK K
  simp only [andThen, inBlk]
  refine AW.rE (by rfl) fun K hK => ?_
  simp -implicitDefEqProofs only [go_sem, ↓reduceIte, Nat.reduceAdd, Nat.reduceEqDiff, w1]
  refine hK _ ?_; clear hK K
  refine ⟨i + 1, by omega, by omega, ?_⟩
  refine Ghost.sub ?_ ?_ <;> simp -implicitDefEqProofs only [go_sem, ↓reduceIte, Nat.reduceEqDiff, hz, List.forall_mem_cons, List.not_mem_nil, false_implies, implies_true, and_self, List.all_cons, List.all_nil, Nat.reduceLT, labsInL, AV.labsIn]
end Go.Aw
namespace Go.Aw
open Go.Proofs Go.RowKit
set_option linter.unusedSimpArgs false
set_option linter.unusedVariables false
def msgsC (S : Sc) (K : List (List UInt8) → Int) (ns : List (List UInt8)) : List Ms → Int
 | [] => K ns
 | m :: l => if msgC S ns m = 0 then msgsC S K (ns ++ [m.name]) l else msgC S ns m
def enumsC (ns : List (List UInt8)) : List En → Int
 | [] => 0
 | e :: l => if enumC ns e = 0 then enumsC (ns ++ [e.name]) l else enumC ns e
def partsC (S : Sc) : Int := msgsC S (fun ns => enumsC ns S.enums) [] S.msgs
def hasM (S : Sc) (k : List UInt8) : Bool := (firstP (fun x => x.name == k) zMs S.msgs).2
def methsC (S : Sc) (ns : List (List UInt8)) : List Mt → Int
 | [] => 0
 | t :: l => if takesB ns t.name = true then (if (hasM S t.inn && hasM S t.out) = true then methsC S (ns ++ [t.name]) l else 8) else 6
def checkC (S : Sc) : Int := if nameB S.name = true then (if S.msgs.length = 0 then 12 else if S.msgs.length > 10 ∨ S.enums.length > 6 ∨ S.meths.length > 6 then 4 else if partsC S = 0 then methsC S [] S.meths else partsC S) else 6
theorem msgsC_at {S : Sc} {K : List (List UInt8) → Int} {l : List Ms} {i : Nat} {m : Ms} {ns : List (List UInt8)} (h : l[i]? = some m) :
  msgsC S K ns (l.drop i) = if msgC S ns m = 0 then msgsC S K (ns ++ [m.name]) (l.drop (i + 1)) else msgC S ns m := by
 rw [List.drop_eq_getElem_cons (List.getElem?_eq_some_iff.1 h).1, (List.getElem?_eq_some_iff.1 h).2, msgsC]
theorem enumsC_at {l : List En} {i : Nat} {e : En} {ns : List (List UInt8)} (h : l[i]? = some e) :
  enumsC ns (l.drop i) = if enumC ns e = 0 then enumsC (ns ++ [e.name]) (l.drop (i + 1)) else enumC ns e := by
 rw [List.drop_eq_getElem_cons (List.getElem?_eq_some_iff.1 h).1, (List.getElem?_eq_some_iff.1 h).2, enumsC]
theorem methsC_at {S : Sc} {l : List Mt} {i : Nat} {t : Mt} {ns : List (List UInt8)} (h : l[i]? = some t) :
  methsC S ns (l.drop i) = if takesB ns t.name = true then (if (hasM S t.inn && hasM S t.out) = true then methsC S (ns ++ [t.name]) (l.drop (i + 1)) else 8) else 6 := by
 rw [List.drop_eq_getElem_cons (List.getElem?_eq_some_iff.1 h).1, (List.getElem?_eq_some_iff.1 h).2, methsC]
theorem takes_msg {S : Sc} {ns : List (List UInt8)} {m : Ms} (h : msgC S ns m = 0) : takeN ns m.name = ns ++ [m.name] := by
 unfold msgC at h
 unfold takeN
 cases ht : takesB ns m.name with
 | true => rfl
 | false => rw [ht] at h; simp at h
theorem takes_enum {ns : List (List UInt8)} {e : En} (h : enumC ns e = 0) : takeN ns e.name = ns ++ [e.name] := by
 unfold enumC at h
 unfold takeN
 cases ht : takesB ns e.name with
 | true => rfl
 | false => rw [ht] at h; simp at h
structure LensS (S : Sc) : Prop where
 name : S.name.length ≤ 1000000000
 msgs : ∀ m ∈ S.msgs, lensF m
 enums : ∀ e ∈ S.enums, lensV e
 meths : ∀ t ∈ S.meths, t.name.length ≤ 1000000000
 m : S.msgs.length ≤ 1000000
 e : S.enums.length ≤ 1000000
 t : S.meths.length ≤ 1000000
def ck1 (S : Sc) (i : Nat) : St := ⟨ofL [(1, .ptr 0 0 0), (3, .map 1), (46, .p (.slice (S.msgs.map encMs))), (47, .p (.int .i64 (S.msgs.length : Int))), (48, .p (.int .i64 (i : Int)))],
 ofH [(0, .row 4 [cellsSc S]), (1, .map (mS ((S.msgs.take i).map Ms.name)))], 2⟩
def ck2 (S : Sc) (i : Nat) : St := ⟨ofL [(1, .ptr 0 0 0), (3, .map 1), (61, .p (.slice (S.enums.map encEn))), (62, .p (.int .i64 (S.enums.length : Int))), (63, .p (.int .i64 (i : Int)))],
 ofH [(0, .row 4 [cellsSc S]), (1, .map (mS (S.msgs.map Ms.name ++ (S.enums.take i).map En.name)))], 2⟩
def ck3 (S : Sc) (i : Nat) : St := ⟨ofL [(1, .ptr 0 0 0), (10, .map 1), (76, .p (.slice (S.meths.map encMt))), (77, .p (.int .i64 (S.meths.length : Int))), (78, .p (.int .i64 (i : Int)))],
 ofH [(0, .row 4 [cellsSc S]), (1, .map (mS ((S.meths.take i).map Mt.name)))], 2⟩
set_option maxRecDepth 100000 in
set_option maxHeartbeats 8000000 in
theorem check_Check (S : Sc) (L : LensS S) : PFn Tryd.prog 61 [.agg (encSc S)] (.int .i64 (checkC S)) := by
 refine PFn.of Tryd.func61 rfl (by decide) Tryd.ntmps61 Tryd.results61 (Nat.le_of_ble_eq_true rfl) ?_
 simp only [argsT, encSc]
 refine AW.rT (by rfl) fun K hK => ?_
 simp -implicitDefEqProofs only [go_sem, Nat.reduceAdd]
 refine hK _ ?_; clear hK K
 refine AW.seq ?_
 refine AW.block ?_
 cases hn : nameB S.name with
 | false =>
  have e : checkC S = 6 := by unfold checkC; rw [hn]; rfl
  refine AW.rT (by rfl) fun K hK => ?_
  simp -implicitDefEqProofs only [go_sem, ↓reduceIte, Nat.reduceAdd, Nat.reduceEqDiff]
  refine ⟨.pure _, runes_Name S.name L.name, ?_⟩
  try simp -implicitDefEqProofs only [go_sem, Nat.reduceAdd, hn]
  refine hK _ ?_; clear hK K
  refine AW.cond _ (by simp -implicitDefEqProofs only [go_sem]; rfl) (fun hc => ?_) (fun hc => ?_)
  rotate_left
  ·simp at hc
  refine AW.rT (by rfl) fun K hK => ?_
  simp -implicitDefEqProofs only [go_sem, Nat.reduceAdd]
  refine hK _ ?_; clear hK K
  refine AW.ret ?_
  simp -implicitDefEqProofs only [go_sem, e]
 | true =>
 have e0 : checkC S = if S.msgs.length = 0 then 12 else if S.msgs.length > 10 ∨ S.enums.length > 6 ∨ S.meths.length > 6 then 4 else if partsC S = 0 then methsC S [] S.meths else partsC S := by unfold checkC; rw [hn, if_pos rfl]
 refine AW.rT (by rfl) fun K hK => ?_
 simp -implicitDefEqProofs only [go_sem, ↓reduceIte, Nat.reduceAdd, Nat.reduceEqDiff]
 refine ⟨.pure _, runes_Name S.name L.name, ?_⟩
 try simp -implicitDefEqProofs only [go_sem, Nat.reduceAdd, hn]
 refine hK _ ?_; clear hK K
 refine AW.cond _ (by simp -implicitDefEqProofs only [go_sem]; rfl) (fun hc => ?_) (fun hc => ?_)
 ·simp at hc
 by_cases c0 : S.msgs.length = 0
 ·have b0 : ((S.msgs.length : Int) == 0) = true := by rw [beq_iff_eq]; omega
  rw [if_pos c0] at e0
  refine AW.rT (by rfl) fun K hK => ?_
  simp -implicitDefEqProofs only [go_sem, ↓reduceIte, Nat.reduceAdd, Nat.reduceEqDiff, b0, List.length_map]
  refine hK _ ?_; clear hK K
  refine AW.cond _ (by simp -implicitDefEqProofs only [go_sem]; rfl) (fun hc => ?_) (fun hc => ?_)
  rotate_left
  ·simp at hc
  refine AW.rT (by rfl) fun K hK => ?_
  simp -implicitDefEqProofs only [go_sem, Nat.reduceAdd]
  refine hK _ ?_; clear hK K
  refine AW.ret ?_
  simp -implicitDefEqProofs only [go_sem, e0]
 rw [if_neg c0] at e0
 have b0 : ((S.msgs.length : Int) == 0) = false := beq_eq_false_iff_ne.2 (by omega)
 refine AW.rT (by rfl) fun K hK => ?_
 simp -implicitDefEqProofs only [go_sem, ↓reduceIte, Nat.reduceAdd, Nat.reduceEqDiff, b0, List.length_map]
 refine hK _ ?_; clear hK K
 refine AW.cond _ (by simp -implicitDefEqProofs only [go_sem]; rfl) (fun hc => ?_) (fun hc => ?_)
 ·simp at hc
 by_cases c1 : S.msgs.length > 10
 ·have b1 : ((S.msgs.length : Int) > 10) = True := eq_true (by omega)
  rw [if_pos (.inl c1)] at e0
  refine AW.rT (by rfl) fun K hK => ?_
  simp -implicitDefEqProofs only [go_sem, ↓reduceIte, Nat.reduceAdd, Nat.reduceEqDiff, b1, List.length_map]
  refine hK _ ?_; clear hK K
  refine AW.cond _ (by simp -implicitDefEqProofs only [go_sem]; rfl) (fun hc => ?_) (fun hc => ?_)
  rotate_left
  ·simp at hc
  refine AW.rT (by rfl) fun K hK => ?_
  simp -implicitDefEqProofs only [go_sem, Nat.reduceAdd]
  refine hK _ ?_; clear hK K
  refine AW.ret ?_
  simp -implicitDefEqProofs only [go_sem, e0]
 have b1 : ((S.msgs.length : Int) > 10) = False := eq_false (by omega)
 by_cases c2 : S.enums.length > 6
 ·have b2 : ((S.enums.length : Int) > 6) = True := eq_true (by omega)
  rw [if_pos (.inr (.inl c2))] at e0
  refine AW.rT (by rfl) fun K hK => ?_
  simp -implicitDefEqProofs only [go_sem, ↓reduceIte, Nat.reduceAdd, Nat.reduceEqDiff, b1, b2, List.length_map]
  refine hK _ ?_; clear hK K
  refine AW.cond _ (by simp -implicitDefEqProofs only [go_sem]; rfl) (fun hc => ?_) (fun hc => ?_)
  rotate_left
  ·simp at hc
  refine AW.rT (by rfl) fun K hK => ?_
  simp -implicitDefEqProofs only [go_sem, Nat.reduceAdd]
  refine hK _ ?_; clear hK K
  refine AW.ret ?_
  simp -implicitDefEqProofs only [go_sem, e0]
 have b2 : ((S.enums.length : Int) > 6) = False := eq_false (by omega)
 by_cases c3 : S.meths.length > 6
 ·have b3 : ((S.meths.length : Int) > 6) = True := eq_true (by omega)
  rw [if_pos (.inr (.inr c3))] at e0
  refine AW.rT (by rfl) fun K hK => ?_
  simp -implicitDefEqProofs only [go_sem, ↓reduceIte, Nat.reduceAdd, Nat.reduceEqDiff, b1, b2, b3, List.length_map]
  refine hK _ ?_; clear hK K
  refine AW.cond _ (by simp -implicitDefEqProofs only [go_sem]; rfl) (fun hc => ?_) (fun hc => ?_)
  rotate_left
  ·simp at hc
  refine AW.rT (by rfl) fun K hK => ?_
  simp -implicitDefEqProofs only [go_sem, Nat.reduceAdd]
  refine hK _ ?_; clear hK K
  refine AW.ret ?_
  simp -implicitDefEqProofs only [go_sem, e0]
 have b3 : ((S.meths.length : Int) > 6) = False := eq_false (by omega)
 rw [if_neg (by omega)] at e0
 refine AW.rT (by rfl) fun K hK => ?_
 simp -implicitDefEqProofs only [go_sem, ↓reduceIte, Nat.reduceAdd, Nat.reduceEqDiff, b1, b2, b3, List.length_map]
 refine hK _ ?_; clear hK K
 refine AW.cond _ (by simp -implicitDefEqProofs only [go_sem]; rfl) (fun hc => ?_) (fun hc => ?_)
 ·simp at hc
 refine AW.skip ?_
 simp only [andThen, inBlk]
 clear b1 b2 b3
 refine AW.rT (by rfl) fun K hK => ?_
 simp -implicitDefEqProofs only [go_sem, Nat.reduceAdd]
 refine hK _ ?_; clear hK K
 refine AW.seq ?_
 refine AW.rT (by rfl) fun K hK => ?_
 simp -implicitDefEqProofs only [go_sem, ↓reduceIte, Nat.reduceAdd, Nat.reduceEqDiff, reduceCtorEq, List.length_map]
 refine hK _ ?_; clear hK K
 refine AW.block ?_
 refine AW.loop (ck1 S) (fun i => i ≤ S.msgs.length ∧ partsC S = msgsC S (fun ns => enumsC ns S.enums) ((S.msgs.take i).map Ms.name) (S.msgs.drop i)) (fun i => S.msgs.length - i) 0 ?_ ⟨by omega, by simp [partsC]⟩ fun i hi => ?_
 ·simp only [ck1, cellsSc]
  refine Ghost.ent (fun l => if l = 0 then 0 else 29) ?_ ?_ ?_ <;> simp -implicitDefEqProofs only [go_sem, ↓reduceIte, Nat.reduceEqDiff, reduceCtorEq, List.take_zero, List.map_nil, mS_nil, List.forall_mem_cons, List.not_mem_nil, false_implies, implies_true, and_self, List.all_cons, List.all_nil, Nat.reduceLT, labsInL, AV.labsIn]
  all_goals first | rfl | decide | skip
 obtain ⟨i1, i2⟩ := hi
 simp only [ck1, cellsSc]
 by_cases hil : i < S.msgs.length
 ·obtain ⟨m, hm⟩ : ∃ m, S.msgs[i]? = some m := ⟨_, List.getElem?_eq_getElem hil⟩
  have ⟨hm1, hm2, hm3⟩ := at_map' encMs hm
  have hc1 : ((i : Int) < (S.msgs.length : Int)) = True := eq_true (by omega)
  have w1 : IntKind.wrap .i64 ((i : Int) + 1) = ((i + 1 : Nat) : Int) := by rw [w64] <;> omega
  rw [msgsC_at hm] at i2
  have hnx := take_map_next Ms.name hm
  generalize hN : (S.msgs.take i).map Ms.name = N at *
  have CM := check_message S N m L.m L.e (L.msgs m (List.mem_of_getElem? hm))
  refine AW.rT (by rfl) fun K hK => ?_
  simp -implicitDefEqProofs only [go_sem, ↓reduceIte, Nat.reduceAdd, Nat.reduceEqDiff, hc1]
  refine hK _ ?_; clear hK K
  refine AW.seq ?_
  refine AW.cond _ (by simp -implicitDefEqProofs only [go_sem]; rfl) (fun hc => ?_) (fun hc => ?_)
  rotate_left
  ·simp at hc
  refine AW.skip ?_
  simp only [andThen]
  refine AW.seq ?_
  refine AW.block ?_
  refine AW.rT (by rfl) fun K hK => ?_
  simp -implicitDefEqProofs only [go_sem, ↓reduceIte, Nat.reduceAdd, Nat.reduceEqDiff, Nat.reduceLeDiff, hm1, hm3, hc1, encMs, List.length_map]
  refine hK _ ?_; clear hK K
  refine AW.rT (by rfl) fun K hK => ?_
  simp -implicitDefEqProofs only [go_sem, ↓reduceIte, Nat.reduceAdd, Nat.reduceEqDiff, Nat.reduceLeDiff, reduceCtorEq]
  refine ⟨.lend [none, some 1, none] [.v (.agg (encSc S)), .map (setM N), .v (.agg (encMs m))] [none, some (.map (setM (takeN N m.name))), none] (.int .i64 (msgC S N m)), ⟨CM, rfl, ?_⟩, ?_⟩
  ·simp -implicitDefEqProofs only [go_sem, ↓reduceIte, Nat.reduceEqDiff, lift_setM, encSc, encMs]
  try simp -implicitDefEqProofs only [go_sem, Nat.reduceAdd, lift_setM]
  refine hK _ ?_; clear hK K
  by_cases hz : msgC S N m = 0
  ·have bz : (msgC S N m != 0) = false := by simp [hz]
   rw [if_pos hz] at i2
   rw [takes_msg hz]
   refine AW.rT (by rfl) fun K hK => ?_
   simp -implicitDefEqProofs only [go_sem, ↓reduceIte, Nat.reduceAdd, bz]
   refine hK _ ?_; clear hK K
   refine AW.cond _ (by simp -implicitDefEqProofs only [go_sem]; rfl) (fun hc => ?_) (fun hc => ?_)
   ·simp at hc
   refine AW.skip ?_
   simp only [andThen, inBlk]
   refine AW.rE (by rfl) fun K hK => ?_
   simp -implicitDefEqProofs only [go_sem, ↓reduceIte, Nat.reduceAdd, Nat.reduceEqDiff, w1]
   refine hK _ ?_; clear hK K
   refine ⟨i + 1, ⟨by omega, by rw [hnx]; exact i2⟩, by omega, ?_⟩
   rw [hnx]
   refine Ghost.sub ?_ ?_ <;> simp -implicitDefEqProofs only [go_sem, ↓reduceIte, Nat.reduceEqDiff, reduceCtorEq, List.forall_mem_cons, List.not_mem_nil, false_implies, implies_true, and_self, List.all_cons, List.all_nil, Nat.reduceLT, labsInL, AV.labsIn]
  ·have bz : (msgC S N m != 0) = true := by simp [hz]
   rw [if_neg hz] at i2
   rw [if_neg (by rw [i2]; exact hz), i2] at e0
   refine AW.rT (by rfl) fun K hK => ?_
   simp -implicitDefEqProofs only [go_sem, ↓reduceIte, Nat.reduceAdd, bz]
   refine hK _ ?_; clear hK K
   refine AW.cond _ (by simp -implicitDefEqProofs only [go_sem]; rfl) (fun hc => ?_) (fun hc => ?_)
   rotate_left
   ·simp at hc
   refine AW.rT (by rfl) fun K hK => ?_
   simp -implicitDefEqProofs only [go_sem, ↓reduceIte, Nat.reduceAdd, Nat.reduceEqDiff]
   refine hK _ ?_; clear hK K
   refine AW.ret ?_
   simp -implicitDefEqProofs only [go_sem, e0]
 have hc1 : ((i : Int) < (S.msgs.length : Int)) = False := eq_false (by omega)
 have ea : S.msgs.take i = S.msgs := List.take_of_length_le (by omega)
 rw [List.drop_of_length_le (by omega), msgsC, ea] at i2
 rw [ea]
 clear ea hil
 refine AW.rT (by rfl) fun K hK => ?_
 simp -implicitDefEqProofs only [go_sem, ↓reduceIte, Nat.reduceAdd, Nat.reduceEqDiff, hc1]
 refine hK _ ?_; clear hK K
 refine AW.seq ?_
 refine AW.cond _ (by simp -implicitDefEqProofs only [go_sem]; rfl) (fun hc => ?_) (fun hc => ?_)
 ·simp at hc
 refine AW.exit ?_
 simp only [andThen, inBlk, ↓reduceIte]
 refine AW.seq ?_
 refine AW.rT (by rfl) fun K hK => ?_
 simp -implicitDefEqProofs only [go_sem, ↓reduceIte, Nat.reduceAdd, Nat.reduceEqDiff, List.length_map]
 refine hK _ ?_; clear hK K
 refine AW.block ?_
 refine AW.loop (ck2 S) (fun i => i ≤ S.enums.length ∧ partsC S = enumsC (S.msgs.map Ms.name ++ (S.enums.take i).map En.name) (S.enums.drop i)) (fun i => S.enums.length - i) 0 ?_ ⟨by omega, by simpa using i2⟩ fun j hj => ?_
 ·simp only [ck2, cellsSc]
  refine Ghost.sub ?_ ?_ <;> simp -implicitDefEqProofs only [go_sem, ↓reduceIte, Nat.reduceEqDiff, List.take_zero, List.map_nil, List.append_nil, List.forall_mem_cons, List.not_mem_nil, false_implies, implies_true, and_self, List.all_cons, List.all_nil, Nat.reduceLT, labsInL, AV.labsIn]
  all_goals first | rfl | decide | skip
 clear i2 i1 hc1
 obtain ⟨j1, j2⟩ := hj
 simp only [ck2, cellsSc]
 by_cases hjl : j < S.enums.length
 ·obtain ⟨m, hm⟩ : ∃ m, S.enums[j]? = some m := ⟨_, List.getElem?_eq_getElem hjl⟩
  have ⟨hm1, hm2, hm3⟩ := at_map' encEn hm
  have hc1 : ((j : Int) < (S.enums.length : Int)) = True := eq_true (by omega)
  have w1 : IntKind.wrap .i64 ((j : Int) + 1) = ((j + 1 : Nat) : Int) := by rw [w64] <;> omega
  rw [enumsC_at hm] at j2
  have hnx : S.msgs.map Ms.name ++ (S.enums.take (j + 1)).map En.name = (S.msgs.map Ms.name ++ (S.enums.take j).map En.name) ++ [m.name] := by rw [take_map_next En.name hm, List.append_assoc]
  generalize hN : S.msgs.map Ms.name ++ (S.enums.take j).map En.name = N at *
  have CM := check_enum N m (L.enums m (List.mem_of_getElem? hm))
  refine AW.rT (by rfl) fun K hK => ?_
  simp -implicitDefEqProofs only [go_sem, ↓reduceIte, Nat.reduceAdd, Nat.reduceEqDiff, hc1]
  refine hK _ ?_; clear hK K
  refine AW.seq ?_
  refine AW.cond _ (by simp -implicitDefEqProofs only [go_sem]; rfl) (fun hc => ?_) (fun hc => ?_)
  rotate_left
  ·simp at hc
  refine AW.skip ?_
  simp only [andThen]
  refine AW.seq ?_
  refine AW.block ?_
  refine AW.rT (by rfl) fun K hK => ?_
  simp -implicitDefEqProofs only [go_sem, ↓reduceIte, Nat.reduceAdd, Nat.reduceEqDiff, Nat.reduceLeDiff, hm1, hm3, hc1, encEn, List.length_map]
  refine hK _ ?_; clear hK K
  refine AW.rT (by rfl) fun K hK => ?_
  simp -implicitDefEqProofs only [go_sem, ↓reduceIte, Nat.reduceAdd, Nat.reduceEqDiff, Nat.reduceLeDiff]
  refine ⟨.lend [some 1, none] [.map (setM N), .v (.agg (encEn m))] [some (.map (setM (takeN N m.name))), none] (.int .i64 (enumC N m)), ⟨CM, rfl, ?_⟩, ?_⟩
  ·simp -implicitDefEqProofs only [go_sem, ↓reduceIte, Nat.reduceEqDiff, lift_setM, encEn]
  try simp -implicitDefEqProofs only [go_sem, Nat.reduceAdd, lift_setM]
  refine hK _ ?_; clear hK K
  by_cases hz : enumC N m = 0
  ·have bz : (enumC N m != 0) = false := by simp [hz]
   rw [if_pos hz] at j2
   rw [takes_enum hz]
   refine AW.rT (by rfl) fun K hK => ?_
   simp -implicitDefEqProofs only [go_sem, ↓reduceIte, Nat.reduceAdd, bz]
   refine hK _ ?_; clear hK K
   refine AW.cond _ (by simp -implicitDefEqProofs only [go_sem]; rfl) (fun hc => ?_) (fun hc => ?_)
   ·simp at hc
   refine AW.skip ?_
   simp only [andThen, inBlk]
   refine AW.rE (by rfl) fun K hK => ?_
   simp -implicitDefEqProofs only [go_sem, ↓reduceIte, Nat.reduceAdd, Nat.reduceEqDiff, w1]
   refine hK _ ?_; clear hK K
   refine ⟨j + 1, ⟨by omega, by rw [hnx]; exact j2⟩, by omega, ?_⟩
   rw [hnx]
   refine Ghost.sub ?_ ?_ <;> simp -implicitDefEqProofs only [go_sem, ↓reduceIte, Nat.reduceEqDiff, reduceCtorEq, List.forall_mem_cons, List.not_mem_nil, false_implies, implies_true, and_self, List.all_cons, List.all_nil, Nat.reduceLT, labsInL, AV.labsIn]
  ·have bz : (enumC N m != 0) = true := by simp [hz]
   rw [if_neg hz] at j2
   rw [if_neg (by rw [j2]; exact hz), j2] at e0
   refine AW.rT (by rfl) fun K hK => ?_
   simp -implicitDefEqProofs only [go_sem, ↓reduceIte, Nat.reduceAdd, bz]
   refine hK _ ?_; clear hK K
   refine AW.cond _ (by simp -implicitDefEqProofs only [go_sem]; rfl) (fun hc => ?_) (fun hc => ?_)
   rotate_left
   ·simp at hc
   refine AW.rT (by rfl) fun K hK => ?_
   simp -implicitDefEqProofs only [go_sem, ↓reduceIte, Nat.reduceAdd, Nat.reduceEqDiff]
   refine hK _ ?_; clear hK K
   refine AW.ret ?_
   simp -implicitDefEqProofs only [go_sem, e0]
 have hc1 : ((j : Int) < (S.enums.length : Int)) = False := eq_false (by omega)
 rw [List.drop_of_length_le (by omega), enumsC] at j2
 rw [if_pos j2] at e0
 clear hjl
 refine AW.rT (by rfl) fun K hK => ?_
 simp -implicitDefEqProofs only [go_sem, ↓reduceIte, Nat.reduceAdd, Nat.reduceEqDiff, hc1]
 refine hK _ ?_; clear hK K
 refine AW.seq ?_
 refine AW.cond _ (by simp -implicitDefEqProofs only [go_sem]; rfl) (fun hc => ?_) (fun hc => ?_)
 ·simp at hc
 refine AW.exit ?_
 simp only [andThen, inBlk, ↓reduceIte]
 refine AW.rT (by rfl) fun K hK => ?_
 simp -implicitDefEqProofs only [go_sem, Nat.reduceAdd]
 refine hK _ ?_; clear hK K
 refine AW.seq ?_
 refine AW.rT (by rfl) fun K hK => ?_
 simp -implicitDefEqProofs only [go_sem, ↓reduceIte, Nat.reduceAdd, Nat.reduceEqDiff, reduceCtorEq, List.length_map]
 refine hK _ ?_; clear hK K
 refine AW.block ?_
 refine AW.loop (ck3 S) (fun i => i ≤ S.meths.length ∧ methsC S [] S.meths = methsC S ((S.meths.take i).map Mt.name) (S.meths.drop i)) (fun i => S.meths.length - i) 0 ?_ ⟨by omega, by simp⟩ fun k hk => ?_
 ·simp only [ck3, cellsSc]
  refine Ghost.ent (fun l => if l = 0 then 0 else 3) ?_ ?_ ?_ <;> simp -implicitDefEqProofs only [go_sem, ↓reduceIte, Nat.reduceEqDiff, reduceCtorEq, List.take_zero, List.map_nil, mS_nil, List.forall_mem_cons, List.not_mem_nil, false_implies, implies_true, and_self, List.all_cons, List.all_nil, Nat.reduceLT, labsInL, AV.labsIn]
  all_goals first | rfl | decide | skip
 obtain ⟨k1, k2⟩ := hk
 simp only [ck3, cellsSc]
 by_cases hkl : k < S.meths.length
 case neg =>
  have hc1 : ((k : Int) < (S.meths.length : Int)) = False := eq_false (by omega)
  rw [List.drop_of_length_le (by omega), methsC] at k2
  rw [k2] at e0
  refine AW.rT (by rfl) fun K hK => ?_
  simp -implicitDefEqProofs only [go_sem, ↓reduceIte, Nat.reduceAdd, Nat.reduceEqDiff, hc1]
  refine hK _ ?_; clear hK K
  refine AW.seq ?_
  refine AW.cond _ (by simp -implicitDefEqProofs only [go_sem]; rfl) (fun hc => ?_) (fun hc => ?_)
  ·simp at hc
  refine AW.exit ?_
  simp only [andThen, inBlk, ↓reduceIte]
  refine AW.rT (by rfl) fun K hK => ?_
  simp -implicitDefEqProofs only [go_sem, Nat.reduceAdd]
  refine hK _ ?_; clear hK K
  refine AW.ret ?_
  simp -implicitDefEqProofs only [go_sem, e0]
 obtain ⟨m, hm⟩ : ∃ m, S.meths[k]? = some m := ⟨_, List.getElem?_eq_getElem hkl⟩
 have ⟨hm1, hm2, hm3⟩ := at_map' encMt hm
 have hc1 : ((k : Int) < (S.meths.length : Int)) = True := eq_true (by omega)
 have w1 : IntKind.wrap .i64 ((k : Int) + 1) = ((k + 1 : Nat) : Int) := by rw [w64] <;> omega
 rw [methsC_at hm] at k2
 have hnx := take_map_next Mt.name hm
 generalize hN : (S.meths.take k).map Mt.name = N at *
 have TK := check_takes N m.name (L.meths m (List.mem_of_getElem? hm))
 have M1 := check_Message S m.inn L.m
 have M2 := check_Message S m.out L.m
 simp only [encSc, encMs] at M1 M2
 refine AW.rT (by rfl) fun K hK => ?_
 simp -implicitDefEqProofs only [go_sem, ↓reduceIte, Nat.reduceAdd, Nat.reduceEqDiff, hc1]
 refine hK _ ?_; clear hK K
 refine AW.seq ?_
 refine AW.cond _ (by simp -implicitDefEqProofs only [go_sem]; rfl) (fun hc => ?_) (fun hc => ?_)
 rotate_left
 ·simp at hc
 refine AW.skip ?_
 simp only [andThen]
 refine AW.seq ?_
 refine AW.block ?_
 refine AW.rT (by rfl) fun K hK => ?_
 simp -implicitDefEqProofs only [go_sem, ↓reduceIte, Nat.reduceAdd, Nat.reduceEqDiff, Nat.reduceLeDiff, hm1, hm3, hc1, encMt, List.length_map]
 refine hK _ ?_; clear hK K
 refine AW.rT (by rfl) fun K hK => ?_
 simp -implicitDefEqProofs only [go_sem, ↓reduceIte, Nat.reduceAdd, Nat.reduceEqDiff, Nat.reduceLeDiff, reduceCtorEq]
 refine ⟨.pure _, M1, ?_⟩
 try simp -implicitDefEqProofs only [go_sem, ↓reduceIte, Nat.reduceAdd, Nat.reduceEqDiff, Nat.reduceLeDiff]
 refine hK _ ?_; clear hK K
 refine AW.rT (by rfl) fun K hK => ?_
 simp -implicitDefEqProofs only [go_sem, ↓reduceIte, Nat.reduceAdd, Nat.reduceEqDiff, Nat.reduceLeDiff, reduceCtorEq]
 refine ⟨.pure _, M2, ?_⟩
 try simp -implicitDefEqProofs only [go_sem, ↓reduceIte, Nat.reduceAdd, Nat.reduceEqDiff, Nat.reduceLeDiff]
 refine hK _ ?_; clear hK K
 refine AW.block ?_
 have h1 : hasM S m.inn = (firstP (fun x => x.name == m.inn) zMs S.msgs).2 := rfl
 have h2 : hasM S m.out = (firstP (fun x => x.name == m.out) zMs S.msgs).2 := rfl
 rw [← h1, ← h2]
 cases ht2 : takesB N m.name with
 | false =>
  have e3 : takeN N m.name = N := by unfold takeN; rw [ht2]; rfl
  rw [ht2, e3] at TK
  rw [ht2, if_neg (by simp)] at k2
  rw [k2] at e0
  refine AW.rT (by rfl) fun K hK => ?_
  simp -implicitDefEqProofs only [go_sem, ↓reduceIte, Nat.reduceAdd, Nat.reduceEqDiff]
  refine ⟨.lend [some 1, none] [.map (setM N), .v (.str m.name)] [some (.map (setM N)), none] (.bool false), ⟨TK, rfl, ?_⟩, ?_⟩
  ·simp -implicitDefEqProofs only [go_sem, ↓reduceIte, Nat.reduceEqDiff, lift_setM]
  try simp -implicitDefEqProofs only [go_sem, Nat.reduceAdd, lift_setM]
  refine hK _ ?_; clear hK K
  refine AW.cond _ (by simp -implicitDefEqProofs only [go_sem]; rfl) (fun hc => ?_) (fun hc => ?_)
  rotate_left
  ·simp at hc
  refine AW.rT (by rfl) fun K hK => ?_
  simp -implicitDefEqProofs only [go_sem, Nat.reduceAdd]
  refine hK _ ?_; clear hK K
  refine AW.ret ?_
  simp -implicitDefEqProofs only [go_sem, e0]
 | true =>
 have e3 : takeN N m.name = N ++ [m.name] := by unfold takeN; rw [ht2]; rfl
 rw [ht2, e3] at TK
 rw [ht2, if_pos rfl] at k2
 refine AW.rT (by rfl) fun K hK => ?_
 simp -implicitDefEqProofs only [go_sem, ↓reduceIte, Nat.reduceAdd, Nat.reduceEqDiff]
 refine ⟨.lend [some 1, none] [.map (setM N), .v (.str m.name)] [some (.map (setM (N ++ [m.name]))), none] (.bool true), ⟨TK, rfl, ?_⟩, ?_⟩
 ·simp -implicitDefEqProofs only [go_sem, ↓reduceIte, Nat.reduceEqDiff, lift_setM]
 try simp -implicitDefEqProofs only [go_sem, Nat.reduceAdd, lift_setM]
 refine hK _ ?_; clear hK K
 refine AW.cond _ (by simp -implicitDefEqProofs only [go_sem]; rfl) (fun hc => ?_) (fun hc => ?_)
 ·simp at hc
 cases hi : hasM S m.inn with
 | false =>
  rw [hi, Bool.false_and, if_neg (by simp)] at k2
  rw [k2] at e0
  refine AW.rT (by rfl) fun K hK => ?_
  simp -implicitDefEqProofs only [go_sem, ↓reduceIte, Nat.reduceAdd, Nat.reduceEqDiff]
  refine hK _ ?_; clear hK K
  refine AW.cond _ (by simp -implicitDefEqProofs only [go_sem]; rfl) (fun hc => ?_) (fun hc => ?_)
  rotate_left
  ·simp at hc
  refine AW.rT (by rfl) fun K hK => ?_
  simp -implicitDefEqProofs only [go_sem, Nat.reduceAdd]
  refine hK _ ?_; clear hK K
  refine AW.ret ?_
  simp -implicitDefEqProofs only [go_sem, e0]
 | true =>
 cases ho : hasM S m.out with
 | false =>
  rw [hi, ho, if_neg (by simp)] at k2
  rw [k2] at e0
  refine AW.rT (by rfl) fun K hK => ?_
  simp -implicitDefEqProofs only [go_sem, ↓reduceIte, Nat.reduceAdd, Nat.reduceEqDiff]
  refine hK _ ?_; clear hK K
  refine AW.cond _ (by simp -implicitDefEqProofs only [go_sem]; rfl) (fun hc => ?_) (fun hc => ?_)
  rotate_left
  ·simp at hc
  refine AW.rT (by rfl) fun K hK => ?_
  simp -implicitDefEqProofs only [go_sem, Nat.reduceAdd]
  refine hK _ ?_; clear hK K
  refine AW.ret ?_
  simp -implicitDefEqProofs only [go_sem, e0]
 | true =>
  rw [hi, ho, if_pos (by rfl)] at k2
  refine AW.rT (by rfl) fun K hK => ?_
  simp -implicitDefEqProofs only [go_sem, ↓reduceIte, Nat.reduceAdd, Nat.reduceEqDiff]
  refine hK _ ?_; clear hK K
  refine AW.cond _ (by simp -implicitDefEqProofs only [go_sem]; rfl) (fun hc => ?_) (fun hc => ?_)
  ·simp at hc
  refine AW.skip ?_
  simp only [andThen, inBlk]
  refine AW.rE (by rfl) fun K hK => ?_
  simp -implicitDefEqProofs only [go_sem, ↓reduceIte, Nat.reduceAdd, Nat.reduceEqDiff, w1]
  refine hK _ ?_; clear hK K
  refine ⟨k + 1, ⟨by omega, by rw [hnx]; exact k2⟩, by omega, ?_⟩
  rw [hnx]
  refine Ghost.sub ?_ ?_ <;> simp -implicitDefEqProofs only [go_sem, ↓reduceIte, Nat.reduceEqDiff, reduceCtorEq, List.forall_mem_cons, List.not_mem_nil, false_implies, implies_true, and_self, List.all_cons, List.all_nil, Nat.reduceLT, labsInL, AV.labsIn]
end Go.Aw
namespace Go.Aw
open Go.Proofs Go.RowKit
set_option linter.unusedSimpArgs false
set_option linter.unusedVariables false
end Go.Aw
namespace Go.Aw
open Go.Proofs Go.RowKit
set_option linter.unusedSimpArgs false
set_option linter.unusedVariables false
theorem lift_len {α : Type} {f : α → List PV} {n : Nat} (h : ∀ a, (f a).length = n) (l : List α) : ∀ y ∈ liftE (l.map f), y.length = n := by
 intro y hy
 unfold liftE at hy
 rw [List.map_map] at hy
 obtain ⟨a, _, rfl⟩ := List.mem_map.1 hy
 simp [h]
theorem one_lift {l : List PV} (h : ∀ p ∈ l, p.one = true) : oneAll (l.map AV.p) = true := by
 induction l with
 | nil => rfl
 | cons a l ih =>
  rw [List.map_cons, oneAll, ih fun p hp => h p (List.mem_cons_of_mem _ hp), Bool.and_true]
  exact h a List.mem_cons_self
theorem lift_one {α : Type} {f : α → List PV} (h : ∀ a, ∀ p ∈ f a, p.one = true) (l : List α) : ∀ y ∈ liftE (l.map f), oneAll y = true := by
 intro y hy
 unfold liftE at hy
 rw [List.map_map] at hy
 obtain ⟨a, _, rfl⟩ := List.mem_map.1 hy
 exact one_lift (h a)
theorem one_I (a : Int) : ∀ p ∈ encI a, p.one = true := by intro p hp; simp [encI] at hp; subst hp; rfl
theorem one_Fd (a : Fd) : ∀ p ∈ encFd a, p.one = true := by intro p hp; simp [encFd] at hp; rcases hp with rfl | rfl | rfl | rfl | rfl <;> rfl
theorem one_Nm (a : Nm) : ∀ p ∈ encNm a, p.one = true := by intro p hp; simp [encNm] at hp; rcases hp with rfl | rfl <;> rfl
theorem one_Mt (a : Mt) : ∀ p ∈ encMt a, p.one = true := by intro p hp; simp [encMt] at hp; rcases hp with rfl | rfl | rfl <;> rfl
set_option maxRecDepth 100000 in
theorem law00_Ints (l : List Int) (hl : l.length ≤ 1000000) : PFn Tryd.prog 65 [.slice (l.map encI)] (.slice (l.map encI)) := by
 refine PFn.of Tryd.func65 rfl (by decide) Tryd.ntmps65 Tryd.results65 (Nat.le_of_ble_eq_true rfl) ?_
 simp only [argsT]
 refine AW.rT (by rfl) fun K hK => ?_
 simp -implicitDefEqProofs only [go_sem]
 refine hK _ ?_; clear hK K
 refine AW.rT (by rfl) fun K hK => ?_
 simp -implicitDefEqProofs only [go_sem, ↓reduceIte, Nat.reduceAdd, Nat.reduceLeDiff, reduceCtorEq]
 refine ⟨⟨lift_len (f := encI) (fun _ => rfl) l, lift_one one_I l, by simp⟩, ⟨.inl trivial, by simp, by rw [liftE_length, List.length_map]; omega⟩, ?_⟩
 refine hK _ ?_; clear hK K
 refine AW.ret ?_
 simp -implicitDefEqProofs only [go_sem]
set_option maxRecDepth 100000 in
theorem law00_Place (p n : Int) (hn : 0 < n) (hb : n ≤ 9223372036854775807) (hp : -9223372036854775808 ≤ p) (hq : p ≤ 9223372036854775807) : PFn Tryd.prog 22 [.int .i64 p, .int .i64 n] (.int .i64 (p % n)) := by
 refine PFn.of Tryd.func22 rfl (by decide) Tryd.ntmps22 Tryd.results22 (Nat.le_of_ble_eq_true rfl) ?_
 simp only [argsT]
 have z : (n = 0) = False := eq_false (by omega)
 have hm := Int.emod_nonneg p (show n ≠ 0 by omega)
 have hm2 := Int.emod_lt_of_pos p hn
 refine AW.rT (by rfl) fun K hK => ?_
 simp -implicitDefEqProofs only [go_sem]
 refine hK _ ?_; clear hK K
 refine AW.rT (by rfl) fun K hK => ?_
 simp -implicitDefEqProofs only [go_sem, ↓reduceIte, Nat.reduceAdd, Nat.reduceEqDiff, reduceCtorEq, z]
 refine hK _ ?_; clear hK K
 refine AW.seq ?_
 have ht : p.tmod n = if 0 ≤ p ∨ p % n = 0 then p % n else p % n - n := by
  rw [Int.tmod_eq_emod]
  have hd : n ∣ p ↔ p % n = 0 := Int.dvd_iff_emod_eq_zero
  have hna : (n.natAbs : Int) = n := by omega
  by_cases h : 0 ≤ p ∨ n ∣ p
  ·rw [if_pos h, if_pos (by rcases h with h | h; exact .inl h; exact .inr (hd.1 h))]; simp
  ·rw [if_neg h, if_neg (by intro h'; apply h; rcases h' with h' | h'; exact .inl h'; exact .inr (hd.2 h')), hna]
 by_cases h : p.tmod n < 0
 ·have f1 : (p.tmod n < 0) = True := eq_true h
  have e : IntKind.wrap .i64 (p.tmod n + n) = p % n := by
   rw [w64]
   all_goals
    split at ht <;> omega
  refine AW.rT (by rfl) fun K hK => ?_
  simp -implicitDefEqProofs only [go_sem, ↓reduceIte, Nat.reduceAdd, f1]
  refine hK _ ?_; clear hK K
  refine AW.cond _ (by simp -implicitDefEqProofs only [go_sem]; rfl) (fun hc => ?_) (fun hc => ?_)
  rotate_left
  ·simp at hc
  refine AW.rE (by rfl) fun K hK => ?_
  simp -implicitDefEqProofs only [go_sem, ↓reduceIte, Nat.reduceAdd, Nat.reduceEqDiff, e]
  refine hK _ ?_; clear hK K
  simp only [andThen]
  refine AW.rT (by rfl) fun K hK => ?_
  simp -implicitDefEqProofs only [go_sem, Nat.reduceAdd]
  refine hK _ ?_; clear hK K
  refine AW.ret ?_
  simp -implicitDefEqProofs only [go_sem]
 ·have f1 : (p.tmod n < 0) = False := eq_false h
  have e : p.tmod n = p % n := by
   split at ht <;> omega
  refine AW.rT (by rfl) fun K hK => ?_
  simp -implicitDefEqProofs only [go_sem, ↓reduceIte, Nat.reduceAdd, f1]
  refine hK _ ?_; clear hK K
  refine AW.cond _ (by simp -implicitDefEqProofs only [go_sem]; rfl) (fun hc => ?_) (fun hc => ?_)
  ·simp at hc
  refine AW.skip ?_
  simp only [andThen]
  refine AW.rT (by rfl) fun K hK => ?_
  simp -implicitDefEqProofs only [go_sem, ↓reduceIte, Nat.reduceAdd, Nat.reduceEqDiff]
  refine hK _ ?_; clear hK K
  refine AW.ret ?_
  simp -implicitDefEqProofs only [go_sem, e]
def fdFew (f : Fd) : Bool := decide (f.name.length ≤ 200 ∧ f.ty.name.length ≤ 200)
def msFew (m : Ms) : Bool := decide (m.fields.length ≤ 20 ∧ m.res.length ≤ 40) && m.fields.all fdFew
def nmFew (v : Nm) : Bool := decide (v.name.length ≤ 200)
def enFew (e : En) : Bool := decide (e.name.length ≤ 200 ∧ e.vals.length ≤ 24) && e.vals.all nmFew
def mtFew (t : Mt) : Bool := decide (t.name.length ≤ 200 ∧ t.inn.length ≤ 200 ∧ t.out.length ≤ 200)
def totN (S : Sc) (k : Nat) : Nat := S.name.length + ((S.msgs.take k).map fun m => m.name.length).sum
def fewB (S : Sc) : Bool := (S.msgs.take 20).all msFew && ((S.enums.take 20).all enFew && ((S.meths.take 20).all mtFew && decide (totN S 20 < 3000 ∧ S.msgs.length ≤ 14 ∧ S.enums.length ≤ 10 ∧ S.meths.length ≤ 10)))
def bigS (S : Sc) : Prop := S.name.length ≤ reachBytes ∧ ∀ m ∈ S.msgs, m.name.length ≤ reachBytes
theorem tot_next {S : Sc} {i : Nat} {m : Ms} (h : S.msgs[i]? = some m) : totN S (i + 1) = totN S i + m.name.length := by
 unfold totN
 rw [List.take_add_one, h]
 simp; omega
theorem sum_le {l : List Ms} {n : Nat} (h : ∀ m ∈ l, m.name.length ≤ n) : (l.map fun m => m.name.length).sum ≤ l.length * n := by
 induction l with
 | nil => simp
 | cons a l ih =>
  rw [List.map_cons, List.sum_cons, List.length_cons, Nat.add_mul]
  have := h a List.mem_cons_self
  have := ih fun m hm => h m (List.mem_cons_of_mem _ hm)
  omega
theorem tot_le {S : Sc} (h : bigS S) {i : Nat} (hi : i ≤ 20) : totN S i ≤ 21 * 140737488351232 := by
 have h1 := h.1
 have h2 := sum_le (l := S.msgs.take i) (n := reachBytes) fun m hm => h.2 m (List.mem_of_mem_take hm)
 have hl : (S.msgs.take i).length ≤ 20 := by rw [List.length_take]; omega
 have : (S.msgs.take i).length * reachBytes ≤ 20 * reachBytes := Nat.mul_le_mul_right _ hl
 have e : reachBytes = 140737488351232 := by decide
 unfold totN
 omega
theorem take_end {α : Type} {l : List α} {i : Nat} (hi : i ≤ l.length) (h2 : i ≤ 20) (h : ¬ (i < l.length ∧ i < 20)) : l.take i = l.take 20 := by
 by_cases h3 : i = 20
 ·rw [h3]
 ·rw [List.take_of_length_le (by omega), List.take_of_length_le (by omega)]
theorem few_msg {S : Sc} {i : Nat} {m : Ms} (h : S.msgs[i]? = some m) (hi : i < 20) (hm : msFew m = false) : fewB S = false := by
 have : (S.msgs.take 20).all msFew = false := all_not (k := i) (r := m) (by rw [List.getElem?_take, if_pos hi]; exact h) hm
 unfold fewB; rw [this]; rfl
theorem few_enum {S : Sc} {i : Nat} {m : En} (h : S.enums[i]? = some m) (hi : i < 20) (hm : enFew m = false) : fewB S = false := by
 have : (S.enums.take 20).all enFew = false := all_not (k := i) (r := m) (by rw [List.getElem?_take, if_pos hi]; exact h) hm
 unfold fewB; rw [this]; simp
theorem few_meth {S : Sc} {i : Nat} {m : Mt} (h : S.meths[i]? = some m) (hi : i < 20) (hm : mtFew m = false) : fewB S = false := by
 have : (S.meths.take 20).all mtFew = false := all_not (k := i) (r := m) (by rw [List.getElem?_take, if_pos hi]; exact h) hm
 unfold fewB; rw [this]; simp
def fw (S : Sc) (l : List (Nat × AV)) : St := ⟨ofL ((1, .ptr 0 0 0) :: l), ofH [(0, .row 4 [cellsSc S])], 1⟩
set_option maxRecDepth 100000 in
set_option maxHeartbeats 8000000 in
theorem law00_Few (S : Sc) (B : bigS S) : PFn Tryd.prog 19 [.agg (encSc S)] (.bool (fewB S)) := by
 refine PFn.of Tryd.func19 rfl (by decide) Tryd.ntmps19 Tryd.results19 (Nat.le_of_ble_eq_true rfl) ?_
 simp only [argsT, encSc]
 refine AW.rT (by rfl) fun K hK => ?_
 simp -implicitDefEqProofs only [go_sem, Nat.reduceAdd]
 refine hK _ ?_; clear hK K
 refine AW.rT (by rfl) fun K hK => ?_
 simp -implicitDefEqProofs only [go_sem, ↓reduceIte, Nat.reduceAdd, Nat.reduceEqDiff]
 refine hK _ ?_; clear hK K
 refine AW.cut (fun _ : Unit => fw S [(3, .p (.int .i64 (totN S 20 : Int)))]) (fun _ => (S.msgs.take 20).all msFew = true) ?_ fun _ qA => ?_
 rotate_left
 ·skip
  try simp only [fw, cellsSc]
  refine AW.cut (fun _ : Unit => fw S [(3, .p (.int .i64 (totN S 20 : Int)))]) (fun _ => (S.enums.take 20).all enFew = true) ?_ fun _ qC => ?_
  ·refine AW.rT (by rfl) fun K hK => ?_
   simp -implicitDefEqProofs only [go_sem, Nat.reduceAdd]
   refine hK _ ?_; clear hK K
   refine AW.block ?_
   refine AW.loop (fun i : Nat => fw S [(3, .p (.int .i64 (totN S 20 : Int))), (7, .p (.int .i64 (i : Int)))]) (fun i => (i ≤ S.enums.length ∧ i ≤ 20) ∧ (S.enums.take i).all enFew = true) (fun i => 20 - i) 0 ?_ ⟨⟨by omega, by omega⟩, by simp⟩ fun i hi => ?_
   ·simp only [fw, cellsSc]
    refine Ghost.sub ?_ ?_ <;> simp -implicitDefEqProofs only [go_sem, ↓reduceIte, Nat.reduceEqDiff, List.forall_mem_cons, List.not_mem_nil, false_implies, implies_true, and_self, List.all_cons, List.all_nil, Nat.reduceLT, labsInL, AV.labsIn]
    all_goals first | rfl | decide | skip
   obtain ⟨⟨i1, i0⟩, i2⟩ := hi
   try simp only [fw, cellsSc]
   refine AW.seq ?_
   by_cases hil : i < S.enums.length ∧ i < 20
   ·have c1 : ((i : Int) < (S.enums.length : Int)) = True := eq_true (by omega)
    have c2 : ((i : Int) < 20) = True := eq_true (by omega)
    obtain ⟨m, hm⟩ : ∃ m, S.enums[i]? = some m := ⟨_, List.getElem?_eq_getElem hil.1⟩
    have ⟨hm1, hm2, hm3⟩ := at_map' encEn hm
    have hm2' : (i : Int) < (S.enums.length : Int) := by omega
    have w1 : IntKind.wrap .i64 ((i : Int) + 1) = ((i + 1 : Nat) : Int) := by rw [w64] <;> omega
    refine AW.rT (by rfl) fun K hK => ?_
    simp -implicitDefEqProofs only [go_sem, ↓reduceIte, Nat.reduceAdd, Nat.reduceEqDiff, c1, c2, List.length_map]
    refine hK _ ?_; clear hK K
    refine AW.cond _ (by simp -implicitDefEqProofs only [go_sem]; rfl) (fun hc => ?_) (fun hc => ?_)
    rotate_left
    ·simp at hc
    refine AW.skip ?_
    simp only [andThen]
    refine AW.seq ?_
    refine AW.block ?_
    refine AW.seq ?_
    by_cases a1 : m.name.length > 200
    ·have f1 : ((m.name.length : Int) > 200) = True := eq_true (by omega)
     have e := few_enum hm hil.2 (by unfold enFew; rw [decide_eq_false (by omega)]; rfl)
     refine AW.rT (by rfl) fun K hK => ?_
     simp -implicitDefEqProofs only [go_sem, ↓reduceIte, Nat.reduceAdd, Nat.reduceEqDiff, hm1, hm2', hm3, encEn, List.length_map, f1]
     refine hK _ ?_; clear hK K
     refine AW.cond _ (by simp -implicitDefEqProofs only [go_sem]; rfl) (fun hc => ?_) (fun hc => ?_)
     rotate_left
     ·simp at hc
     refine AW.rT (by rfl) fun K hK => ?_
     simp -implicitDefEqProofs only [go_sem, Nat.reduceAdd]
     refine hK _ ?_; clear hK K
     refine AW.ret ?_
     simp -implicitDefEqProofs only [go_sem, e]
    have f1 : ((m.name.length : Int) > 200) = False := eq_false (by omega)
    by_cases a2 : m.vals.length > 24
    ·have f2 : ((m.vals.length : Int) > 24) = True := eq_true (by omega)
     have e := few_enum hm hil.2 (by unfold enFew; rw [decide_eq_false (by omega)]; rfl)
     refine AW.rT (by rfl) fun K hK => ?_
     simp -implicitDefEqProofs only [go_sem, ↓reduceIte, Nat.reduceAdd, Nat.reduceEqDiff, hm1, hm2', hm3, encEn, List.length_map, f1, f2]
     refine hK _ ?_; clear hK K
     refine AW.cond _ (by simp -implicitDefEqProofs only [go_sem]; rfl) (fun hc => ?_) (fun hc => ?_)
     rotate_left
     ·simp at hc
     refine AW.rT (by rfl) fun K hK => ?_
     simp -implicitDefEqProofs only [go_sem, Nat.reduceAdd]
     refine hK _ ?_; clear hK K
     refine AW.ret ?_
     simp -implicitDefEqProofs only [go_sem, e]
    have f2 : ((m.vals.length : Int) > 24) = False := eq_false (by omega)
    refine AW.rT (by rfl) fun K hK => ?_
    simp -implicitDefEqProofs only [go_sem, ↓reduceIte, Nat.reduceAdd, Nat.reduceEqDiff, hm1, hm2', hm3, encEn, List.length_map, f1, f2]
    refine hK _ ?_; clear hK K
    refine AW.cond _ (by simp -implicitDefEqProofs only [go_sem]; rfl) (fun hc => ?_) (fun hc => ?_)
    ·simp at hc
    refine AW.skip ?_
    simp only [andThen]
    refine AW.rT (by rfl) fun K hK => ?_
    simp -implicitDefEqProofs only [go_sem, Nat.reduceAdd]
    refine hK _ ?_; clear hK K
    refine AW.block ?_
    refine AW.loop (fun j : Nat => fw S [(3, .p (.int .i64 (totN S 20 : Int))), (7, .p (.int .i64 (i : Int))), (8, .p (.int .i64 (j : Int)))]) (fun j => j ≤ m.vals.length ∧ (m.vals.take j).all nmFew = true) (fun j => m.vals.length - j) 0 ?_ ⟨by omega, by simp⟩ fun j hj => ?_
    ·simp only [fw, cellsSc]
     refine Ghost.sub ?_ ?_ <;> simp -implicitDefEqProofs only [go_sem, ↓reduceIte, Nat.reduceEqDiff, List.forall_mem_cons, List.not_mem_nil, false_implies, implies_true, and_self, List.all_cons, List.all_nil, Nat.reduceLT, labsInL, AV.labsIn]
     all_goals first | rfl | decide | skip
    obtain ⟨j1, j2⟩ := hj
    try simp only [fw, cellsSc]
    refine AW.seq ?_
    by_cases hjl : j < m.vals.length
    case neg =>
     have c3 : ((j : Int) < (m.vals.length : Int)) = False := eq_false (by omega)
     rw [List.take_of_length_le (by omega)] at j2
     have hmf : enFew m = true := by unfold enFew; rw [decide_eq_true (by omega), j2]; rfl
     refine AW.rT (by rfl) fun K hK => ?_
     simp -implicitDefEqProofs only [go_sem, ↓reduceIte, Nat.reduceAdd, Nat.reduceEqDiff, hm1, hm2', hm3, encEn, List.length_map, c3]
     refine hK _ ?_; clear hK K
     refine AW.cond _ (by simp -implicitDefEqProofs only [go_sem]; rfl) (fun hc => ?_) (fun hc => ?_)
     ·simp at hc
     refine AW.exit ?_
     simp only [andThen, inBlk, ↓reduceIte]
     refine AW.rE (by rfl) fun K hK => ?_
     simp -implicitDefEqProofs only [go_sem, ↓reduceIte, Nat.reduceAdd, Nat.reduceEqDiff, w1]
     refine hK _ ?_; clear hK K
     refine ⟨i + 1, ⟨⟨by omega, by omega⟩, all_next hm i2 hmf⟩, by omega, ?_⟩
     try simp only [fw, cellsSc]
     refine Ghost.sub ?_ ?_ <;> simp -implicitDefEqProofs only [go_sem, ↓reduceIte, Nat.reduceEqDiff, List.forall_mem_cons, List.not_mem_nil, false_implies, implies_true, and_self, List.all_cons, List.all_nil, Nat.reduceLT, labsInL, AV.labsIn]
    obtain ⟨f, hf⟩ : ∃ f, m.vals[j]? = some f := ⟨_, List.getElem?_eq_getElem hjl⟩
    have ⟨hf1, hf2, hf3⟩ := at_map' encNm hf
    have hf2' : (j : Int) < (m.vals.length : Int) := by omega
    have c3 : ((j : Int) < (m.vals.length : Int)) = True := eq_true (by omega)
    have w3 : IntKind.wrap .i64 ((j : Int) + 1) = ((j + 1 : Nat) : Int) := by rw [w64] <;> omega
    refine AW.rT (by rfl) fun K hK => ?_
    simp -implicitDefEqProofs only [go_sem, ↓reduceIte, Nat.reduceAdd, Nat.reduceEqDiff, hm1, hm2', hm3, encEn, List.length_map, c3]
    refine hK _ ?_; clear hK K
    refine AW.cond _ (by simp -implicitDefEqProofs only [go_sem]; rfl) (fun hc => ?_) (fun hc => ?_)
    rotate_left
    ·simp at hc
    refine AW.skip ?_
    simp only [andThen]
    refine AW.seq ?_
    refine AW.block ?_
    by_cases b1 : f.name.length > 200
    ·have f1 : ((f.name.length : Int) > 200) = True := eq_true (by omega)
     have e := few_enum hm hil.2 (by unfold enFew; rw [all_not hf (show nmFew f = false from decide_eq_false (by omega))]; simp)
     refine AW.rT (by rfl) fun K hK => ?_
     simp -implicitDefEqProofs only [go_sem, ↓reduceIte, Nat.reduceAdd, Nat.reduceEqDiff, hm1, hm2', hm3, encEn, List.length_map, hf1, hf2', hf3, encNm, f1]
     refine hK _ ?_; clear hK K
     refine AW.cond _ (by simp -implicitDefEqProofs only [go_sem]; rfl) (fun hc => ?_) (fun hc => ?_)
     rotate_left
     ·simp at hc
     refine AW.rT (by rfl) fun K hK => ?_
     simp -implicitDefEqProofs only [go_sem, Nat.reduceAdd]
     refine hK _ ?_; clear hK K
     refine AW.ret ?_
     simp -implicitDefEqProofs only [go_sem, e]
    have f1 : ((f.name.length : Int) > 200) = False := eq_false (by omega)
    refine AW.rT (by rfl) fun K hK => ?_
    simp -implicitDefEqProofs only [go_sem, ↓reduceIte, Nat.reduceAdd, Nat.reduceEqDiff, hm1, hm2', hm3, encEn, List.length_map, hf1, hf2', hf3, encNm, f1]
    refine hK _ ?_; clear hK K
    refine AW.cond _ (by simp -implicitDefEqProofs only [go_sem]; rfl) (fun hc => ?_) (fun hc => ?_)
    ·simp at hc
    refine AW.skip ?_
    simp only [andThen, inBlk]
    refine AW.rE (by rfl) fun K hK => ?_
    simp -implicitDefEqProofs only [go_sem, ↓reduceIte, Nat.reduceAdd, Nat.reduceEqDiff, w3]
    refine hK _ ?_; clear hK K
    refine ⟨j + 1, ⟨by omega, all_next hf j2 (decide_eq_true (by omega))⟩, by omega, ?_⟩
    refine Ghost.sub ?_ ?_ <;> simp -implicitDefEqProofs only [go_sem, ↓reduceIte, Nat.reduceEqDiff, List.forall_mem_cons, List.not_mem_nil, false_implies, implies_true, and_self, List.all_cons, List.all_nil, Nat.reduceLT, labsInL, AV.labsIn]
   have ea := take_end i1 i0 hil
   rw [ea] at i2
   by_cases hil' : i < S.enums.length
   ·have c1 : ((i : Int) < (S.enums.length : Int)) = True := eq_true (by omega)
    have c2 : ((i : Int) < 20) = False := eq_false (by omega)
    refine AW.rT (by rfl) fun K hK => ?_
    simp -implicitDefEqProofs only [go_sem, ↓reduceIte, Nat.reduceAdd, Nat.reduceEqDiff, c1, c2, List.length_map]
    refine hK _ ?_; clear hK K
    refine AW.cond _ (by simp -implicitDefEqProofs only [go_sem]; rfl) (fun hc => ?_) (fun hc => ?_)
    ·simp at hc
    refine AW.exit ?_
    simp only [andThen, inBlk, ↓reduceIte]
    refine ⟨(), i2, ?_⟩
    try simp only [fw, cellsSc]
    refine Ghost.sub ?_ ?_ <;> simp -implicitDefEqProofs only [go_sem, ↓reduceIte, Nat.reduceEqDiff, List.forall_mem_cons, List.not_mem_nil, false_implies, implies_true, and_self, List.all_cons, List.all_nil, Nat.reduceLT, labsInL, AV.labsIn]
   ·have c1 : ((i : Int) < (S.enums.length : Int)) = False := eq_false (by omega)
    refine AW.rT (by rfl) fun K hK => ?_
    simp -implicitDefEqProofs only [go_sem, ↓reduceIte, Nat.reduceAdd, Nat.reduceEqDiff, c1, List.length_map]
    refine hK _ ?_; clear hK K
    refine AW.cond _ (by simp -implicitDefEqProofs only [go_sem]; rfl) (fun hc => ?_) (fun hc => ?_)
    ·simp at hc
    refine AW.exit ?_
    simp only [andThen, inBlk, ↓reduceIte]
    refine ⟨(), i2, ?_⟩
    try simp only [fw, cellsSc]
    refine Ghost.sub ?_ ?_ <;> simp -implicitDefEqProofs only [go_sem, ↓reduceIte, Nat.reduceEqDiff, List.forall_mem_cons, List.not_mem_nil, false_implies, implies_true, and_self, List.all_cons, List.all_nil, Nat.reduceLT, labsInL, AV.labsIn]
  try simp only [fw, cellsSc]
  refine AW.cut (fun _ : Unit => fw S [(3, .p (.int .i64 (totN S 20 : Int)))]) (fun _ => (S.meths.take 20).all mtFew = true) ?_ fun _ qE => ?_
  ·refine AW.rT (by rfl) fun K hK => ?_
   simp -implicitDefEqProofs only [go_sem, Nat.reduceAdd]
   refine hK _ ?_; clear hK K
   refine AW.block ?_
   refine AW.loop (fun i : Nat => fw S [(3, .p (.int .i64 (totN S 20 : Int))), (9, .p (.int .i64 (i : Int)))]) (fun i => (i ≤ S.meths.length ∧ i ≤ 20) ∧ (S.meths.take i).all mtFew = true) (fun i => 20 - i) 0 ?_ ⟨⟨by omega, by omega⟩, by simp⟩ fun i hi => ?_
   ·simp only [fw, cellsSc]
    refine Ghost.sub ?_ ?_ <;> simp -implicitDefEqProofs only [go_sem, ↓reduceIte, Nat.reduceEqDiff, List.forall_mem_cons, List.not_mem_nil, false_implies, implies_true, and_self, List.all_cons, List.all_nil, Nat.reduceLT, labsInL, AV.labsIn]
    all_goals first | rfl | decide | skip
   obtain ⟨⟨i1, i0⟩, i2⟩ := hi
   try simp only [fw, cellsSc]
   refine AW.seq ?_
   by_cases hil : i < S.meths.length ∧ i < 20
   ·have c1 : ((i : Int) < (S.meths.length : Int)) = True := eq_true (by omega)
    have c2 : ((i : Int) < 20) = True := eq_true (by omega)
    obtain ⟨m, hm⟩ : ∃ m, S.meths[i]? = some m := ⟨_, List.getElem?_eq_getElem hil.1⟩
    have ⟨hm1, hm2, hm3⟩ := at_map' encMt hm
    have hm2' : (i : Int) < (S.meths.length : Int) := by omega
    have w1 : IntKind.wrap .i64 ((i : Int) + 1) = ((i + 1 : Nat) : Int) := by rw [w64] <;> omega
    refine AW.rT (by rfl) fun K hK => ?_
    simp -implicitDefEqProofs only [go_sem, ↓reduceIte, Nat.reduceAdd, Nat.reduceEqDiff, c1, c2, List.length_map]
    refine hK _ ?_; clear hK K
    refine AW.cond _ (by simp -implicitDefEqProofs only [go_sem]; rfl) (fun hc => ?_) (fun hc => ?_)
    rotate_left
    ·simp at hc
    refine AW.skip ?_
    simp only [andThen]
    refine AW.seq ?_
    refine AW.block ?_
    by_cases a1 : m.name.length > 200
    ·have f1 : ((m.name.length : Int) > 200) = True := eq_true (by omega)
     have e := few_meth hm hil.2 (decide_eq_false (by omega))
     refine AW.rT (by rfl) fun K hK => ?_
     simp -implicitDefEqProofs only [go_sem, ↓reduceIte, Nat.reduceAdd, Nat.reduceEqDiff, hm1, hm2', hm3, encMt, List.length_map, f1]
     refine hK _ ?_; clear hK K
     refine AW.cond _ (by simp -implicitDefEqProofs only [go_sem]; rfl) (fun hc => ?_) (fun hc => ?_)
     rotate_left
     ·simp at hc
     refine AW.rT (by rfl) fun K hK => ?_
     simp -implicitDefEqProofs only [go_sem, Nat.reduceAdd]
     refine hK _ ?_; clear hK K
     refine AW.ret ?_
     simp -implicitDefEqProofs only [go_sem, e]
    have f1 : ((m.name.length : Int) > 200) = False := eq_false (by omega)
    by_cases a2 : m.inn.length > 200
    ·have f2 : ((m.inn.length : Int) > 200) = True := eq_true (by omega)
     have e := few_meth hm hil.2 (decide_eq_false (by omega))
     refine AW.rT (by rfl) fun K hK => ?_
     simp -implicitDefEqProofs only [go_sem, ↓reduceIte, Nat.reduceAdd, Nat.reduceEqDiff, hm1, hm2', hm3, encMt, List.length_map, f1, f2]
     refine hK _ ?_; clear hK K
     refine AW.cond _ (by simp -implicitDefEqProofs only [go_sem]; rfl) (fun hc => ?_) (fun hc => ?_)
     rotate_left
     ·simp at hc
     refine AW.rT (by rfl) fun K hK => ?_
     simp -implicitDefEqProofs only [go_sem, Nat.reduceAdd]
     refine hK _ ?_; clear hK K
     refine AW.ret ?_
     simp -implicitDefEqProofs only [go_sem, e]
    have f2 : ((m.inn.length : Int) > 200) = False := eq_false (by omega)
    by_cases a3 : m.out.length > 200
    ·have f3 : ((m.out.length : Int) > 200) = True := eq_true (by omega)
     have e := few_meth hm hil.2 (decide_eq_false (by omega))
     refine AW.rT (by rfl) fun K hK => ?_
     simp -implicitDefEqProofs only [go_sem, ↓reduceIte, Nat.reduceAdd, Nat.reduceEqDiff, hm1, hm2', hm3, encMt, List.length_map, f1, f2, f3]
     refine hK _ ?_; clear hK K
     refine AW.cond _ (by simp -implicitDefEqProofs only [go_sem]; rfl) (fun hc => ?_) (fun hc => ?_)
     rotate_left
     ·simp at hc
     refine AW.rT (by rfl) fun K hK => ?_
     simp -implicitDefEqProofs only [go_sem, Nat.reduceAdd]
     refine hK _ ?_; clear hK K
     refine AW.ret ?_
     simp -implicitDefEqProofs only [go_sem, e]
    have f3 : ((m.out.length : Int) > 200) = False := eq_false (by omega)
    refine AW.rT (by rfl) fun K hK => ?_
    simp -implicitDefEqProofs only [go_sem, ↓reduceIte, Nat.reduceAdd, Nat.reduceEqDiff, hm1, hm2', hm3, encMt, List.length_map, f1, f2, f3]
    refine hK _ ?_; clear hK K
    refine AW.cond _ (by simp -implicitDefEqProofs only [go_sem]; rfl) (fun hc => ?_) (fun hc => ?_)
    ·simp at hc
    refine AW.skip ?_
    simp only [andThen, inBlk]
    refine AW.rE (by rfl) fun K hK => ?_
    simp -implicitDefEqProofs only [go_sem, ↓reduceIte, Nat.reduceAdd, Nat.reduceEqDiff, w1]
    refine hK _ ?_; clear hK K
    refine ⟨i + 1, ⟨⟨by omega, by omega⟩, all_next hm i2 (decide_eq_true (by omega))⟩, by omega, ?_⟩
    try simp only [fw, cellsSc]
    refine Ghost.sub ?_ ?_ <;> simp -implicitDefEqProofs only [go_sem, ↓reduceIte, Nat.reduceEqDiff, List.forall_mem_cons, List.not_mem_nil, false_implies, implies_true, and_self, List.all_cons, List.all_nil, Nat.reduceLT, labsInL, AV.labsIn]
   have ea := take_end i1 i0 hil
   rw [ea] at i2
   by_cases hil' : i < S.meths.length
   ·have c1 : ((i : Int) < (S.meths.length : Int)) = True := eq_true (by omega)
    have c2 : ((i : Int) < 20) = False := eq_false (by omega)
    refine AW.rT (by rfl) fun K hK => ?_
    simp -implicitDefEqProofs only [go_sem, ↓reduceIte, Nat.reduceAdd, Nat.reduceEqDiff, c1, c2, List.length_map]
    refine hK _ ?_; clear hK K
    refine AW.cond _ (by simp -implicitDefEqProofs only [go_sem]; rfl) (fun hc => ?_) (fun hc => ?_)
    ·simp at hc
    refine AW.exit ?_
    simp only [andThen, inBlk, ↓reduceIte]
    refine ⟨(), i2, ?_⟩
    try simp only [fw, cellsSc]
    refine Ghost.sub ?_ ?_ <;> simp -implicitDefEqProofs only [go_sem, ↓reduceIte, Nat.reduceEqDiff, List.forall_mem_cons, List.not_mem_nil, false_implies, implies_true, and_self, List.all_cons, List.all_nil, Nat.reduceLT, labsInL, AV.labsIn]
   ·have c1 : ((i : Int) < (S.meths.length : Int)) = False := eq_false (by omega)
    refine AW.rT (by rfl) fun K hK => ?_
    simp -implicitDefEqProofs only [go_sem, ↓reduceIte, Nat.reduceAdd, Nat.reduceEqDiff, c1, List.length_map]
    refine hK _ ?_; clear hK K
    refine AW.cond _ (by simp -implicitDefEqProofs only [go_sem]; rfl) (fun hc => ?_) (fun hc => ?_)
    ·simp at hc
    refine AW.exit ?_
    simp only [andThen, inBlk, ↓reduceIte]
    refine ⟨(), i2, ?_⟩
    try simp only [fw, cellsSc]
    refine Ghost.sub ?_ ?_ <;> simp -implicitDefEqProofs only [go_sem, ↓reduceIte, Nat.reduceEqDiff, List.forall_mem_cons, List.not_mem_nil, false_implies, implies_true, and_self, List.all_cons, List.all_nil, Nat.reduceLT, labsInL, AV.labsIn]
  try simp only [fw, cellsSc]
  have eF : fewB S = decide (totN S 20 < 3000 ∧ S.msgs.length ≤ 14 ∧ S.enums.length ≤ 10 ∧ S.meths.length ≤ 10) := by
   unfold fewB; rw [qA, qC, qE]; simp only [Bool.true_and]
  by_cases a0 : totN S 20 < 3000
  case neg =>
   have f0 : ((totN S 20 : Int) < 3000) = False := eq_false (by omega)
   rw [decide_eq_false (by omega)] at eF
   refine AW.rT (by rfl) fun K hK => ?_
   simp -implicitDefEqProofs only [go_sem, ↓reduceIte, Nat.reduceAdd, Nat.reduceEqDiff, f0]
   refine hK _ ?_; clear hK K
   refine AW.ret ?_
   simp -implicitDefEqProofs only [go_sem, eF]
  have f0 : ((totN S 20 : Int) < 3000) = True := eq_true (by omega)
  by_cases a1 : S.msgs.length ≤ 14
  case neg =>
   have f1 : ((S.msgs.length : Int) ≤ 14) = False := eq_false (by omega)
   rw [decide_eq_false (by omega)] at eF
   refine AW.rT (by rfl) fun K hK => ?_
   simp -implicitDefEqProofs only [go_sem, ↓reduceIte, Nat.reduceAdd, Nat.reduceEqDiff, f0, f1, List.length_map]
   refine hK _ ?_; clear hK K
   refine AW.ret ?_
   simp -implicitDefEqProofs only [go_sem, eF]
  have f1 : ((S.msgs.length : Int) ≤ 14) = True := eq_true (by omega)
  by_cases a2 : S.enums.length ≤ 10
  case neg =>
   have f2 : ((S.enums.length : Int) ≤ 10) = False := eq_false (by omega)
   rw [decide_eq_false (by omega)] at eF
   refine AW.rT (by rfl) fun K hK => ?_
   simp -implicitDefEqProofs only [go_sem, ↓reduceIte, Nat.reduceAdd, Nat.reduceEqDiff, f0, f1, f2, List.length_map]
   refine hK _ ?_; clear hK K
   refine AW.ret ?_
   simp -implicitDefEqProofs only [go_sem, eF]
  have f2 : ((S.enums.length : Int) ≤ 10) = True := eq_true (by omega)
  by_cases a3 : S.meths.length ≤ 10
  case neg =>
   have f3 : ((S.meths.length : Int) ≤ 10) = False := eq_false (by omega)
   rw [decide_eq_false (by omega)] at eF
   refine AW.rT (by rfl) fun K hK => ?_
   simp -implicitDefEqProofs only [go_sem, ↓reduceIte, Nat.reduceAdd, Nat.reduceEqDiff, f0, f1, f2, f3, List.length_map]
   refine hK _ ?_; clear hK K
   refine AW.ret ?_
   simp -implicitDefEqProofs only [go_sem, eF]
  have f3 : ((S.meths.length : Int) ≤ 10) = True := eq_true (by omega)
  rw [decide_eq_true (by omega)] at eF
  refine AW.rT (by rfl) fun K hK => ?_
  simp -implicitDefEqProofs only [go_sem, ↓reduceIte, Nat.reduceAdd, Nat.reduceEqDiff, f0, f1, f2, f3, List.length_map]
  refine hK _ ?_; clear hK K
  refine AW.ret ?_
  simp -implicitDefEqProofs only [go_sem, eF]
 refine AW.rT (by rfl) fun K hK => ?_
 simp -implicitDefEqProofs only [go_sem, Nat.reduceAdd]
 refine hK _ ?_; clear hK K
 refine AW.block ?_
 refine AW.loop (fun i : Nat => fw S [(3, .p (.int .i64 (totN S i : Int))), (4, .p (.int .i64 (i : Int)))]) (fun i => (i ≤ S.msgs.length ∧ i ≤ 20) ∧ (S.msgs.take i).all msFew = true) (fun i => 20 - i) 0 ?_ ⟨⟨by omega, by omega⟩, by simp⟩ fun i hi => ?_
 ·simp only [fw, cellsSc]
  refine Ghost.sub ?_ ?_ <;> simp -implicitDefEqProofs only [go_sem, ↓reduceIte, Nat.reduceEqDiff, totN, List.take_zero, List.map_nil, List.sum_nil, List.forall_mem_cons, List.not_mem_nil, false_implies, implies_true, and_self, List.all_cons, List.all_nil, Nat.reduceLT, labsInL, AV.labsIn]
  all_goals first | rfl | decide | skip
 obtain ⟨⟨i1, i0⟩, i2⟩ := hi
 have ht := tot_le B i0
 try simp only [fw, cellsSc]
 refine AW.seq ?_
 by_cases hil : i < S.msgs.length ∧ i < 20
 ·have c1 : ((i : Int) < (S.msgs.length : Int)) = True := eq_true (by omega)
  have c2 : ((i : Int) < 20) = True := eq_true (by omega)
  obtain ⟨m, hm⟩ : ∃ m, S.msgs[i]? = some m := ⟨_, List.getElem?_eq_getElem hil.1⟩
  have ⟨hm1, hm2, hm3⟩ := at_map' encMs hm
  have hm2' : (i : Int) < (S.msgs.length : Int) := by omega
  have w1 : IntKind.wrap .i64 ((i : Int) + 1) = ((i + 1 : Nat) : Int) := by rw [w64] <;> omega
  have hbm : m.name.length ≤ reachBytes := B.2 m (List.mem_of_getElem? hm)
  have eb : reachBytes = 140737488351232 := by decide
  have hnt := tot_next hm
  have w2 : IntKind.wrap .i64 ((totN S i : Int) + (m.name.length : Int)) = (totN S (i + 1) : Int) := by rw [w64] <;> omega
  refine AW.rT (by rfl) fun K hK => ?_
  simp -implicitDefEqProofs only [go_sem, ↓reduceIte, Nat.reduceAdd, Nat.reduceEqDiff, c1, c2, List.length_map]
  refine hK _ ?_; clear hK K
  refine AW.cond _ (by simp -implicitDefEqProofs only [go_sem]; rfl) (fun hc => ?_) (fun hc => ?_)
  rotate_left
  ·simp at hc
  refine AW.skip ?_
  simp only [andThen]
  refine AW.seq ?_
  refine AW.block ?_
  refine AW.rT (by rfl) fun K hK => ?_
  simp -implicitDefEqProofs only [go_sem, ↓reduceIte, Nat.reduceAdd, Nat.reduceEqDiff, c1, List.length_map, hm1, hm3, encMs, w2]
  refine hK _ ?_; clear hK K
  refine AW.seq ?_
  by_cases a1 : m.fields.length > 20
  ·have f1 : ((m.fields.length : Int) > 20) = True := eq_true (by omega)
   have e := few_msg hm hil.2 (by unfold msFew; rw [decide_eq_false (by omega)]; rfl)
   refine AW.rT (by rfl) fun K hK => ?_
   simp -implicitDefEqProofs only [go_sem, ↓reduceIte, Nat.reduceAdd, Nat.reduceEqDiff, hm1, hm2', hm3, encMs, List.length_map, f1]
   refine hK _ ?_; clear hK K
   refine AW.cond _ (by simp -implicitDefEqProofs only [go_sem]; rfl) (fun hc => ?_) (fun hc => ?_)
   rotate_left
   ·simp at hc
   refine AW.rT (by rfl) fun K hK => ?_
   simp -implicitDefEqProofs only [go_sem, Nat.reduceAdd]
   refine hK _ ?_; clear hK K
   refine AW.ret ?_
   simp -implicitDefEqProofs only [go_sem, e]
  have f1 : ((m.fields.length : Int) > 20) = False := eq_false (by omega)
  by_cases a2 : m.res.length > 40
  ·have f2 : ((m.res.length : Int) > 40) = True := eq_true (by omega)
   have e := few_msg hm hil.2 (by unfold msFew; rw [decide_eq_false (by omega)]; rfl)
   refine AW.rT (by rfl) fun K hK => ?_
   simp -implicitDefEqProofs only [go_sem, ↓reduceIte, Nat.reduceAdd, Nat.reduceEqDiff, hm1, hm2', hm3, encMs, List.length_map, f1, f2]
   refine hK _ ?_; clear hK K
   refine AW.cond _ (by simp -implicitDefEqProofs only [go_sem]; rfl) (fun hc => ?_) (fun hc => ?_)
   rotate_left
   ·simp at hc
   refine AW.rT (by rfl) fun K hK => ?_
   simp -implicitDefEqProofs only [go_sem, Nat.reduceAdd]
   refine hK _ ?_; clear hK K
   refine AW.ret ?_
   simp -implicitDefEqProofs only [go_sem, e]
  have f2 : ((m.res.length : Int) > 40) = False := eq_false (by omega)
  refine AW.rT (by rfl) fun K hK => ?_
  simp -implicitDefEqProofs only [go_sem, ↓reduceIte, Nat.reduceAdd, Nat.reduceEqDiff, hm1, hm2', hm3, encMs, List.length_map, f1, f2]
  refine hK _ ?_; clear hK K
  refine AW.cond _ (by simp -implicitDefEqProofs only [go_sem]; rfl) (fun hc => ?_) (fun hc => ?_)
  ·simp at hc
  refine AW.skip ?_
  simp only [andThen]
  refine AW.rT (by rfl) fun K hK => ?_
  simp -implicitDefEqProofs only [go_sem, Nat.reduceAdd]
  refine hK _ ?_; clear hK K
  refine AW.block ?_
  refine AW.loop (fun j : Nat => fw S [(3, .p (.int .i64 (totN S (i + 1) : Int))), (4, .p (.int .i64 (i : Int))), (5, .p (.int .i64 (j : Int)))]) (fun j => j ≤ m.fields.length ∧ (m.fields.take j).all fdFew = true) (fun j => m.fields.length - j) 0 ?_ ⟨by omega, by simp⟩ fun j hj => ?_
  ·simp only [fw, cellsSc]
   refine Ghost.sub ?_ ?_ <;> simp -implicitDefEqProofs only [go_sem, ↓reduceIte, Nat.reduceEqDiff, List.forall_mem_cons, List.not_mem_nil, false_implies, implies_true, and_self, List.all_cons, List.all_nil, Nat.reduceLT, labsInL, AV.labsIn]
   all_goals first | rfl | decide | skip
  obtain ⟨j1, j2⟩ := hj
  try simp only [fw, cellsSc]
  refine AW.seq ?_
  by_cases hjl : j < m.fields.length
  case neg =>
   have c3 : ((j : Int) < (m.fields.length : Int)) = False := eq_false (by omega)
   rw [List.take_of_length_le (by omega)] at j2
   have hmf : msFew m = true := by unfold msFew; rw [decide_eq_true (by omega), j2]; rfl
   refine AW.rT (by rfl) fun K hK => ?_
   simp -implicitDefEqProofs only [go_sem, ↓reduceIte, Nat.reduceAdd, Nat.reduceEqDiff, hm1, hm2', hm3, encMs, List.length_map, c3]
   refine hK _ ?_; clear hK K
   refine AW.cond _ (by simp -implicitDefEqProofs only [go_sem]; rfl) (fun hc => ?_) (fun hc => ?_)
   ·simp at hc
   refine AW.exit ?_
   simp only [andThen, inBlk, ↓reduceIte]
   refine AW.rE (by rfl) fun K hK => ?_
   simp -implicitDefEqProofs only [go_sem, ↓reduceIte, Nat.reduceAdd, Nat.reduceEqDiff, w1]
   refine hK _ ?_; clear hK K
   refine ⟨i + 1, ⟨⟨by omega, by omega⟩, all_next hm i2 hmf⟩, by omega, ?_⟩
   try simp only [fw, cellsSc]
   refine Ghost.sub ?_ ?_ <;> simp -implicitDefEqProofs only [go_sem, ↓reduceIte, Nat.reduceEqDiff, List.forall_mem_cons, List.not_mem_nil, false_implies, implies_true, and_self, List.all_cons, List.all_nil, Nat.reduceLT, labsInL, AV.labsIn]
  obtain ⟨f, hf⟩ : ∃ f, m.fields[j]? = some f := ⟨_, List.getElem?_eq_getElem hjl⟩
  have ⟨hf1, hf2, hf3⟩ := at_map' encFd hf
  have hf2' : (j : Int) < (m.fields.length : Int) := by omega
  have c3 : ((j : Int) < (m.fields.length : Int)) = True := eq_true (by omega)
  have w3 : IntKind.wrap .i64 ((j : Int) + 1) = ((j + 1 : Nat) : Int) := by rw [w64] <;> omega
  refine AW.rT (by rfl) fun K hK => ?_
  simp -implicitDefEqProofs only [go_sem, ↓reduceIte, Nat.reduceAdd, Nat.reduceEqDiff, hm1, hm2', hm3, encMs, List.length_map, c3]
  refine hK _ ?_; clear hK K
  refine AW.cond _ (by simp -implicitDefEqProofs only [go_sem]; rfl) (fun hc => ?_) (fun hc => ?_)
  rotate_left
  ·simp at hc
  refine AW.skip ?_
  simp only [andThen]
  refine AW.seq ?_
  refine AW.block ?_
  refine AW.rT (by rfl) fun K hK => ?_
  simp -implicitDefEqProofs only [go_sem, ↓reduceIte, Nat.reduceAdd, Nat.reduceEqDiff, Nat.reduceLeDiff, hm1, hm2', hm3, encMs, List.length_map, hf1, hf2', hf3, encFd]
  refine hK _ ?_; clear hK K
  have bad : fdFew f = false → fewB S = false := fun h => few_msg hm hil.2 (by unfold msFew; rw [all_not hf h]; simp)
  by_cases b1 : f.name.length > 200
  ·have f1 : ((f.name.length : Int) > 200) = True := eq_true (by omega)
   have e := bad (decide_eq_false (by omega))
   refine AW.rT (by rfl) fun K hK => ?_
   simp -implicitDefEqProofs only [go_sem, ↓reduceIte, Nat.reduceAdd, Nat.reduceEqDiff, f1]
   refine hK _ ?_; clear hK K
   refine AW.cond _ (by simp -implicitDefEqProofs only [go_sem]; rfl) (fun hc => ?_) (fun hc => ?_)
   rotate_left
   ·simp at hc
   refine AW.rT (by rfl) fun K hK => ?_
   simp -implicitDefEqProofs only [go_sem, Nat.reduceAdd]
   refine hK _ ?_; clear hK K
   refine AW.ret ?_
   simp -implicitDefEqProofs only [go_sem, e]
  have f1 : ((f.name.length : Int) > 200) = False := eq_false (by omega)
  by_cases b2 : f.ty.name.length > 200
  ·have f2 : ((f.ty.name.length : Int) > 200) = True := eq_true (by omega)
   have e := bad (decide_eq_false (by omega))
   refine AW.rT (by rfl) fun K hK => ?_
   simp -implicitDefEqProofs only [go_sem, ↓reduceIte, Nat.reduceAdd, Nat.reduceEqDiff, f1, f2]
   refine hK _ ?_; clear hK K
   refine AW.cond _ (by simp -implicitDefEqProofs only [go_sem]; rfl) (fun hc => ?_) (fun hc => ?_)
   rotate_left
   ·simp at hc
   refine AW.rT (by rfl) fun K hK => ?_
   simp -implicitDefEqProofs only [go_sem, Nat.reduceAdd]
   refine hK _ ?_; clear hK K
   refine AW.ret ?_
   simp -implicitDefEqProofs only [go_sem, e]
  have f2 : ((f.ty.name.length : Int) > 200) = False := eq_false (by omega)
  refine AW.rT (by rfl) fun K hK => ?_
  simp -implicitDefEqProofs only [go_sem, ↓reduceIte, Nat.reduceAdd, Nat.reduceEqDiff, f1, f2]
  refine hK _ ?_; clear hK K
  refine AW.cond _ (by simp -implicitDefEqProofs only [go_sem]; rfl) (fun hc => ?_) (fun hc => ?_)
  ·simp at hc
  refine AW.skip ?_
  simp only [andThen, inBlk]
  refine AW.rE (by rfl) fun K hK => ?_
  simp -implicitDefEqProofs only [go_sem, ↓reduceIte, Nat.reduceAdd, Nat.reduceEqDiff, w3]
  refine hK _ ?_; clear hK K
  refine ⟨j + 1, ⟨by omega, all_next hf j2 (decide_eq_true (by omega))⟩, by omega, ?_⟩
  refine Ghost.sub ?_ ?_ <;> simp -implicitDefEqProofs only [go_sem, ↓reduceIte, Nat.reduceEqDiff, reduceCtorEq, List.forall_mem_cons, List.not_mem_nil, false_implies, implies_true, and_self, List.all_cons, List.all_nil, Nat.reduceLT, labsInL, AV.labsIn]
 have ea := take_end i1 i0 hil
 have et : totN S i = totN S 20 := by unfold totN; rw [ea]
 rw [ea] at i2
 by_cases hil' : i < S.msgs.length
 ·have c1 : ((i : Int) < (S.msgs.length : Int)) = True := eq_true (by omega)
  have c2 : ((i : Int) < 20) = False := eq_false (by omega)
  refine AW.rT (by rfl) fun K hK => ?_
  simp -implicitDefEqProofs only [go_sem, ↓reduceIte, Nat.reduceAdd, Nat.reduceEqDiff, c1, c2, List.length_map]
  refine hK _ ?_; clear hK K
  refine AW.cond _ (by simp -implicitDefEqProofs only [go_sem]; rfl) (fun hc => ?_) (fun hc => ?_)
  ·simp at hc
  refine AW.exit ?_
  simp only [andThen, inBlk, ↓reduceIte]
  refine ⟨(), i2, ?_⟩
  try simp only [fw, cellsSc]
  refine Ghost.sub ?_ ?_ <;> simp -implicitDefEqProofs only [go_sem, ↓reduceIte, Nat.reduceEqDiff, et, List.forall_mem_cons, List.not_mem_nil, false_implies, implies_true, and_self, List.all_cons, List.all_nil, Nat.reduceLT, labsInL, AV.labsIn]
 ·have c1 : ((i : Int) < (S.msgs.length : Int)) = False := eq_false (by omega)
  refine AW.rT (by rfl) fun K hK => ?_
  simp -implicitDefEqProofs only [go_sem, ↓reduceIte, Nat.reduceAdd, Nat.reduceEqDiff, c1, List.length_map]
  refine hK _ ?_; clear hK K
  refine AW.cond _ (by simp -implicitDefEqProofs only [go_sem]; rfl) (fun hc => ?_) (fun hc => ?_)
  ·simp at hc
  refine AW.exit ?_
  simp only [andThen, inBlk, ↓reduceIte]
  refine ⟨(), i2, ?_⟩
  try simp only [fw, cellsSc]
  refine Ghost.sub ?_ ?_ <;> simp -implicitDefEqProofs only [go_sem, ↓reduceIte, Nat.reduceEqDiff, et, List.forall_mem_cons, List.not_mem_nil, false_implies, implies_true, and_self, List.all_cons, List.all_nil, Nat.reduceLT, labsInL, AV.labsIn]
end Go.Aw
namespace Go.Aw
set_option linter.unusedSimpArgs false
set_option linter.unusedVariables false
theorem Ghost.nilH {nt : Fm} {s : St} {l i j sz sz' : Nat} {es : List (List AV)} {e : List AV} (hl : s.H l = some (.row sz es)) (hi : es[i]? = some e) (hj : e[j]? = some (.ex [])) :
  Ghost nt s ⟨s.T, upd (upd s.H l (some (.row sz (es.set i (e.set j (.own s.nx)))))) s.nx (some (.row sz' [])), s.nx + 1⟩ := by
 rintro w0 X I0 a w ⟨σ, I, hσ, m⟩
 have hb := m.heap.rows l _ hl
 cases hb with
 | emp h => simp at hi
 | row h hg hcur hc hs ho hr =>
  rename_i g c cur et
  obtain ⟨u, hu, hru⟩ := hr i e j _ hi hj
  have hnx := hσ s.nx (Nat.le_refl _)
  have hln : l ≠ s.nx := by rintro rfl; rw [hnx] at h; cases h
  cases hru with
  | ex he hrep =>
   rename_i ad n
   subst he
   have ext : ∀ l' s', σ l' = some s' → upd σ s.nx (some (.emp ad)) l' = some s' := fun l' s' h' => by
    rw [upd_ne _ _ (by rintro rfl; rw [hnx] at h'; cases h')]
    exact h'
   have H2 := m.heap.empty hnx ad sz'
   refine ⟨upd σ s.nx (some (.emp ad)), I, fun l' h' => ?_, m.defers, m.size, m.pins, ⟨fun l' b' h' => ?_, fun l1 l2 g s1 s2 h1 h2 => ?_, fun l' g s' h1 => ?_, H2.imm, H2.sub, H2.fr⟩, fun i' x hx => ?_⟩
   ·simp only at h'
    rw [upd_ne _ _ (by omega)]
    exact hσ l' (by omega)
   ·simp only at h'
    by_cases e1 : l' = s.nx
    ·subst e1
     rw [upd_same] at h'
     exact H2.rows s.nx b' (by rw [upd_same]; exact h')
    ·rw [upd_ne _ _ e1] at h'
     by_cases e2 : l' = l
     ·subst e2
      rw [upd_same] at h'
      injection h' with h'
      subst h'
      refine .row (by rw [List.length_set]; exact ext _ _ h) hg hcur (by rw [List.length_set]; exact hc) (fun e' he' => ?_) (fun e' he' x hx => ?_) fun i' e' j' x q1 q2 => ?_
      ·rcases List.mem_or_eq_of_mem_set he' with he' | rfl
       ·exact hs e' he'
       ·rw [List.length_set]; exact hs e (List.mem_of_getElem? hi)
      ·rcases List.mem_or_eq_of_mem_set he' with he' | rfl
       ·exact ho e' he' x hx
       ·rcases List.mem_or_eq_of_mem_set hx with hx | rfl
        ·exact ho e (List.mem_of_getElem? hi) x hx
        ·rfl
      ·rw [List.getElem?_set] at q1
       split at q1
       ·rename_i e3
        subst e3
        split at q1
        ·injection q1 with q1
         subst q1
         rw [List.getElem?_set] at q2
         split at q2
         ·rename_i e4
          subst e4
          split at q2
          ·injection q2 with q2
           subst q2
           exact ⟨_, hu, .ownE (upd_same _ _ _)⟩
          ·cases q2
         ·obtain ⟨u', hu', hr'⟩ := hr i e j' x hi q2
          exact ⟨u', hu', hr'.mono ext (fun _ h => h) (fun _ _ => rfl)⟩
        ·cases q1
       ·obtain ⟨u', hu', hr'⟩ := hr i' e' j' x q1 q2
        exact ⟨u', hu', hr'.mono ext (fun _ h => h) (fun _ _ => rfl)⟩
     ·rw [upd_ne _ _ e2] at h'
      exact H2.rows l' b' (by rw [upd_ne _ _ e1]; exact h')
   ·refine H2.inj l1 l2 g s1 s2 ?_ ?_
    ·intro h0; apply h1
     show upd (upd s.H l _) s.nx _ l1 = none
     by_cases e1 : l1 = s.nx
     ·subst e1; rw [upd_same] at h0; cases h0
     ·rw [upd_ne _ _ e1] at h0 ⊢
      by_cases e2 : l1 = l
      ·subst e2; rw [hl] at h0; cases h0
      ·rw [upd_ne _ _ e2]; exact h0
    ·intro h0; apply h2
     show upd (upd s.H l _) s.nx _ l2 = none
     by_cases e1 : l2 = s.nx
     ·subst e1; rw [upd_same] at h0; cases h0
     ·rw [upd_ne _ _ e1] at h0 ⊢
      by_cases e2 : l2 = l
      ·subst e2; rw [hl] at h0; cases h0
      ·rw [upd_ne _ _ e2]; exact h0
   ·refine H2.mine l' g s' ?_
    intro h0; apply h1
    show upd (upd s.H l _) s.nx _ l' = none
    by_cases e1 : l' = s.nx
    ·subst e1; rw [upd_same] at h0; cases h0
    ·rw [upd_ne _ _ e1] at h0 ⊢
     by_cases e2 : l' = l
     ·subst e2; rw [hl] at h0; cases h0
     ·rw [upd_ne _ _ e2]; exact h0
   ·obtain ⟨v, hv, hrv⟩ := m.tmps i' x hx
    exact ⟨v, hv, hrv.mono ext (fun _ h => h) (fun _ _ => rfl)⟩
theorem thaw_lift (lb : Nat) (qs ps : List (List PV)) : (liftE ps).map (fun e => e.map (thaw1 lb qs)) = liftE ps := by
 simp [liftE, thaw1]
end Go.Aw
namespace Go.Aw
open Go.Proofs Go.RowKit
set_option linter.unusedSimpArgs false
set_option linter.unusedVariables false
structure FewM (m : Ms) : Prop where
 name : m.name.length < 3000
 fields : m.fields.length ≤ 20
 res : m.res.length ≤ 40
 fd : ∀ f ∈ m.fields, f.name.length ≤ 200 ∧ f.ty.name.length ≤ 200
structure FewE (e : En) : Prop where
 name : e.name.length ≤ 200
 vals : e.vals.length ≤ 24
 nm : ∀ v ∈ e.vals, v.name.length ≤ 200
structure FewS (S : Sc) : Prop where
 name : S.name.length < 3000
 msgs : S.msgs.length ≤ 14
 enums : S.enums.length ≤ 10
 meths : S.meths.length ≤ 10
 ms : ∀ m ∈ S.msgs, FewM m
 en : ∀ e ∈ S.enums, FewE e
 mt : ∀ t ∈ S.meths, t.name.length ≤ 200 ∧ t.inn.length ≤ 200 ∧ t.out.length ≤ 200
theorem le_sum {l : List Ms} {m : Ms} (h : m ∈ l) : m.name.length ≤ (l.map fun m => m.name.length).sum := by
 induction l with
 | nil => cases h
 | cons a l ih =>
  rw [List.map_cons, List.sum_cons]
  rcases List.mem_cons.1 h with rfl | h
  ·omega
  ·have := ih h; omega
theorem few_spec {S : Sc} (h : fewB S = true) : FewS S := by
 unfold fewB at h
 simp only [Bool.and_eq_true, decide_eq_true_eq] at h
 obtain ⟨h1, h2, h3, h4, h5, h6, h7⟩ := h
 rw [List.take_of_length_le (by omega)] at h1 h2 h3
 unfold totN at h4
 rw [List.take_of_length_le (by omega)] at h4
 refine ⟨by omega, h5, h6, h7, fun m hm => ?_, fun e he => ?_, fun t ht => ?_⟩
 ·have q := List.all_eq_true.1 h1 m hm
  unfold msFew at q
  simp only [Bool.and_eq_true, decide_eq_true_eq] at q
  have := le_sum hm
  exact ⟨by omega, q.1.1, q.1.2, fun f hf => by have := List.all_eq_true.1 q.2 f hf; simpa [fdFew] using this⟩
 ·have q := List.all_eq_true.1 h2 e he
  unfold enFew at q
  simp only [Bool.and_eq_true, decide_eq_true_eq] at q
  exact ⟨q.1.1, q.1.2, fun f hf => by have := List.all_eq_true.1 q.2 f hf; simpa [nmFew] using this⟩
 ·have q := List.all_eq_true.1 h3 t ht
  simpa [mtFew] using q
theorem FewS.lens {S : Sc} (h : FewS S) : LensS S := by
 refine ⟨by have := h.name; omega, fun m hm => ⟨by have := (h.ms m hm).name; omega, fun f hf => by have := ((h.ms m hm).fd f hf).1; omega⟩, fun e he => ⟨by have := (h.en e he).name; omega, fun v hv => by have := (h.en e he).nm v hv; omega⟩, fun t ht => by have := (h.mt t ht).1; omega, by have := h.msgs; omega, by have := h.enums; omega, by have := h.meths; omega⟩
end Go.Aw
namespace Go.Aw
open Go.Proofs Go.RowKit
set_option linter.unusedSimpArgs false
set_option linter.unusedVariables false
theorem msgsC_zero {S : Sc} {K : List (List UInt8) → Int} : ∀ {l : List Ms} {ns : List (List UInt8)}, msgsC S K ns l = 0 → (∀ (i : Nat) m, l[i]? = some m → msgC S (ns ++ (l.take i).map Ms.name) m = 0) ∧ K (ns ++ l.map Ms.name) = 0
 | [], ns, h => ⟨fun i m hm => by simp at hm, by simpa [msgsC] using h⟩
 | a :: l, ns, h => by
  rw [msgsC] at h
  split at h
  ·rename_i h0
   obtain ⟨h1, h2⟩ := msgsC_zero h
   refine ⟨fun i m hm => ?_, by simpa [List.append_assoc] using h2⟩
   cases i with
   | zero => simp at hm; subst hm; simpa using h0
   | succ i => have := h1 i m (by simpa using hm); simpa [List.append_assoc] using this
  ·rename_i h0; exact absurd h h0
theorem enumsC_zero : ∀ {l : List En} {ns : List (List UInt8)}, enumsC ns l = 0 → ∀ (i : Nat) m, l[i]? = some m → enumC (ns ++ (l.take i).map En.name) m = 0
 | [], ns, h, i, m, hm => by simp at hm
 | a :: l, ns, h, i, m, hm => by
  rw [enumsC] at h
  split at h
  ·rename_i h0
   have h1 := enumsC_zero h
   cases i with
   | zero => simp at hm; subst hm; simpa using h0
   | succ i => have := h1 i m (by simpa using hm); simpa [List.append_assoc] using this
  ·rename_i h0; exact absurd h h0
theorem methsC_zero {S : Sc} : ∀ {l : List Mt} {ns : List (List UInt8)}, methsC S ns l = 0 → ∀ (i : Nat) m, l[i]? = some m → takesB (ns ++ (l.take i).map Mt.name) m.name = true ∧ hasM S m.inn = true ∧ hasM S m.out = true
 | [], ns, h, i, m, hm => by simp at hm
 | a :: l, ns, h, i, m, hm => by
  rw [methsC] at h
  split at h
  ·rename_i h0
   split at h
   ·rename_i h2
    have h1 := methsC_zero h
    cases i with
    | zero =>
     simp at hm; subst hm
     simp only [Bool.and_eq_true] at h2
     exact ⟨by simpa using h0, h2⟩
    | succ i => have := h1 i m (by simpa using hm); simpa [List.append_assoc] using this
   ·cases h
  ·cases h
theorem fldsC_zero {S : Sc} : ∀ {l : List Fd} {ns : List (List UInt8)} {us : List Int}, fldsC S ns us l = 0 → ∀ (i : Nat) f, l[i]? = some f → takesB (ns ++ (l.take i).map Fd.name) f.name = true ∧ tagB f.tag = true ∧ (us ++ (l.take i).map Fd.tag).contains f.tag = false ∧ fieldB S f = true
 | [], ns, us, h, i, f, hf => by simp at hf
 | a :: l, ns, us, h, i, f, hf => by
  rw [fldsC] at h
  split at h
  ·rename_i h0
   split at h
   ·rename_i h2
    split at h
    ·rename_i h3
     have h1 := fldsC_zero h
     cases i with
     | zero =>
      simp at hf; subst hf
      simp only [Bool.and_eq_true, Bool.not_eq_true'] at h2
      exact ⟨by simpa using h0, h2.1, by simpa using h2.2, h3⟩
     | succ i => have := h1 i f (by simpa using hf); simpa [List.append_assoc] using this
    ·cases h
   ·cases h
  ·cases h
theorem contains_apart {α : Type} {f : α → List UInt8} {l : List α} {k : List UInt8} (h : (l.map f).contains k = false) : l.all (fun x => !(f x == k)) = true := by
 rw [List.all_eq_true]
 intro x hx
 rw [contains_any, List.any_map] at h
 have := List.any_eq_false.1 h x hx
 simp at this ⊢
 intro e
 exact this e.symm
theorem contains_apartI {α : Type} {f : α → Int} {l : List α} {k : Int} (h : (l.map f).contains k = false) : l.all (fun x => !(f x == k)) = true := by
 rw [List.all_eq_true]
 intro x hx
 rw [contains_any, List.any_map] at h
 have := List.any_eq_false.1 h x hx
 simp at this ⊢
 intro e
 exact this e.symm
theorem contains_app {α : Type} [BEq α] {a b : List α} {k : α} (h : (a ++ b).contains k = false) : a.contains k = false ∧ b.contains k = false := by
 rw [contains_any, List.any_append, Bool.or_eq_false_iff] at h
 exact ⟨by rw [contains_any]; exact h.1, by rw [contains_any]; exact h.2⟩
structure RightS (S : Sc) : Prop where
 msg : ∀ (i : Nat) m, S.msgs[i]? = some m → firstP (fun x => x.name == m.name) zMs S.msgs = (m, true) ∧ firstP (fun x => x.name == m.name) zEn S.enums = (zEn, false) ∧ nameB m.name = true
 enum : ∀ (i : Nat) m, S.enums[i]? = some m → firstP (fun x => x.name == m.name) zEn S.enums = (m, true)
 meth : ∀ (i : Nat) m, S.meths[i]? = some m → firstP (fun x => x.name == m.name) zMt S.meths = (m, true) ∧ hasM S m.inn = true ∧ hasM S m.out = true
 fld : ∀ m ∈ S.msgs, ∀ (i : Nat) f, m.fields[i]? = some f → firstP (fun x => x.tag == f.tag) zFd m.fields = (f, true) ∧ m.res.contains f.tag = false ∧ fieldB S f = true ∧ tagB f.tag = true ∧ nameB f.name = true
 res : ∀ m ∈ S.msgs, ∀ t ∈ m.res, firstP (fun x => x.tag == t) zFd m.fields = (zFd, false)
 no : ∀ m ∈ S.msgs, m.fields.length ≤ 16 ∧ m.res.length ≤ 32
 len : S.msgs.length ≠ 0 ∧ S.msgs.length ≤ 10 ∧ S.enums.length ≤ 6 ∧ S.meths.length ≤ 6
theorem right_of {S : Sc} (h : checkC S = 0) : RightS S := by
 unfold checkC at h
 split at h
 case isFalse => cases h
 split at h
 ·cases h
 rename_i hl0
 split at h
 ·cases h
 rename_i hl1
 split at h
 case isFalse h0 => exact absurd h h0
 rename_i h0
 obtain ⟨h1, h2⟩ := msgsC_zero h0
 have h3 := enumsC_zero h2
 have h4 := methsC_zero h
 have mz : ∀ (i : Nat) m, S.msgs[i]? = some m → takesB ((S.msgs.take i).map Ms.name) m.name = true ∧ bodyC S m = 0 := fun i m hm => by
  have := h1 i m hm
  unfold msgC at this
  rw [List.nil_append] at this
  split at this
  ·rename_i q; exact ⟨q, this⟩
  ·cases this
 have ez : ∀ (i : Nat) m, S.enums[i]? = some m → takesB (S.msgs.map Ms.name ++ (S.enums.take i).map En.name) m.name = true := fun i m hm => by
  have := h3 i m hm
  unfold enumC at this
  rw [List.nil_append] at this
  split at this
  ·rename_i q; exact q
  ·cases this
 have tk : ∀ {ns : List (List UInt8)} {k : List UInt8}, takesB ns k = true → ns.contains k = false ∧ nameB k = true := fun q => by
  unfold takesB at q
  simp only [Bool.and_eq_true, Bool.not_eq_true'] at q
  exact ⟨q.2, q.1⟩
 have bz : ∀ m ∈ S.msgs, (m.fields.length ≤ 16 ∧ m.res.length ≤ 32) ∧ fldsC S [] m.res m.fields = 0 := fun m hm => by
  obtain ⟨i, hi⟩ := List.getElem?_of_mem hm
  have q := (mz i m hi).2
  unfold bodyC at q
  split at q
  ·cases q
  rename_i q1
  split at q
  ·cases q
  ·exact ⟨by omega, q⟩
 have fz : ∀ m ∈ S.msgs, ∀ (i : Nat) f, m.fields[i]? = some f → takesB ((m.fields.take i).map Fd.name) f.name = true ∧ tagB f.tag = true ∧ (m.res ++ (m.fields.take i).map Fd.tag).contains f.tag = false ∧ fieldB S f = true := fun m hm i f hf => by
  have := fldsC_zero (bz m hm).2 i f hf
  rwa [List.nil_append] at this
 refine ⟨fun i m hm => ?_, fun i m hm => ?_, fun i m hm => ?_, fun m hm i f hf => ?_, fun m hm t ht => ?_, fun m hm => (bz m hm).1, ⟨hl0, by omega⟩⟩
 ·refine ⟨first_at hm (contains_apart (tk (mz i m hm).1).1) (by simp), first_not ?_, (tk (mz i m hm).1).2⟩
  rw [List.all_eq_true]
  intro e he
  obtain ⟨j, hj⟩ := List.getElem?_of_mem he
  have q := (contains_app (tk (ez j e hj)).1).1
  have q' := List.all_eq_true.1 (contains_apart q) m (List.mem_of_getElem? hm)
  simp at q' ⊢
  intro e'
  exact q' e'.symm
 ·exact first_at hm (contains_apart (contains_app (tk (ez i m hm)).1).2) (by simp)
 ·have q := h4 i m hm
  rw [List.nil_append] at q
  exact ⟨first_at hm (contains_apart (tk q.1).1) (by simp), q.2⟩
 ·obtain ⟨q1, q2, q3, q4⟩ := fz m hm i f hf
  exact ⟨first_at hf (contains_apartI (contains_app q3).2) (by simp), (contains_app q3).1, q4, q2, (tk q1).2⟩
 ·refine first_not ?_
  rw [List.all_eq_true]
  intro f hf
  obtain ⟨j, hj⟩ := List.getElem?_of_mem hf
  have q := (contains_app (fz m hm j f hj).2.2.1).1
  have : f.tag ≠ t := by
   intro e
   rw [e] at q
   have : m.res.contains t = true := by rw [List.contains_iff_mem]; exact ht
   rw [this] at q
   cases q
  simpa using this
end Go.Aw
namespace Go.Aw
open Go.Proofs Go.RowKit
set_option linter.unusedSimpArgs false
set_option linter.unusedVariables false
theorem msgsC_back {S : Sc} {K : List (List UInt8) → Int} : ∀ {l : List Ms} {ns : List (List UInt8)}, (∀ (i : Nat) m, l[i]? = some m → msgC S (ns ++ (l.take i).map Ms.name) m = 0) → K (ns ++ l.map Ms.name) = 0 → msgsC S K ns l = 0
 | [], ns, _, h => by simpa [msgsC] using h
 | a :: l, ns, h1, h2 => by
  have h0 := h1 0 a rfl
  rw [msgsC, if_pos (by simpa using h0)]
  exact msgsC_back (fun i m hm => by have := h1 (i + 1) m (by simpa using hm); simpa [List.append_assoc] using this) (by simpa [List.append_assoc] using h2)
theorem enumsC_back : ∀ {l : List En} {ns : List (List UInt8)}, (∀ (i : Nat) m, l[i]? = some m → enumC (ns ++ (l.take i).map En.name) m = 0) → enumsC ns l = 0
 | [], ns, _ => rfl
 | a :: l, ns, h1 => by
  have h0 := h1 0 a rfl
  rw [enumsC, if_pos (by simpa using h0)]
  exact enumsC_back (fun i m hm => by have := h1 (i + 1) m (by simpa using hm); simpa [List.append_assoc] using this)
theorem methsC_back {S : Sc} : ∀ {l : List Mt} {ns : List (List UInt8)}, (∀ (i : Nat) m, l[i]? = some m → takesB (ns ++ (l.take i).map Mt.name) m.name = true ∧ hasM S m.inn = true ∧ hasM S m.out = true) → methsC S ns l = 0
 | [], ns, _ => rfl
 | a :: l, ns, h1 => by
  obtain ⟨q1, q2, q3⟩ := h1 0 a rfl
  rw [methsC, if_pos (by simpa using q1), if_pos (by rw [q2, q3]; rfl)]
  exact methsC_back (fun i m hm => by have := h1 (i + 1) m (by simpa using hm); simpa [List.append_assoc] using this)
theorem takes_iff {ns : List (List UInt8)} {k : List UInt8} : takesB ns k = true ↔ nameB k = true ∧ k ∉ ns := by
 unfold takesB
 rw [Bool.and_eq_true, Bool.not_eq_true', ← Bool.not_eq_true, List.contains_iff_mem]
theorem takes_all {α : Type} {f : α → List UInt8} : ∀ {l : List α} {ns : List (List UInt8)}, ns.Nodup → ((∀ (i : Nat) a, l[i]? = some a → takesB (ns ++ (l.take i).map f) (f a) = true) ↔ (∀ a ∈ l, nameB (f a) = true) ∧ (ns ++ l.map f).Nodup)
 | [], ns, hn => by simp [hn]
 | a :: l, ns, hn => by
  constructor
  ·intro h
   have h0 := takes_iff.1 (h 0 a rfl)
   have hn' : (ns ++ [f a]).Nodup := by
    rw [List.nodup_append]
    refine ⟨hn, by simp, fun x hx y hy => ?_⟩
    simp at hy
    subst hy
    rintro rfl
    exact h0.2 (by simpa using hx)
   have := (takes_all (f := f) (l := l) hn').1 fun i b hb => by
    have := h (i + 1) b (by simpa using hb)
    simpa [List.append_assoc] using this
   refine ⟨fun b hb => ?_, by simpa [List.append_assoc] using this.2⟩
   rcases List.mem_cons.1 hb with rfl | hb
   ·exact h0.1
   ·exact this.1 b hb
  ·rintro ⟨h1, h2⟩ i b hb
   have h2' : ((ns ++ [f a]) ++ l.map f).Nodup := by simpa [List.append_assoc] using h2
   cases i with
   | zero =>
    simp at hb
    subst hb
    refine takes_iff.2 ⟨h1 _ List.mem_cons_self, fun hm => ?_⟩
    have q := (List.nodup_append.1 h2').1
    rw [List.nodup_append] at q
    exact q.2.2 (f a) (by simpa using hm) (f a) (by simp) rfl
   | succ i =>
    have hn' := (List.nodup_append.1 h2').1
    have := (takes_all (f := f) (l := l) hn').2 ⟨fun c hc => h1 c (List.mem_cons_of_mem _ hc), h2'⟩ i b (by simpa using hb)
    simpa [List.append_assoc] using this
def namesS (S : Sc) : List (List UInt8) := S.msgs.map Ms.name ++ S.enums.map En.name
structure FitS (S : Sc) : Prop where
 name : nameB S.name = true
 lens : S.msgs.length ≠ 0 ∧ S.msgs.length ≤ 10 ∧ S.enums.length ≤ 6 ∧ S.meths.length ≤ 6
 mn : ∀ m ∈ S.msgs, nameB m.name = true
 en : ∀ m ∈ S.enums, nameB m.name = true
 nd : (namesS S).Nodup
 body : ∀ m ∈ S.msgs, bodyC S m = 0
 ebody : ∀ m ∈ S.enums, enumBody m = 0
 tn : ∀ t ∈ S.meths, nameB t.name = true
 tnd : (S.meths.map Mt.name).Nodup
 tio : ∀ t ∈ S.meths, hasM S t.inn = true ∧ hasM S t.out = true
theorem msgC_zero {S : Sc} {ns : List (List UInt8)} {m : Ms} : msgC S ns m = 0 ↔ takesB ns m.name = true ∧ bodyC S m = 0 := by
 unfold msgC
 split
 ·rename_i h; simp [h]
 ·rename_i h; simp [h]
theorem enumC_zero {ns : List (List UInt8)} {m : En} : enumC ns m = 0 ↔ takesB ns m.name = true ∧ enumBody m = 0 := by
 unfold enumC
 split
 ·rename_i h; simp [h]
 ·rename_i h; simp [h]
theorem check_fit {S : Sc} : checkC S = 0 ↔ FitS S := by
 constructor
 ·intro h
  have R := right_of h
  unfold checkC at h
  split at h
  case isFalse => cases h
  rename_i hn
  split at h
  ·cases h
  split at h
  ·cases h
  split at h
  case isFalse h0 => exact absurd h h0
  rename_i h0
  obtain ⟨h1, h2⟩ := msgsC_zero h0
  have h3 := enumsC_zero h2
  have h4 := methsC_zero h
  rw [List.nil_append] at h3
  have a1 := (takes_all (f := Ms.name) (l := S.msgs) (ns := []) List.nodup_nil).1 fun i m hm => (msgC_zero.1 (h1 i m hm)).1
  rw [List.nil_append] at a1
  have a2 := (takes_all (f := En.name) (l := S.enums) a1.2).1 fun i m hm => (enumC_zero.1 (h3 i m hm)).1
  have a3 := (takes_all (f := Mt.name) (l := S.meths) (ns := []) List.nodup_nil).1 fun i m hm => (h4 i m hm).1
  refine ⟨hn, R.len, a1.1, a2.1, a2.2, fun m hm => ?_, fun m hm => ?_, a3.1, by simpa using a3.2, fun t ht => ?_⟩
  ·obtain ⟨i, hi⟩ := List.getElem?_of_mem hm
   exact (msgC_zero.1 (h1 i m hi)).2
  ·obtain ⟨i, hi⟩ := List.getElem?_of_mem hm
   exact (enumC_zero.1 (h3 i m hi)).2
  ·obtain ⟨i, hi⟩ := List.getElem?_of_mem ht
   exact (h4 i t hi).2
 ·intro F
  have nd := F.nd
  unfold namesS at nd
  have nd1 := (List.nodup_append.1 nd).1
  have a1 := (takes_all (f := Ms.name) (l := S.msgs) (ns := []) List.nodup_nil).2 ⟨F.mn, by simpa using nd1⟩
  have a2 := (takes_all (f := En.name) (l := S.enums) nd1).2 ⟨F.en, nd⟩
  have a3 := (takes_all (f := Mt.name) (l := S.meths) (ns := []) List.nodup_nil).2 ⟨F.tn, by simpa using F.tnd⟩
  have hp : partsC S = 0 := by
   refine msgsC_back (fun i m hm => msgC_zero.2 ⟨a1 i m hm, F.body m (List.mem_of_getElem? hm)⟩) ?_
   rw [List.nil_append]
   exact enumsC_back fun i m hm => enumC_zero.2 ⟨a2 i m hm, F.ebody m (List.mem_of_getElem? hm)⟩
  have hm : methsC S [] S.meths = 0 := methsC_back fun i m hm => ⟨a3 i m hm, F.tio m (List.mem_of_getElem? hm)⟩
  have l := F.lens
  unfold checkC
  rw [if_pos F.name, if_neg l.1, if_neg (by omega), if_pos hp, hm]
theorem found_any {α : Type} {p : α → Bool} {z : α} {l : List α} : (firstP p z l).2 = l.any p := by
 unfold firstP
 cases h : l.find? p with
 | none =>
  symm
  rw [List.find?_eq_none] at h
  rw [List.any_eq_false]
  exact h
 | some a =>
  symm
  rw [List.any_eq_true]
  exact ⟨a, List.mem_of_find?_eq_some h, List.find?_some h⟩
end Go.Aw
namespace Go.Aw.T
open Go.Proofs
set_option linter.unusedSimpArgs false
set_option linter.unusedVariables false
structure Raw where
 tag : Int
 wire : Int
 n : Int
 b : List UInt8
deriving DecidableEq
def encRaw (r : Raw) : List PV := [.int .i64 r.tag, .int .i64 r.wire, .int .i64 r.n, .str r.b]
def i64ok (n : Int) : Prop := (Lit.int .i64 n).wf = true
theorem i64ok_iff {n : Int} : i64ok n ↔ -9223372036854775808 ≤ n ∧ n ≤ 9223372036854775807 := by
 have e1 : IntKind.i64.min = -9223372036854775808 := by decide
 have e2 : IntKind.i64.max = 9223372036854775807 := by decide
 simp [i64ok, Lit.wf, e1, e2]
theorem rep_raw {w : World} {I : Nat → Prop} {u : Value} {r : Raw} (h : rep w I u (.agg (encRaw r))) : u = .agg #[.int .i64 r.tag, .int .i64 r.wire, .int .i64 r.n, .string ⟨⟨r.b⟩⟩] := by
 cases h with
 | agg hs hr =>
 rename_i vs
 have hs4 : vs.size = 4 := by rw [hs]; rfl
 have h0 := hr 0 _ _ (Array.getElem?_eq_getElem (by omega)) rfl
 have h1 := hr 1 _ _ (Array.getElem?_eq_getElem (by omega)) rfl
 have h2 := hr 2 _ _ (Array.getElem?_eq_getElem (by omega)) rfl
 have h3 := hr 3 _ _ (Array.getElem?_eq_getElem (by omega)) rfl
 generalize e0 : vs[0] = v0 at h0
 generalize e1 : vs[1] = v1 at h1
 generalize e2 : vs[2] = v2 at h2
 generalize e3 : vs[3] = v3 at h3
 cases h0; cases h1; cases h2; cases h3
 congr 1
 apply Array.ext
 ·rw [hs4]; rfl
 ·intro i hi hi'
  have : i < 4 := by simpa using hi'
  match i, this with
  | 0, _ => exact e0
  | 1, _ => exact e1
  | 2, _ => exact e2
  | 3, _ => exact e3
theorem eq28 (x y : Raw) (w : World) : (Op.equalIn 10000 54 (.agg #[.int .i64 x.tag, .int .i64 x.wire, .int .i64 x.n, .string ⟨⟨x.b⟩⟩]) (.agg #[.int .i64 y.tag, .int .i64 y.wire, .int .i64 y.n, .string ⟨⟨y.b⟩⟩])).run Tryd.prog w = .ok (decide (x = y)) w := by
 have u3 := Tryd.underlying3
 have u9 := Tryd.underlying9
 have a3 := Tryd.isAgg3
 have a9 := Tryd.isAgg9
 have z3 := Tryd.sizeOf3
 have z9 := Tryd.sizeOf9
 have hS : Tryd.prog.underlying 54 = some (.struct (Tryd.prog.fieldsOf 54)) := by kernel_rfl
 have hp : Tryd.prog.stoodInHeld 54 = false := by kernel_rfl
 rw [show (10000 : Nat) = 9999 + 1 from rfl, run_equalIn_agg w 9999 54 _ _ hS hp]
 simp only [Program.fieldsOf, Tryd.underlying54]
 go_simp
 obtain ⟨a1, a2, a3, a4⟩ := x
 obtain ⟨b1, b2, b3, b4⟩ := y
 simp only [Raw.mk.injEq]
 by_cases h1 : a1 = b1 <;> by_cases h2 : a2 = b2 <;> by_cases h3 : a3 = b3 <;> by_cases h4 : a4 = b4 <;> simp [h1, h2, h3, h4]
theorem eqP_raw (x y : Raw) : EqP Tryd.prog 54 (.agg (encRaw x)) (.agg (encRaw y)) (decide (x = y)) := by
 intro w I u v hu hv
 rw [rep_raw hu, rep_raw hv]
 refine ⟨?_, ?_, fun op a b => run_eqGuard_agg _ op 54 a b _ _ (by kernel_rfl)⟩
 ·rw [run_eql_struct, eq28]; rfl
 ·rw [run_neq_struct, eq28]; rfl
def place (v n : Int) : Int := let k := v.tmod n; if k < 0 then k + n else k
theorem law00_Place (v n : Int) (hv : i64ok v) (hn : 0 < n) (hn' : i64ok n) : PFn Tryd.prog 22 [.int .i64 v, .int .i64 n] (.int .i64 (place v n)) := by
 refine PFn.of Tryd.func22 rfl (by decide) Tryd.ntmps22 Tryd.results22 (Nat.le_of_ble_eq_true rfl) ?_
 simp only [argsT]
 refine AW.rT (by rfl) fun K hK => ?_
 simp -implicitDefEqProofs only [go_sem]
 refine hK _ ?_; clear hK K
 have h0 : (n = 0) = False := by simp; omega
 refine AW.rT (by rfl) fun K hK => ?_
 simp -implicitDefEqProofs only [go_sem, ↓reduceIte, Nat.reduceAdd, Nat.reduceEqDiff, reduceCtorEq, h0]
 refine hK _ ?_; clear hK K
 have hm1 : -n < v.tmod n ∧ v.tmod n < n := by
  refine ⟨?_, Int.tmod_lt_of_pos v hn⟩
  have := Int.lt_tmod_of_pos v hn
  omega
 have hn2 := (i64ok_iff.1 hn').2
 refine AW.seq ?_
 refine AW.rT (by rfl) fun K hK => ?_
 simp -implicitDefEqProofs only [go_sem, ↓reduceIte, Nat.reduceAdd]
 refine hK _ ?_; clear hK K
 refine AW.cond _ (by simp -implicitDefEqProofs only [go_sem]; rfl) (fun hc => ?_) (fun hc => ?_)
 ·simp at hc
  have w2 : IntKind.wrap .i64 (v.tmod n + n) = v.tmod n + n := by rw [w64] <;> omega
  refine AW.rE (by rfl) fun K hK => ?_
  simp -implicitDefEqProofs only [go_sem, ↓reduceIte, Nat.reduceAdd, Nat.reduceEqDiff, w2]
  refine hK _ ?_; clear hK K
  simp only [andThen]
  refine AW.rT (by rfl) fun K hK => ?_
  simp -implicitDefEqProofs only [go_sem, Nat.reduceAdd]
  refine hK _ ?_; clear hK K
  refine AW.ret ?_
  simp -implicitDefEqProofs only [go_sem]
  simp [place, hc]
 ·simp at hc
  refine AW.skip ?_
  simp only [andThen]
  refine AW.rT (by rfl) fun K hK => ?_
  simp -implicitDefEqProofs only [go_sem, ↓reduceIte, Nat.reduceAdd, Nat.reduceEqDiff]
  refine hK _ ?_; clear hK K
  refine AW.ret ?_
  simp -implicitDefEqProofs only [go_sem]
  simp only [place, if_neg (show ¬ v.tmod n < 0 by omega)]
end Go.Aw.T
namespace Go.Aw.T
open Go.Proofs
set_option linter.unusedSimpArgs false
set_option linter.unusedVariables false
def checkR (r : Raw) : Bool :=
 if r.tag < 1 ∨ 500 < r.tag then false else if r.wire = 0 then decide (r.b = []) else if r.wire = 1 then decide (r.n = 0) && decide (r.b.length ≤ 4096) else false
theorem wire_Check (r : Raw) : PFn Tryd.prog 147 [.agg (encRaw r)] (.bool (checkR r)) := by
 refine PFn.of Tryd.func147 rfl (by decide) Tryd.ntmps147 Tryd.results147 (Nat.le_of_ble_eq_true rfl) ?_
 simp only [argsT]
 refine AW.rT (by rfl) fun K hK => ?_
 simp -implicitDefEqProofs only [go_sem, Nat.reduceAdd, encRaw]
 refine hK _ ?_; clear hK K
 refine AW.seq ?_
 by_cases h1 : r.tag < 1
 ·refine AW.rT (by rfl) fun K hK => ?_
  simp -implicitDefEqProofs only [go_sem, ↓reduceIte, Nat.reduceAdd, Nat.reduceEqDiff, h1]
  refine hK _ ?_; clear hK K
  refine AW.cond _ (by simp -implicitDefEqProofs only [go_sem]; rfl) (fun hc => ?_) (fun hc => ?_)
  ·refine AW.rT (by rfl) fun K hK => ?_
   simp -implicitDefEqProofs only [go_sem, Nat.reduceAdd]
   refine hK _ ?_; clear hK K
   refine AW.ret ?_
   simp -implicitDefEqProofs only [go_sem]
   simp [checkR, h1]
  ·simp at hc
 by_cases h2 : 500 < r.tag
 ·refine AW.rT (by rfl) fun K hK => ?_
  simp -implicitDefEqProofs only [go_sem, ↓reduceIte, Nat.reduceAdd, Nat.reduceEqDiff, h1, h2]
  refine hK _ ?_; clear hK K
  refine AW.cond _ (by simp -implicitDefEqProofs only [go_sem]; rfl) (fun hc => ?_) (fun hc => ?_)
  ·refine AW.rT (by rfl) fun K hK => ?_
   simp -implicitDefEqProofs only [go_sem, Nat.reduceAdd]
   refine hK _ ?_; clear hK K
   refine AW.ret ?_
   simp -implicitDefEqProofs only [go_sem]
   simp [checkR, h1, h2]
  ·simp at hc
 refine AW.rT (by rfl) fun K hK => ?_
 simp -implicitDefEqProofs only [go_sem, ↓reduceIte, Nat.reduceAdd, Nat.reduceEqDiff, h1, h2]
 refine hK _ ?_; clear hK K
 refine AW.cond _ (by simp -implicitDefEqProofs only [go_sem]; rfl) (fun hc => ?_) (fun hc => ?_)
 ·simp at hc
 refine AW.skip ?_
 simp only [andThen]
 refine AW.seq ?_
 refine AW.rT (by rfl) fun K hK => ?_
 simp -implicitDefEqProofs only [go_sem, ↓reduceIte, Nat.reduceAdd, Nat.reduceEqDiff]
 refine hK _ ?_; clear hK K
 refine AW.block ?_
 by_cases h3 : r.wire = 0
 ·refine AW.rT (by rfl) fun K hK => ?_
  simp -implicitDefEqProofs only [go_sem, ↓reduceIte, Nat.reduceAdd, h3]
  refine hK _ ?_; clear hK K
  refine AW.cond _ (by simp -implicitDefEqProofs only [go_sem]; rfl) (fun hc => ?_) (fun hc => ?_)
  ·refine AW.rT (by rfl) fun K hK => ?_
   simp -implicitDefEqProofs only [go_sem, ↓reduceIte, Nat.reduceAdd, Nat.reduceEqDiff]
   refine hK _ ?_; clear hK K
   refine AW.ret ?_
   simp -implicitDefEqProofs only [go_sem]
   by_cases hb : r.b = [] <;> simp [checkR, h1, h2, h3, hb]
  ·simp at hc
 have h3' := beqf h3
 refine AW.rT (by rfl) fun K hK => ?_
 simp -implicitDefEqProofs only [go_sem, ↓reduceIte, Nat.reduceAdd, h3']
 refine hK _ ?_; clear hK K
 refine AW.cond _ (by simp -implicitDefEqProofs only [go_sem]; rfl) (fun hc => ?_) (fun hc => ?_)
 ·simp at hc
 by_cases h4 : r.wire = 1
 ·refine AW.rT (by rfl) fun K hK => ?_
  simp -implicitDefEqProofs only [go_sem, ↓reduceIte, Nat.reduceAdd, Nat.reduceEqDiff, h4]
  refine hK _ ?_; clear hK K
  refine AW.cond _ (by simp -implicitDefEqProofs only [go_sem]; rfl) (fun hc => ?_) (fun hc => ?_)
  ·by_cases h5 : r.n = 0
   ·refine AW.rT (by rfl) fun K hK => ?_
    simp -implicitDefEqProofs only [go_sem, ↓reduceIte, Nat.reduceAdd, Nat.reduceEqDiff, h5]
    refine hK _ ?_; clear hK K
    refine AW.ret ?_
    simp -implicitDefEqProofs only [go_sem]
    simp [checkR, h1, h2, h4, h5]
    omega
   ·have h5' := beqf h5
    refine AW.rT (by rfl) fun K hK => ?_
    simp -implicitDefEqProofs only [go_sem, ↓reduceIte, Nat.reduceAdd, Nat.reduceEqDiff, h5']
    refine hK _ ?_; clear hK K
    refine AW.ret ?_
    simp -implicitDefEqProofs only [go_sem]
    simp [checkR, h1, h2, h4, h5]
  ·simp at hc
 have h4' := beqf h4
 refine AW.rT (by rfl) fun K hK => ?_
 simp -implicitDefEqProofs only [go_sem, ↓reduceIte, Nat.reduceAdd, Nat.reduceEqDiff, h4']
 refine hK _ ?_; clear hK K
 refine AW.cond _ (by simp -implicitDefEqProofs only [go_sem]; rfl) (fun hc => ?_) (fun hc => ?_)
 ·simp at hc
 refine AW.skip ?_
 simp only [andThen, inBlk]
 refine AW.rT (by rfl) fun K hK => ?_
 simp -implicitDefEqProofs only [go_sem, Nat.reduceAdd]
 refine hK _ ?_; clear hK K
 refine AW.ret ?_
 simp -implicitDefEqProofs only [go_sem]
 simp [checkR, h1, h2, h3, h4]
def encB (x : UInt8) : List PV := [.int .u8 (x.toNat : Int)]
end Go.Aw.T
namespace Go.Aw.T
open Go.Proofs
set_option linter.unusedSimpArgs false
set_option linter.unusedVariables false
end Go.Aw.T
namespace Go.Aw.T
set_option linter.unusedSimpArgs false
set_option linter.unusedVariables false
end Go.Aw.T
namespace Go.Aw.T
open Go.Proofs
set_option linter.unusedSimpArgs false
set_option linter.unusedVariables false
end Go.Aw.T
namespace Go.Aw.T
open Go.Proofs
set_option linter.unusedSimpArgs false
set_option linter.unusedVariables false
def rising : List Raw → Bool
 | a :: b :: r => if b.tag < a.tag then false else rising (b :: r)
 | _ => true
theorem rising_drop (l : List Raw) (i : Nat) (a b : Raw) (ha : l[i]? = some a) (hb : l[i+1]? = some b) : rising (l.drop i) = if b.tag < a.tag then false else rising (l.drop (i+1)) := by
 obtain ⟨h1, h2⟩ := List.getElem?_eq_some_iff.1 ha
 obtain ⟨h3, h4⟩ := List.getElem?_eq_some_iff.1 hb
 rw [List.drop_eq_getElem_cons h1, List.drop_eq_getElem_cons h3, h2, h4]
 simp [rising]
theorem rising_end (l : List Raw) (i : Nat) (h : l.length ≤ i + 1) : rising (l.drop i) = true := by
 match he : l.drop i with
 | [] => rfl
 | [a] => rfl
 | a :: b :: r =>
  have := congrArg List.length he
  simp at this
  omega
theorem wire_Rising (l : List Raw) (hl : l.length ≤ maxLen) : PFn Tryd.prog 148 [.slice (l.map encRaw)] (.bool (rising l)) := by
 have hm : maxLen = 9223372036854775807 := by decide
 refine PFn.of Tryd.func148 rfl (by decide) Tryd.ntmps148 Tryd.results148 (Nat.le_of_ble_eq_true rfl) ?_
 simp only [argsT]
 refine AW.rT (by rfl) fun K hK => ?_
 simp -implicitDefEqProofs only [go_sem]
 refine hK _ ?_; clear hK K
 refine AW.seq ?_
 refine AW.rT (by rfl) fun K hK => ?_
 simp -implicitDefEqProofs only [go_sem, Nat.reduceAdd]
 refine hK _ ?_; clear hK K
 refine AW.block ?_
 refine AW.loop (α := Nat) (fun i => ⟨ofL [(0, .p (.slice (l.map encRaw))), (3, .p (.int .i64 ((i : Int) + 1)))], ofH [], 0⟩) (fun i => rising (l.drop i) = rising l) (fun i => l.length - i) 0 ?_ (by simp) fun i hi => ?_
 ·refine Ghost.sub ?_ ?_ <;> simp -implicitDefEqProofs only [go_sem, ↓reduceIte, reduceCtorEq, List.forall_mem_cons, List.not_mem_nil, false_implies, implies_true, and_self, AV.labsIn]
  simp
 refine AW.seq ?_
 refine AW.rT (by rfl) fun K hK => ?_
 simp -implicitDefEqProofs only [go_sem, ↓reduceIte, Nat.reduceAdd, Nat.reduceEqDiff, reduceCtorEq]
 refine hK _ ?_; clear hK K
 refine AW.cond _ (by simp -implicitDefEqProofs only [go_sem]; rfl) (fun hc => ?_) (fun hc => ?_)
 ·refine AW.skip ?_
  simp only [andThen]
  simp at hc
  refine AW.seq ?_
  refine AW.block ?_
  obtain ⟨a, ha⟩ : ∃ a, l[i]? = some a := ⟨_, List.getElem?_eq_getElem (by omega)⟩
  obtain ⟨b, hb⟩ : ∃ a, l[i+1]? = some a := ⟨_, List.getElem?_eq_getElem (by omega)⟩
  have w1 : IntKind.wrap .i64 ((i : Int) + 1 - 1) = i := by rw [w64] <;> omega
  have ⟨hb1, hb2, hb3⟩ := at_map encRaw hb (i := (i : Int) + 1) (by omega)
  have ⟨ha1, ha2, ha3⟩ := at_map' encRaw ha
  refine AW.dT mixed (by rfl) (by decide +kernel) fun K hK => ?_
  simp -implicitDefEqProofs only [go_sem, ↓reduceIte, Nat.reduceAdd, Nat.reduceEqDiff, reduceCtorEq, w1, hb1, hb2, hb3, ha1, ha2, ha3, encRaw]
  refine ⟨heapOK_nil rfl, ?_⟩
  refine hK _ ?_; clear hK K
  have hr := rising_drop l i a b ha hb
  refine AW.cond _ (by simp -implicitDefEqProofs only [go_sem]; rfl) (fun hc => ?_) (fun hc => ?_)
  ·simp at hc
   refine AW.rT (by rfl) fun K hK => ?_
   simp -implicitDefEqProofs only [go_sem, Nat.reduceAdd]
   refine hK _ ?_; clear hK K
   refine AW.ret ?_
   simp -implicitDefEqProofs only [go_sem]
   simp [hc] at hr
   rw [← hi, hr]
  ·refine AW.skip ?_
   simp only [andThen, inBlk]
   have w2 : IntKind.wrap .i64 ((i : Int) + 1 + 1) = ((i + 1 : Nat) : Int) + 1 := by rw [w64] <;> omega
   refine AW.rE (by rfl) fun K hK => ?_
   simp -implicitDefEqProofs only [go_sem, ↓reduceIte, Nat.reduceAdd, Nat.reduceEqDiff, reduceCtorEq, w2]
   refine hK _ ?_; clear hK K
   refine ⟨i + 1, ?_, by omega, ?_⟩
   ·simp at hc
    rw [if_neg (by omega)] at hr
    rw [← hr, hi]
   ·refine Ghost.sub ?_ ?_ <;> simp -implicitDefEqProofs only [go_sem, ↓reduceIte, reduceCtorEq, List.forall_mem_cons, List.not_mem_nil, false_implies, implies_true, and_self, AV.labsIn]
 ·refine AW.exit ?_
  simp -implicitDefEqProofs only [go_sem, ↓reduceIte]
  refine AW.rT (by rfl) fun K hK => ?_
  simp -implicitDefEqProofs only [go_sem, Nat.reduceAdd]
  refine hK _ ?_; clear hK K
  refine AW.ret ?_
  simp -implicitDefEqProofs only [go_sem]
  simp at hc
  rw [← hi, rising_end l i (by omega)]
end Go.Aw.T
namespace Go.Aw.T
open Go.Proofs
set_option linter.unusedSimpArgs false
set_option linter.unusedVariables false
end Go.Aw.T
namespace Go.Aw.T
open Go.Proofs
theorem opn_i64 (W : World) : Opn Tryd.prog W 3 (fun n : Int => [.int .i64 n]) i64ok := opn_int Tryd.underlying3
theorem tryMaps : mapsRowed Tryd.prog = true := by kernel_rfl
theorem tryLaid : laidOutB Tryd.prog = true := by kernel_rfl
theorem trySlices : ((List.range Tryd.prog.types.size).all fun t => match Tryd.prog.underlying t with | some (.slice e) => decide (0 < Tryd.prog.cellsOf e) | _ => true) = true := by kernel_rfl
end Go.Aw.T
namespace Go.Aw.T
open Go.Proofs
set_option linter.unusedSimpArgs false
set_option linter.unusedVariables false
inductive Tr where
 | mk (kind n : Int) (s : List UInt8) (ents : List (Int × List Tr)) (rest : List Raw)
def Tr.kind : Tr → Int | .mk k _ _ _ _ => k
def Tr.n : Tr → Int | .mk _ n _ _ _ => n
def Tr.s : Tr → List UInt8 | .mk _ _ s _ _ => s
def Tr.ents : Tr → List (Int × List Tr) | .mk _ _ _ e _ => e
def Tr.rest : Tr → List Raw | .mk _ _ _ _ r => r
mutual
def encTr : Tr → List PV
 | .mk k n s es rest => [.int .i64 k, .int .i64 n, .str s, .slice (encEs es), .slice (rest.map encRaw)]
def encEs : List (Int × List Tr) → List (List PV)
 | [] => []
 | (t, l) :: r => [.int .i64 t, .slice (encTs l)] :: encEs r
def encTs : List Tr → List (List PV)
 | [] => []
 | x :: l => encTr x :: encTs l
end
def encEn (e : Int × List Tr) : List PV := [.int .i64 e.1, .slice (e.2.map encTr)]
theorem encTs_map : ∀ l : List Tr, encTs l = l.map encTr
 | [] => by simp [encTs]
 | x :: l => by rw [encTs, encTs_map l]; rfl
theorem encEs_map : ∀ l : List (Int × List Tr), encEs l = l.map encEn
 | [] => by simp [encEs]
 | (t, l) :: r => by rw [encEs, encEs_map r, encTs_map]; rfl
theorem encTr_eq (t : Tr) : encTr t = [.int .i64 t.kind, .int .i64 t.n, .str t.s, .slice (t.ents.map encEn), .slice (t.rest.map encRaw)] := by
 cases t
 rw [encTr, encEs_map]; rfl
theorem size_ent {t : Tr} {i : Nat} {e : Int × List Tr} (h : t.ents[i]? = some e) {k : Nat} {x : Tr} (h' : e.2[k]? = some x) : SizeOf.sizeOf x < SizeOf.sizeOf t := by
 cases t with
 | mk a b c es d =>
  have h1 : SizeOf.sizeOf e < SizeOf.sizeOf es := List.sizeOf_lt_of_mem (List.mem_of_getElem? (h : es[i]? = some e))
  have h2 := List.sizeOf_lt_of_mem (List.mem_of_getElem? h')
  obtain ⟨t0, l0⟩ := e
  simp only [Tr.mk.sizeOf_spec, Prod.mk.sizeOf_spec] at *
  omega
def cellsT (t : Tr) : List AV := [.p (.int .i64 t.kind), .p (.int .i64 t.n), .p (.str t.s), .p (.slice (t.ents.map encEn)), .p (.slice (t.rest.map encRaw))]
end Go.Aw.T
namespace Go.Aw.T
open Go.Proofs
set_option linter.unusedSimpArgs false
set_option linter.unusedVariables false
end Go.Aw.T
namespace Go.Aw.T
open Go.Proofs
set_option linter.unusedSimpArgs false
set_option linter.unusedVariables false
mutual
def sameT : Tr → Tr → Bool
 | .mk k n s es r, .mk k' n' s' es' r' => if k = k' ∧ n = n' ∧ s = s' ∧ es.length = es'.length ∧ r.length = r'.length ∧ r = r' then sameE es es' else false
def sameE : List (Int × List Tr) → List (Int × List Tr) → Bool
 | [], [] => true
 | (t, l) :: r, (t', l') :: r' => if t = t' ∧ l.length = l'.length ∧ sameTs l l' = true then sameE r r' else false
 | _, _ => false
def sameTs : List Tr → List Tr → Bool
 | [], [] => true
 | x :: l, x' :: l' => if sameT x x' = true then sameTs l l' else false
 | _, _ => false
end
mutual
theorem sameT_iff : ∀ (a b : Tr), sameT a b = true ↔ a = b
 | .mk k n s es r, .mk k' n' s' es' r' => by
  rw [sameT]
  split
  ·rename_i h
   obtain ⟨rfl, rfl, rfl, _, _, rfl⟩ := h
   rw [sameE_iff es es']
   simp
  ·rename_i h
   simp only [Bool.false_eq_true, false_iff, Tr.mk.injEq]
   rintro ⟨rfl, rfl, rfl, rfl, rfl⟩
   exact h ⟨rfl, rfl, rfl, rfl, rfl, rfl⟩
theorem sameE_iff : ∀ (a b : List (Int × List Tr)), sameE a b = true ↔ a = b
 | [], [] => by simp [sameE]
 | [], _ :: _ => by simp [sameE]
 | _ :: _, [] => by simp [sameE]
 | (t, l) :: r, (t', l') :: r' => by
  rw [sameE]
  split
  ·rename_i h
   obtain ⟨rfl, _, h2⟩ := h
   have := (sameTs_iff l l').1 h2
   subst this
   rw [sameE_iff r r']
   simp
  ·rename_i h
   simp only [Bool.false_eq_true, false_iff, List.cons.injEq, Prod.mk.injEq]
   rintro ⟨⟨rfl, rfl⟩, rfl⟩
   exact h ⟨rfl, rfl, (sameTs_iff l l).2 rfl⟩
theorem sameTs_iff : ∀ (a b : List Tr), sameTs a b = true ↔ a = b
 | [], [] => by simp [sameTs]
 | [], _ :: _ => by simp [sameTs]
 | _ :: _, [] => by simp [sameTs]
 | x :: l, x' :: l' => by
  rw [sameTs]
  split
  ·rename_i h
   have := (sameT_iff x x').1 h
   subst this
   rw [sameTs_iff l l']
   simp
  ·rename_i h
   simp only [Bool.false_eq_true, false_iff, List.cons.injEq]
   rintro ⟨rfl, rfl⟩
   exact h ((sameT_iff x x).2 rfl)
end
mutual
def lensT : Tr → Bool
 | .mk _ _ _ es rest => decide (rest.length ≤ 1000) && decide (es.length ≤ 1000) && lensE es
def lensE : List (Int × List Tr) → Bool
 | [] => true
 | (_, l) :: r => decide (l.length ≤ 1000) && lensTs l && lensE r
def lensTs : List Tr → Bool
 | [] => true
 | x :: l => lensT x && lensTs l
end
theorem lensTs_at : ∀ {l : List Tr} {k : Nat} {x : Tr}, lensTs l = true → l[k]? = some x → lensT x = true := by
 intro l
 induction l with
 | nil => intro k x _ h; simp at h
 | cons y l ih =>
  intro k x h hk
  rw [lensTs, Bool.and_eq_true] at h
  cases k with
  | zero => simp at hk; subst hk; exact h.1
  | succ k => exact ih h.2 (by simpa using hk)
theorem lensE_at : ∀ {es : List (Int × List Tr)} {i : Nat} {e : Int × List Tr}, lensE es = true → es[i]? = some e → e.2.length ≤ 1000 ∧ lensTs e.2 = true := by
 intro es
 induction es with
 | nil => intro i e _ h; simp at h
 | cons y es ih =>
  intro i e h hi
  obtain ⟨t, l⟩ := y
  rw [lensE, Bool.and_eq_true, Bool.and_eq_true] at h
  cases i with
  | zero => simp at hi; subst hi; exact ⟨by simpa using h.1.1, h.1.2⟩
  | succ i => exact ih h.2 (by simpa using hi)
theorem lensT_mk {t : Tr} (h : lensT t = true) : t.rest.length ≤ 1000 ∧ t.ents.length ≤ 1000 ∧ lensE t.ents = true := by
 cases t
 rw [lensT] at h
 simp only [Bool.and_eq_true, decide_eq_true_eq] at h
 exact ⟨h.1.1, h.1.2, h.2⟩
theorem sameT_mk (a b : Tr) : sameT a b = if a.kind = b.kind ∧ a.n = b.n ∧ a.s = b.s ∧ a.ents.length = b.ents.length ∧ a.rest.length = b.rest.length ∧ a.rest = b.rest then sameE a.ents b.ents else false := by
 cases a; cases b; rw [sameT]; rfl
theorem sameE_at {es fs : List (Int × List Tr)} {i : Nat} {e f : Int × List Tr} (h : es[i]? = some e) (h' : fs[i]? = some f) :
  sameE (es.drop i) (fs.drop i) = if e.1 = f.1 ∧ e.2.length = f.2.length ∧ sameTs e.2 f.2 = true then sameE (es.drop (i + 1)) (fs.drop (i + 1)) else false := by
 rw [List.drop_eq_getElem_cons (List.getElem?_eq_some_iff.1 h).1, (List.getElem?_eq_some_iff.1 h).2, List.drop_eq_getElem_cons (List.getElem?_eq_some_iff.1 h').1, (List.getElem?_eq_some_iff.1 h').2]
 obtain ⟨a, l⟩ := e
 obtain ⟨b, m⟩ := f
 rw [sameE]
theorem sameTs_at {l m : List Tr} {k : Nat} {x y : Tr} (h : l[k]? = some x) (h' : m[k]? = some y) :
  sameTs (l.drop k) (m.drop k) = if sameT x y = true then sameTs (l.drop (k + 1)) (m.drop (k + 1)) else false := by
 rw [List.drop_eq_getElem_cons (List.getElem?_eq_some_iff.1 h).1, (List.getElem?_eq_some_iff.1 h).2, List.drop_eq_getElem_cons (List.getElem?_eq_some_iff.1 h').1, (List.getElem?_eq_some_iff.1 h').2, sameTs]
def ss (a b : Tr) (m : List (Nat × AV)) : St := ⟨ofL ([(2, .ptr 0 0 0), (3, .ptr 1 0 0)] ++ m), ofH [(0, .row 5 [cellsT a]), (1, .row 5 [cellsT b])], 2⟩
def st (a b : Tr) (i : Nat) (e f : Int × List Tr) (k : Nat) : St := ⟨ofL [(2, .ptr 0 0 0), (3, .ptr 1 0 0), (6, .p (.int .i64 (i : Int))), (7, .ptr 2 0 0), (8, .ptr 3 0 0), (9, .p (.int .i64 (k : Int)))],
 ofH [(0, .row 5 [cellsT a]), (1, .row 5 [cellsT b]), (2, .row 2 [[.p (.int .i64 e.1), .p (.slice (e.2.map encTr))]]), (3, .row 2 [[.p (.int .i64 f.1), .p (.slice (f.2.map encTr))]])], 4⟩
set_option maxRecDepth 100000 in
set_option maxHeartbeats 4000000 in
theorem ref09_Same : ∀ (a b : Tr), lensT a = true → PFn Tryd.prog 33 [.agg (encTr a), .agg (encTr b)] (.bool (sameT a b)) := by
 intro a
 induction h : SizeOf.sizeOf a using Nat.strongRecOn generalizing a with
 | _ sz ih =>
 subst h
 intro b hla
 obtain ⟨la1, la2, la3⟩ := lensT_mk hla
 have sT := sameT_mk a b
 refine PFn.of Tryd.func33 rfl (by decide) Tryd.ntmps33 Tryd.results33 (Nat.le_of_ble_eq_true rfl) ?_
 simp only [argsT]
 refine AW.rT (by rfl) fun K hK => ?_
 simp -implicitDefEqProofs only [go_sem, ↓reduceIte, Nat.reduceAdd, Nat.reduceEqDiff, encTr_eq]
 refine hK _ ?_; clear hK K
 refine AW.seq ?_
 by_cases c1 : a.kind = b.kind
 case neg =>
  have b1 : (a.kind != b.kind) = true := by simpa using c1
  rw [if_neg (fun h => c1 h.1)] at sT
  refine AW.rT (by rfl) fun K hK => ?_
  simp -implicitDefEqProofs only [go_sem, ↓reduceIte, Nat.reduceAdd, Nat.reduceEqDiff, reduceCtorEq, b1]
  refine hK _ ?_; clear hK K
  refine AW.cond _ (by simp -implicitDefEqProofs only [go_sem]; rfl) (fun hc => ?_) (fun hc => ?_)
  ·refine AW.rT (by rfl) fun K hK => ?_
   simp -implicitDefEqProofs only [go_sem, Nat.reduceAdd]
   refine hK _ ?_; clear hK K
   refine AW.ret ?_
   simp -implicitDefEqProofs only [go_sem, sT]
  ·simp at hc
 have b1 : (a.kind != b.kind) = false := by simpa using c1
 by_cases c2 : a.n = b.n
 case neg =>
  have b2 : (a.n != b.n) = true := by simpa using c2
  rw [if_neg (fun h => c2 h.2.1)] at sT
  refine AW.rT (by rfl) fun K hK => ?_
  simp -implicitDefEqProofs only [go_sem, ↓reduceIte, Nat.reduceAdd, Nat.reduceEqDiff, reduceCtorEq, b1, b2]
  refine hK _ ?_; clear hK K
  refine AW.cond _ (by simp -implicitDefEqProofs only [go_sem]; rfl) (fun hc => ?_) (fun hc => ?_)
  ·refine AW.rT (by rfl) fun K hK => ?_
   simp -implicitDefEqProofs only [go_sem, Nat.reduceAdd]
   refine hK _ ?_; clear hK K
   refine AW.ret ?_
   simp -implicitDefEqProofs only [go_sem, sT]
  ·simp at hc
 have b2 : (a.n != b.n) = false := by simpa using c2
 by_cases c3 : a.s = b.s
 case neg =>
  have b3 : (a.s == b.s) = false := beqf c3
  rw [if_neg (fun h => c3 h.2.2.1)] at sT
  refine AW.rT (by rfl) fun K hK => ?_
  simp -implicitDefEqProofs only [go_sem, ↓reduceIte, Nat.reduceAdd, Nat.reduceEqDiff, reduceCtorEq, b1, b2, b3]
  refine hK _ ?_; clear hK K
  refine AW.cond _ (by simp -implicitDefEqProofs only [go_sem]; rfl) (fun hc => ?_) (fun hc => ?_)
  ·refine AW.rT (by rfl) fun K hK => ?_
   simp -implicitDefEqProofs only [go_sem, Nat.reduceAdd]
   refine hK _ ?_; clear hK K
   refine AW.ret ?_
   simp -implicitDefEqProofs only [go_sem, sT]
  ·simp at hc
 have b3 : (a.s == b.s) = true := by simpa using c3
 by_cases c4 : a.ents.length = b.ents.length
 case neg =>
  have b4 : ((a.ents.length : Int) != (b.ents.length : Int)) = true := by simp; omega
  rw [if_neg (fun h => c4 h.2.2.2.1)] at sT
  refine AW.rT (by rfl) fun K hK => ?_
  simp -implicitDefEqProofs only [go_sem, ↓reduceIte, Nat.reduceAdd, Nat.reduceEqDiff, reduceCtorEq, b1, b2, b3, b4, List.length_map]
  refine hK _ ?_; clear hK K
  refine AW.cond _ (by simp -implicitDefEqProofs only [go_sem]; rfl) (fun hc => ?_) (fun hc => ?_)
  ·refine AW.rT (by rfl) fun K hK => ?_
   simp -implicitDefEqProofs only [go_sem, Nat.reduceAdd]
   refine hK _ ?_; clear hK K
   refine AW.ret ?_
   simp -implicitDefEqProofs only [go_sem, sT]
  ·simp at hc
 have b4 : ((a.ents.length : Int) != (b.ents.length : Int)) = false := by simp; omega
 by_cases c5 : a.rest.length = b.rest.length
 case neg =>
  have b5 : ((a.rest.length : Int) != (b.rest.length : Int)) = true := by simp; omega
  rw [if_neg (fun h => c5 h.2.2.2.2.1)] at sT
  refine AW.rT (by rfl) fun K hK => ?_
  simp -implicitDefEqProofs only [go_sem, ↓reduceIte, Nat.reduceAdd, Nat.reduceEqDiff, reduceCtorEq, b1, b2, b3, b4, b5, List.length_map]
  refine hK _ ?_; clear hK K
  refine AW.cond _ (by simp -implicitDefEqProofs only [go_sem]; rfl) (fun hc => ?_) (fun hc => ?_)
  ·refine AW.rT (by rfl) fun K hK => ?_
   simp -implicitDefEqProofs only [go_sem, Nat.reduceAdd]
   refine hK _ ?_; clear hK K
   refine AW.ret ?_
   simp -implicitDefEqProofs only [go_sem, sT]
  ·simp at hc
 have b5 : ((a.rest.length : Int) != (b.rest.length : Int)) = false := by simp; omega
 refine AW.rT (by rfl) fun K hK => ?_
 simp -implicitDefEqProofs only [go_sem, ↓reduceIte, Nat.reduceAdd, Nat.reduceEqDiff, reduceCtorEq, b1, b2, b3, b4, b5, List.length_map]
 refine hK _ ?_; clear hK K
 refine AW.cond _ (by simp -implicitDefEqProofs only [go_sem]; rfl) (fun hc => ?_) (fun hc => ?_)
 ·simp at hc
 refine AW.skip ?_
 simp only [andThen]
 clear b1 b2 b3 b4 b5
 refine AW.seq ?_
 refine AW.rT (by rfl) fun K hK => ?_
 simp -implicitDefEqProofs only [go_sem, Nat.reduceAdd]
 refine hK _ ?_; clear hK K
 refine AW.block ?_
 refine AW.loop (fun i : Nat => ss a b [(5, .p (.int .i64 (i : Int)))]) (fun i => i ≤ a.rest.length ∧ a.rest.take i = b.rest.take i) (fun i => a.rest.length - i) 0 ?_ (by simp) fun i hi => ?_
 ·simp only [ss, cellsT, List.cons_append, List.nil_append]
  refine Ghost.sub ?_ ?_ <;> simp -implicitDefEqProofs only [go_sem, ↓reduceIte, Nat.reduceEqDiff, reduceCtorEq, List.forall_mem_cons, List.not_mem_nil, false_implies, implies_true, and_self, List.all_cons, List.all_nil, Nat.reduceLT, labsInL, AV.labsIn]
  rfl
 obtain ⟨g1, g2⟩ := hi
 simp only [ss, cellsT, List.cons_append, List.nil_append]
 refine AW.seq ?_
 by_cases hil : i < a.rest.length
 ·obtain ⟨x, hx⟩ : ∃ x, a.rest[i]? = some x := ⟨_, List.getElem?_eq_getElem hil⟩
  obtain ⟨y, hy⟩ : ∃ y, b.rest[i]? = some y := ⟨_, List.getElem?_eq_getElem (by omega)⟩
  have ⟨hx1, hx2, hx3⟩ := at_map' encRaw hx
  have ⟨hy1, hy2, hy3⟩ := at_map' encRaw hy
  have ex : (encRaw x).length = 4 := rfl
  have ey : (encRaw y).length = 4 := rfl
  have hc1 : ((i : Int) < (a.rest.length : Int)) = True := by simp; omega
  refine AW.rT (by rfl) fun K hK => ?_
  simp -implicitDefEqProofs only [go_sem, ↓reduceIte, Nat.reduceAdd, Nat.reduceEqDiff, List.length_map, hc1]
  refine hK _ ?_; clear hK K
  refine AW.cond _ (by simp -implicitDefEqProofs only [go_sem]; rfl) (fun hc => ?_) (fun hc => ?_)
  rotate_left
  ·simp at hc
  refine AW.skip ?_
  simp only [andThen]
  refine AW.seq ?_
  refine AW.block ?_
  refine AW.dT mixed (by rfl) (by decide +kernel) fun K hK => ?_
  simp -implicitDefEqProofs only [go_sem, ↓reduceIte, Nat.reduceAdd, Nat.reduceEqDiff, Nat.reduceLeDiff, hx1, hx2, hx3, hy2, hy3, ex, ey]
  refine ⟨_, eqP_raw x y, ?_⟩
  simp only [boolE]
  try simp -implicitDefEqProofs only [go_sem, Nat.reduceAdd]
  refine ⟨heapOK_nil rfl, ?_⟩
  refine hK _ ?_; clear hK K
  by_cases hxy : x = y
  ·have bx : decide (x = y) = true := by simpa using hxy
   rw [bx]
   refine AW.cond _ (by simp -implicitDefEqProofs only [go_sem]; rfl) (fun hc => ?_) (fun hc => ?_)
   ·simp at hc
   refine AW.skip ?_
   simp only [andThen, inBlk]
   have w2 : IntKind.wrap .i64 ((i : Int) + 1) = ((i + 1 : Nat) : Int) := by rw [w64] <;> omega
   refine AW.rE (by rfl) fun K hK => ?_
   simp -implicitDefEqProofs only [go_sem, ↓reduceIte, Nat.reduceAdd, Nat.reduceEqDiff, w2]
   refine hK _ ?_; clear hK K
   refine ⟨i + 1, ⟨by omega, by rw [List.take_add_one, List.take_add_one, hx, hy, g2, hxy]⟩, by omega, ?_⟩
   refine Ghost.sub ?_ ?_ <;> simp -implicitDefEqProofs only [go_sem, ↓reduceIte, Nat.reduceEqDiff, List.forall_mem_cons, List.not_mem_nil, false_implies, implies_true, and_self, List.all_cons, List.all_nil, Nat.reduceLT, labsInL, AV.labsIn]
  ·have bx : decide (x = y) = false := by simpa using hxy
   rw [bx]
   rw [if_neg (fun h => hxy (by have := h.2.2.2.2.2; rw [this, hy] at hx; injection hx with hx; exact hx.symm))] at sT
   refine AW.cond _ (by simp -implicitDefEqProofs only [go_sem]; rfl) (fun hc => ?_) (fun hc => ?_)
   ·refine AW.rT (by rfl) fun K hK => ?_
    simp -implicitDefEqProofs only [go_sem, Nat.reduceAdd]
    refine hK _ ?_; clear hK K
    refine AW.ret ?_
    simp -implicitDefEqProofs only [go_sem, sT]
   ·simp at hc
 have hc1 : ((i : Int) < (a.rest.length : Int)) = False := by simp; omega
 have hi' : i = a.rest.length := by omega
 subst hi'
 rw [List.take_length, c5, List.take_length] at g2
 rw [if_pos ⟨c1, c2, c3, c4, c5, g2⟩] at sT
 refine AW.rT (by rfl) fun K hK => ?_
 simp -implicitDefEqProofs only [go_sem, ↓reduceIte, Nat.reduceAdd, Nat.reduceEqDiff, List.length_map, hc1]
 refine hK _ ?_; clear hK K
 refine AW.cond _ (by simp -implicitDefEqProofs only [go_sem]; rfl) (fun hc => ?_) (fun hc => ?_)
 ·simp at hc
 refine AW.exit ?_
 simp only [andThen, inBlk, ↓reduceIte]
 refine AW.seq ?_
 refine AW.rT (by rfl) fun K hK => ?_
 simp -implicitDefEqProofs only [go_sem, Nat.reduceAdd]
 refine hK _ ?_; clear hK K
 refine AW.block ?_
 refine AW.loop (fun i : Nat => ss a b [(6, .p (.int .i64 (i : Int)))]) (fun i => i ≤ a.ents.length ∧ sameT a b = sameE (a.ents.drop i) (b.ents.drop i)) (fun i => a.ents.length - i) 0 ?_ ⟨by simp, by rw [sT, List.drop_zero, List.drop_zero]⟩ fun i hi => ?_
 ·simp only [ss, cellsT, List.cons_append, List.nil_append]
  refine Ghost.sub ?_ ?_ <;> simp -implicitDefEqProofs only [go_sem, ↓reduceIte, Nat.reduceEqDiff, List.forall_mem_cons, List.not_mem_nil, false_implies, implies_true, and_self, List.all_cons, List.all_nil, Nat.reduceLT, labsInL, AV.labsIn]
  rfl
 obtain ⟨e1, e2⟩ := hi
 simp only [ss, cellsT, List.cons_append, List.nil_append]
 refine AW.seq ?_
 by_cases hil : i < a.ents.length
 case neg =>
  have hc1 : ((i : Int) < (a.ents.length : Int)) = False := by simp; omega
  rw [List.drop_of_length_le (by omega), List.drop_of_length_le (by omega), sameE] at e2
  refine AW.rT (by rfl) fun K hK => ?_
  simp -implicitDefEqProofs only [go_sem, ↓reduceIte, Nat.reduceAdd, Nat.reduceEqDiff, List.length_map, hc1]
  refine hK _ ?_; clear hK K
  refine AW.cond _ (by simp -implicitDefEqProofs only [go_sem]; rfl) (fun hc => ?_) (fun hc => ?_)
  ·simp at hc
  refine AW.exit ?_
  simp only [andThen, inBlk, ↓reduceIte]
  refine AW.rT (by rfl) fun K hK => ?_
  simp -implicitDefEqProofs only [go_sem, Nat.reduceAdd]
  refine hK _ ?_; clear hK K
  refine AW.ret ?_
  simp -implicitDefEqProofs only [go_sem, e2]
 obtain ⟨e, he⟩ : ∃ e, a.ents[i]? = some e := ⟨_, List.getElem?_eq_getElem hil⟩
 obtain ⟨f, hf⟩ : ∃ f, b.ents[i]? = some f := ⟨_, List.getElem?_eq_getElem (by omega)⟩
 have ⟨he1, he2, he3⟩ := at_map' encEn he
 have ⟨hf1, hf2, hf3⟩ := at_map' encEn hf
 have ⟨le1, le2⟩ := lensE_at la3 he
 have sE := sameE_at he hf
 have hc1 : ((i : Int) < (a.ents.length : Int)) = True := by simp; omega
 have hc1' : ((i : Int) < (b.ents.length : Int)) = True := by simp; omega
 refine AW.rT (by rfl) fun K hK => ?_
 simp -implicitDefEqProofs only [go_sem, ↓reduceIte, Nat.reduceAdd, Nat.reduceEqDiff, List.length_map, hc1]
 refine hK _ ?_; clear hK K
 refine AW.cond _ (by simp -implicitDefEqProofs only [go_sem]; rfl) (fun hc => ?_) (fun hc => ?_)
 rotate_left
 ·simp at hc
 refine AW.skip ?_
 simp only [andThen]
 refine AW.seq ?_
 refine AW.block ?_
 refine AW.dT mixed (by rfl) (by decide +kernel) fun K hK => ?_
 simp -implicitDefEqProofs only [go_sem, ↓reduceIte, Nat.reduceAdd, Nat.reduceEqDiff, Nat.reduceLeDiff, he1, he3, hf3, encEn, List.length_map, hc1, hc1']
 refine ⟨by decide +kernel, ?_⟩
 refine hK _ ?_; clear hK K
 refine AW.seq ?_
 by_cases d1 : e.1 = f.1
 case neg =>
  have b1 : (e.1 != f.1) = true := by simpa using d1
  rw [if_neg (fun h => d1 h.1)] at sE
  have HH := e2.trans sE
  refine AW.rT (by rfl) fun K hK => ?_
  simp -implicitDefEqProofs only [go_sem, ↓reduceIte, Nat.reduceAdd, Nat.reduceEqDiff, b1]
  refine hK _ ?_; clear hK K
  refine AW.cond _ (by simp -implicitDefEqProofs only [go_sem]; rfl) (fun hc => ?_) (fun hc => ?_)
  ·refine AW.rT (by rfl) fun K hK => ?_
   simp -implicitDefEqProofs only [go_sem, Nat.reduceAdd]
   refine hK _ ?_; clear hK K
   refine AW.ret ?_
   simp -implicitDefEqProofs only [go_sem, HH]
  ·simp at hc
 have b1 : (e.1 != f.1) = false := by simpa using d1
 by_cases d2 : e.2.length = f.2.length
 case neg =>
  have b2 : ((e.2.length : Int) != (f.2.length : Int)) = true := by simp; omega
  rw [if_neg (fun h => d2 h.2.1)] at sE
  have HH := e2.trans sE
  refine AW.rT (by rfl) fun K hK => ?_
  simp -implicitDefEqProofs only [go_sem, ↓reduceIte, Nat.reduceAdd, Nat.reduceEqDiff, b1, b2, List.length_map]
  refine hK _ ?_; clear hK K
  refine AW.cond _ (by simp -implicitDefEqProofs only [go_sem]; rfl) (fun hc => ?_) (fun hc => ?_)
  ·refine AW.rT (by rfl) fun K hK => ?_
   simp -implicitDefEqProofs only [go_sem, Nat.reduceAdd]
   refine hK _ ?_; clear hK K
   refine AW.ret ?_
   simp -implicitDefEqProofs only [go_sem, HH]
  ·simp at hc
 have b2 : ((e.2.length : Int) != (f.2.length : Int)) = false := by simp; omega
 refine AW.rT (by rfl) fun K hK => ?_
 simp -implicitDefEqProofs only [go_sem, ↓reduceIte, Nat.reduceAdd, Nat.reduceEqDiff, b1, b2, List.length_map]
 refine hK _ ?_; clear hK K
 refine AW.cond _ (by simp -implicitDefEqProofs only [go_sem]; rfl) (fun hc => ?_) (fun hc => ?_)
 ·simp at hc
 refine AW.skip ?_
 simp only [andThen]
 refine AW.rT (by rfl) fun K hK => ?_
 simp -implicitDefEqProofs only [go_sem, Nat.reduceAdd]
 refine hK _ ?_; clear hK K
 refine AW.block ?_
 refine AW.loop (fun k : Nat => st a b i e f k) (fun k => k ≤ e.2.length ∧ sameTs e.2 f.2 = sameTs (e.2.drop k) (f.2.drop k)) (fun k => e.2.length - k) 0 ?_ ⟨by simp, by rw [List.drop_zero, List.drop_zero]⟩ fun k hk => ?_
 ·simp only [st, cellsT]
  refine Ghost.ent (fun l => if l = 2 then 17 else if l = 3 then 18 else l) ?_ ?_ ?_ <;> simp -implicitDefEqProofs only [go_sem, ↓reduceIte, Nat.reduceEqDiff, reduceCtorEq, List.forall_mem_cons, List.not_mem_nil, false_implies, implies_true, and_self, List.all_cons, List.all_nil, Nat.reduceLT, labsInL, AV.labsIn]
  rfl
 obtain ⟨k1, k2⟩ := hk
 simp only [st, cellsT]
 refine AW.seq ?_
 by_cases hkl : k < e.2.length
 ·obtain ⟨x, hx⟩ : ∃ x, e.2[k]? = some x := ⟨_, List.getElem?_eq_getElem hkl⟩
  obtain ⟨y, hy⟩ : ∃ y, f.2[k]? = some y := ⟨_, List.getElem?_eq_getElem (by omega)⟩
  have ⟨hx1, hx2, hx3⟩ := at_map' encTr hx
  have ⟨hy1, hy2, hy3⟩ := at_map' encTr hy
  have hc2 : ((k : Int) < (e.2.length : Int)) = True := by simp; omega
  have hc2' : ((k : Int) < (f.2.length : Int)) = True := by simp; omega
  have sK := sameTs_at hx hy
  refine AW.rT (by rfl) fun K hK => ?_
  simp -implicitDefEqProofs only [go_sem, ↓reduceIte, Nat.reduceAdd, Nat.reduceEqDiff, reduceCtorEq, List.length_map, hc2]
  refine hK _ ?_; clear hK K
  refine AW.cond _ (by simp -implicitDefEqProofs only [go_sem]; rfl) (fun hc => ?_) (fun hc => ?_)
  rotate_left
  ·simp at hc
  refine AW.skip ?_
  simp only [andThen]
  refine AW.seq ?_
  refine AW.block ?_
  have IH := ih _ (size_ent he hx) x rfl y (lensTs_at le2 hx)
  rw [encTr_eq, encTr_eq] at IH
  refine AW.dT mixed (by rfl) (by decide +kernel) fun K hK => ?_
  simp -implicitDefEqProofs only [go_sem, ↓reduceIte, Nat.reduceAdd, Nat.reduceEqDiff, Nat.reduceLeDiff, reduceCtorEq, hx1, hx3, hy3, hc2, hc2', encTr_eq, List.length_map]
  refine ⟨.pure _, IH, ?_⟩
  try simp -implicitDefEqProofs only [go_sem, ↓reduceIte, Nat.reduceAdd]
  refine ⟨heapOK_nil rfl, ?_⟩
  refine hK _ ?_; clear hK K
  cases hq : sameT x y with
  | false =>
   rw [if_neg (by rw [hq]; simp)] at sK
   rw [if_neg (by rintro ⟨_, _, h⟩; rw [k2, sK] at h; cases h)] at sE
   have HH := e2.trans sE
   refine AW.cond _ (by simp -implicitDefEqProofs only [go_sem]; rfl) (fun hc => ?_) (fun hc => ?_)
   ·refine AW.rT (by rfl) fun K hK => ?_
    simp -implicitDefEqProofs only [go_sem, Nat.reduceAdd]
    refine hK _ ?_; clear hK K
    refine AW.ret ?_
    simp -implicitDefEqProofs only [go_sem, HH]
   ·simp at hc
  | true =>
   rw [if_pos hq] at sK
   refine AW.cond _ (by simp -implicitDefEqProofs only [go_sem]; rfl) (fun hc => ?_) (fun hc => ?_)
   ·simp at hc
   refine AW.skip ?_
   simp only [andThen, inBlk]
   have w2 : IntKind.wrap .i64 ((k : Int) + 1) = ((k + 1 : Nat) : Int) := by rw [w64] <;> omega
   refine AW.rE (by rfl) fun K hK => ?_
   simp -implicitDefEqProofs only [go_sem, ↓reduceIte, Nat.reduceAdd, Nat.reduceEqDiff, w2]
   refine hK _ ?_; clear hK K
   refine ⟨k + 1, ⟨by omega, k2.trans sK⟩, by omega, ?_⟩
   refine Ghost.sub ?_ ?_ <;> simp -implicitDefEqProofs only [go_sem, ↓reduceIte, Nat.reduceEqDiff, reduceCtorEq, List.forall_mem_cons, List.not_mem_nil, false_implies, implies_true, and_self, List.all_cons, List.all_nil, Nat.reduceLT, labsInL, AV.labsIn]
 ·have hc2 : ((k : Int) < (e.2.length : Int)) = False := by simp; omega
  rw [List.drop_of_length_le (by omega), List.drop_of_length_le (by omega), sameTs] at k2
  rw [if_pos ⟨d1, d2, k2⟩] at sE
  refine AW.rT (by rfl) fun K hK => ?_
  simp -implicitDefEqProofs only [go_sem, ↓reduceIte, Nat.reduceAdd, Nat.reduceEqDiff, reduceCtorEq, List.length_map, hc2]
  refine hK _ ?_; clear hK K
  refine AW.cond _ (by simp -implicitDefEqProofs only [go_sem]; rfl) (fun hc => ?_) (fun hc => ?_)
  ·simp at hc
  refine AW.exit ?_
  simp only [andThen, inBlk, ↓reduceIte]
  have w2 : IntKind.wrap .i64 ((i : Int) + 1) = ((i + 1 : Nat) : Int) := by rw [w64] <;> omega
  refine AW.rE (by rfl) fun K hK => ?_
  simp -implicitDefEqProofs only [go_sem, ↓reduceIte, Nat.reduceAdd, Nat.reduceEqDiff, w2]
  refine hK _ ?_; clear hK K
  refine ⟨i + 1, ⟨by omega, e2.trans sE⟩, by omega, ?_⟩
  refine Ghost.sub ?_ ?_ <;> simp -implicitDefEqProofs only [go_sem, ↓reduceIte, Nat.reduceEqDiff, List.forall_mem_cons, List.not_mem_nil, false_implies, implies_true, and_self, List.all_cons, List.all_nil, Nat.reduceLT, labsInL, AV.labsIn]
end Go.Aw.T
namespace Go.Aw.T
open Go.Proofs
set_option linter.unusedSimpArgs false
set_option linter.unusedVariables false
end Go.Aw.T
namespace Go.Aw.T
open Go.Proofs
set_option linter.unusedSimpArgs false
set_option linter.unusedVariables false
end Go.Aw.T
namespace Go.Aw.T
open Go.Proofs
set_option linter.unusedSimpArgs false
set_option linter.unusedVariables false
end Go.Aw.T
namespace Go.Aw.T
open Go.Proofs
set_option linter.unusedSimpArgs false
set_option linter.unusedVariables false
end Go.Aw.T
namespace Go.Aw.T
open Go.Proofs
set_option linter.unusedSimpArgs false
set_option linter.unusedVariables false
def hS (b : List UInt8) (x : List Raw × Nat) : St := ⟨ofL [(0, .p (.slice (b.map encB))), (4, .own 0), (5, .p (.int .i64 (x.2 : Int)))], ofH [(0, .row 4 (liftE (x.1.map encRaw)))], 1⟩
end Go.Aw.T
namespace Go.Aw.T
open Go.Proofs
set_option linter.unusedSimpArgs false
set_option linter.unusedVariables false
theorem Ghost.nilH {nt : Fm} {s : St} {l i j sz sz' : Nat} {es : List (List AV)} {e : List AV} (hl : s.H l = some (.row sz es)) (hi : es[i]? = some e) (hj : e[j]? = some (.ex [])) :
  Ghost nt s ⟨s.T, upd (upd s.H l (some (.row sz (es.set i (e.set j (.own s.nx)))))) s.nx (some (.row sz' [])), s.nx + 1⟩ := by
 rintro w0 X I0 a w ⟨σ, I, hσ, m⟩
 have hb := m.heap.rows l _ hl
 cases hb with
 | emp h => simp at hi
 | row h hg hcur hc hs ho hr =>
  rename_i g c cur et
  obtain ⟨u, hu, hru⟩ := hr i e j _ hi hj
  have hnx := hσ s.nx (Nat.le_refl _)
  have hln : l ≠ s.nx := by rintro rfl; rw [hnx] at h; cases h
  cases hru with
  | ex he hrep =>
   rename_i ad n
   subst he
   have ext : ∀ l' s', σ l' = some s' → upd σ s.nx (some (.emp ad)) l' = some s' := fun l' s' h' => by
    rw [upd_ne _ _ (by rintro rfl; rw [hnx] at h'; cases h')]
    exact h'
   have H2 := m.heap.empty hnx ad sz'
   refine ⟨upd σ s.nx (some (.emp ad)), I, fun l' h' => ?_, m.defers, m.size, m.pins, ⟨fun l' b' h' => ?_, fun l1 l2 g s1 s2 h1 h2 => ?_, fun l' g s' h1 => ?_, H2.imm, H2.sub, H2.fr⟩, fun i' x hx => ?_⟩
   ·simp only at h'
    rw [upd_ne _ _ (by omega)]
    exact hσ l' (by omega)
   ·simp only at h'
    by_cases e1 : l' = s.nx
    ·subst e1
     rw [upd_same] at h'
     exact H2.rows s.nx b' (by rw [upd_same]; exact h')
    ·rw [upd_ne _ _ e1] at h'
     by_cases e2 : l' = l
     ·subst e2
      rw [upd_same] at h'
      injection h' with h'
      subst h'
      refine .row (by rw [List.length_set]; exact ext _ _ h) hg hcur (by rw [List.length_set]; exact hc) (fun e' he' => ?_) (fun e' he' x hx => ?_) fun i' e' j' x q1 q2 => ?_
      ·rcases List.mem_or_eq_of_mem_set he' with he' | rfl
       ·exact hs e' he'
       ·rw [List.length_set]; exact hs e (List.mem_of_getElem? hi)
      ·rcases List.mem_or_eq_of_mem_set he' with he' | rfl
       ·exact ho e' he' x hx
       ·rcases List.mem_or_eq_of_mem_set hx with hx | rfl
        ·exact ho e (List.mem_of_getElem? hi) x hx
        ·rfl
      ·rw [List.getElem?_set] at q1
       split at q1
       ·rename_i e3
        subst e3
        split at q1
        ·injection q1 with q1
         subst q1
         rw [List.getElem?_set] at q2
         split at q2
         ·rename_i e4
          subst e4
          split at q2
          ·injection q2 with q2
           subst q2
           exact ⟨_, hu, .ownE (upd_same _ _ _)⟩
          ·cases q2
         ·obtain ⟨u', hu', hr'⟩ := hr i e j' x hi q2
          exact ⟨u', hu', hr'.mono ext (fun _ h => h) (fun _ _ => rfl)⟩
        ·cases q1
       ·obtain ⟨u', hu', hr'⟩ := hr i' e' j' x q1 q2
        exact ⟨u', hu', hr'.mono ext (fun _ h => h) (fun _ _ => rfl)⟩
     ·rw [upd_ne _ _ e2] at h'
      exact H2.rows l' b' (by rw [upd_ne _ _ e1]; exact h')
   ·refine H2.inj l1 l2 g s1 s2 ?_ ?_
    ·intro h0; apply h1
     show upd (upd s.H l _) s.nx _ l1 = none
     by_cases e1 : l1 = s.nx
     ·subst e1; rw [upd_same] at h0; cases h0
     ·rw [upd_ne _ _ e1] at h0 ⊢
      by_cases e2 : l1 = l
      ·subst e2; rw [hl] at h0; cases h0
      ·rw [upd_ne _ _ e2]; exact h0
    ·intro h0; apply h2
     show upd (upd s.H l _) s.nx _ l2 = none
     by_cases e1 : l2 = s.nx
     ·subst e1; rw [upd_same] at h0; cases h0
     ·rw [upd_ne _ _ e1] at h0 ⊢
      by_cases e2 : l2 = l
      ·subst e2; rw [hl] at h0; cases h0
      ·rw [upd_ne _ _ e2]; exact h0
   ·refine H2.mine l' g s' ?_
    intro h0; apply h1
    show upd (upd s.H l _) s.nx _ l' = none
    by_cases e1 : l' = s.nx
    ·subst e1; rw [upd_same] at h0; cases h0
    ·rw [upd_ne _ _ e1] at h0 ⊢
     by_cases e2 : l' = l
     ·subst e2; rw [hl] at h0; cases h0
     ·rw [upd_ne _ _ e2]; exact h0
   ·obtain ⟨v, hv, hrv⟩ := m.tmps i' x hx
    exact ⟨v, hv, hrv.mono ext (fun _ h => h) (fun _ _ => rfl)⟩
theorem law00_RawsB (l : List Raw) (hl : l.length ≤ 1000000) : PFn Tryd.prog 66 [.slice (l.map encRaw)] (.slice (l.map encRaw)) := by
 refine PFn.of Tryd.func66 rfl (by decide) Tryd.ntmps66 Tryd.results66 (Nat.le_of_ble_eq_true rfl) ?_
 simp only [argsT]
 refine AW.rT (by rfl) fun K hK => ?_
 simp -implicitDefEqProofs only [go_sem]
 refine hK _ ?_; clear hK K
 refine AW.rT (by rfl) fun K hK => ?_
 simp -implicitDefEqProofs only [go_sem, ↓reduceIte, Nat.reduceAdd, Nat.reduceEqDiff, Nat.reduceLeDiff, reduceCtorEq]
 refine ⟨⟨liftE_len fun e he => by
   obtain ⟨x, _, rfl⟩ := List.mem_map.1 he
   rfl, liftE_one fun e he p hp => by
   obtain ⟨x, _, rfl⟩ := List.mem_map.1 he
   simp [encRaw] at hp
   rcases hp with rfl | rfl | rfl | rfl <;> rfl, by simp⟩, ⟨.inl trivial, by simp, by simp [liftE_length]; omega⟩, ?_⟩
 refine hK _ ?_; clear hK K
 refine AW.ret ?_
 simp -implicitDefEqProofs only [go_sem]
def tx (t : Tr) (i : Nat) : St := ⟨ofL [(1, .ptr 0 0 0), (2, .ptr 1 0 0), (3, .ptr 2 0 0), (4, .p (.int .i64 (i : Int)))],
 ofH [(0, .row 5 [cellsT t]), (1, .row 5 [[.p (.int .i64 0), .p (.int .i64 0), .p (.str []), .ex [], .ex []]]), (2, .row 5 [[.p (.int .i64 t.kind), .p (.int .i64 t.n), .p (.str t.s), .own 3, .p (.slice (t.rest.map encRaw))]]),
  (3, .row 2 (liftE ((t.ents.take i).map encEn)))], 4⟩
def ty (t : Tr) (i : Nat) (e : Int × List Tr) (k : Nat) : St := ⟨ofL [(1, .ptr 0 0 0), (2, .ptr 1 0 0), (3, .ptr 2 0 0), (4, .p (.int .i64 (i : Int))), (5, .ptr 4 0 0), (6, .p (.int .i64 (k : Int)))],
 ofH [(0, .row 5 [cellsT t]), (1, .row 5 [[.p (.int .i64 0), .p (.int .i64 0), .p (.str []), .ex [], .ex []]]), (2, .row 5 [[.p (.int .i64 t.kind), .p (.int .i64 t.n), .p (.str t.s), .own 3, .p (.slice (t.rest.map encRaw))]]),
  (3, .row 2 (liftE ((t.ents.take i).map encEn))), (4, .row 2 [[.p (.int .i64 e.1), .own 5]]), (5, .row 5 (liftE ((e.2.take k).map encTr)))], 6⟩
theorem thaw_lift (lb : Nat) (qs ps : List (List PV)) : (liftE ps).map (fun e => e.map (thaw1 lb qs)) = liftE ps := by
 simp [liftE, thaw1]
def tz (t : Tr) (i : Nat) (e : Int × List Tr) : St := ⟨ofL [(1, .ptr 0 0 0), (2, .ptr 1 0 0), (3, .ptr 2 0 0), (4, .p (.int .i64 (i : Int))), (5, .ptr 4 0 0)],
 ofH [(0, .row 5 [cellsT t]), (1, .row 5 [[.p (.int .i64 0), .p (.int .i64 0), .p (.str []), .ex [], .ex []]]), (2, .row 5 [[.p (.int .i64 t.kind), .p (.int .i64 t.n), .p (.str t.s), .own 3, .p (.slice (t.rest.map encRaw))]]),
  (3, .row 2 (liftE ((t.ents.take i).map encEn))), (4, .row 2 [[.p (.int .i64 e.1), .p (.slice (e.2.map encTr))]])], 5⟩
def tw (t : Tr) : St := ⟨ofL [(2, .ptr 1 0 0), (3, .ptr 2 0 0)],
 ofH [(1, .row 5 [[.p (.int .i64 0), .p (.int .i64 0), .p (.str []), .ex [], .ex []]]), (2, .row 5 [[.p (.int .i64 t.kind), .p (.int .i64 t.n), .p (.str t.s), .p (.slice (t.ents.map encEn)), .p (.slice (t.rest.map encRaw))]])], 3⟩
set_option maxRecDepth 100000 in
set_option maxHeartbeats 4000000 in
theorem law00_Tree : ∀ (t : Tr), lensT t = true → PFn Tryd.prog 26 [.agg (encTr t)] (.agg (encTr t)) := by
 intro t
 induction h : SizeOf.sizeOf t using Nat.strongRecOn generalizing t with
 | _ sz ih =>
 subst h
 intro hlt
 obtain ⟨la1, la2, la3⟩ := lensT_mk hlt
 refine PFn.of Tryd.func26 rfl (by decide) Tryd.ntmps26 Tryd.results26 (Nat.le_of_ble_eq_true rfl) ?_
 simp only [argsT]
 refine AW.rT (by rfl) fun K hK => ?_
 simp -implicitDefEqProofs only [go_sem, Nat.reduceAdd, encTr_eq]
 refine hK _ ?_; clear hK K
 refine AW.dT mixed (by rfl) (by decide +kernel) fun K hK => ?_
 simp -implicitDefEqProofs only [go_sem, ↓reduceIte, Nat.reduceAdd, Nat.reduceEqDiff, reduceCtorEq]
 refine ⟨.pure _, law00_RawsB t.rest (by omega), ?_⟩
 try simp -implicitDefEqProofs only [go_sem, ↓reduceIte, Nat.reduceAdd, Nat.reduceEqDiff, Nat.reduceLeDiff]
 refine ⟨by decide +kernel, ?_⟩
 refine hK _ ?_; clear hK K
 refine AW.seq ?_
 refine AW.rT (by rfl) fun K hK => ?_
 simp -implicitDefEqProofs only [go_sem, Nat.reduceAdd]
 refine hK _ ?_; clear hK K
 refine AW.block ?_
 refine AW.loop (tx t) (fun i => i ≤ t.ents.length) (fun i => t.ents.length - i) 0 ?_ (by simp) fun i hi => ?_
 ·refine Ghost.trans (Ghost.nilH (l := 12) (i := 0) (j := 3) (sz' := 2) rfl rfl rfl) ?_
  simp only [tx, cellsT]
  refine Ghost.ent (fun l => if l = 2 then 12 else if l = 3 then 15 else l) ?_ ?_ ?_ <;> simp -implicitDefEqProofs only [go_sem, ↓reduceIte, Nat.reduceEqDiff, reduceCtorEq, List.take_zero, List.map_nil, liftE_nil, List.set_cons_zero, List.set_cons_succ, List.forall_mem_cons, List.not_mem_nil, false_implies, implies_true, and_self, List.all_cons, List.all_nil, Nat.reduceLT, labsInL, AV.labsIn]
  rfl
 simp only [tx, cellsT]
 refine AW.seq ?_
 by_cases hil : i < t.ents.length
 ·obtain ⟨e, he⟩ : ∃ e, t.ents[i]? = some e := ⟨_, List.getElem?_eq_getElem hil⟩
  have ⟨he1, he2, he3⟩ := at_map' encEn he
  have ⟨le1, le2⟩ := lensE_at la3 he
  have hc1 : ((i : Int) < (t.ents.length : Int)) = True := by simp; omega
  refine AW.rT (by rfl) fun K hK => ?_
  simp -implicitDefEqProofs only [go_sem, ↓reduceIte, Nat.reduceAdd, Nat.reduceEqDiff, List.length_map, hc1]
  refine hK _ ?_; clear hK K
  refine AW.cond _ (by simp -implicitDefEqProofs only [go_sem]; rfl) (fun hc => ?_) (fun hc => ?_)
  rotate_left
  ·simp at hc
  refine AW.skip ?_
  simp only [andThen]
  refine AW.seq ?_
  refine AW.block ?_
  refine AW.rT (by rfl) fun K hK => ?_
  simp -implicitDefEqProofs only [go_sem, ↓reduceIte, Nat.reduceAdd, Nat.reduceEqDiff, Nat.reduceLeDiff, he1, he3, hc1, encEn, List.length_map]
  refine hK _ ?_; clear hK K
  refine AW.seq ?_
  refine AW.rT (by rfl) fun K hK => ?_
  simp -implicitDefEqProofs only [go_sem, Nat.reduceAdd]
  refine hK _ ?_; clear hK K
  refine AW.block ?_
  refine AW.loop (ty t i e) (fun k => k ≤ e.2.length) (fun k => e.2.length - k) 0 ?_ (by simp) fun k hk => ?_
  ·refine Ghost.trans (Ghost.nilH (l := 16) (i := 0) (j := 1) (sz' := 5) rfl rfl rfl) ?_
   simp only [ty, cellsT]
   refine Ghost.ent (fun l => if l = 4 then 16 else if l = 5 then 19 else l) ?_ ?_ ?_ <;> simp -implicitDefEqProofs only [go_sem, ↓reduceIte, Nat.reduceEqDiff, reduceCtorEq, List.take_zero, List.map_nil, liftE_nil, List.set_cons_zero, List.set_cons_succ, List.forall_mem_cons, List.not_mem_nil, false_implies, implies_true, and_self, map_renL_lift, labsIn_lift, List.all_cons, List.all_nil, Nat.reduceLT, labsInL, AV.labsIn]
   rfl
  simp only [ty, cellsT]
  refine AW.seq ?_
  by_cases hkl : k < e.2.length
  ·obtain ⟨x, hx⟩ : ∃ x, e.2[k]? = some x := ⟨_, List.getElem?_eq_getElem hkl⟩
   have ⟨hx1, hx2, hx3⟩ := at_map' encTr hx
   have hc2 : ((k : Int) < (e.2.length : Int)) = True := by simp; omega
   have IH := ih _ (size_ent he hx) x rfl (lensTs_at le2 hx)
   rw [encTr_eq] at IH
   refine AW.rT (by rfl) fun K hK => ?_
   simp -implicitDefEqProofs only [go_sem, ↓reduceIte, Nat.reduceAdd, Nat.reduceEqDiff, he1, he3, hc1, encEn, List.length_map, hc2]
   refine hK _ ?_; clear hK K
   refine AW.cond _ (by simp -implicitDefEqProofs only [go_sem]; rfl) (fun hc => ?_) (fun hc => ?_)
   rotate_left
   ·simp at hc
   refine AW.skip ?_
   simp only [andThen]
   refine AW.seq ?_
   refine AW.block ?_
   refine AW.dE mixed (by rfl) (by decide +kernel) fun K hK => ?_
   simp -implicitDefEqProofs only [go_sem, ↓reduceIte, Nat.reduceAdd, Nat.reduceEqDiff, Nat.reduceLeDiff, reduceCtorEq, he1, he3, hc1, encEn, List.length_map, hc2, hx1, hx3, encTr_eq]
   refine ⟨.pure _, IH, ?_⟩
   try simp -implicitDefEqProofs only [go_sem, ↓reduceIte, Nat.reduceAdd, Nat.reduceMul, Nat.reduceEqDiff, Nat.reduceLeDiff, reduceCtorEq]
   refine ⟨⟨by simp, by simp [oneAll, AV.one, PV.one], by simp⟩, by simp [liftE_length]; omega, by decide +kernel, ?_⟩
   refine hK _ ?_; clear hK K
   have w1 : IntKind.wrap .i64 ((k : Int) + 1) = ((k + 1 : Nat) : Int) := by rw [w64] <;> omega
   have e7 : liftE ((e.2.take k).map encTr) ++ [[AV.p (.int .i64 x.kind), .p (.int .i64 x.n), .p (.str x.s), .p (.slice (x.ents.map encEn)), .p (.slice (x.rest.map encRaw))]] = liftE ((e.2.take (k + 1)).map encTr) := by
    rw [List.take_add_one, hx]
    simp [liftE, encTr_eq]
   refine AW.rE (by rfl) fun K hK => ?_
   simp -implicitDefEqProofs only [go_sem, ↓reduceIte, Nat.reduceAdd, Nat.reduceEqDiff, w1]
   refine hK _ ?_; clear hK K
   refine ⟨k + 1, by omega, by omega, ?_⟩
   refine Ghost.ent (fun l => if l = 5 then 28 else l) ?_ ?_ ?_ <;> simp -implicitDefEqProofs only [go_sem, ↓reduceIte, Nat.reduceEqDiff, reduceCtorEq, e7, List.forall_mem_cons, List.not_mem_nil, false_implies, implies_true, and_self, map_renL_lift, labsIn_lift, List.all_cons, List.all_nil, Nat.reduceLT, labsInL, AV.labsIn]
  ·have hc2 : ((k : Int) < (e.2.length : Int)) = False := by simp; omega
   have hk' : k = e.2.length := by omega
   subst hk'
   refine AW.rT (by rfl) fun K hK => ?_
   simp -implicitDefEqProofs only [go_sem, ↓reduceIte, Nat.reduceAdd, Nat.reduceEqDiff, he1, he3, hc1, encEn, List.length_map, hc2]
   refine hK _ ?_; clear hK K
   refine AW.cond _ (by simp -implicitDefEqProofs only [go_sem]; rfl) (fun hc => ?_) (fun hc => ?_)
   ·simp at hc
   refine AW.exit ?_
   simp only [andThen, inBlk, ↓reduceIte]
   refine AW.ghost (s' := tz t i e) (Ghost.trans (Ghost.freeze (lb := 5) (ps := (e.2.take e.2.length).map encTr) rfl (unlift_liftE _)) ?_) ?_
   ·simp only [tz, cellsT]
    refine Ghost.sub ?_ ?_ <;> simp -implicitDefEqProofs only [go_sem, ↓reduceIte, Nat.reduceEqDiff, reduceCtorEq, thaw, thaw1, Option.map_some, List.take_length, List.map_cons, List.map_nil, thaw_lift, List.forall_mem_cons, List.not_mem_nil, false_implies, implies_true, and_self, labsIn_lift, List.all_cons, List.all_nil, Nat.reduceLT, labsInL, AV.labsIn]
   simp only [tz, cellsT]
   refine AW.rE (by rfl) fun K hK => ?_
   simp -implicitDefEqProofs only [go_sem, ↓reduceIte, Nat.reduceAdd, Nat.reduceMul, Nat.reduceEqDiff, Nat.reduceLeDiff, reduceCtorEq]
   refine ⟨⟨by simp, by simp [oneAll, AV.one, PV.one], by simp⟩, by simp [liftE_length]; omega, ?_⟩
   refine hK _ ?_; clear hK K
   simp only [andThen, inBlk]
   have w1 : IntKind.wrap .i64 ((i : Int) + 1) = ((i + 1 : Nat) : Int) := by rw [w64] <;> omega
   have e8 : liftE ((t.ents.take i).map encEn) ++ [[AV.p (.int .i64 e.1), .p (.slice (e.2.map encTr))]] = liftE ((t.ents.take (i + 1)).map encEn) := by
    rw [List.take_add_one, he]
    simp [liftE, encEn]
   refine AW.rE (by rfl) fun K hK => ?_
   simp -implicitDefEqProofs only [go_sem, ↓reduceIte, Nat.reduceAdd, Nat.reduceEqDiff, w1]
   refine hK _ ?_; clear hK K
   refine ⟨i + 1, by omega, by omega, ?_⟩
   refine Ghost.ent (fun l => if l = 3 then 9 else l) ?_ ?_ ?_ <;> simp -implicitDefEqProofs only [go_sem, ↓reduceIte, Nat.reduceEqDiff, reduceCtorEq, e8, List.forall_mem_cons, List.not_mem_nil, false_implies, implies_true, and_self, map_renL_lift, labsIn_lift, List.all_cons, List.all_nil, Nat.reduceLT, labsInL, AV.labsIn]
 ·have hc1 : ((i : Int) < (t.ents.length : Int)) = False := by simp; omega
  have hi' : i = t.ents.length := by omega
  subst hi'
  refine AW.rT (by rfl) fun K hK => ?_
  simp -implicitDefEqProofs only [go_sem, ↓reduceIte, Nat.reduceAdd, Nat.reduceEqDiff, List.length_map, hc1]
  refine hK _ ?_; clear hK K
  refine AW.cond _ (by simp -implicitDefEqProofs only [go_sem]; rfl) (fun hc => ?_) (fun hc => ?_)
  ·simp at hc
  refine AW.exit ?_
  simp only [andThen, inBlk, ↓reduceIte]
  refine AW.ghost (s' := tw t) (Ghost.trans (Ghost.freeze (lb := 3) (ps := (t.ents.take t.ents.length).map encEn) rfl (unlift_liftE _)) ?_) ?_
  ·simp only [tw]
   refine Ghost.sub ?_ ?_ <;> simp -implicitDefEqProofs only [go_sem, ↓reduceIte, Nat.reduceEqDiff, reduceCtorEq, thaw, thaw1, Option.map_some, List.take_length, List.map_cons, List.map_nil, List.forall_mem_cons, List.not_mem_nil, false_implies, implies_true, and_self, List.all_cons, List.all_nil, Nat.reduceLT, labsInL, AV.labsIn]
  simp only [tw]
  refine AW.rT (by rfl) fun K hK => ?_
  simp -implicitDefEqProofs only [go_sem, ↓reduceIte, Nat.reduceAdd, Nat.reduceEqDiff, Nat.reduceLeDiff]
  refine hK _ ?_; clear hK K
  refine AW.ret ?_
  simp -implicitDefEqProofs only [go_sem, ↓reduceIte, Nat.reduceAdd, Nat.reduceEqDiff, Nat.reduceLeDiff, encTr_eq]
end Go.Aw.T
namespace Go.Aw.T
open Go.Proofs
set_option linter.unusedSimpArgs false
set_option linter.unusedVariables false
mutual
def dT : Tr → Nat → Nat
 | .mk k _ _ es _, m => if k ≠ 3 ∨ m = 0 then 0 else dE es (m - 1) 0 + 1
def dE : List (Int × List Tr) → Nat → Nat → Nat
 | [], _, d => d
 | (_, l) :: r, m, d => dE r m (dTs l m d)
def dTs : List Tr → Nat → Nat → Nat
 | [], _, d => d
 | x :: l, m, d => dTs l m (max d (dT x m))
end
mutual
theorem dT_le : ∀ (t : Tr) (m : Nat), dT t m ≤ m
 | .mk k _ _ es _, m => by
  rw [dT]
  split
  ·omega
  ·rename_i h
   have := dE_le es (m - 1) 0
   omega
theorem dE_le : ∀ (es : List (Int × List Tr)) (m d : Nat), dE es m d ≤ max d m
 | [], m, d => by rw [dE]; omega
 | (_, l) :: r, m, d => by
  rw [dE]
  have h1 := dE_le r m (dTs l m d)
  have h2 := dTs_le l m d
  omega
theorem dTs_le : ∀ (l : List Tr) (m d : Nat), dTs l m d ≤ max d m
 | [], m, d => by rw [dTs]; omega
 | x :: l, m, d => by
  rw [dTs]
  have h1 := dTs_le l m (max d (dT x m))
  have h2 := dT_le x m
  omega
end
theorem dT_mk (t : Tr) (m : Nat) : dT t m = if t.kind ≠ 3 ∨ m = 0 then 0 else dE t.ents (m - 1) 0 + 1 := by
 cases t; rw [dT]; rfl
theorem dE_at {es : List (Int × List Tr)} {i : Nat} {e : Int × List Tr} (h : es[i]? = some e) (m d : Nat) : dE (es.drop i) m d = dE (es.drop (i + 1)) m (dTs e.2 m d) := by
 rw [List.drop_eq_getElem_cons (List.getElem?_eq_some_iff.1 h).1, (List.getElem?_eq_some_iff.1 h).2]
 obtain ⟨a, l⟩ := e
 rw [dE]
theorem dTs_at {l : List Tr} {k : Nat} {x : Tr} (h : l[k]? = some x) (m d : Nat) : dTs (l.drop k) m d = dTs (l.drop (k + 1)) m (max d (dT x m)) := by
 rw [List.drop_eq_getElem_cons (List.getElem?_eq_some_iff.1 h).1, (List.getElem?_eq_some_iff.1 h).2, dTs]
def dS (t : Tr) (m d : Nat) (l : List (Nat × AV)) : St := ⟨ofL ([(1, .p (.int .i64 (m : Int))), (2, .ptr 0 0 0), (5, .p (.int .i64 (d : Int)))] ++ l), ofH [(0, .row 5 [cellsT t])], 1⟩
set_option maxRecDepth 100000 in
set_option maxHeartbeats 4000000 in
theorem value_deep : ∀ (t : Tr) (m : Nat), lensT t = true → m ≤ 1000 → PFn Tryd.prog 128 [.agg (encTr t), .int .i64 (m : Int)] (.int .i64 (dT t m : Int)) := by
 intro t
 induction h : SizeOf.sizeOf t using Nat.strongRecOn generalizing t with
 | _ sz ih =>
 subst h
 intro m hlt hm
 obtain ⟨la1, la2, la3⟩ := lensT_mk hlt
 have sT := dT_mk t m
 refine PFn.of Tryd.func128 rfl (by decide) Tryd.ntmps128 Tryd.results128 (Nat.le_of_ble_eq_true rfl) ?_
 simp only [argsT]
 refine AW.rT (by rfl) fun K hK => ?_
 simp -implicitDefEqProofs only [go_sem, Nat.reduceAdd, encTr_eq]
 refine hK _ ?_; clear hK K
 refine AW.seq ?_
 by_cases c1 : t.kind = 3
 case neg =>
  have b1 : (t.kind != 3) = true := by simpa using c1
  rw [if_pos (.inl c1)] at sT
  refine AW.rT (by rfl) fun K hK => ?_
  simp -implicitDefEqProofs only [go_sem, ↓reduceIte, Nat.reduceAdd, Nat.reduceEqDiff, b1]
  refine hK _ ?_; clear hK K
  refine AW.cond _ (by simp -implicitDefEqProofs only [go_sem]; rfl) (fun hc => ?_) (fun hc => ?_)
  ·refine AW.rT (by rfl) fun K hK => ?_
   simp -implicitDefEqProofs only [go_sem, Nat.reduceAdd]
   refine hK _ ?_; clear hK K
   refine AW.ret ?_
   simp -implicitDefEqProofs only [go_sem, sT]
   rfl
  ·simp at hc
 have b1 : (t.kind != 3) = false := by simpa using c1
 by_cases c2 : m = 0
 case pos =>
  have b2 : ((m : Int) == 0) = true := by simp; exact c2
  rw [if_pos (.inr c2)] at sT
  refine AW.rT (by rfl) fun K hK => ?_
  simp -implicitDefEqProofs only [go_sem, ↓reduceIte, Nat.reduceAdd, Nat.reduceEqDiff, b1, b2]
  refine hK _ ?_; clear hK K
  refine AW.cond _ (by simp -implicitDefEqProofs only [go_sem]; rfl) (fun hc => ?_) (fun hc => ?_)
  ·refine AW.rT (by rfl) fun K hK => ?_
   simp -implicitDefEqProofs only [go_sem, Nat.reduceAdd]
   refine hK _ ?_; clear hK K
   refine AW.ret ?_
   simp -implicitDefEqProofs only [go_sem, sT]
   rfl
  ·simp at hc
 have b2 : ((m : Int) == 0) = false := by simp; exact c2
 rw [if_neg (by omega)] at sT
 refine AW.rT (by rfl) fun K hK => ?_
 simp -implicitDefEqProofs only [go_sem, ↓reduceIte, Nat.reduceAdd, Nat.reduceEqDiff, b1, b2]
 refine hK _ ?_; clear hK K
 refine AW.cond _ (by simp -implicitDefEqProofs only [go_sem]; rfl) (fun hc => ?_) (fun hc => ?_)
 ·simp at hc
 refine AW.skip ?_
 simp only [andThen]
 refine AW.rT (by rfl) fun K hK => ?_
 simp -implicitDefEqProofs only [go_sem, Nat.reduceAdd]
 refine hK _ ?_; clear hK K
 refine AW.seq ?_
 refine AW.rT (by rfl) fun K hK => ?_
 simp -implicitDefEqProofs only [go_sem, ↓reduceIte, Nat.reduceAdd, Nat.reduceEqDiff, List.length_map]
 refine hK _ ?_; clear hK K
 refine AW.block ?_
 refine AW.loop (fun x : Nat × Nat => dS t m x.2 [(18, .p (.slice (t.ents.map encEn))), (19, .p (.int .i64 (t.ents.length : Int))), (20, .p (.int .i64 (x.1 : Int)))]) (fun x => x.1 ≤ t.ents.length ∧ x.2 ≤ 1000 ∧ dE t.ents (m - 1) 0 = dE (t.ents.drop x.1) (m - 1) x.2) (fun x => t.ents.length - x.1) (0, 0) ?_ ⟨by simp, by simp, by rw [List.drop_zero]⟩ fun x hx => ?_
 ·simp only [dS, cellsT, List.cons_append, List.nil_append]
  refine Ghost.sub ?_ ?_ <;> simp -implicitDefEqProofs only [go_sem, ↓reduceIte, Nat.reduceEqDiff, List.forall_mem_cons, List.not_mem_nil, false_implies, implies_true, and_self, List.all_cons, List.all_nil, Nat.reduceLT, labsInL, AV.labsIn]
  rfl
 obtain ⟨i, d⟩ := x
 obtain ⟨e1, e2, e3⟩ := hx
 dsimp only at e1 e2 e3
 simp only [dS, cellsT, List.cons_append, List.nil_append]
 by_cases hil : i < t.ents.length
 case neg =>
  have hc1 : ((i : Int) < (t.ents.length : Int)) = False := by simp; omega
  rw [List.drop_of_length_le (by omega), dE] at e3
  refine AW.rT (by rfl) fun K hK => ?_
  simp -implicitDefEqProofs only [go_sem, ↓reduceIte, Nat.reduceAdd, Nat.reduceEqDiff, hc1]
  refine hK _ ?_; clear hK K
  refine AW.seq ?_
  refine AW.cond _ (by simp -implicitDefEqProofs only [go_sem]; rfl) (fun hc => ?_) (fun hc => ?_)
  ·simp at hc
  refine AW.exit ?_
  simp only [andThen, inBlk, ↓reduceIte]
  have w1 : IntKind.wrap .i64 ((d : Int) + 1) = ((d + 1 : Nat) : Int) := by rw [w64] <;> omega
  refine AW.rT (by rfl) fun K hK => ?_
  simp -implicitDefEqProofs only [go_sem, ↓reduceIte, Nat.reduceAdd, Nat.reduceEqDiff, w1]
  refine hK _ ?_; clear hK K
  refine AW.ret ?_
  simp -implicitDefEqProofs only [go_sem, sT, e3]
 obtain ⟨e, he⟩ : ∃ e, t.ents[i]? = some e := ⟨_, List.getElem?_eq_getElem hil⟩
 have ⟨he1, he2, he3⟩ := at_map' encEn he
 have ⟨le1, le2⟩ := lensE_at la3 he
 have hc1 : ((i : Int) < (t.ents.length : Int)) = True := by simp; omega
 have sE := dE_at he (m - 1) d
 refine AW.rT (by rfl) fun K hK => ?_
 simp -implicitDefEqProofs only [go_sem, ↓reduceIte, Nat.reduceAdd, Nat.reduceEqDiff, hc1]
 refine hK _ ?_; clear hK K
 refine AW.seq ?_
 refine AW.cond _ (by simp -implicitDefEqProofs only [go_sem]; rfl) (fun hc => ?_) (fun hc => ?_)
 rotate_left
 ·simp at hc
 refine AW.skip ?_
 simp only [andThen]
 refine AW.seq ?_
 refine AW.block ?_
 refine AW.rT (by rfl) fun K hK => ?_
 simp -implicitDefEqProofs only [go_sem, ↓reduceIte, Nat.reduceAdd, Nat.reduceEqDiff, Nat.reduceLeDiff, he1, he3, hc1, encEn, List.length_map]
 refine hK _ ?_; clear hK K
 refine AW.rT (by rfl) fun K hK => ?_
 simp -implicitDefEqProofs only [go_sem, Nat.reduceAdd, List.length_map]
 refine hK _ ?_; clear hK K
 refine AW.block ?_
 refine AW.loop (fun y : Nat × Nat => dS t m y.2 [(18, .p (.slice (t.ents.map encEn))), (19, .p (.int .i64 (t.ents.length : Int))), (20, .p (.int .i64 (i : Int))), (25, .p (.slice (e.2.map encTr))), (26, .p (.int .i64 (e.2.length : Int))), (27, .p (.int .i64 (y.1 : Int)))])
  (fun y => y.1 ≤ e.2.length ∧ y.2 ≤ 1000 ∧ dTs e.2 (m - 1) d = dTs (e.2.drop y.1) (m - 1) y.2) (fun y => e.2.length - y.1) (0, d) ?_ ⟨by simp, e2, by rw [List.drop_zero]⟩ fun y hy => ?_
 ·simp only [dS, cellsT, List.cons_append, List.nil_append]
  refine Ghost.sub ?_ ?_ <;> simp -implicitDefEqProofs only [go_sem, ↓reduceIte, Nat.reduceEqDiff, reduceCtorEq, List.forall_mem_cons, List.not_mem_nil, false_implies, implies_true, and_self, List.all_cons, List.all_nil, Nat.reduceLT, labsInL, AV.labsIn]
  rfl
 obtain ⟨k, d'⟩ := y
 obtain ⟨f1, f2, f3⟩ := hy
 dsimp only at f1 f2 f3
 simp only [dS, cellsT, List.cons_append, List.nil_append]
 by_cases hkl : k < e.2.length
 ·obtain ⟨x, hx⟩ : ∃ x, e.2[k]? = some x := ⟨_, List.getElem?_eq_getElem hkl⟩
  have ⟨hx1, hx2, hx3⟩ := at_map' encTr hx
  have hc2 : ((k : Int) < (e.2.length : Int)) = True := by simp; omega
  have sK := dTs_at hx (m - 1) d'
  have IH := ih _ (size_ent he hx) x rfl (m - 1) (lensTs_at le2 hx) (by omega)
  rw [encTr_eq] at IH
  have dl := dT_le x (m - 1)
  refine AW.rT (by rfl) fun K hK => ?_
  simp -implicitDefEqProofs only [go_sem, ↓reduceIte, Nat.reduceAdd, Nat.reduceEqDiff, hc2]
  refine hK _ ?_; clear hK K
  refine AW.seq ?_
  refine AW.cond _ (by simp -implicitDefEqProofs only [go_sem]; rfl) (fun hc => ?_) (fun hc => ?_)
  rotate_left
  ·simp at hc
  refine AW.skip ?_
  simp only [andThen]
  refine AW.seq ?_
  refine AW.block ?_
  refine AW.rT (by rfl) fun K hK => ?_
  simp -implicitDefEqProofs only [go_sem, ↓reduceIte, Nat.reduceAdd, Nat.reduceEqDiff, Nat.reduceLeDiff, hx1, hx3, hc2, encTr_eq, List.length_map]
  refine hK _ ?_; clear hK K
  have wm : IntKind.wrap .i64 ((m : Int) - 1) = ((m - 1 : Nat) : Int) := by rw [w64] <;> omega
  refine AW.rE (by rfl) fun K hK => ?_
  simp -implicitDefEqProofs only [go_sem, ↓reduceIte, Nat.reduceAdd, Nat.reduceEqDiff, Nat.reduceLeDiff, wm]
  refine ⟨.pure _, IH, ?_⟩
  try simp -implicitDefEqProofs only [go_sem, ↓reduceIte, Nat.reduceAdd, Nat.reduceEqDiff]
  have wx : (if ((dT x (m - 1) : Nat) : Int) > (d' : Int) then ((dT x (m - 1) : Nat) : Int) else (d' : Int)) = ((max d' (dT x (m - 1)) : Nat) : Int) := by
   split <;> omega
  simp -implicitDefEqProofs only [go_sem, wx]
  refine hK _ ?_; clear hK K
  simp only [andThen, inBlk]
  have w1 : IntKind.wrap .i64 ((k : Int) + 1) = ((k + 1 : Nat) : Int) := by rw [w64] <;> omega
  refine AW.rE (by rfl) fun K hK => ?_
  simp -implicitDefEqProofs only [go_sem, ↓reduceIte, Nat.reduceAdd, Nat.reduceEqDiff, w1]
  refine hK _ ?_; clear hK K
  refine ⟨(k + 1, max d' (dT x (m - 1))), ⟨by show k + 1 ≤ e.2.length; omega, by show max d' (dT x (m - 1)) ≤ 1000; omega, f3.trans sK⟩, by show e.2.length - (k + 1) < e.2.length - k; omega, ?_⟩
  refine Ghost.sub ?_ ?_ <;> simp -implicitDefEqProofs only [go_sem, ↓reduceIte, Nat.reduceEqDiff, reduceCtorEq, List.forall_mem_cons, List.not_mem_nil, false_implies, implies_true, and_self, List.all_cons, List.all_nil, Nat.reduceLT, labsInL, AV.labsIn]
 ·have hc2 : ((k : Int) < (e.2.length : Int)) = False := by simp; omega
  rw [List.drop_of_length_le (by omega), dTs] at f3
  refine AW.rT (by rfl) fun K hK => ?_
  simp -implicitDefEqProofs only [go_sem, ↓reduceIte, Nat.reduceAdd, Nat.reduceEqDiff, hc2]
  refine hK _ ?_; clear hK K
  refine AW.seq ?_
  refine AW.cond _ (by simp -implicitDefEqProofs only [go_sem]; rfl) (fun hc => ?_) (fun hc => ?_)
  ·simp at hc
  refine AW.exit ?_
  simp only [andThen, inBlk, ↓reduceIte]
  have w1 : IntKind.wrap .i64 ((i : Int) + 1) = ((i + 1 : Nat) : Int) := by rw [w64] <;> omega
  refine AW.rE (by rfl) fun K hK => ?_
  simp -implicitDefEqProofs only [go_sem, ↓reduceIte, Nat.reduceAdd, Nat.reduceEqDiff, w1]
  refine hK _ ?_; clear hK K
  refine ⟨(i + 1, d'), ⟨by show i + 1 ≤ t.ents.length; omega, f2, by show _ = dE (t.ents.drop (i + 1)) (m - 1) d'; rw [e3, sE, f3]⟩, by show t.ents.length - (i + 1) < t.ents.length - i; omega, ?_⟩
  refine Ghost.sub ?_ ?_ <;> simp -implicitDefEqProofs only [go_sem, ↓reduceIte, Nat.reduceEqDiff, List.forall_mem_cons, List.not_mem_nil, false_implies, implies_true, and_self, List.all_cons, List.all_nil, Nat.reduceLT, labsInL, AV.labsIn]
theorem value_Depth (t : Tr) (hl : lensT t = true) : PFn Tryd.prog 96 [.agg (encTr t)] (.int .i64 (dT t 101 : Int)) := by
 have := value_deep t 101 hl (by decide)
 rw [encTr_eq] at this
 refine PFn.of Tryd.func96 rfl (by decide) Tryd.ntmps96 Tryd.results96 (Nat.le_of_ble_eq_true rfl) ?_
 simp only [argsT]
 refine AW.rT (by rfl) fun K hK => ?_
 simp -implicitDefEqProofs only [go_sem, Nat.reduceAdd, encTr_eq]
 refine hK _ ?_; clear hK K
 refine AW.rT (by rfl) fun K hK => ?_
 simp -implicitDefEqProofs only [go_sem, ↓reduceIte, Nat.reduceAdd, Nat.reduceEqDiff, Nat.reduceLeDiff]
 refine ⟨.pure _, this, ?_⟩
 try simp -implicitDefEqProofs only [go_sem, Nat.reduceAdd]
 refine hK _ ?_; clear hK K
 refine AW.ret ?_
 simp -implicitDefEqProofs only [go_sem]
end Go.Aw.T
namespace Go.Aw.T
open Go.Proofs
set_option linter.unusedSimpArgs false
set_option linter.unusedVariables false
def headK : List Tr → Int
 | [] => 0
 | x :: _ => x.kind
def restT (es : List (Int × List Tr)) (rest : List Raw) : Bool := rest.all (fun r => checkR r && es.all (fun e => e.1 != r.tag)) && rising rest
mutual
def rightT : Tr → Bool
 | .mk k n s es rest => if k = 1 then decide (s = []) && es.isEmpty && decide (rest = []) else if k = 2 then decide (n = 0) && es.isEmpty && decide (rest = []) else if k = 3 then decide (n = 0) && decide (s = []) && rightE es 0 && restT es rest else false
def rightE : List (Int × List Tr) → Int → Bool
 | [], _ => true
 | (t, l) :: r, last => if t ≤ last ∨ 500 < t ∨ l.length < 1 ∨ 64 < l.length then false else if rightTs l (headK l) = true then rightE r t else false
def rightTs : List Tr → Int → Bool
 | [], _ => true
 | x :: l, k => if x.kind ≠ k then false else if rightT x = true then rightTs l k else false
end
theorem rightT_mk (t : Tr) : rightT t = if t.kind = 1 then decide (t.s = []) && t.ents.isEmpty && decide (t.rest = []) else if t.kind = 2 then decide (t.n = 0) && t.ents.isEmpty && decide (t.rest = []) else if t.kind = 3 then decide (t.n = 0) && decide (t.s = []) && rightE t.ents 0 && restT t.ents t.rest else false := by
 cases t; rw [rightT]; rfl
theorem rightE_at {es : List (Int × List Tr)} {i : Nat} {e : Int × List Tr} (h : es[i]? = some e) (last : Int) :
  rightE (es.drop i) last = if e.1 ≤ last ∨ 500 < e.1 ∨ e.2.length < 1 ∨ 64 < e.2.length then false else if rightTs e.2 (headK e.2) = true then rightE (es.drop (i + 1)) e.1 else false := by
 rw [List.drop_eq_getElem_cons (List.getElem?_eq_some_iff.1 h).1, (List.getElem?_eq_some_iff.1 h).2]
 obtain ⟨a, l⟩ := e
 rw [rightE]
theorem rightTs_at {l : List Tr} {k : Nat} {x : Tr} (h : l[k]? = some x) (c : Int) : rightTs (l.drop k) c = if x.kind ≠ c then false else if rightT x = true then rightTs (l.drop (k + 1)) c else false := by
 rw [List.drop_eq_getElem_cons (List.getElem?_eq_some_iff.1 h).1, (List.getElem?_eq_some_iff.1 h).2, rightTs]
def subOK (f : FuncId) (es : List (Int × List Tr)) : Prop := ∀ (i : Nat) e (k : Nat) x, es[i]? = some e → e.2[k]? = some x → PFn Tryd.prog f [.agg (encTr x)] (.bool (rightT x))
def eS (t : Tr) (i : Nat) (last : Int) : St := ⟨ofL [(1, .ptr 0 0 0), (3, .p (.int .i64 last)), (9, .p (.slice (t.ents.map encEn))), (10, .p (.int .i64 (t.ents.length : Int))), (11, .p (.int .i64 (i : Int)))], ofH [(0, .row 5 [cellsT t])], 1⟩
def eT (t : Tr) (i : Nat) (e : Int × List Tr) (k : Nat) : St := ⟨ofL [(1, .ptr 0 0 0), (3, .p (.int .i64 e.1)), (5, .ptr 1 0 0), (9, .p (.slice (t.ents.map encEn))), (10, .p (.int .i64 (t.ents.length : Int))), (11, .p (.int .i64 (i : Int))), (39, .p (.slice (e.2.map encTr))), (40, .p (.int .i64 (e.2.length : Int))), (41, .p (.int .i64 (k : Int)))],
 ofH [(0, .row 5 [cellsT t]), (1, .row 2 [[.p (.int .i64 e.1), .p (.slice (e.2.map encTr))]])], 2⟩
set_option maxRecDepth 100000 in
set_option maxHeartbeats 4000000 in
theorem value_entries (t : Tr) (hlt : lensT t = true) (ih : subOK 97 t.ents) : PFn Tryd.prog 129 [.agg (encTr t)] (.bool (rightE t.ents 0)) := by
 obtain ⟨la1, la2, la3⟩ := lensT_mk hlt
 refine PFn.of Tryd.func129 rfl (by decide) Tryd.ntmps129 Tryd.results129 (Nat.le_of_ble_eq_true rfl) ?_
 simp only [argsT]
 refine AW.rT (by rfl) fun K hK => ?_
 simp -implicitDefEqProofs only [go_sem, Nat.reduceAdd, encTr_eq]
 refine hK _ ?_; clear hK K
 refine AW.rT (by rfl) fun K hK => ?_
 simp -implicitDefEqProofs only [go_sem, Nat.reduceAdd]
 refine hK _ ?_; clear hK K
 refine AW.seq ?_
 refine AW.rT (by rfl) fun K hK => ?_
 simp -implicitDefEqProofs only [go_sem, ↓reduceIte, Nat.reduceAdd, Nat.reduceEqDiff, List.length_map]
 refine hK _ ?_; clear hK K
 refine AW.block ?_
 refine AW.loop (fun x : Nat × Int => eS t x.1 x.2) (fun x => x.1 ≤ t.ents.length ∧ rightE t.ents 0 = rightE (t.ents.drop x.1) x.2) (fun x => t.ents.length - x.1) (0, 0) ?_ ⟨by simp, by rw [List.drop_zero]⟩ fun x hx => ?_
 ·simp only [eS, cellsT]
  refine Ghost.sub ?_ ?_ <;> simp -implicitDefEqProofs only [go_sem, ↓reduceIte, Nat.reduceEqDiff, List.forall_mem_cons, List.not_mem_nil, false_implies, implies_true, and_self, List.all_cons, List.all_nil, Nat.reduceLT, labsInL, AV.labsIn]
  rfl
 obtain ⟨i, last⟩ := x
 obtain ⟨e1, e2⟩ := hx
 dsimp only at e1 e2
 simp only [eS, cellsT]
 by_cases hil : i < t.ents.length
 case neg =>
  have hc1 : ((i : Int) < (t.ents.length : Int)) = False := by simp; omega
  rw [List.drop_of_length_le (by omega), rightE] at e2
  refine AW.rT (by rfl) fun K hK => ?_
  simp -implicitDefEqProofs only [go_sem, ↓reduceIte, Nat.reduceAdd, Nat.reduceEqDiff, hc1]
  refine hK _ ?_; clear hK K
  refine AW.seq ?_
  refine AW.cond _ (by simp -implicitDefEqProofs only [go_sem]; rfl) (fun hc => ?_) (fun hc => ?_)
  ·simp at hc
  refine AW.exit ?_
  simp only [andThen, inBlk, ↓reduceIte]
  refine AW.rT (by rfl) fun K hK => ?_
  simp -implicitDefEqProofs only [go_sem, Nat.reduceAdd]
  refine hK _ ?_; clear hK K
  refine AW.ret ?_
  simp -implicitDefEqProofs only [go_sem, e2]
 obtain ⟨e, he⟩ : ∃ e, t.ents[i]? = some e := ⟨_, List.getElem?_eq_getElem hil⟩
 have ⟨he1, he2, he3⟩ := at_map' encEn he
 have ⟨le1, le2⟩ := lensE_at la3 he
 have hc1 : ((i : Int) < (t.ents.length : Int)) = True := by simp; omega
 have sE := rightE_at he last
 refine AW.rT (by rfl) fun K hK => ?_
 simp -implicitDefEqProofs only [go_sem, ↓reduceIte, Nat.reduceAdd, Nat.reduceEqDiff, hc1]
 refine hK _ ?_; clear hK K
 refine AW.seq ?_
 refine AW.cond _ (by simp -implicitDefEqProofs only [go_sem]; rfl) (fun hc => ?_) (fun hc => ?_)
 rotate_left
 ·simp at hc
 refine AW.skip ?_
 simp only [andThen]
 refine AW.seq ?_
 refine AW.block ?_
 refine AW.rT (by rfl) fun K hK => ?_
 simp -implicitDefEqProofs only [go_sem, ↓reduceIte, Nat.reduceAdd, Nat.reduceEqDiff, Nat.reduceLeDiff, he1, he3, hc1, encEn, List.length_map]
 refine hK _ ?_; clear hK K
 refine AW.seq ?_
 by_cases d1 : e.1 ≤ last
 ·rw [if_pos (.inl d1)] at sE
  have HH := e2.trans sE
  refine AW.rT (by rfl) fun K hK => ?_
  simp -implicitDefEqProofs only [go_sem, ↓reduceIte, Nat.reduceAdd, Nat.reduceEqDiff, d1]
  refine hK _ ?_; clear hK K
  refine AW.cond _ (by simp -implicitDefEqProofs only [go_sem]; rfl) (fun hc => ?_) (fun hc => ?_)
  ·refine AW.rT (by rfl) fun K hK => ?_
   simp -implicitDefEqProofs only [go_sem, Nat.reduceAdd]
   refine hK _ ?_; clear hK K
   refine AW.ret ?_
   simp -implicitDefEqProofs only [go_sem, HH]
  ·simp at hc
 by_cases d2 : 500 < e.1
 ·have b2 : (e.1 > 500) = True := by simp; omega
  rw [if_pos (.inr (.inl d2))] at sE
  have HH := e2.trans sE
  refine AW.rT (by rfl) fun K hK => ?_
  simp -implicitDefEqProofs only [go_sem, ↓reduceIte, Nat.reduceAdd, Nat.reduceEqDiff, d1, b2]
  refine hK _ ?_; clear hK K
  refine AW.cond _ (by simp -implicitDefEqProofs only [go_sem]; rfl) (fun hc => ?_) (fun hc => ?_)
  ·refine AW.rT (by rfl) fun K hK => ?_
   simp -implicitDefEqProofs only [go_sem, Nat.reduceAdd]
   refine hK _ ?_; clear hK K
   refine AW.ret ?_
   simp -implicitDefEqProofs only [go_sem, HH]
  ·simp at hc
 have b2 : (e.1 > 500) = False := by simp; omega
 by_cases d3 : e.2.length < 1
 ·have b3 : ((e.2.length : Int) < 1) = True := by simp; omega
  rw [if_pos (.inr (.inr (.inl d3)))] at sE
  have HH := e2.trans sE
  refine AW.rT (by rfl) fun K hK => ?_
  simp -implicitDefEqProofs only [go_sem, ↓reduceIte, Nat.reduceAdd, Nat.reduceEqDiff, d1, b2, b3, List.length_map]
  refine hK _ ?_; clear hK K
  refine AW.cond _ (by simp -implicitDefEqProofs only [go_sem]; rfl) (fun hc => ?_) (fun hc => ?_)
  ·refine AW.rT (by rfl) fun K hK => ?_
   simp -implicitDefEqProofs only [go_sem, Nat.reduceAdd]
   refine hK _ ?_; clear hK K
   refine AW.ret ?_
   simp -implicitDefEqProofs only [go_sem, HH]
  ·simp at hc
 have b3 : ((e.2.length : Int) < 1) = False := by simp; omega
 by_cases d4 : 64 < e.2.length
 ·have b4 : ((e.2.length : Int) > 64) = True := by simp; omega
  rw [if_pos (.inr (.inr (.inr d4)))] at sE
  have HH := e2.trans sE
  refine AW.rT (by rfl) fun K hK => ?_
  simp -implicitDefEqProofs only [go_sem, ↓reduceIte, Nat.reduceAdd, Nat.reduceEqDiff, d1, b2, b3, b4, List.length_map]
  refine hK _ ?_; clear hK K
  refine AW.cond _ (by simp -implicitDefEqProofs only [go_sem]; rfl) (fun hc => ?_) (fun hc => ?_)
  ·refine AW.rT (by rfl) fun K hK => ?_
   simp -implicitDefEqProofs only [go_sem, Nat.reduceAdd]
   refine hK _ ?_; clear hK K
   refine AW.ret ?_
   simp -implicitDefEqProofs only [go_sem, HH]
  ·simp at hc
 have b4 : ((e.2.length : Int) > 64) = False := by simp; omega
 rw [if_neg (by omega)] at sE
 refine AW.rT (by rfl) fun K hK => ?_
 simp -implicitDefEqProofs only [go_sem, ↓reduceIte, Nat.reduceAdd, Nat.reduceEqDiff, d1, b2, b3, b4, List.length_map]
 refine hK _ ?_; clear hK K
 refine AW.cond _ (by simp -implicitDefEqProofs only [go_sem]; rfl) (fun hc => ?_) (fun hc => ?_)
 ·simp at hc
 refine AW.skip ?_
 simp only [andThen]
 refine AW.rT (by rfl) fun K hK => ?_
 simp -implicitDefEqProofs only [go_sem, ↓reduceIte, Nat.reduceAdd, Nat.reduceEqDiff]
 refine hK _ ?_; clear hK K
 refine AW.rT (by rfl) fun K hK => ?_
 simp -implicitDefEqProofs only [go_sem, ↓reduceIte, Nat.reduceAdd, Nat.reduceEqDiff, List.length_map]
 refine hK _ ?_; clear hK K
 refine AW.block ?_
 refine AW.loop (fun k : Nat => eT t i e k) (fun k => k ≤ e.2.length ∧ rightTs e.2 (headK e.2) = rightTs (e.2.drop k) (headK e.2)) (fun k => e.2.length - k) 0 ?_ ⟨by simp, by rw [List.drop_zero]⟩ fun k hk => ?_
 ·simp only [eT, cellsT]
  refine Ghost.ent (fun l => if l = 1 then 4 else l) ?_ ?_ ?_ <;> simp -implicitDefEqProofs only [go_sem, ↓reduceIte, Nat.reduceEqDiff, reduceCtorEq, List.forall_mem_cons, List.not_mem_nil, false_implies, implies_true, and_self, List.all_cons, List.all_nil, Nat.reduceLT, labsInL, AV.labsIn]
  rfl
 obtain ⟨f1, f2⟩ := hk
 simp only [eT, cellsT]
 obtain ⟨x0, hx0⟩ : ∃ x, e.2[0]? = some x := ⟨_, List.getElem?_eq_getElem (by omega)⟩
 have ⟨_, _, h03⟩ := at_map' encTr hx0
 have hk0 : headK e.2 = x0.kind := by
  cases hq : e.2 with
  | nil => rw [hq] at hx0; simp at hx0
  | cons y l => rw [hq] at hx0; simp at hx0; subst hx0; rfl
 rw [hk0] at f2 sE
 have hz : ((0 : Int) < (e.2.length : Int)) = True := by simp; omega
 have hz0 : ((0 : Int) ≤ 0) = True := by simp
 by_cases hkl : k < e.2.length
 ·obtain ⟨x, hx⟩ : ∃ x, e.2[k]? = some x := ⟨_, List.getElem?_eq_getElem hkl⟩
  have ⟨hx1, hx2, hx3⟩ := at_map' encTr hx
  have hc2 : ((k : Int) < (e.2.length : Int)) = True := by simp; omega
  have sK := rightTs_at hx x0.kind
  have IH := ih i e k x he hx
  rw [encTr_eq] at IH
  refine AW.rT (by rfl) fun K hK => ?_
  simp -implicitDefEqProofs only [go_sem, ↓reduceIte, Nat.reduceAdd, Nat.reduceEqDiff, hc2]
  refine hK _ ?_; clear hK K
  refine AW.seq ?_
  refine AW.cond _ (by simp -implicitDefEqProofs only [go_sem]; rfl) (fun hc => ?_) (fun hc => ?_)
  rotate_left
  ·simp at hc
  refine AW.skip ?_
  simp only [andThen]
  refine AW.seq ?_
  refine AW.block ?_
  refine AW.rT (by rfl) fun K hK => ?_
  simp -implicitDefEqProofs only [go_sem, ↓reduceIte, Nat.reduceAdd, Nat.reduceEqDiff, Nat.reduceLeDiff, hx1, hx3, hc2, encTr_eq, List.length_map]
  refine hK _ ?_; clear hK K
  by_cases hkk : x.kind = x0.kind
  ·have bk : (x.kind != x0.kind) = false := by simpa using hkk
   rw [if_neg (by simpa using hkk)] at sK
   refine AW.dT mixed (by rfl) (by decide +kernel) fun K hK => ?_
   simp -implicitDefEqProofs only [go_sem, ↓reduceIte, Nat.reduceAdd, Nat.reduceEqDiff, Nat.reduceLeDiff, Int.reduceToNat, h03, hz, hz0, encTr_eq, List.length_map, bk]
   refine ⟨.pure _, IH, ?_⟩
   try simp -implicitDefEqProofs only [go_sem, ↓reduceIte, Nat.reduceAdd, Nat.reduceEqDiff]
   refine ⟨heapOK_nil rfl, ?_⟩
   refine hK _ ?_; clear hK K
   cases hq : rightT x with
   | false =>
    rw [if_neg (by rw [hq]; simp)] at sK
    rw [if_neg (by rw [f2, sK]; simp)] at sE
    have HH := e2.trans sE
    refine AW.cond _ (by simp -implicitDefEqProofs only [go_sem]; rfl) (fun hc => ?_) (fun hc => ?_)
    ·refine AW.rT (by rfl) fun K hK => ?_
     simp -implicitDefEqProofs only [go_sem, Nat.reduceAdd]
     refine hK _ ?_; clear hK K
     refine AW.ret ?_
     simp -implicitDefEqProofs only [go_sem, HH]
    ·simp at hc
   | true =>
    rw [if_pos hq] at sK
    refine AW.cond _ (by simp -implicitDefEqProofs only [go_sem]; rfl) (fun hc => ?_) (fun hc => ?_)
    ·simp at hc
    refine AW.skip ?_
    simp only [andThen, inBlk]
    have w1 : IntKind.wrap .i64 ((k : Int) + 1) = ((k + 1 : Nat) : Int) := by rw [w64] <;> omega
    refine AW.rE (by rfl) fun K hK => ?_
    simp -implicitDefEqProofs only [go_sem, ↓reduceIte, Nat.reduceAdd, Nat.reduceEqDiff, w1]
    refine hK _ ?_; clear hK K
    refine ⟨k + 1, ⟨by omega, by rw [hk0]; exact f2.trans sK⟩, by omega, ?_⟩
    refine Ghost.sub ?_ ?_ <;> simp -implicitDefEqProofs only [go_sem, ↓reduceIte, Nat.reduceEqDiff, reduceCtorEq, List.forall_mem_cons, List.not_mem_nil, false_implies, implies_true, and_self, List.all_cons, List.all_nil, Nat.reduceLT, labsInL, AV.labsIn]
  ·have bk : (x.kind != x0.kind) = true := by simpa using hkk
   rw [if_pos hkk] at sK
   rw [if_neg (by rw [f2, sK]; simp)] at sE
   have HH := e2.trans sE
   refine AW.dT mixed (by rfl) (by decide +kernel) fun K hK => ?_
   simp -implicitDefEqProofs only [go_sem, ↓reduceIte, Nat.reduceAdd, Nat.reduceEqDiff, Int.reduceToNat, h03, hz, hz0, encTr_eq, List.length_map, bk]
   refine ⟨heapOK_nil rfl, ?_⟩
   refine hK _ ?_; clear hK K
   refine AW.cond _ (by simp -implicitDefEqProofs only [go_sem]; rfl) (fun hc => ?_) (fun hc => ?_)
   ·refine AW.rT (by rfl) fun K hK => ?_
    simp -implicitDefEqProofs only [go_sem, Nat.reduceAdd]
    refine hK _ ?_; clear hK K
    refine AW.ret ?_
    simp -implicitDefEqProofs only [go_sem, HH]
   ·simp at hc
 ·have hc2 : ((k : Int) < (e.2.length : Int)) = False := by simp; omega
  rw [List.drop_of_length_le (by omega), rightTs] at f2
  rw [if_pos f2] at sE
  refine AW.rT (by rfl) fun K hK => ?_
  simp -implicitDefEqProofs only [go_sem, ↓reduceIte, Nat.reduceAdd, Nat.reduceEqDiff, hc2]
  refine hK _ ?_; clear hK K
  refine AW.seq ?_
  refine AW.cond _ (by simp -implicitDefEqProofs only [go_sem]; rfl) (fun hc => ?_) (fun hc => ?_)
  ·simp at hc
  refine AW.exit ?_
  simp only [andThen, inBlk, ↓reduceIte]
  have w1 : IntKind.wrap .i64 ((i : Int) + 1) = ((i + 1 : Nat) : Int) := by rw [w64] <;> omega
  refine AW.rE (by rfl) fun K hK => ?_
  simp -implicitDefEqProofs only [go_sem, ↓reduceIte, Nat.reduceAdd, Nat.reduceEqDiff, w1]
  refine hK _ ?_; clear hK K
  refine ⟨(i + 1, e.1), ⟨by show i + 1 ≤ t.ents.length; omega, e2.trans sE⟩, by show t.ents.length - (i + 1) < t.ents.length - i; omega, ?_⟩
  refine Ghost.sub ?_ ?_ <;> simp -implicitDefEqProofs only [go_sem, ↓reduceIte, Nat.reduceEqDiff, List.forall_mem_cons, List.not_mem_nil, false_implies, implies_true, and_self, List.all_cons, List.all_nil, Nat.reduceLT, labsInL, AV.labsIn]
end Go.Aw.T
namespace Go.Aw.T
open Go.Proofs
set_option linter.unusedSimpArgs false
set_option linter.unusedVariables false
def okRest (es : List (Int × List Tr)) (r : Raw) : Bool := checkR r && es.all (fun e => e.1 != r.tag)
theorem all_next {α : Type} {l : List α} {p : α → Bool} {k : Nat} {r : α} (h : l[k]? = some r) (ha : (l.take k).all p = true) (hr : p r = true) : (l.take (k + 1)).all p = true := by
 rw [List.take_add_one, h, List.all_append, ha]
 simp [hr]
theorem all_not {α : Type} {l : List α} {p : α → Bool} {k : Nat} {r : α} (h : l[k]? = some r) (hr : p r = false) : l.all p = false := by
 rw [List.all_eq_false]
 exact ⟨r, List.mem_of_getElem? h, by simp [hr]⟩
def hS1 (t : Tr) (i : Nat) : St := ⟨ofL [(1, .ptr 0 0 0), (8, .p (.slice (t.rest.map encRaw))), (9, .p (.int .i64 (t.rest.length : Int))), (10, .p (.int .i64 (i : Int)))], ofH [(0, .row 5 [cellsT t])], 1⟩
def hS2 (t : Tr) (i : Nat) (r : Raw) (k : Nat) : St := ⟨ofL [(1, .ptr 0 0 0), (4, .ptr 1 0 0), (8, .p (.slice (t.rest.map encRaw))), (9, .p (.int .i64 (t.rest.length : Int))), (10, .p (.int .i64 (i : Int))), (18, .p (.slice (t.ents.map encEn))), (19, .p (.int .i64 (t.ents.length : Int))), (20, .p (.int .i64 (k : Int)))],
 ofH [(0, .row 5 [cellsT t]), (1, .row 4 [[.p (.int .i64 r.tag), .p (.int .i64 r.wire), .p (.int .i64 r.n), .p (.str r.b)]])], 2⟩
set_option maxRecDepth 100000 in
set_option maxHeartbeats 4000000 in
theorem value_rest (t : Tr) (hlt : lensT t = true) : PFn Tryd.prog 130 [.agg (encTr t)] (.bool (restT t.ents t.rest)) := by
 obtain ⟨la1, la2, la3⟩ := lensT_mk hlt
 have hm : maxLen = 9223372036854775807 := by decide
 have RT : restT t.ents t.rest = (t.rest.all (okRest t.ents) && rising t.rest) := rfl
 refine PFn.of Tryd.func130 rfl (by decide) Tryd.ntmps130 Tryd.results130 (Nat.le_of_ble_eq_true rfl) ?_
 simp only [argsT]
 refine AW.rT (by rfl) fun K hK => ?_
 simp -implicitDefEqProofs only [go_sem, Nat.reduceAdd, encTr_eq]
 refine hK _ ?_; clear hK K
 refine AW.seq ?_
 refine AW.rT (by rfl) fun K hK => ?_
 simp -implicitDefEqProofs only [go_sem, ↓reduceIte, Nat.reduceAdd, Nat.reduceEqDiff, List.length_map]
 refine hK _ ?_; clear hK K
 refine AW.block ?_
 refine AW.loop (hS1 t) (fun i => i ≤ t.rest.length ∧ (t.rest.take i).all (okRest t.ents) = true) (fun i => t.rest.length - i) 0 ?_ (by simp) fun i hi => ?_
 ·simp only [hS1, cellsT]
  refine Ghost.sub ?_ ?_ <;> simp -implicitDefEqProofs only [go_sem, ↓reduceIte, Nat.reduceEqDiff, List.forall_mem_cons, List.not_mem_nil, false_implies, implies_true, and_self, List.all_cons, List.all_nil, Nat.reduceLT, labsInL, AV.labsIn]
  rfl
 obtain ⟨g1, g2⟩ := hi
 simp only [hS1, cellsT]
 by_cases hil : i < t.rest.length
 case neg =>
  have hc1 : ((i : Int) < (t.rest.length : Int)) = False := by simp; omega
  have hi' : i = t.rest.length := by omega
  subst hi'
  rw [List.take_length] at g2
  refine AW.rT (by rfl) fun K hK => ?_
  simp -implicitDefEqProofs only [go_sem, ↓reduceIte, Nat.reduceAdd, Nat.reduceEqDiff, hc1]
  refine hK _ ?_; clear hK K
  refine AW.seq ?_
  refine AW.cond _ (by simp -implicitDefEqProofs only [go_sem]; rfl) (fun hc => ?_) (fun hc => ?_)
  ·simp at hc
  refine AW.exit ?_
  simp only [andThen, inBlk, ↓reduceIte]
  refine AW.rT (by rfl) fun K hK => ?_
  simp -implicitDefEqProofs only [go_sem, ↓reduceIte, Nat.reduceAdd, Nat.reduceEqDiff]
  refine ⟨.pure _, wire_Rising t.rest (by omega), ?_⟩
  try simp -implicitDefEqProofs only [go_sem, Nat.reduceAdd]
  refine hK _ ?_; clear hK K
  refine AW.ret ?_
  simp -implicitDefEqProofs only [go_sem]
  rw [RT, g2, Bool.true_and]
 obtain ⟨r, hr⟩ : ∃ r, t.rest[i]? = some r := ⟨_, List.getElem?_eq_getElem hil⟩
 have ⟨hr1, hr2, hr3⟩ := at_map' encRaw hr
 have hc1 : ((i : Int) < (t.rest.length : Int)) = True := by simp; omega
 refine AW.rT (by rfl) fun K hK => ?_
 simp -implicitDefEqProofs only [go_sem, ↓reduceIte, Nat.reduceAdd, Nat.reduceEqDiff, hc1]
 refine hK _ ?_; clear hK K
 refine AW.seq ?_
 refine AW.cond _ (by simp -implicitDefEqProofs only [go_sem]; rfl) (fun hc => ?_) (fun hc => ?_)
 rotate_left
 ·simp at hc
 refine AW.skip ?_
 simp only [andThen]
 refine AW.seq ?_
 refine AW.block ?_
 refine AW.rT (by rfl) fun K hK => ?_
 simp -implicitDefEqProofs only [go_sem, ↓reduceIte, Nat.reduceAdd, Nat.reduceEqDiff, Nat.reduceLeDiff, hr1, hr3, hc1, encRaw, List.length_map]
 refine hK _ ?_; clear hK K
 refine AW.seq ?_
 cases hcr : checkR r with
 | false =>
  have C1 : PFn Tryd.prog 147 [.agg (encRaw r)] (.bool false) := hcr ▸ wire_Check r
  have HH : restT t.ents t.rest = false := by rw [RT, all_not hr (by simp [okRest, hcr])]; rfl
  refine AW.rT (by rfl) fun K hK => ?_
  simp -implicitDefEqProofs only [go_sem, Nat.reduceAdd, Nat.reduceLeDiff]
  refine ⟨.pure _, C1, ?_⟩
  try simp -implicitDefEqProofs only [go_sem, Nat.reduceAdd]
  refine hK _ ?_; clear hK K
  refine AW.cond _ (by simp -implicitDefEqProofs only [go_sem]; rfl) (fun hc => ?_) (fun hc => ?_)
  ·refine AW.rT (by rfl) fun K hK => ?_
   simp -implicitDefEqProofs only [go_sem, Nat.reduceAdd]
   refine hK _ ?_; clear hK K
   refine AW.ret ?_
   simp -implicitDefEqProofs only [go_sem, HH]
  ·simp at hc
 | true =>
 have C1 : PFn Tryd.prog 147 [.agg (encRaw r)] (.bool true) := hcr ▸ wire_Check r
 refine AW.rT (by rfl) fun K hK => ?_
 simp -implicitDefEqProofs only [go_sem, Nat.reduceAdd, Nat.reduceLeDiff]
 refine ⟨.pure _, C1, ?_⟩
 try simp -implicitDefEqProofs only [go_sem, Nat.reduceAdd]
 refine hK _ ?_; clear hK K
 refine AW.cond _ (by simp -implicitDefEqProofs only [go_sem]; rfl) (fun hc => ?_) (fun hc => ?_)
 ·simp at hc
 refine AW.skip ?_
 simp only [andThen]
 refine AW.rT (by rfl) fun K hK => ?_
 simp -implicitDefEqProofs only [go_sem, ↓reduceIte, Nat.reduceAdd, Nat.reduceEqDiff, reduceCtorEq, List.length_map]
 refine hK _ ?_; clear hK K
 refine AW.block ?_
 refine AW.loop (fun k : Nat => hS2 t i r k) (fun k => k ≤ t.ents.length ∧ (t.ents.take k).all (fun e => e.1 != r.tag) = true) (fun k => t.ents.length - k) 0 ?_ (by simp) fun k hk => ?_
 ·simp only [hS2, cellsT]
  refine Ghost.ent (fun l => if l = 1 then 4 else l) ?_ ?_ ?_ <;> simp -implicitDefEqProofs only [go_sem, ↓reduceIte, Nat.reduceEqDiff, reduceCtorEq, List.forall_mem_cons, List.not_mem_nil, false_implies, implies_true, and_self, List.all_cons, List.all_nil, Nat.reduceLT, labsInL, AV.labsIn]
  rfl
 obtain ⟨k1, k2⟩ := hk
 simp only [hS2, cellsT]
 by_cases hkl : k < t.ents.length
 ·obtain ⟨e, he⟩ : ∃ e, t.ents[k]? = some e := ⟨_, List.getElem?_eq_getElem hkl⟩
  have ⟨he1, he2, he3⟩ := at_map' encEn he
  have hc2 : ((k : Int) < (t.ents.length : Int)) = True := by simp; omega
  refine AW.rT (by rfl) fun K hK => ?_
  simp -implicitDefEqProofs only [go_sem, ↓reduceIte, Nat.reduceAdd, Nat.reduceEqDiff, hc2]
  refine hK _ ?_; clear hK K
  refine AW.seq ?_
  refine AW.cond _ (by simp -implicitDefEqProofs only [go_sem]; rfl) (fun hc => ?_) (fun hc => ?_)
  rotate_left
  ·simp at hc
  refine AW.skip ?_
  simp only [andThen]
  refine AW.seq ?_
  refine AW.block ?_
  refine AW.rT (by rfl) fun K hK => ?_
  simp -implicitDefEqProofs only [go_sem, ↓reduceIte, Nat.reduceAdd, Nat.reduceEqDiff, Nat.reduceLeDiff, he1, he3, hc2, encEn, List.length_map]
  refine hK _ ?_; clear hK K
  by_cases heq : e.1 = r.tag
  ·have b1 : (e.1 == r.tag) = true := by simpa using heq
   have HH : restT t.ents t.rest = false := by
    rw [RT, all_not hr (by simp only [okRest]; rw [all_not he (by simpa using heq)]; simp)]; rfl
   refine AW.rT (by rfl) fun K hK => ?_
   simp -implicitDefEqProofs only [go_sem, ↓reduceIte, Nat.reduceAdd, Nat.reduceEqDiff, b1]
   refine hK _ ?_; clear hK K
   refine AW.cond _ (by simp -implicitDefEqProofs only [go_sem]; rfl) (fun hc => ?_) (fun hc => ?_)
   ·refine AW.rT (by rfl) fun K hK => ?_
    simp -implicitDefEqProofs only [go_sem, Nat.reduceAdd]
    refine hK _ ?_; clear hK K
    refine AW.ret ?_
    simp -implicitDefEqProofs only [go_sem, HH]
   ·simp at hc
  ·have b1 : (e.1 == r.tag) = false := beqf heq
   refine AW.rT (by rfl) fun K hK => ?_
   simp -implicitDefEqProofs only [go_sem, ↓reduceIte, Nat.reduceAdd, Nat.reduceEqDiff, b1]
   refine hK _ ?_; clear hK K
   refine AW.cond _ (by simp -implicitDefEqProofs only [go_sem]; rfl) (fun hc => ?_) (fun hc => ?_)
   ·simp at hc
   refine AW.skip ?_
   simp only [andThen, inBlk]
   have w1 : IntKind.wrap .i64 ((k : Int) + 1) = ((k + 1 : Nat) : Int) := by rw [w64] <;> omega
   refine AW.rE (by rfl) fun K hK => ?_
   simp -implicitDefEqProofs only [go_sem, ↓reduceIte, Nat.reduceAdd, Nat.reduceEqDiff, w1]
   refine hK _ ?_; clear hK K
   refine ⟨k + 1, ⟨by omega, all_next he k2 (by simpa using heq)⟩, by omega, ?_⟩
   refine Ghost.sub ?_ ?_ <;> simp -implicitDefEqProofs only [go_sem, ↓reduceIte, Nat.reduceEqDiff, reduceCtorEq, List.forall_mem_cons, List.not_mem_nil, false_implies, implies_true, and_self, List.all_cons, List.all_nil, Nat.reduceLT, labsInL, AV.labsIn]
 ·have hc2 : ((k : Int) < (t.ents.length : Int)) = False := by simp; omega
  have hk' : k = t.ents.length := by omega
  subst hk'
  rw [List.take_length] at k2
  refine AW.rT (by rfl) fun K hK => ?_
  simp -implicitDefEqProofs only [go_sem, ↓reduceIte, Nat.reduceAdd, Nat.reduceEqDiff, hc2]
  refine hK _ ?_; clear hK K
  refine AW.seq ?_
  refine AW.cond _ (by simp -implicitDefEqProofs only [go_sem]; rfl) (fun hc => ?_) (fun hc => ?_)
  ·simp at hc
  refine AW.exit ?_
  simp only [andThen, inBlk, ↓reduceIte]
  have w1 : IntKind.wrap .i64 ((i : Int) + 1) = ((i + 1 : Nat) : Int) := by rw [w64] <;> omega
  refine AW.rE (by rfl) fun K hK => ?_
  simp -implicitDefEqProofs only [go_sem, ↓reduceIte, Nat.reduceAdd, Nat.reduceEqDiff, w1]
  refine hK _ ?_; clear hK K
  refine ⟨i + 1, ⟨by omega, all_next hr g2 (by simp only [okRest]; rw [hcr, k2]; rfl)⟩, by omega, ?_⟩
  refine Ghost.sub ?_ ?_ <;> simp -implicitDefEqProofs only [go_sem, ↓reduceIte, Nat.reduceEqDiff, List.forall_mem_cons, List.not_mem_nil, false_implies, implies_true, and_self, List.all_cons, List.all_nil, Nat.reduceLT, labsInL, AV.labsIn]
set_option maxRecDepth 100000 in
set_option maxHeartbeats 4000000 in
theorem value_right : ∀ (t : Tr), lensT t = true → PFn Tryd.prog 97 [.agg (encTr t)] (.bool (rightT t)) := by
 intro t
 induction h : SizeOf.sizeOf t using Nat.strongRecOn generalizing t with
 | _ sz ih =>
 subst h
 intro hlt
 obtain ⟨la1, la2, la3⟩ := lensT_mk hlt
 have sT := rightT_mk t
 have E1 := value_entries t hlt fun i e k x he hx => ih _ (size_ent he hx) x rfl (lensTs_at (lensE_at la3 he).2 hx)
 have E2 := value_rest t hlt
 rw [encTr_eq] at E1 E2
 have z1 : ((t.ents.length : Int) == 0) = t.ents.isEmpty := by cases t.ents <;> simp; omega
 have z2 : ((t.rest.length : Int) == 0) = decide (t.rest = []) := by cases t.rest <;> simp; omega
 refine PFn.of Tryd.func97 rfl (by decide) Tryd.ntmps97 Tryd.results97 (Nat.le_of_ble_eq_true rfl) ?_
 simp only [argsT]
 refine AW.rT (by rfl) fun K hK => ?_
 simp -implicitDefEqProofs only [go_sem, Nat.reduceAdd, encTr_eq]
 refine hK _ ?_; clear hK K
 refine AW.seq ?_
 refine AW.rT (by rfl) fun K hK => ?_
 simp -implicitDefEqProofs only [go_sem, ↓reduceIte, Nat.reduceAdd, Nat.reduceEqDiff]
 refine hK _ ?_; clear hK K
 refine AW.block ?_
 by_cases c1 : t.kind = 1
 ·have b1 : (t.kind == 1) = true := by simpa using c1
  rw [if_pos c1] at sT
  refine AW.rT (by rfl) fun K hK => ?_
  simp -implicitDefEqProofs only [go_sem, ↓reduceIte, Nat.reduceAdd, b1]
  refine hK _ ?_; clear hK K
  refine AW.cond _ (by simp -implicitDefEqProofs only [go_sem]; rfl) (fun hc => ?_) (fun hc => ?_)
  rotate_left
  ·simp at hc
  cases hs : decide (t.s = []) <;> cases hz : t.ents.isEmpty
  all_goals
   rw [hs, hz] at sT
   have b2 : (t.s == []) = decide (t.s = []) := by cases t.s <;> simp
   refine AW.rT (by rfl) fun K hK => ?_
   try simp -implicitDefEqProofs only [go_sem, ↓reduceIte, Nat.reduceAdd, Nat.reduceEqDiff, b2, hs, z1, hz, z2, List.length_map]
   refine hK _ ?_; clear hK K
   refine AW.ret ?_
   try simp -implicitDefEqProofs only [go_sem, sT, Bool.false_and, Bool.true_and]
 ·have b1 : (t.kind == 1) = false := beqf c1
  rw [if_neg c1] at sT
  refine AW.rT (by rfl) fun K hK => ?_
  simp -implicitDefEqProofs only [go_sem, ↓reduceIte, Nat.reduceAdd, b1]
  refine hK _ ?_; clear hK K
  refine AW.cond _ (by simp -implicitDefEqProofs only [go_sem]; rfl) (fun hc => ?_) (fun hc => ?_)
  ·simp at hc
  by_cases c2 : t.kind = 2
  ·have b1 : (t.kind == 2) = true := by simpa using c2
   have hq : (t.n == 0) = decide (t.n = 0) := by by_cases h : t.n = 0 <;> simp [h]
   rw [if_pos c2] at sT
   refine AW.rT (by rfl) fun K hK => ?_
   simp -implicitDefEqProofs only [go_sem, ↓reduceIte, Nat.reduceAdd, Nat.reduceEqDiff, b1]
   refine hK _ ?_; clear hK K
   refine AW.cond _ (by simp -implicitDefEqProofs only [go_sem]; rfl) (fun hc => ?_) (fun hc => ?_)
   rotate_left
   ·simp at hc
   cases hs : decide (t.n = 0) <;> cases hz : t.ents.isEmpty
   all_goals
    rw [hs, hz] at sT
    refine AW.rT (by rfl) fun K hK => ?_
    try simp -implicitDefEqProofs only [go_sem, ↓reduceIte, Nat.reduceAdd, Nat.reduceEqDiff, hq, hs, z1, hz, z2, List.length_map]
    refine hK _ ?_; clear hK K
    refine AW.ret ?_
    try simp -implicitDefEqProofs only [go_sem, sT, Bool.false_and, Bool.true_and]
  ·have b1 : (t.kind == 2) = false := beqf c2
   rw [if_neg c2] at sT
   refine AW.rT (by rfl) fun K hK => ?_
   simp -implicitDefEqProofs only [go_sem, ↓reduceIte, Nat.reduceAdd, Nat.reduceEqDiff, b1]
   refine hK _ ?_; clear hK K
   refine AW.cond _ (by simp -implicitDefEqProofs only [go_sem]; rfl) (fun hc => ?_) (fun hc => ?_)
   ·simp at hc
   by_cases c3 : t.kind = 3
   ·have b1 : (t.kind == 3) = true := by simpa using c3
    have hq : (t.n == 0) = decide (t.n = 0) := by by_cases h : t.n = 0 <;> simp [h]
    have b2 : (t.s == []) = decide (t.s = []) := by cases t.s <;> simp
    rw [if_pos c3] at sT
    refine AW.rT (by rfl) fun K hK => ?_
    simp -implicitDefEqProofs only [go_sem, ↓reduceIte, Nat.reduceAdd, Nat.reduceEqDiff, b1]
    refine hK _ ?_; clear hK K
    refine AW.cond _ (by simp -implicitDefEqProofs only [go_sem]; rfl) (fun hc => ?_) (fun hc => ?_)
    rotate_left
    ·simp at hc
    cases hn : decide (t.n = 0)
    ·rw [hn] at sT
     refine AW.rT (by rfl) fun K hK => ?_
     try simp -implicitDefEqProofs only [go_sem, ↓reduceIte, Nat.reduceAdd, Nat.reduceEqDiff, hq, hn]
     refine hK _ ?_; clear hK K
     refine AW.ret ?_
     try simp -implicitDefEqProofs only [go_sem, sT, Bool.false_and]
    cases hs : decide (t.s = [])
    ·rw [hn, hs] at sT
     refine AW.rT (by rfl) fun K hK => ?_
     try simp -implicitDefEqProofs only [go_sem, ↓reduceIte, Nat.reduceAdd, Nat.reduceEqDiff, hq, hn, b2, hs]
     refine hK _ ?_; clear hK K
     refine AW.ret ?_
     try simp -implicitDefEqProofs only [go_sem, sT, Bool.false_and, Bool.true_and]
    cases he : rightE t.ents 0
    ·rw [hn, hs, he] at sT
     rw [he] at E1
     refine AW.rT (by rfl) fun K hK => ?_
     try simp -implicitDefEqProofs only [go_sem, ↓reduceIte, Nat.reduceAdd, Nat.reduceEqDiff, Nat.reduceLeDiff, hq, hn, b2, hs]
     refine ⟨.pure _, E1, ?_⟩
     try simp -implicitDefEqProofs only [go_sem, ↓reduceIte, Nat.reduceAdd, Nat.reduceEqDiff]
     refine hK _ ?_; clear hK K
     refine AW.ret ?_
     try simp -implicitDefEqProofs only [go_sem, sT, Bool.false_and, Bool.true_and]
    ·rw [hn, hs, he] at sT
     rw [he] at E1
     refine AW.rT (by rfl) fun K hK => ?_
     try simp -implicitDefEqProofs only [go_sem, ↓reduceIte, Nat.reduceAdd, Nat.reduceEqDiff, Nat.reduceLeDiff, hq, hn, b2, hs]
     refine ⟨.pure _, E1, ?_⟩
     try simp -implicitDefEqProofs only [go_sem, ↓reduceIte, Nat.reduceAdd, Nat.reduceEqDiff, Nat.reduceLeDiff]
     refine ⟨.pure _, E2, ?_⟩
     try simp -implicitDefEqProofs only [go_sem, ↓reduceIte, Nat.reduceAdd, Nat.reduceEqDiff]
     refine hK _ ?_; clear hK K
     refine AW.ret ?_
     try simp -implicitDefEqProofs only [go_sem, sT, Bool.true_and]
   ·have b1 : (t.kind == 3) = false := beqf c3
    rw [if_neg c3] at sT
    refine AW.rT (by rfl) fun K hK => ?_
    simp -implicitDefEqProofs only [go_sem, ↓reduceIte, Nat.reduceAdd, Nat.reduceEqDiff, b1]
    refine hK _ ?_; clear hK K
    refine AW.cond _ (by simp -implicitDefEqProofs only [go_sem]; rfl) (fun hc => ?_) (fun hc => ?_)
    ·simp at hc
    refine AW.skip ?_
    simp only [andThen, inBlk]
    refine AW.rT (by rfl) fun K hK => ?_
    simp -implicitDefEqProofs only [go_sem, Nat.reduceAdd]
    refine hK _ ?_; clear hK K
    refine AW.ret ?_
    simp -implicitDefEqProofs only [go_sem, sT]
def okT (t : Tr) : Bool := decide (dT t 101 ≤ 10) && rightT t
set_option maxHeartbeats 1000000 in
theorem value_Check (t : Tr) (hlt : lensT t = true) : PFn Tryd.prog 63 [.agg (encTr t)] (.bool (okT t)) := by
 have E1 := value_Depth t hlt
 have E2 := value_right t hlt
 rw [encTr_eq] at E1 E2
 have hd : ((dT t 101 : Int) ≤ 10) = (dT t 101 ≤ 10) := by simp; omega
 refine PFn.of Tryd.func63 rfl (by decide) Tryd.ntmps63 Tryd.results63 (Nat.le_of_ble_eq_true rfl) ?_
 simp only [argsT]
 refine AW.rT (by rfl) fun K hK => ?_
 simp -implicitDefEqProofs only [go_sem, Nat.reduceAdd, encTr_eq]
 refine hK _ ?_; clear hK K
 cases hc : decide (dT t 101 ≤ 10)
 ·refine AW.rT (by rfl) fun K hK => ?_
  try simp -implicitDefEqProofs only [go_sem, ↓reduceIte, Nat.reduceAdd, Nat.reduceEqDiff, Nat.reduceLeDiff]
  refine ⟨.pure _, E1, ?_⟩
  try simp -implicitDefEqProofs only [go_sem, ↓reduceIte, Nat.reduceAdd, Nat.reduceEqDiff, hd, hc]
  refine hK _ ?_; clear hK K
  refine AW.ret ?_
  try simp -implicitDefEqProofs only [go_sem, okT, hc, Bool.false_and]
 ·refine AW.rT (by rfl) fun K hK => ?_
  try simp -implicitDefEqProofs only [go_sem, ↓reduceIte, Nat.reduceAdd, Nat.reduceEqDiff, Nat.reduceLeDiff]
  refine ⟨.pure _, E1, ?_⟩
  try simp -implicitDefEqProofs only [go_sem, ↓reduceIte, Nat.reduceAdd, Nat.reduceEqDiff, Nat.reduceLeDiff, hd, hc]
  refine ⟨.pure _, E2, ?_⟩
  try simp -implicitDefEqProofs only [go_sem, ↓reduceIte, Nat.reduceAdd, Nat.reduceEqDiff]
  refine hK _ ?_; clear hK K
  refine AW.ret ?_
  try simp -implicitDefEqProofs only [go_sem, okT, hc, Bool.true_and]
end Go.Aw.T
namespace Go.Aw.T
open Go.Proofs
set_option linter.unusedSimpArgs false
set_option linter.unusedVariables false
end Go.Aw.T
namespace Go.Aw.T
open Go.Proofs
set_option linter.unusedSimpArgs false
set_option linter.unusedVariables false
def qE (l l' : List Raw) (i : Nat) : St := ⟨ofL [(0, .p (.slice (l.map encRaw))), (1, .p (.slice (l'.map encRaw))), (12, .p (.int .i64 (l.length : Int))), (13, .p (.int .i64 (i : Int)))], ofH [], 0⟩
end Go.Aw.T
namespace Go.Aw.T
open Go.Proofs
set_option linter.unusedSimpArgs false
set_option linter.unusedVariables false
def numV (y : Ty) (n : Int) : Bool := if y.kind = 1 then decide (-2147483648 ≤ n ∧ n ≤ 2147483647) else if y.kind = 3 then decide (n = 0 ∨ n = 1) else if y.kind = 6 then decide (0 ≤ n ∧ n ≤ 2147483647) else decide (y.kind = 2)
def zeroV (t : Tr) : Bool := decide (1 ≤ t.kind ∧ t.kind ≤ 3 ∧ t.n = 0 ∧ t.s = [] ∧ t.ents.length = 0 ∧ t.rest.length = 0)
def kdV (y : Ty) : Int := if y.kind = 1 ∨ y.kind = 2 ∨ y.kind = 3 ∨ y.kind = 6 then 1 else if y.kind = 4 ∨ y.kind = 5 then 2 else 3
theorem kdV_3 {y : Ty} (h1 : 1 ≤ y.kind) (h2 : y.kind ≤ 7) : kdV y = 3 ↔ y.kind = 7 := by
 unfold kdV
 by_cases a : y.kind = 4 ∨ y.kind = 5
 ·rw [if_neg (by omega), if_pos a]; omega
 by_cases b : y.kind = 7
 ·rw [if_neg (by omega), if_neg a]; omega
 ·rw [if_pos (by omega)]; omega
def valS (s : List UInt8) : Bool := (runesO s 0).isSome
def fitV (y : Ty) (t : Tr) : Int := if t.kind ≠ kdV y then 8 else if t.kind = 1 ∧ numV y t.n = false then 11 else if y.kind = 4 ∧ valS t.s = false then 9 else 0
def fldOf (m : Ms) (g : Int) : Fd × Bool := firstP (fun x => x.tag == g) zFd m.fields
def msOf (S : Sc) (k : List UInt8) : Ms × Bool := firstP (fun x => x.name == k) zMs S.msgs
mutual
def bareT : Tr → Tr
 | .mk k n s es _ => .mk k n s (bareE es) []
def bareE : List (Int × List Tr) → List (Int × List Tr)
 | [] => []
 | (g, l) :: es => (g, bareTs l) :: bareE es
def bareTs : List Tr → List Tr
 | [] => []
 | t :: l => bareT t :: bareTs l
end
theorem bareTs_map : ∀ l : List Tr, bareTs l = l.map bareT
 | [] => by rw [bareTs]; rfl
 | t :: l => by rw [bareTs, bareTs_map l]; rfl
theorem bareE_map : ∀ es : List (Int × List Tr), bareE es = es.map fun e => (e.1, e.2.map bareT)
 | [] => by rw [bareE]; rfl
 | (g, l) :: es => by rw [bareE, bareE_map es, bareTs_map]; rfl
theorem bareT_mk (t : Tr) : bareT t = .mk t.kind t.n t.s (t.ents.map fun e => (e.1, e.2.map bareT)) [] := by
 cases t
 rw [bareT, bareE_map]
 rfl
def orE (a b : Int) : Int := if a ≠ 0 then a else b
mutual
def msgV (S : Sc) (m : Ms) : Tr → Int
 | .mk _ _ _ es r => orE (entV S m es) (if r.any (fun x => (fldOf m x.tag).2) then 7 else 0)
def entV (S : Sc) (m : Ms) : List (Int × List Tr) → Int
 | [] => 0
 | (g, l) :: es => if (fldOf m g).2 = false then 7 else if (fldOf m g).1.label ≠ 3 ∧ 1 < l.length then 4 else orE (oneL S (fldOf m g).1 l) (entV S m es)
def oneL (S : Sc) (f : Fd) : List Tr → Int
 | [] => 0
 | t :: l => orE (orE (fitV f.ty t) (orE (if f.ty.kind = 7 then msgV S (msOf S f.ty.name).1 t else 0) (if f.label = 1 ∧ zeroV t = true then 12 else 0))) (oneL S f l)
end
def oneV (S : Sc) (f : Fd) (t : Tr) : Int := orE (fitV f.ty t) (orE (if f.ty.kind = 7 then msgV S (msOf S f.ty.name).1 t else 0) (if f.label = 1 ∧ zeroV t = true then 12 else 0))
theorem oneL_cons (S : Sc) (f : Fd) (t : Tr) (l : List Tr) : oneL S f (t :: l) = orE (oneV S f t) (oneL S f l) := by rw [oneL]; rfl
theorem msgV_mk (S : Sc) (m : Ms) (t : Tr) : msgV S m t = orE (entV S m t.ents) (if t.rest.any (fun x => (fldOf m x.tag).2) then 7 else 0) := by
 cases t
 rw [msgV]
 rfl
theorem orE_0 (b : Int) : orE 0 b = b := rfl
theorem orE_r (a : Int) : orE a 0 = a := by unfold orE; split <;> omega
theorem orE_eq {a b : Int} : orE a b = 0 ↔ a = 0 ∧ b = 0 := by
 unfold orE
 by_cases h : a = 0 <;> simp [h]
mutual
/-- All texts of a tree are short. -/
def strT : Tr → Bool
 | .mk _ _ s es _ => decide (s.length ≤ 1000000) && strE es
def strE : List (Int × List Tr) → Bool
 | [] => true
 | (_, l) :: es => strTs l && strE es
def strTs : List Tr → Bool
 | [] => true
 | x :: l => strT x && strTs l
end
theorem strTs_iff : ∀ {l : List Tr}, strTs l = true ↔ ∀ x ∈ l, strT x = true
 | [] => by simp [strTs]
 | x :: l => by rw [strTs, Bool.and_eq_true, strTs_iff]; simp
theorem strE_iff : ∀ {es : List (Int × List Tr)}, strE es = true ↔ ∀ e ∈ es, strTs e.2 = true
 | [] => by simp [strE]
 | (_, l) :: es => by rw [strE, Bool.and_eq_true, strE_iff]; simp
theorem strT_mk {t : Tr} (h : strT t = true) : t.s.length ≤ 1000000 ∧ ∀ e ∈ t.ents, ∀ x ∈ e.2, strT x = true := by
 cases t
 rw [strT, Bool.and_eq_true, decide_eq_true_eq, strE_iff] at h
 exact ⟨h.1, fun e he x hx => strTs_iff.1 (h.2 e he) x hx⟩
def validV (S : Sc) (k : List UInt8) (t : Tr) : Int := if checkC S ≠ 0 then 1 else if (msOf S k).2 = false then 14 else if t.kind ≠ 3 ∨ okT t = false then 1 else msgV S (msOf S k).1 t
end Go.Aw.T
namespace Go.Aw.T
open Go.Proofs
set_option linter.unusedSimpArgs false
set_option linter.unusedVariables false
theorem eqb {a b : Int} (h : a = b) : (a == b) = true := by simp [h]
theorem numV_1 {y : Ty} {n : Int} (h : y.kind = 1) : numV y n = decide (-2147483648 ≤ n ∧ n ≤ 2147483647) := by unfold numV; rw [if_pos h]
theorem numV_3 {y : Ty} {n : Int} (h : y.kind = 3) : numV y n = decide (n = 0 ∨ n = 1) := by unfold numV; rw [if_neg (by omega), if_pos h]
theorem numV_6 {y : Ty} {n : Int} (h : y.kind = 6) : numV y n = decide (0 ≤ n ∧ n ≤ 2147483647) := by unfold numV; rw [if_neg (by omega), if_neg (by omega), if_pos h]
theorem numV_o {y : Ty} {n : Int} (h1 : y.kind ≠ 1) (h3 : y.kind ≠ 3) (h6 : y.kind ≠ 6) : numV y n = decide (y.kind = 2) := by unfold numV; rw [if_neg h1, if_neg h3, if_neg h6]
set_option maxRecDepth 100000 in
theorem valid_Number (y : Ty) (n : Int) : PFn Tryd.prog 29 [.agg (encTy y), .int .i64 n] (.bool (numV y n)) := by
 refine PFn.of Tryd.func29 rfl (by decide) Tryd.ntmps29 Tryd.results29 (Nat.le_of_ble_eq_true rfl) ?_
 simp only [argsT]
 refine AW.rT (by rfl) fun K hK => ?_
 simp -implicitDefEqProofs only [go_sem, Nat.reduceAdd, encTy]
 refine hK _ ?_; clear hK K
 refine AW.seq ?_
 refine AW.rT (by rfl) fun K hK => ?_
 simp -implicitDefEqProofs only [go_sem, ↓reduceIte, Nat.reduceAdd, Nat.reduceEqDiff]
 refine hK _ ?_; clear hK K
 refine AW.block ?_
 by_cases k1 : y.kind = 1
 ·have e1 := eqb k1
  refine AW.rT (by rfl) fun K hK => ?_
  simp -implicitDefEqProofs only [go_sem, ↓reduceIte, Nat.reduceAdd, e1]
  refine hK _ ?_; clear hK K
  refine AW.cond _ (by simp -implicitDefEqProofs only [go_sem]; rfl) (fun hc => ?_) (fun hc => ?_)
  rotate_left
  ·simp at hc
  by_cases h1 : -2147483648 ≤ n
  ·have q1 : (n ≥ -2147483648) = True := eq_true h1
   by_cases h2 : n ≤ 2147483647
   ·have q2 : (n ≤ 2147483647) = True := eq_true h2
    have HH : numV y n = true := by rw [numV_1 k1]; simp [h1, h2]
    refine AW.rT (by rfl) fun K hK => ?_
    simp -implicitDefEqProofs only [go_sem, ↓reduceIte, Nat.reduceAdd, Nat.reduceEqDiff, q1, q2]
    refine hK _ ?_; clear hK K
    refine AW.ret ?_
    simp -implicitDefEqProofs only [go_sem, HH]
   ·have q2 : (n ≤ 2147483647) = False := eq_false h2
    have HH : numV y n = false := by rw [numV_1 k1]; simp [h2]
    refine AW.rT (by rfl) fun K hK => ?_
    simp -implicitDefEqProofs only [go_sem, ↓reduceIte, Nat.reduceAdd, Nat.reduceEqDiff, q1, q2]
    refine hK _ ?_; clear hK K
    refine AW.ret ?_
    simp -implicitDefEqProofs only [go_sem, HH]
  ·have q1 : (n ≥ -2147483648) = False := eq_false h1
   have HH : numV y n = false := by rw [numV_1 k1]; simp [h1]
   refine AW.rT (by rfl) fun K hK => ?_
   simp -implicitDefEqProofs only [go_sem, ↓reduceIte, Nat.reduceAdd, Nat.reduceEqDiff, q1]
   refine hK _ ?_; clear hK K
   refine AW.ret ?_
   simp -implicitDefEqProofs only [go_sem, HH]
 have e1 := beqf k1
 refine AW.rT (by rfl) fun K hK => ?_
 simp -implicitDefEqProofs only [go_sem, ↓reduceIte, Nat.reduceAdd, e1]
 refine hK _ ?_; clear hK K
 refine AW.cond _ (by simp -implicitDefEqProofs only [go_sem]; rfl) (fun hc => ?_) (fun hc => ?_)
 ·simp at hc
 by_cases k3 : y.kind = 3
 ·have e3 := eqb k3
  refine AW.rT (by rfl) fun K hK => ?_
  simp -implicitDefEqProofs only [go_sem, ↓reduceIte, Nat.reduceAdd, Nat.reduceEqDiff, e3]
  refine hK _ ?_; clear hK K
  refine AW.cond _ (by simp -implicitDefEqProofs only [go_sem]; rfl) (fun hc => ?_) (fun hc => ?_)
  rotate_left
  ·simp at hc
  by_cases h1 : n = 0
  ·have q1 := eqb h1
   have HH : numV y n = true := by rw [numV_3 k3]; simp [h1]
   refine AW.rT (by rfl) fun K hK => ?_
   simp -implicitDefEqProofs only [go_sem, ↓reduceIte, Nat.reduceAdd, Nat.reduceEqDiff, q1]
   refine hK _ ?_; clear hK K
   refine AW.ret ?_
   simp -implicitDefEqProofs only [go_sem, HH]
  ·have q1 := beqf h1
   by_cases h2 : n = 1
   ·have q2 := eqb h2
    have HH : numV y n = true := by rw [numV_3 k3]; simp [h2]
    refine AW.rT (by rfl) fun K hK => ?_
    simp -implicitDefEqProofs only [go_sem, ↓reduceIte, Nat.reduceAdd, Nat.reduceEqDiff, q1, q2]
    refine hK _ ?_; clear hK K
    refine AW.ret ?_
    simp -implicitDefEqProofs only [go_sem, HH]
   ·have q2 := beqf h2
    have HH : numV y n = false := by rw [numV_3 k3]; simp [h1, h2]
    refine AW.rT (by rfl) fun K hK => ?_
    simp -implicitDefEqProofs only [go_sem, ↓reduceIte, Nat.reduceAdd, Nat.reduceEqDiff, q1, q2]
    refine hK _ ?_; clear hK K
    refine AW.ret ?_
    simp -implicitDefEqProofs only [go_sem, HH]
 have e3 := beqf k3
 refine AW.rT (by rfl) fun K hK => ?_
 simp -implicitDefEqProofs only [go_sem, ↓reduceIte, Nat.reduceAdd, Nat.reduceEqDiff, e3]
 refine hK _ ?_; clear hK K
 refine AW.cond _ (by simp -implicitDefEqProofs only [go_sem]; rfl) (fun hc => ?_) (fun hc => ?_)
 ·simp at hc
 by_cases k6 : y.kind = 6
 ·have e6 := eqb k6
  refine AW.rT (by rfl) fun K hK => ?_
  simp -implicitDefEqProofs only [go_sem, ↓reduceIte, Nat.reduceAdd, Nat.reduceEqDiff, e6]
  refine hK _ ?_; clear hK K
  refine AW.cond _ (by simp -implicitDefEqProofs only [go_sem]; rfl) (fun hc => ?_) (fun hc => ?_)
  rotate_left
  ·simp at hc
  by_cases h1 : 0 ≤ n
  ·have q1 : (n ≥ 0) = True := eq_true h1
   by_cases h2 : n ≤ 2147483647
   ·have q2 : (n ≤ 2147483647) = True := eq_true h2
    have HH : numV y n = true := by rw [numV_6 k6]; simp [h1, h2]
    refine AW.rT (by rfl) fun K hK => ?_
    simp -implicitDefEqProofs only [go_sem, ↓reduceIte, Nat.reduceAdd, Nat.reduceEqDiff, q1, q2]
    refine hK _ ?_; clear hK K
    refine AW.ret ?_
    simp -implicitDefEqProofs only [go_sem, HH]
   ·have q2 : (n ≤ 2147483647) = False := eq_false h2
    have HH : numV y n = false := by rw [numV_6 k6]; simp [h2]
    refine AW.rT (by rfl) fun K hK => ?_
    simp -implicitDefEqProofs only [go_sem, ↓reduceIte, Nat.reduceAdd, Nat.reduceEqDiff, q1, q2]
    refine hK _ ?_; clear hK K
    refine AW.ret ?_
    simp -implicitDefEqProofs only [go_sem, HH]
  ·have q1 : (n ≥ 0) = False := eq_false h1
   have HH : numV y n = false := by rw [numV_6 k6]; simp [h1]
   refine AW.rT (by rfl) fun K hK => ?_
   simp -implicitDefEqProofs only [go_sem, ↓reduceIte, Nat.reduceAdd, Nat.reduceEqDiff, q1]
   refine hK _ ?_; clear hK K
   refine AW.ret ?_
   simp -implicitDefEqProofs only [go_sem, HH]
 have e6 := beqf k6
 refine AW.rT (by rfl) fun K hK => ?_
 simp -implicitDefEqProofs only [go_sem, ↓reduceIte, Nat.reduceAdd, Nat.reduceEqDiff, e6]
 refine hK _ ?_; clear hK K
 refine AW.cond _ (by simp -implicitDefEqProofs only [go_sem]; rfl) (fun hc => ?_) (fun hc => ?_)
 ·simp at hc
 refine AW.skip ?_
 simp only [andThen, inBlk]
 have HH : numV y n = (y.kind == 2) := by rw [numV_o k1 k3 k6]; by_cases h : y.kind = 2 <;> simp [h]
 refine AW.rT (by rfl) fun K hK => ?_
 simp -implicitDefEqProofs only [go_sem, ↓reduceIte, Nat.reduceAdd, Nat.reduceEqDiff]
 refine hK _ ?_; clear hK K
 refine AW.ret ?_
 simp -implicitDefEqProofs only [go_sem, HH]
set_option maxRecDepth 100000 in
theorem valid_Zero (t : Tr) : PFn Tryd.prog 34 [.agg (encTr t)] (.bool (zeroV t)) := by
 refine PFn.of Tryd.func34 rfl (by decide) Tryd.ntmps34 Tryd.results34 (Nat.le_of_ble_eq_true rfl) ?_
 simp only [argsT]
 refine AW.rT (by rfl) fun K hK => ?_
 simp -implicitDefEqProofs only [go_sem, Nat.reduceAdd, encTr_eq]
 refine hK _ ?_; clear hK K
 by_cases h0 : 1 ≤ t.kind
 case neg =>
  have q0 : (t.kind ≥ 1) = False := eq_false h0
  have HH : zeroV t = false := by unfold zeroV; simp only [decide_eq_false_iff_not]; rintro ⟨a1, a2, a3, a4, a5, a6⟩; exact h0 a1
  refine AW.rT (by rfl) fun K hK => ?_
  simp -implicitDefEqProofs only [go_sem, ↓reduceIte, Nat.reduceAdd, Nat.reduceEqDiff, q0]
  refine hK _ ?_; clear hK K
  refine AW.ret ?_
  simp -implicitDefEqProofs only [go_sem, HH]
 have q0 : (t.kind ≥ 1) = True := eq_true h0
 by_cases h1 : t.kind ≤ 3
 case neg =>
  have q1 : (t.kind ≤ 3) = False := eq_false h1
  have HH : zeroV t = false := by unfold zeroV; simp only [decide_eq_false_iff_not]; rintro ⟨a1, a2, a3, a4, a5, a6⟩; exact h1 a2
  refine AW.rT (by rfl) fun K hK => ?_
  simp -implicitDefEqProofs only [go_sem, ↓reduceIte, Nat.reduceAdd, Nat.reduceEqDiff, q0, q1]
  refine hK _ ?_; clear hK K
  refine AW.ret ?_
  simp -implicitDefEqProofs only [go_sem, HH]
 have q1 : (t.kind ≤ 3) = True := eq_true h1
 by_cases h2 : t.n = 0
 case neg =>
  have q2 : (t.n == 0) = false := by simp [h2]
  have HH : zeroV t = false := by unfold zeroV; simp only [decide_eq_false_iff_not]; rintro ⟨a1, a2, a3, a4, a5, a6⟩; exact h2 a3
  refine AW.rT (by rfl) fun K hK => ?_
  simp -implicitDefEqProofs only [go_sem, ↓reduceIte, Nat.reduceAdd, Nat.reduceEqDiff, q0, q1, q2]
  refine hK _ ?_; clear hK K
  refine AW.ret ?_
  simp -implicitDefEqProofs only [go_sem, HH]
 have q2 : (t.n == 0) = true := by simp [h2]
 by_cases h3 : t.s = []
 case neg =>
  have q3 : (t.s == []) = false := by simp [h3]
  have HH : zeroV t = false := by unfold zeroV; simp only [decide_eq_false_iff_not]; rintro ⟨a1, a2, a3, a4, a5, a6⟩; exact h3 a4
  refine AW.rT (by rfl) fun K hK => ?_
  simp -implicitDefEqProofs only [go_sem, ↓reduceIte, Nat.reduceAdd, Nat.reduceEqDiff, q0, q1, q2, q3]
  refine hK _ ?_; clear hK K
  refine AW.ret ?_
  simp -implicitDefEqProofs only [go_sem, HH]
 have q3 : (t.s == []) = true := by simp [h3]
 by_cases h4 : t.ents.length = 0
 case neg =>
  have q4 : ((t.ents.length : Int) == 0) = false := by simp only [beq_eq_false_iff_ne]; omega
  have HH : zeroV t = false := by unfold zeroV; simp only [decide_eq_false_iff_not]; rintro ⟨a1, a2, a3, a4, a5, a6⟩; exact h4 a5
  refine AW.rT (by rfl) fun K hK => ?_
  simp -implicitDefEqProofs only [go_sem, ↓reduceIte, Nat.reduceAdd, Nat.reduceEqDiff, q0, q1, q2, q3, q4, List.length_map]
  refine hK _ ?_; clear hK K
  refine AW.ret ?_
  simp -implicitDefEqProofs only [go_sem, HH]
 have q4 : ((t.ents.length : Int) == 0) = true := by simp [h4]
 by_cases h5 : t.rest.length = 0
 case neg =>
  have q5 : ((t.rest.length : Int) == 0) = false := by simp only [beq_eq_false_iff_ne]; omega
  have HH : zeroV t = false := by unfold zeroV; simp only [decide_eq_false_iff_not]; rintro ⟨a1, a2, a3, a4, a5, a6⟩; exact h5 a6
  refine AW.rT (by rfl) fun K hK => ?_
  simp -implicitDefEqProofs only [go_sem, ↓reduceIte, Nat.reduceAdd, Nat.reduceEqDiff, q0, q1, q2, q3, q4, q5, List.length_map]
  refine hK _ ?_; clear hK K
  refine AW.ret ?_
  simp -implicitDefEqProofs only [go_sem, HH]
 have q5 : ((t.rest.length : Int) == 0) = true := by simp [h5]
 have HH : zeroV t = true := by unfold zeroV; simp only [decide_eq_true_eq]; exact ⟨h0, h1, h2, h3, h4, h5⟩
 refine AW.rT (by rfl) fun K hK => ?_
 simp -implicitDefEqProofs only [go_sem, ↓reduceIte, Nat.reduceAdd, Nat.reduceEqDiff, q0, q1, q2, q3, q4, q5, List.length_map]
 refine hK _ ?_; clear hK K
 refine AW.ret ?_
 simp -implicitDefEqProofs only [go_sem, HH]
set_option maxRecDepth 100000 in
theorem ref10_Zero (t : Tr) : PFn Tryd.prog 38 [.agg (encTr t)] (.bool (zeroV t)) := by
 refine PFn.of Tryd.func38 rfl (by decide) Tryd.ntmps38 Tryd.results38 (Nat.le_of_ble_eq_true rfl) ?_
 simp only [argsT]
 refine AW.rT (by rfl) fun K hK => ?_
 simp -implicitDefEqProofs only [go_sem, Nat.reduceAdd, encTr_eq]
 refine hK _ ?_; clear hK K
 by_cases h0 : 1 ≤ t.kind
 case neg =>
  have q0 : (t.kind ≥ 1) = False := eq_false h0
  have HH : zeroV t = false := by unfold zeroV; simp only [decide_eq_false_iff_not]; rintro ⟨a1, a2, a3, a4, a5, a6⟩; exact h0 a1
  refine AW.rT (by rfl) fun K hK => ?_
  simp -implicitDefEqProofs only [go_sem, ↓reduceIte, Nat.reduceAdd, Nat.reduceEqDiff, q0]
  refine hK _ ?_; clear hK K
  refine AW.ret ?_
  simp -implicitDefEqProofs only [go_sem, HH]
 have q0 : (t.kind ≥ 1) = True := eq_true h0
 by_cases h1 : t.kind ≤ 3
 case neg =>
  have q1 : (t.kind ≤ 3) = False := eq_false h1
  have HH : zeroV t = false := by unfold zeroV; simp only [decide_eq_false_iff_not]; rintro ⟨a1, a2, a3, a4, a5, a6⟩; exact h1 a2
  refine AW.rT (by rfl) fun K hK => ?_
  simp -implicitDefEqProofs only [go_sem, ↓reduceIte, Nat.reduceAdd, Nat.reduceEqDiff, q0, q1]
  refine hK _ ?_; clear hK K
  refine AW.ret ?_
  simp -implicitDefEqProofs only [go_sem, HH]
 have q1 : (t.kind ≤ 3) = True := eq_true h1
 by_cases h2 : t.n = 0
 case neg =>
  have q2 : (t.n == 0) = false := by simp [h2]
  have HH : zeroV t = false := by unfold zeroV; simp only [decide_eq_false_iff_not]; rintro ⟨a1, a2, a3, a4, a5, a6⟩; exact h2 a3
  refine AW.rT (by rfl) fun K hK => ?_
  simp -implicitDefEqProofs only [go_sem, ↓reduceIte, Nat.reduceAdd, Nat.reduceEqDiff, q0, q1, q2]
  refine hK _ ?_; clear hK K
  refine AW.ret ?_
  simp -implicitDefEqProofs only [go_sem, HH]
 have q2 : (t.n == 0) = true := by simp [h2]
 by_cases h3 : t.s = []
 case neg =>
  have q3 : (t.s == []) = false := by simp [h3]
  have HH : zeroV t = false := by unfold zeroV; simp only [decide_eq_false_iff_not]; rintro ⟨a1, a2, a3, a4, a5, a6⟩; exact h3 a4
  refine AW.rT (by rfl) fun K hK => ?_
  simp -implicitDefEqProofs only [go_sem, ↓reduceIte, Nat.reduceAdd, Nat.reduceEqDiff, q0, q1, q2, q3]
  refine hK _ ?_; clear hK K
  refine AW.ret ?_
  simp -implicitDefEqProofs only [go_sem, HH]
 have q3 : (t.s == []) = true := by simp [h3]
 by_cases h4 : t.ents.length = 0
 case neg =>
  have q4 : ((t.ents.length : Int) == 0) = false := by simp only [beq_eq_false_iff_ne]; omega
  have HH : zeroV t = false := by unfold zeroV; simp only [decide_eq_false_iff_not]; rintro ⟨a1, a2, a3, a4, a5, a6⟩; exact h4 a5
  refine AW.rT (by rfl) fun K hK => ?_
  simp -implicitDefEqProofs only [go_sem, ↓reduceIte, Nat.reduceAdd, Nat.reduceEqDiff, q0, q1, q2, q3, q4, List.length_map]
  refine hK _ ?_; clear hK K
  refine AW.ret ?_
  simp -implicitDefEqProofs only [go_sem, HH]
 have q4 : ((t.ents.length : Int) == 0) = true := by simp [h4]
 by_cases h5 : t.rest.length = 0
 case neg =>
  have q5 : ((t.rest.length : Int) == 0) = false := by simp only [beq_eq_false_iff_ne]; omega
  have HH : zeroV t = false := by unfold zeroV; simp only [decide_eq_false_iff_not]; rintro ⟨a1, a2, a3, a4, a5, a6⟩; exact h5 a6
  refine AW.rT (by rfl) fun K hK => ?_
  simp -implicitDefEqProofs only [go_sem, ↓reduceIte, Nat.reduceAdd, Nat.reduceEqDiff, q0, q1, q2, q3, q4, q5, List.length_map]
  refine hK _ ?_; clear hK K
  refine AW.ret ?_
  simp -implicitDefEqProofs only [go_sem, HH]
 have q5 : ((t.rest.length : Int) == 0) = true := by simp [h5]
 have HH : zeroV t = true := by unfold zeroV; simp only [decide_eq_true_eq]; exact ⟨h0, h1, h2, h3, h4, h5⟩
 refine AW.rT (by rfl) fun K hK => ?_
 simp -implicitDefEqProofs only [go_sem, ↓reduceIte, Nat.reduceAdd, Nat.reduceEqDiff, q0, q1, q2, q3, q4, q5, List.length_map]
 refine hK _ ?_; clear hK K
 refine AW.ret ?_
 simp -implicitDefEqProofs only [go_sem, HH]
end Go.Aw.T
namespace Go.Aw.T
open Go.Proofs
set_option linter.unusedSimpArgs false
set_option linter.unusedVariables false
theorem right_ent {t : Tr} (h : rightT t = true) : ∀ e ∈ t.ents, 1 ≤ e.2.length ∧ ∀ x ∈ e.2, rightT x = true := by
 have all : ∀ {l : List Tr} {k : Int}, rightTs l k = true → ∀ x ∈ l, rightT x = true := fun {l} => by
  induction l with
  | nil => intro k _ x hx; cases hx
  | cons a l ih =>
   intro k h x hx
   rw [rightTs] at h
   split at h
   ·cases h
   split at h
   ·rename_i h2
    rcases List.mem_cons.1 hx with rfl | hx
    ·exact h2
    ·exact ih h x hx
   ·cases h
 have ent : ∀ {es : List (Int × List Tr)} {last : Int}, rightE es last = true → ∀ e ∈ es, 1 ≤ e.2.length ∧ ∀ x ∈ e.2, rightT x = true := fun {es} => by
  induction es with
  | nil => intro k _ x hx; cases hx
  | cons a es ih =>
   obtain ⟨g, l⟩ := a
   intro k h x hx
   rw [rightE] at h
   split at h
   ·cases h
   rename_i h1
   split at h
   ·rename_i h2
    rcases List.mem_cons.1 hx with rfl | hx
    ·exact ⟨by simp only; omega, all h2⟩
    ·exact ih h x hx
   ·cases h
 rw [rightT_mk] at h
 intro e he
 split at h
 ·simp only [Bool.and_eq_true, List.isEmpty_iff] at h
  rw [h.1.2] at he; cases he
 split at h
 ·simp only [Bool.and_eq_true, List.isEmpty_iff] at h
  rw [h.1.2] at he; cases he
 split at h
 ·simp only [Bool.and_eq_true] at h
  exact ent h.1.2 e he
 ·cases h
structure SizS (S : Sc) : Prop where
 msgs : S.msgs.length ≤ 1000000
 flds : ∀ m ∈ S.msgs, m.fields.length ≤ 1000000
theorem siz_of {S : Sc} (h : SizS S) (k : List UInt8) : (msOf S k).1.fields.length ≤ 1000000 := by
 unfold msOf firstP
 split
 ·rename_i m hm
  exact h.flds m (List.mem_of_find?_eq_some hm)
 ·simp [zMs]
end Go.Aw.T
