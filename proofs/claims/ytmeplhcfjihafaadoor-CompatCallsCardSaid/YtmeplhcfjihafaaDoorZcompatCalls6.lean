/- What the law LawCompatCalls leans on, joined (part 6). -/
import Derived.Test.YtmeplhcfjihafaaDoorZcompatCalls5
set_option linter.unusedSimpArgs false
set_option linter.unusedVariables false
namespace Go.Aw
open Go.Proofs Go.RowKit
set_option linter.unusedSimpArgs false
set_option linter.unusedVariables false
theorem vals_iff : ∀ {l : List Nm} {ns : List (List UInt8)} {us : List Int}, valsC ns us l = 0 ↔ (∀ f ∈ l, nameB f.name = true ∧ numB f.n = true ∧ f.name ∉ ns ∧ f.n ∉ us) ∧ (l.map Nm.name).Nodup ∧ (l.map Nm.n).Nodup
 | [], ns, us => by simp [valsC]
 | f :: l, ns, us => by
  rw [valsC, List.map_cons, List.map_cons, List.nodup_cons, List.nodup_cons]
  constructor
  ·intro h
   split at h
   ·rename_i h1
    split at h
    ·rename_i h2
     obtain ⟨q1, q2, q3⟩ := (vals_iff (l := l)).1 h
     have t1 := takes_iff.1 h1
     rw [Bool.and_eq_true, Bool.not_eq_true', ← Bool.not_eq_true, List.contains_iff_mem] at h2
     refine ⟨fun g hg => ?_, ⟨fun hm => ?_, q2⟩, ⟨fun hm => ?_, q3⟩⟩
     ·rcases List.mem_cons.1 hg with rfl | hg
      ·exact ⟨t1.1, h2.1, t1.2, h2.2⟩
      ·obtain ⟨a, b, d, e⟩ := q1 g hg
       exact ⟨a, b, fun hm => d (List.mem_append.2 (.inl hm)), fun hm => e (List.mem_append.2 (.inl hm))⟩
     ·obtain ⟨g, hg, e⟩ := List.mem_map.1 hm
      exact (q1 g hg).2.2.1 (by rw [e]; simp)
     ·obtain ⟨g, hg, e⟩ := List.mem_map.1 hm
      exact (q1 g hg).2.2.2 (by rw [e]; simp)
    ·cases h
   ·cases h
  ·rintro ⟨h, ⟨n1, n2⟩, ⟨m1, m2⟩⟩
   obtain ⟨a, b, d, e⟩ := h f List.mem_cons_self
   rw [if_pos (takes_iff.2 ⟨a, d⟩), if_pos (by rw [Bool.and_eq_true, Bool.not_eq_true', ← Bool.not_eq_true, List.contains_iff_mem]; exact ⟨b, e⟩)]
   refine (vals_iff (l := l)).2 ⟨fun g hg => ?_, n2, m2⟩
   obtain ⟨a', b', d', e'⟩ := h g (List.mem_cons_of_mem _ hg)
   refine ⟨a', b', fun hm => ?_, fun hm => ?_⟩
   ·rcases List.mem_append.1 hm with hm | hm
    ·exact d' hm
    ·simp at hm; exact n1 (List.mem_map.2 ⟨g, hg, hm⟩)
   ·rcases List.mem_append.1 hm with hm | hm
    ·exact e' hm
    ·simp at hm; exact m1 (List.mem_map.2 ⟨g, hg, hm⟩)
theorem name_nil : nameB [] = false := by decide +kernel
structure FitE (e : En) : Prop where
 no : e.vals.length ≤ 16
 zero : ∃ v ∈ e.vals, v.n = 0
 vals : ∀ v ∈ e.vals, nameB v.name = true ∧ numB v.n = true
 nnd : (e.vals.map Nm.name).Nodup
 vnd : (e.vals.map Nm.n).Nodup
theorem ebody_iff {e : En} : enumBody e = 0 ↔ FitE e := by
 unfold enumBody
 constructor
 ·intro h
  split at h
  ·cases h
  rename_i h1
  split at h
  ·rename_i h2
   obtain ⟨q1, q2, q3⟩ := vals_iff.1 h
   obtain ⟨v, hv, e0⟩ := List.any_eq_true.1 h2
   exact ⟨by omega, ⟨v, hv, eq_of_beq e0⟩, fun v hv => ⟨(q1 v hv).1, (q1 v hv).2.1⟩, q2, q3⟩
  ·cases h
 ·intro F
  have := F.no
  obtain ⟨v, hv, e0⟩ := F.zero
  rw [if_neg (by omega), if_pos (List.any_eq_true.2 ⟨v, hv, by simp [e0]⟩)]
  exact vals_iff.2 ⟨fun v hv => ⟨(F.vals v hv).1, (F.vals v hv).2, by simp, by simp⟩, F.nnd, F.vnd⟩
theorem FitE.nice {e : En} (F : FitE e) : niceE e := by
 refine ⟨F.vnd, fun v hv q => ?_⟩
 have := (F.vals v hv).1
 rw [q, name_nil] at this
 cases this
theorem fit_enum {S : Sc} (F : FitS S) {e : En} (h : e ∈ S.enums) : FitE e := ebody_iff.1 (F.ebody e h)
theorem right_Fits {S U : Sc} (F : FitS S) (G : FitS U) (y z : Ty) : PFn Tryd.prog 44 [.agg (encSc S), .agg (encSc U), .agg (encTy y), .agg (encTy z)] (.bool (fitsB S U y z)) :=
 compat_Fits S U y z (by have := F.lens; omega) (by have := G.lens; omega) (fun e he => by have := (fit_enum F he).no; omega) (fun e he => by have := (fit_enum G he).no; omega) (fun e he => (fit_enum F he).nice) fun e he => (fit_enum G he).nice
end Go.Aw
namespace Go.Aw
open Go.Proofs Go.RowKit
set_option linter.unusedSimpArgs false
set_option linter.unusedVariables false
theorem memP_by {p : Nat → Bool} {l : List Pr} {r a b : Nat} (h1 : p a = true) (h2 : p b = true) : (memP l r a b).all (fun x => x.2.labsBy p) = true := by
 simp only [memP, List.all_cons, List.all_nil, labsBy_lift, mP_by, Bool.and_true]
 simp [Blk.labsBy, labsByL, AV.labsBy, h1, h2]
def evS (S U : Sc) (l : List Pr) (m : List (Nat × AV)) : St := ⟨ofL ((2, .ptr 0 0 0) :: (3, .ptr 1 0 0) :: (7, .ptr 2 0 0) :: m), ofH ((0, .row 4 [cellsSc S]) :: (1, .row 4 [cellsSc U]) :: memP l 2 3 4), 5⟩
theorem walkP_end {S U : Sc} : ∀ (n i : Nat) (l : List Pr), l.length ≤ i → walkP S U n i l = ([], 0, true)
 | 0, i, l, _ => rfl
 | n + 1, i, l, h => by
  rw [walkP, List.getElem?_eq_none h]
def evNx (S U : Sc) (p : Pr) (i : Nat) : Int ⊕ List Pr → List UInt8 × Int × Bool
 | .inl t => (p.o, t, false)
 | .inr l' => walkP S U (100 - i) (i + 1) l'
theorem walkP_at {S U : Sc} {i : Nat} {l : List Pr} {p : Pr} (h : l[i]? = some p) (hi : i ≤ 100) : walkP S U (101 - i) i l = evNx S U p i (tagsP S U (msgOf S p.o) (msgOf U p.n) 500 1 l) := by
 rw [show 101 - i = (100 - i) + 1 by omega, walkP, h]
 simp only
 cases tagsP S U (msgOf S p.o) (msgOf U p.n) 500 1 l <;> rfl
def evI (S U : Sc) (mo mn : Ms) (l : List Pr) (i : Nat) (m : List (Nat × AV)) : St := ⟨ofL ((2, .ptr 0 0 0) :: (3, .ptr 1 0 0) :: (7, .ptr 2 0 0) :: (12, .p (.str [])) :: (13, .p (.int .i64 0)) :: (14, .p (.int .i64 (i : Int))) :: (15, .ptr 5 0 0) :: (17, .ptr 6 0 0) :: m),
 ofH ((0, .row 4 [cellsSc S]) :: (1, .row 4 [cellsSc U]) :: (5, .row 3 [cellsMs mo]) :: (6, .row 3 [cellsMs mn]) :: memP l 2 3 4), 7⟩
def evM (S U : Sc) (l : List Pr) (m m' : Mt) (i : Nat) : St := ⟨ofL [(2, .ptr 0 0 0), (3, .ptr 1 0 0), (7, .ptr 2 0 0), (9, .ptr 5 0 0), (10, .ptr 6 0 0), (32, .p (.slice (S.meths.map encMt))), (33, .p (.int .i64 (S.meths.length : Int))), (34, .p (.int .i64 (i : Int)))],
 ofH ((0, .row 4 [cellsSc S]) :: (1, .row 4 [cellsSc U]) :: (5, .row 3 [cellsMt m]) :: (6, .row 3 [cellsMt m']) :: memP l 2 3 4), 7⟩
set_option maxRecDepth 100000 in
set_option maxHeartbeats 4000000 in
theorem compat_Evolves (S U : Sc) (LS : LensS S) (LU : LensS U) : PFn Tryd.prog 42 [.agg (encSc S), .agg (encSc U)] (.tuple [.str (evoP S U).1, .int .i64 (evoP S U).2.1, .bool (evoP S U).2.2]) := by
 refine PFn.of Tryd.func42 rfl (by decide) Tryd.ntmps42 Tryd.results42 (Nat.le_of_ble_eq_true rfl) ?_
 have C1 := check_Check S LS
 have C2 := check_Check U LU
 simp only [encSc] at C1 C2
 simp only [argsT, encSc]
 refine AW.rT (by rfl) fun K hK => ?_
 simp -implicitDefEqProofs only [go_sem, ↓reduceIte, Nat.reduceAdd, Nat.reduceMul, Nat.reduceEqDiff, Nat.reduceLeDiff, reduceCtorEq, Int.reduceToNat]
 refine hK _ ?_; clear hK K
 refine AW.scope ?_
 refine AW.seq ?_
 by_cases hS : checkC S = 0
 case neg =>
  have f1 : (checkC S != 0) = true := by simp [hS]
  have e : evoP S U = ([], 0, false) := by unfold evoP; rw [if_neg (fun h => hS h.1)]
  refine AW.rT (by rfl) fun K hK => ?_
  simp -implicitDefEqProofs only [go_sem, ↓reduceIte, Nat.reduceAdd, Nat.reduceMul, Nat.reduceEqDiff, Nat.reduceLeDiff, reduceCtorEq, Int.reduceToNat]
  refine ⟨.pure _, C1, ?_⟩
  try simp -implicitDefEqProofs only [go_sem, ↓reduceIte, Nat.reduceAdd, Nat.reduceMul, Nat.reduceEqDiff, Nat.reduceLeDiff, reduceCtorEq, Int.reduceToNat, f1]
  refine hK _ ?_; clear hK K
  refine AW.cond _ (by simp -implicitDefEqProofs only [go_sem, ↓reduceIte, Nat.reduceAdd, Nat.reduceMul, Nat.reduceEqDiff, Nat.reduceLeDiff, reduceCtorEq, Int.reduceToNat]; rfl) (fun hc => ?_) (fun hc => ?_)
  rotate_left
  ·simp at hc
  refine AW.rT (by rfl) fun K hK => ?_
  simp -implicitDefEqProofs only [go_sem, ↓reduceIte, Nat.reduceAdd, Nat.reduceMul, Nat.reduceEqDiff, Nat.reduceLeDiff, reduceCtorEq, Int.reduceToNat]
  refine hK _ ?_; clear hK K
  refine AW.ret ?_
  simp -implicitDefEqProofs only [go_sem, ↓reduceIte, Nat.reduceAdd, Nat.reduceMul, Nat.reduceEqDiff, Nat.reduceLeDiff, reduceCtorEq, Int.reduceToNat, e]
 have f1 : (checkC S != 0) = false := by simp [hS]
 by_cases hU : checkC U = 0
 case neg =>
  have f2 : (checkC U != 0) = true := by simp [hU]
  have e : evoP S U = ([], 0, false) := by unfold evoP; rw [if_neg (fun h => hU h.2)]
  refine AW.rT (by rfl) fun K hK => ?_
  simp -implicitDefEqProofs only [go_sem, ↓reduceIte, Nat.reduceAdd, Nat.reduceMul, Nat.reduceEqDiff, Nat.reduceLeDiff, reduceCtorEq, Int.reduceToNat]
  refine ⟨.pure _, C1, ?_⟩
  try simp -implicitDefEqProofs only [go_sem, ↓reduceIte, Nat.reduceAdd, Nat.reduceMul, Nat.reduceEqDiff, Nat.reduceLeDiff, reduceCtorEq, Int.reduceToNat, f1]
  refine ⟨.pure _, C2, ?_⟩
  try simp -implicitDefEqProofs only [go_sem, ↓reduceIte, Nat.reduceAdd, Nat.reduceMul, Nat.reduceEqDiff, Nat.reduceLeDiff, reduceCtorEq, Int.reduceToNat, f2]
  refine hK _ ?_; clear hK K
  refine AW.cond _ (by simp -implicitDefEqProofs only [go_sem, ↓reduceIte, Nat.reduceAdd, Nat.reduceMul, Nat.reduceEqDiff, Nat.reduceLeDiff, reduceCtorEq, Int.reduceToNat]; rfl) (fun hc => ?_) (fun hc => ?_)
  rotate_left
  ·simp at hc
  refine AW.rT (by rfl) fun K hK => ?_
  simp -implicitDefEqProofs only [go_sem, ↓reduceIte, Nat.reduceAdd, Nat.reduceMul, Nat.reduceEqDiff, Nat.reduceLeDiff, reduceCtorEq, Int.reduceToNat]
  refine hK _ ?_; clear hK K
  refine AW.ret ?_
  simp -implicitDefEqProofs only [go_sem, ↓reduceIte, Nat.reduceAdd, Nat.reduceMul, Nat.reduceEqDiff, Nat.reduceLeDiff, reduceCtorEq, Int.reduceToNat, e]
 have f2 : (checkC U != 0) = false := by simp [hU]
 refine AW.rT (by rfl) fun K hK => ?_
 simp -implicitDefEqProofs only [go_sem, ↓reduceIte, Nat.reduceAdd, Nat.reduceMul, Nat.reduceEqDiff, Nat.reduceLeDiff, reduceCtorEq, Int.reduceToNat]
 refine ⟨.pure _, C1, ?_⟩
 try simp -implicitDefEqProofs only [go_sem, ↓reduceIte, Nat.reduceAdd, Nat.reduceMul, Nat.reduceEqDiff, Nat.reduceLeDiff, reduceCtorEq, Int.reduceToNat, f1]
 refine ⟨.pure _, C2, ?_⟩
 try simp -implicitDefEqProofs only [go_sem, ↓reduceIte, Nat.reduceAdd, Nat.reduceMul, Nat.reduceEqDiff, Nat.reduceLeDiff, reduceCtorEq, Int.reduceToNat, f2]
 refine hK _ ?_; clear hK K
 refine AW.cond _ (by simp -implicitDefEqProofs only [go_sem, ↓reduceIte, Nat.reduceAdd, Nat.reduceMul, Nat.reduceEqDiff, Nat.reduceLeDiff, reduceCtorEq, Int.reduceToNat]; rfl) (fun hc => ?_) (fun hc => ?_)
 ·simp at hc
 refine AW.skip ?_
 simp only [andThen, inBlk, reduceCtorEq, ↓reduceIte, if_t, if_f]
 refine AW.rT (by rfl) fun K hK => ?_
 simp -implicitDefEqProofs only [go_sem, ↓reduceIte, Nat.reduceAdd, Nat.reduceMul, Nat.reduceEqDiff, Nat.reduceLeDiff, reduceCtorEq, Int.reduceToNat]
 refine hK _ ?_; clear hK K
 have FS := check_fit.1 hS
 have FU := check_fit.1 hU
 have RS := right_of hS
 have RU := right_of hU
 have HF := right_Fits FS FU
 have Fl := FS.lens
 have Gl := FU.lens
 have eE : evoP S U = (match seedP U [] S.meths with | .inl k => (k, 0, false) | .inr l => walkP S U 101 0 l) := by unfold evoP; rw [if_pos ⟨hS, hU⟩] <;> (cases seedP U [] S.meths <;> rfl)
 -- the calls' messages
 refine AW.cut (fun l : List Pr => evS S U l []) (fun l => seedP U [] S.meths = .inr l ∧ PairsOK S U l) ?_ fun l hl => ?_
 ·refine AW.rT (by rfl) fun K hK => ?_
  simp -implicitDefEqProofs only [go_sem, ↓reduceIte, Nat.reduceAdd, Nat.reduceMul, Nat.reduceEqDiff, Nat.reduceLeDiff, reduceCtorEq, Int.reduceToNat, List.length_map]
  refine hK _ ?_; clear hK K
  refine AW.block ?_
  refine AW.loop (fun x : List Pr × Nat => evS S U x.1 [(32, .p (.slice (S.meths.map encMt))), (33, .p (.int .i64 (S.meths.length : Int))), (34, .p (.int .i64 (x.2 : Int)))]) (fun x => x.2 ≤ S.meths.length ∧ seedP U [] S.meths = seedP U x.1 (S.meths.drop x.2) ∧ PairsOK S U x.1) (fun x => S.meths.length - x.2) ([], 0) ?_ ⟨Nat.zero_le _, rfl, ⟨fun p hp => (by cases hp), List.nodup_nil⟩⟩ fun x hx => ?_
  ·refine Ghost.trans (s' := ⟨ofL [(2, .ptr 0 0 0), (3, .ptr 1 0 0), (7, .ptr 2 0 0), (32, .p (.slice (S.meths.map encMt))), (33, .p (.int .i64 (S.meths.length : Int))), (34, .p (.int .i64 0))], ofH [(0, .row 4 [cellsSc S]), (1, .row 4 [cellsSc U]), (2, .row 2 [[.ex [], .map 4]]), (4, .map [])], 5⟩) ?_ (Ghost.trans (Ghost.nilH (l := 2) (i := 0) (j := 0) (sz' := 2) rfl rfl rfl) ?_)
   ·simp only [cellsSc]
    refine Ghost.ent (fun l => if l = 0 then 0 else if l = 1 then 1 else if l = 2 then 15 else 13) ?_ ?_ ?_ <;> simp -implicitDefEqProofs only [go_sem, ↓reduceIte, Nat.reduceAdd, Nat.reduceMul, Nat.reduceEqDiff, Nat.reduceLeDiff, reduceCtorEq, Int.reduceToNat,  List.forall_mem_cons, List.not_mem_nil, false_implies, implies_true, and_self, map_renL_lift, labsIn_lift, List.all_append, List.all_cons, List.all_nil, List.map_append, Nat.reduceLT, labsInL, AV.labsIn]
    all_goals first | rfl | decide | skip
   ·simp only [evS, memP, cellsSc]
    refine Ghost.ent (fun l => if l = 3 then 5 else l) ?_ ?_ ?_ <;> simp -implicitDefEqProofs only [go_sem, ↓reduceIte, Nat.reduceAdd, Nat.reduceMul, Nat.reduceEqDiff, Nat.reduceLeDiff, reduceCtorEq, Int.reduceToNat, List.map_nil, liftE_nil, mP, List.forall_mem_cons, List.not_mem_nil, false_implies, implies_true, and_self, map_renL_lift, labsIn_lift, List.all_append, List.all_cons, List.all_nil, List.map_append, Nat.reduceLT, labsInL, AV.labsIn]
    all_goals first | rfl | decide | skip
  obtain ⟨l, i⟩ := x
  obtain ⟨i1, i2, i3⟩ := hx
  simp only at i1 i2 i3
  simp only [evS, memP, cellsSc]
  by_cases hil : i < S.meths.length
  case neg =>
   have hc1 : ((i : Int) < (S.meths.length : Int)) = False := eq_false (by omega)
   refine AW.rT (by rfl) fun K hK => ?_
   simp -implicitDefEqProofs only [go_sem, ↓reduceIte, Nat.reduceAdd, Nat.reduceMul, Nat.reduceEqDiff, Nat.reduceLeDiff, reduceCtorEq, Int.reduceToNat, hc1]
   refine hK _ ?_; clear hK K
   refine AW.seq ?_
   refine AW.cond _ (by simp -implicitDefEqProofs only [go_sem, ↓reduceIte, Nat.reduceAdd, Nat.reduceMul, Nat.reduceEqDiff, Nat.reduceLeDiff, reduceCtorEq, Int.reduceToNat]; rfl) (fun hc => ?_) (fun hc => ?_)
   ·simp at hc
   refine AW.exit ?_
   simp only [andThen, inBlk, reduceCtorEq, ↓reduceIte, if_t, if_f]
   refine ⟨l, ⟨?_, i3⟩, ?_⟩
   ·rw [i2, List.drop_of_length_le (by omega)]; rfl
   ·show Ghost _ _ (evS S U l [])
    simp only [evS, memP, cellsSc]
    refine Ghost.sub ?_ ?_ <;> simp -implicitDefEqProofs only [go_sem, ↓reduceIte, Nat.reduceAdd, Nat.reduceMul, Nat.reduceEqDiff, Nat.reduceLeDiff, reduceCtorEq, Int.reduceToNat,  List.forall_mem_cons, List.not_mem_nil, false_implies, implies_true, and_self, labsIn_lift, List.all_append, List.all_cons, List.all_nil, Nat.reduceLT, labsInL, AV.labsIn]
    all_goals first | rfl | decide | skip
  obtain ⟨m, hm⟩ : ∃ m, S.meths[i]? = some m := ⟨_, List.getElem?_eq_getElem hil⟩
  have ⟨hm1, hm2, hm3⟩ := at_map' encMt hm
  have hm2' : (i : Int) < (S.meths.length : Int) := by omega
  have hc1 : ((i : Int) < (S.meths.length : Int)) = True := eq_true (by omega)
  have w1 : IntKind.wrap .i64 ((i : Int) + 1) = ((i + 1 : Nat) : Int) := by rw [w64] <;> omega
  have M1 := check_Method U m.name (by omega)
  have e1 : firstP (fun x => x.name == m.name) zMt U.meths = methOf U m.name := rfl
  rw [e1] at M1
  simp only [encSc, encMt] at M1
  have dr : S.meths.drop i = m :: S.meths.drop (i + 1) := by
   rw [List.drop_eq_getElem_cons hil, (List.getElem?_eq_some_iff.1 hm).2]
  rw [dr, seedP] at i2
  refine AW.rT (by rfl) fun K hK => ?_
  simp -implicitDefEqProofs only [go_sem, ↓reduceIte, Nat.reduceAdd, Nat.reduceMul, Nat.reduceEqDiff, Nat.reduceLeDiff, reduceCtorEq, Int.reduceToNat, hc1]
  refine hK _ ?_; clear hK K
  refine AW.seq ?_
  refine AW.cond _ (by simp -implicitDefEqProofs only [go_sem, ↓reduceIte, Nat.reduceAdd, Nat.reduceMul, Nat.reduceEqDiff, Nat.reduceLeDiff, reduceCtorEq, Int.reduceToNat]; rfl) (fun hc => ?_) (fun hc => ?_)
  rotate_left
  ·simp at hc
  refine AW.skip ?_
  simp only [andThen, inBlk, reduceCtorEq, ↓reduceIte, if_t, if_f]
  refine AW.seq ?_
  refine AW.block ?_
  refine AW.rT (by rfl) fun K hK => ?_
  simp -implicitDefEqProofs only [go_sem, ↓reduceIte, Nat.reduceAdd, Nat.reduceMul, Nat.reduceEqDiff, Nat.reduceLeDiff, reduceCtorEq, Int.reduceToNat, hm1, hm2', hm3, encMt, List.length_map]
  refine hK _ ?_; clear hK K
  refine AW.rT (by rfl) fun K hK => ?_
  simp -implicitDefEqProofs only [go_sem, ↓reduceIte, Nat.reduceAdd, Nat.reduceMul, Nat.reduceEqDiff, Nat.reduceLeDiff, reduceCtorEq, Int.reduceToNat]
  refine ⟨.pure _, M1, ?_⟩
  try simp -implicitDefEqProofs only [go_sem, ↓reduceIte, Nat.reduceAdd, Nat.reduceMul, Nat.reduceEqDiff, Nat.reduceLeDiff, reduceCtorEq, Int.reduceToNat]
  refine hK _ ?_; clear hK K
  refine AW.seq ?_
  cases hk : (methOf U m.name).2 with
  | false =>
   rw [if_neg (by rw [hk]; simp)] at i2
   rw [i2] at eE
   refine AW.rT (by rfl) fun K hK => ?_
   simp -implicitDefEqProofs only [go_sem, ↓reduceIte, Nat.reduceAdd, Nat.reduceMul, Nat.reduceEqDiff, Nat.reduceLeDiff, reduceCtorEq, Int.reduceToNat, hk]
   refine hK _ ?_; clear hK K
   refine AW.cond _ (by simp -implicitDefEqProofs only [go_sem, ↓reduceIte, Nat.reduceAdd, Nat.reduceMul, Nat.reduceEqDiff, Nat.reduceLeDiff, reduceCtorEq, Int.reduceToNat]; rfl) (fun hc => ?_) (fun hc => ?_)
   rotate_left
   ·simp at hc
   refine AW.rT (by rfl) fun K hK => ?_
   simp -implicitDefEqProofs only [go_sem, ↓reduceIte, Nat.reduceAdd, Nat.reduceMul, Nat.reduceEqDiff, Nat.reduceLeDiff, reduceCtorEq, Int.reduceToNat]
   refine hK _ ?_; clear hK K
   refine AW.ret ?_
   simp -implicitDefEqProofs only [go_sem, ↓reduceIte, Nat.reduceAdd, Nat.reduceMul, Nat.reduceEqDiff, Nat.reduceLeDiff, reduceCtorEq, Int.reduceToNat, eE, noGo]
  | true =>
  rw [if_pos hk] at i2
  refine AW.rT (by rfl) fun K hK => ?_
  simp -implicitDefEqProofs only [go_sem, ↓reduceIte, Nat.reduceAdd, Nat.reduceMul, Nat.reduceEqDiff, Nat.reduceLeDiff, reduceCtorEq, Int.reduceToNat, hk]
  refine hK _ ?_; clear hK K
  refine AW.cond _ (by simp -implicitDefEqProofs only [go_sem, ↓reduceIte, Nat.reduceAdd, Nat.reduceMul, Nat.reduceEqDiff, Nat.reduceLeDiff, reduceCtorEq, Int.reduceToNat]; rfl) (fun hc => ?_) (fun hc => ?_)
  ·simp at hc
  refine AW.skip ?_
  simp only [andThen, inBlk, reduceCtorEq, ↓reduceIte, if_t, if_f]
  have hl100 := pairs_len i3 RS.len.2.1 RU.len.2.1
  have mr := RS.meth i m hm
  have mr' := meth_right RU hk
  have A1 := compat_add l ⟨m.inn, (methOf U m.name).1.inn⟩ (by omega)
  have ok1 := addP_ok i3 mr.2.1 mr'.2.2.1 (p := ⟨m.inn, (methOf U m.name).1.inn⟩)
  generalize addP l ⟨m.inn, (methOf U m.name).1.inn⟩ = l1 at *
  have hl101 := pairs_len ok1 RS.len.2.1 RU.len.2.1
  have A2 := compat_add l1 ⟨m.out, (methOf U m.name).1.out⟩ (by omega)
  have ok2 := addP_ok ok1 mr.2.2 mr'.2.2.2 (p := ⟨m.out, (methOf U m.name).1.out⟩)
  generalize addP l1 ⟨m.out, (methOf U m.name).1.out⟩ = l2 at *
  refine AW.rR (SeqR.ev 5 (by rfl) (by decide) ?_)
  simp -implicitDefEqProofs only [go_sem, ↓reduceIte, Nat.reduceAdd, Nat.reduceMul, Nat.reduceEqDiff, Nat.reduceLeDiff, reduceCtorEq, Int.reduceToNat]
  refine SeqR.call (fun k => k + 2) rfl rfl A1 ⟨?_, rfl, ?_, rfl, rfl, rfl, rfl, rfl, memP_by (r := 0) rfl rfl⟩ ?_
  ·simp -implicitDefEqProofs only [go_sem, ↓reduceIte, Nat.reduceAdd, Nat.reduceMul, Nat.reduceEqDiff, Nat.reduceLeDiff, reduceCtorEq, Int.reduceToNat, argD]
  ·simp only [memP]
   simp -implicitDefEqProofs only [go_sem, ↓reduceIte, Nat.reduceAdd, Nat.reduceMul, Nat.reduceEqDiff, Nat.reduceLeDiff, reduceCtorEq, Int.reduceToNat, List.forall_mem_cons, List.not_mem_nil, false_implies, implies_true, and_self]
   first | done | decide
  refine SeqR.last rfl ?_
  refine AW.ghost (s' := evM S U l1 m (methOf U m.name).1 i) ?_ ?_
  ·simp only [evM, memP, cellsSc]
   refine Ghost.ent (fun l => if l = 3 then 27 else if l = 4 then 28 else if l = 5 then 8 else if l = 6 then 17 else l) ?_ ?_ ?_ <;> simp -implicitDefEqProofs only [go_sem, ↓reduceIte, Nat.reduceAdd, Nat.reduceMul, Nat.reduceEqDiff, Nat.reduceLeDiff, reduceCtorEq, Int.reduceToNat, lift2, goneU, newU, Nat.reduceSub, cellsMt, List.forall_mem_cons, List.not_mem_nil, false_implies, implies_true, and_self, map_renL_lift, labsIn_lift, List.all_append, List.all_cons, List.all_nil, List.map_append, Nat.reduceLT, labsInL, AV.labsIn]
   all_goals first | rfl | decide | skip
  simp only [evM, memP, cellsSc, cellsMt]
  refine AW.rRE (SeqR.ev 5 (by rfl) (by decide) ?_)
  simp -implicitDefEqProofs only [go_sem, ↓reduceIte, Nat.reduceAdd, Nat.reduceMul, Nat.reduceEqDiff, Nat.reduceLeDiff, reduceCtorEq, Int.reduceToNat]
  refine SeqR.call (fun k => k + 2) rfl rfl A2 ⟨?_, rfl, ?_, rfl, rfl, rfl, rfl, rfl, memP_by (r := 0) rfl rfl⟩ ?_
  ·simp -implicitDefEqProofs only [go_sem, ↓reduceIte, Nat.reduceAdd, Nat.reduceMul, Nat.reduceEqDiff, Nat.reduceLeDiff, reduceCtorEq, Int.reduceToNat, argD]
  ·simp only [memP]
   simp -implicitDefEqProofs only [go_sem, ↓reduceIte, Nat.reduceAdd, Nat.reduceMul, Nat.reduceEqDiff, Nat.reduceLeDiff, reduceCtorEq, Int.reduceToNat, List.forall_mem_cons, List.not_mem_nil, false_implies, implies_true, and_self]
   first | done | decide
  refine SeqR.last rfl ?_
  simp only [andThen, inBlk, reduceCtorEq, ↓reduceIte, if_t, if_f]
  refine AW.ghost (s' := evM S U l2 m (methOf U m.name).1 i) ?_ ?_
  ·simp only [evM, memP, cellsSc]
   refine Ghost.ent (fun l => if l = 3 then 12 else if l = 4 then 13 else l) ?_ ?_ ?_ <;> simp -implicitDefEqProofs only [go_sem, ↓reduceIte, Nat.reduceAdd, Nat.reduceMul, Nat.reduceEqDiff, Nat.reduceLeDiff, reduceCtorEq, Int.reduceToNat, lift2, goneU, newU, Nat.reduceSub, cellsMt, List.forall_mem_cons, List.not_mem_nil, false_implies, implies_true, and_self, map_renL_lift, labsIn_lift, List.all_append, List.all_cons, List.all_nil, List.map_append, Nat.reduceLT, labsInL, AV.labsIn]
   all_goals first | rfl | decide | skip
  simp only [evM, memP, cellsSc, cellsMt]
  refine AW.rE (by rfl) fun K hK => ?_
  simp -implicitDefEqProofs only [go_sem, ↓reduceIte, Nat.reduceAdd, Nat.reduceMul, Nat.reduceEqDiff, Nat.reduceLeDiff, reduceCtorEq, Int.reduceToNat, w1]
  refine hK _ ?_; clear hK K
  refine ⟨(l2, i + 1), ⟨by omega, i2, ok2⟩, by simp only; omega, ?_⟩
  show Ghost _ _ (evS S U l2 [(32, .p (.slice (S.meths.map encMt))), (33, .p (.int .i64 (S.meths.length : Int))), (34, .p (.int .i64 ((i + 1 : Nat) : Int)))])
  simp only [evS, memP, cellsSc]
  refine Ghost.sub ?_ ?_ <;> simp -implicitDefEqProofs only [go_sem, ↓reduceIte, Nat.reduceAdd, Nat.reduceMul, Nat.reduceEqDiff, Nat.reduceLeDiff, reduceCtorEq, Int.reduceToNat,  List.forall_mem_cons, List.not_mem_nil, false_implies, implies_true, and_self, labsIn_lift, List.all_append, List.all_cons, List.all_nil, Nat.reduceLT, labsInL, AV.labsIn]
  all_goals first | rfl | decide | skip
 obtain ⟨hl1, hl2⟩ := hl
 rw [hl1] at eE
 simp only at eE
 have okl := hl2
 clear hl2 hl1
 simp only [evS, memP, cellsSc]
 refine AW.rT (by rfl) fun K hK => ?_
 simp -implicitDefEqProofs only [go_sem, ↓reduceIte, Nat.reduceAdd, Nat.reduceMul, Nat.reduceEqDiff, Nat.reduceLeDiff, reduceCtorEq, Int.reduceToNat]
 refine hK _ ?_; clear hK K
 refine AW.seq ?_
 refine AW.label ?_
 simp only [andThen, inBlk, reduceCtorEq, ↓reduceIte, if_t, if_f]
 refine AW.cut (fun x : List UInt8 × Int => ⟨ofL [(12, .p (.str x.1)), (13, .p (.int .i64 x.2))], ofH [], 0⟩) (fun x => evoP S U = (x.1, x.2, x.2 == 0)) ?_ fun x hx => ?_
 rotate_left
 ·refine AW.rT (by rfl) fun K hK => ?_
  simp -implicitDefEqProofs only [go_sem, ↓reduceIte, Nat.reduceAdd, Nat.reduceMul, Nat.reduceEqDiff, Nat.reduceLeDiff, reduceCtorEq, Int.reduceToNat]
  refine hK _ ?_; clear hK K
  refine AW.ret ?_
  simp -implicitDefEqProofs only [go_sem, ↓reduceIte, Nat.reduceAdd, Nat.reduceMul, Nat.reduceEqDiff, Nat.reduceLeDiff, reduceCtorEq, Int.reduceToNat, hx, noGo]
 refine AW.rT (by rfl) fun K hK => ?_
 simp -implicitDefEqProofs only [go_sem, ↓reduceIte, Nat.reduceAdd, Nat.reduceMul, Nat.reduceEqDiff, Nat.reduceLeDiff, reduceCtorEq, Int.reduceToNat]
 refine hK _ ?_; clear hK K
 refine AW.block ?_
 refine AW.loop (fun x : List Pr × Nat => evS S U x.1 [(12, .p (.str [])), (13, .p (.int .i64 0)), (14, .p (.int .i64 (x.2 : Int)))]) (fun x => x.2 ≤ x.1.length ∧ evoP S U = walkP S U (101 - x.2) x.2 x.1 ∧ PairsOK S U x.1) (fun x => 101 - x.2) (l, 0) ?_ ⟨Nat.zero_le _, eE, okl⟩ fun x hx => ?_
 ·simp only [evS, memP, cellsSc]
  refine Ghost.sub ?_ ?_ <;> simp -implicitDefEqProofs only [go_sem, ↓reduceIte, Nat.reduceAdd, Nat.reduceMul, Nat.reduceEqDiff, Nat.reduceLeDiff, reduceCtorEq, Int.reduceToNat,  List.forall_mem_cons, List.not_mem_nil, false_implies, implies_true, and_self, labsIn_lift, List.all_append, List.all_cons, List.all_nil, Nat.reduceLT, labsInL, AV.labsIn]
  all_goals first | rfl | decide | skip
 clear eE okl
 obtain ⟨l, i⟩ := x
 obtain ⟨i1, eE, okl⟩ := hx
 simp only at i1 eE okl
 have hl100 := pairs_len okl RS.len.2.1 RU.len.2.1
 simp only [evS, memP, cellsSc]
 refine AW.seq ?_
 by_cases hil : i < l.length
 case neg =>
  have hc1 : ((i : Int) < (l.length : Int)) = False := eq_false (by omega)
  rw [walkP_end _ _ _ (by omega)] at eE
  refine AW.rT (by rfl) fun K hK => ?_
  simp -implicitDefEqProofs only [go_sem, ↓reduceIte, Nat.reduceAdd, Nat.reduceMul, Nat.reduceEqDiff, Nat.reduceLeDiff, reduceCtorEq, Int.reduceToNat, hc1, liftE_length, List.length_map]
  refine hK _ ?_; clear hK K
  refine AW.cond _ (by simp -implicitDefEqProofs only [go_sem, ↓reduceIte, Nat.reduceAdd, Nat.reduceMul, Nat.reduceEqDiff, Nat.reduceLeDiff, reduceCtorEq, Int.reduceToNat]; rfl) (fun hc => ?_) (fun hc => ?_)
  ·simp at hc
  refine AW.exit ?_
  simp only [andThen, inBlk, reduceCtorEq, ↓reduceIte, if_t, if_f]
  refine ⟨([], 0), eE, ?_⟩
  refine Ghost.sub ?_ ?_ <;> simp -implicitDefEqProofs only [go_sem, ↓reduceIte, Nat.reduceAdd, Nat.reduceMul, Nat.reduceEqDiff, Nat.reduceLeDiff, reduceCtorEq, Int.reduceToNat,  List.forall_mem_cons, List.not_mem_nil, false_implies, implies_true, and_self, labsIn_lift, List.all_append, List.all_cons, List.all_nil, Nat.reduceLT, labsInL, AV.labsIn]
 obtain ⟨p, hp⟩ : ∃ p, l[i]? = some p := ⟨_, List.getElem?_eq_getElem hil⟩
 rw [walkP_at hp (by omega)] at eE
 have g1 := at_lift encPr hp
 have b0 : 0 ≤ (i : Int) := by omega
 have b1 : (i : Int) < (l.length : Int) := by omega
 have hc1 : ((i : Int) < (l.length : Int)) = True := eq_true (by omega)
 have w1 : IntKind.wrap .i64 ((i : Int) + 1) = ((i + 1 : Nat) : Int) := by rw [w64] <;> omega
 have hh := okl.here p (List.mem_of_getElem? hp)
 have hmo := (msgOf_mem hh.1).1
 have hmn := (msgOf_mem hh.2).1
 have M1 := check_Message S p.o (by omega)
 have M2 := check_Message U p.n (by omega)
 have e1 : firstP (fun x => x.name == p.o) zMs S.msgs = (msgOf S p.o, true) := by rw [← hh.1]; rfl
 have e2 : firstP (fun x => x.name == p.n) zMs U.msgs = (msgOf U p.n, true) := by rw [← hh.2]; rfl
 rw [e1] at M1
 rw [e2] at M2
 simp only [encSc, encMs] at M1 M2
 simp only [encPr, List.map_cons, List.map_nil] at g1
 refine AW.rT (by rfl) fun K hK => ?_
 simp -implicitDefEqProofs only [go_sem, ↓reduceIte, Nat.reduceAdd, Nat.reduceMul, Nat.reduceEqDiff, Nat.reduceLeDiff, reduceCtorEq, Int.reduceToNat, hc1, liftE_length, List.length_map]
 refine hK _ ?_; clear hK K
 refine AW.cond _ (by simp -implicitDefEqProofs only [go_sem, ↓reduceIte, Nat.reduceAdd, Nat.reduceMul, Nat.reduceEqDiff, Nat.reduceLeDiff, reduceCtorEq, Int.reduceToNat]; rfl) (fun hc => ?_) (fun hc => ?_)
 rotate_left
 ·simp at hc
 refine AW.skip ?_
 simp only [andThen, inBlk, reduceCtorEq, ↓reduceIte, if_t, if_f]
 refine AW.seq ?_
 refine AW.block ?_
 refine AW.dT mixed (by rfl) (by decide +kernel) fun K hK => ?_
 simp -implicitDefEqProofs only [go_sem, ↓reduceIte, Nat.reduceAdd, Nat.reduceMul, Nat.reduceEqDiff, Nat.reduceLeDiff, reduceCtorEq, Int.reduceToNat, g1, b0, b1, liftE_length, List.length_map]
 refine ⟨.pure _, M1, ?_⟩
 try simp -implicitDefEqProofs only [go_sem, ↓reduceIte, Nat.reduceAdd, Nat.reduceMul, Nat.reduceEqDiff, Nat.reduceLeDiff, reduceCtorEq, Int.reduceToNat]
 refine ⟨by decide +kernel, ?_⟩
 refine hK _ ?_; clear hK K
 refine AW.dT mixed (by rfl) (by decide +kernel) fun K hK => ?_
 simp -implicitDefEqProofs only [go_sem, ↓reduceIte, Nat.reduceAdd, Nat.reduceMul, Nat.reduceEqDiff, Nat.reduceLeDiff, reduceCtorEq, Int.reduceToNat, g1, b0, b1, liftE_length, List.length_map]
 refine ⟨.pure _, M2, ?_⟩
 try simp -implicitDefEqProofs only [go_sem, ↓reduceIte, Nat.reduceAdd, Nat.reduceMul, Nat.reduceEqDiff, Nat.reduceLeDiff, reduceCtorEq, Int.reduceToNat]
 refine ⟨by decide +kernel, ?_⟩
 refine hK _ ?_; clear hK K
 refine AW.rT (by rfl) fun K hK => ?_
 simp -implicitDefEqProofs only [go_sem, ↓reduceIte, Nat.reduceAdd, Nat.reduceMul, Nat.reduceEqDiff, Nat.reduceLeDiff, reduceCtorEq, Int.reduceToNat]
 refine hK _ ?_; clear hK K
 refine AW.block ?_
 refine AW.loop (fun x : List Pr × Nat => evI S U (msgOf S p.o) (msgOf U p.n) x.1 i [(19, .p (.int .i64 (x.2 : Int)))]) (fun x => x.2 ≤ 501 ∧ 1 ≤ x.2 ∧ i < x.1.length ∧ evoP S U = evNx S U p i (tagsP S U (msgOf S p.o) (msgOf U p.n) (501 - x.2) (x.2 : Int) x.1) ∧ PairsOK S U x.1) (fun x => 501 - x.2) (l, 1) ?_ ⟨by simp, by simp, hil, eE, okl⟩ fun x hx => ?_
 ·simp only [evI, memP, cellsSc, cellsMs]
  refine Ghost.ent (fun l => if l = 5 then 25 else if l = 6 then 41 else l) ?_ ?_ ?_ <;> simp -implicitDefEqProofs only [go_sem, ↓reduceIte, Nat.reduceAdd, Nat.reduceMul, Nat.reduceEqDiff, Nat.reduceLeDiff, reduceCtorEq, Int.reduceToNat, Int.natCast_one, Int.cast_ofNat_Int, List.forall_mem_cons, List.not_mem_nil, false_implies, implies_true, and_self, map_renL_lift, labsIn_lift, List.all_append, List.all_cons, List.all_nil, List.map_append, Nat.reduceLT, labsInL, AV.labsIn]
  all_goals first | rfl | decide | skip
 clear eE okl hl100 g1 hc1 hil hp i1 M1 M2
 obtain ⟨l, n⟩ := x
 obtain ⟨n1, n2, hil, eE, okl⟩ := hx
 simp only at n1 n2 hil eE okl
 have hl100 := pairs_len okl RS.len.2.1 RU.len.2.1
 simp only [evI, memP, cellsSc, cellsMs]
 refine AW.seq ?_
 by_cases hn : n ≤ 500
 case neg =>
  have hc1 : ((n : Int) ≤ 500) = False := eq_false (by omega)
  rw [show 501 - n = 0 by omega] at eE
  refine AW.rT (by rfl) fun K hK => ?_
  simp -implicitDefEqProofs only [go_sem, ↓reduceIte, Nat.reduceAdd, Nat.reduceMul, Nat.reduceEqDiff, Nat.reduceLeDiff, reduceCtorEq, Int.reduceToNat, hc1]
  refine hK _ ?_; clear hK K
  refine AW.cond _ (by simp -implicitDefEqProofs only [go_sem, ↓reduceIte, Nat.reduceAdd, Nat.reduceMul, Nat.reduceEqDiff, Nat.reduceLeDiff, reduceCtorEq, Int.reduceToNat]; rfl) (fun hc => ?_) (fun hc => ?_)
  ·simp at hc
  refine AW.exit ?_
  simp only [andThen, inBlk, reduceCtorEq, ↓reduceIte, if_t, if_f]
  refine AW.rE (by rfl) fun K hK => ?_
  simp -implicitDefEqProofs only [go_sem, ↓reduceIte, Nat.reduceAdd, Nat.reduceMul, Nat.reduceEqDiff, Nat.reduceLeDiff, reduceCtorEq, Int.reduceToNat, w1]
  refine hK _ ?_; clear hK K
  refine ⟨(l, i + 1), ⟨by simp only; omega, ?_, okl⟩, by simp only; omega, ?_⟩
  ·simp only
   rw [eE, show 101 - (i + 1) = 100 - i by omega]; rfl
  ·show Ghost _ _ (evS S U l [(12, .p (.str [])), (13, .p (.int .i64 0)), (14, .p (.int .i64 ((i + 1 : Nat) : Int)))])
   simp only [evS, memP, cellsSc]
   refine Ghost.sub ?_ ?_ <;> simp -implicitDefEqProofs only [go_sem, ↓reduceIte, Nat.reduceAdd, Nat.reduceMul, Nat.reduceEqDiff, Nat.reduceLeDiff, reduceCtorEq, Int.reduceToNat,  List.forall_mem_cons, List.not_mem_nil, false_implies, implies_true, and_self, labsIn_lift, List.all_append, List.all_cons, List.all_nil, Nat.reduceLT, labsInL, AV.labsIn]
   all_goals first | rfl | decide | skip
 have hc1 : ((n : Int) ≤ 500) = True := eq_true (by omega)
 have w2 : IntKind.wrap .i64 ((n : Int) + 1) = ((n + 1 : Nat) : Int) := by rw [w64] <;> omega
 have no1 := (fit_msgs FS hmo).no
 have no2 := (fit_msgs FU hmn).no
 have ST := compat_stays S U (msgOf S p.o) (msgOf U p.n) (n : Int) l (by omega) (by omega) (by omega) (by omega) (by omega) HF
 rw [show 501 - n = (500 - n) + 1 by omega, tagsP] at eE
 refine AW.rT (by rfl) fun K hK => ?_
 simp -implicitDefEqProofs only [go_sem, ↓reduceIte, Nat.reduceAdd, Nat.reduceMul, Nat.reduceEqDiff, Nat.reduceLeDiff, reduceCtorEq, Int.reduceToNat, hc1]
 refine hK _ ?_; clear hK K
 refine AW.cond _ (by simp -implicitDefEqProofs only [go_sem, ↓reduceIte, Nat.reduceAdd, Nat.reduceMul, Nat.reduceEqDiff, Nat.reduceLeDiff, reduceCtorEq, Int.reduceToNat]; rfl) (fun hc => ?_) (fun hc => ?_)
 rotate_left
 ·simp at hc
 refine AW.skip ?_
 simp only [andThen, inBlk, reduceCtorEq, ↓reduceIte, if_t, if_f]
 refine AW.seq ?_
 refine AW.block ?_
 refine AW.rR (SeqR.ev 6 (by rfl) (by decide) ?_)
 simp -implicitDefEqProofs only [go_sem, ↓reduceIte, Nat.reduceAdd, Nat.reduceMul, Nat.reduceEqDiff, Nat.reduceLeDiff, reduceCtorEq, Int.reduceToNat]
 refine SeqR.call (fun k => k + 2) rfl rfl ST ⟨?_, rfl, ?_, rfl, rfl, rfl, rfl, rfl, memP_by (r := 0) rfl rfl⟩ ?_
 ·simp -implicitDefEqProofs only [go_sem, ↓reduceIte, Nat.reduceAdd, Nat.reduceMul, Nat.reduceEqDiff, Nat.reduceLeDiff, reduceCtorEq, Int.reduceToNat, argD, encSc, encMs]
 ·simp only [memP]
  simp -implicitDefEqProofs only [go_sem, ↓reduceIte, Nat.reduceAdd, Nat.reduceMul, Nat.reduceEqDiff, Nat.reduceLeDiff, reduceCtorEq, Int.reduceToNat, List.forall_mem_cons, List.not_mem_nil, false_implies, implies_true, and_self]
  first | done | decide
 refine SeqR.ev 1 (by rfl) (by decide) ?_
 simp -implicitDefEqProofs only [go_sem, ↓reduceIte, Nat.reduceAdd, Nat.reduceMul, Nat.reduceEqDiff, Nat.reduceLeDiff, reduceCtorEq, Int.reduceToNat]
 refine SeqR.last rfl ?_
 cases hb : stayB S U (msgOf S p.o) (msgOf U p.n) (n : Int) with
 | false =>
  rw [if_neg (by rw [hb]; simp)] at eE
  refine AW.cond _ (by simp -implicitDefEqProofs only [go_sem, ↓reduceIte, Nat.reduceAdd, Nat.reduceMul, Nat.reduceEqDiff, Nat.reduceLeDiff, reduceCtorEq, Int.reduceToNat]; rfl) (fun hc => ?_) (fun hc => ?_)
  rotate_left
  ·simp at hc
  refine AW.rT (by rfl) fun K hK => ?_
  simp -implicitDefEqProofs only [go_sem, ↓reduceIte, Nat.reduceAdd, Nat.reduceMul, Nat.reduceEqDiff, Nat.reduceLeDiff, reduceCtorEq, Int.reduceToNat]
  refine hK _ ?_; clear hK K
  refine AW.exit ?_
  simp only [andThen, inBlk, reduceCtorEq, ↓reduceIte, if_t, if_f]
  refine ⟨(p.o, (n : Int)), ?_, ?_⟩
  ·simp only
   rw [eE]
   have : ((n : Int) == 0) = false := beq_eq_false_iff_ne.2 (by omega)
   rw [this]; rfl
  ·show Ghost _ _ ⟨ofL [(12, .p (.str p.o)), (13, .p (.int .i64 (n : Int)))], ofH [], 0⟩
   refine Ghost.sub ?_ ?_ <;> simp -implicitDefEqProofs only [go_sem, ↓reduceIte, Nat.reduceAdd, Nat.reduceMul, Nat.reduceEqDiff, Nat.reduceLeDiff, reduceCtorEq, Int.reduceToNat, (msgOf_mem hh.1).2, List.forall_mem_cons, List.not_mem_nil, false_implies, implies_true, and_self, labsIn_lift, List.all_append, List.all_cons, List.all_nil, Nat.reduceLT, labsInL, AV.labsIn]
 | true =>
  rw [if_pos hb] at eE
  have okl' := stayL_ok RS RU hmo hmn (t := (n : Int)) okl
  have il' : i < (stayL S U (msgOf S p.o) (msgOf U p.n) (n : Int) l).length := Nat.lt_of_lt_of_le hil stayL_len.1
  generalize stayL S U (msgOf S p.o) (msgOf U p.n) (n : Int) l = l' at *
  refine AW.cond _ (by simp -implicitDefEqProofs only [go_sem, ↓reduceIte, Nat.reduceAdd, Nat.reduceMul, Nat.reduceEqDiff, Nat.reduceLeDiff, reduceCtorEq, Int.reduceToNat]; rfl) (fun hc => ?_) (fun hc => ?_)
  ·simp at hc
  refine AW.skip ?_
  simp only [andThen, inBlk, reduceCtorEq, ↓reduceIte, if_t, if_f]
  refine AW.ghost (s' := evI S U (msgOf S p.o) (msgOf U p.n) l' i [(19, .p (.int .i64 (n : Int)))]) ?_ ?_
  ·simp only [evI, memP, cellsSc, cellsMs]
   refine Ghost.ent (fun l => if l = 3 then 15 else if l = 4 then 16 else l) ?_ ?_ ?_ <;> simp -implicitDefEqProofs only [go_sem, ↓reduceIte, Nat.reduceAdd, Nat.reduceMul, Nat.reduceEqDiff, Nat.reduceLeDiff, reduceCtorEq, Int.reduceToNat, lift2, goneU, newU, Nat.reduceSub, List.forall_mem_cons, List.not_mem_nil, false_implies, implies_true, and_self, map_renL_lift, labsIn_lift, List.all_append, List.all_cons, List.all_nil, List.map_append, Nat.reduceLT, labsInL, AV.labsIn]
   all_goals first | rfl | decide | skip
  simp only [evI, memP, cellsSc, cellsMs]
  refine AW.rE (by rfl) fun K hK => ?_
  simp -implicitDefEqProofs only [go_sem, ↓reduceIte, Nat.reduceAdd, Nat.reduceMul, Nat.reduceEqDiff, Nat.reduceLeDiff, reduceCtorEq, Int.reduceToNat, w2]
  refine hK _ ?_; clear hK K
  refine ⟨(l', n + 1), ⟨by simp only; omega, by simp only; omega, il', ?_, okl'⟩, by simp only; omega, ?_⟩
  ·simp only
   rw [eE, show 501 - (n + 1) = 500 - n by omega]
   push_cast
   rfl
  ·show Ghost _ _ (evI S U (msgOf S p.o) (msgOf U p.n) l' i [(19, .p (.int .i64 ((n + 1 : Nat) : Int)))])
   simp only [evI, memP, cellsSc, cellsMs]
   refine Ghost.sub ?_ ?_ <;> simp -implicitDefEqProofs only [go_sem, ↓reduceIte, Nat.reduceAdd, Nat.reduceMul, Nat.reduceEqDiff, Nat.reduceLeDiff, reduceCtorEq, Int.reduceToNat,  List.forall_mem_cons, List.not_mem_nil, false_implies, implies_true, and_self, labsIn_lift, List.all_append, List.all_cons, List.all_nil, Nat.reduceLT, labsInL, AV.labsIn]
   all_goals first | rfl | decide | skip
end Go.Aw
namespace Go.Aw
open Go.Proofs Go.RowKit
set_option linter.unusedSimpArgs false
set_option linter.unusedVariables false
def vF : Fd := ⟨[120], 3, 1, ⟨1, []⟩⟩
def vT : Mt := ⟨[99], [109], [109]⟩
def vS1 : Sc := ⟨[97], [⟨[109], [vF], []⟩], [], [vT]⟩
def vS2 : Sc := ⟨[97], [⟨[109], [], []⟩], [], [vT]⟩
theorem vS1_lens : LensS vS1 := lens_few (by decide +kernel)
theorem vS2_lens : LensS vS2 := lens_few (by decide +kernel)
theorem v_yes : evoP vS1 vS1 = ([], 0, true) := by decide +kernel
theorem v_no : evoP vS1 vS2 = ([109], 3, false) := by decide +kernel
def vk0 : St := ⟨ofL [(2, .ptr 0 0 0), (3, .ptr 1 0 0)], ofH [(0, .row 4 [[.p (.str [97]), .own 2, .ex [], .own 4]]), (1, .row 4 [[.p (.str [97]), .own 5, .ex [], .own 6]]), (2, .row 3 [[.p (.str [109]), .own 3, .ex []]]), (3, .row 5 (liftE ([vF].map encFd))), (4, .row 3 (liftE ([vT].map encMt))), (5, .row 3 [[.p (.str [109]), .ex [], .ex []]]), (6, .row 3 (liftE ([vT].map encMt)))], 7⟩
def vM1 : List AV := [.p (.str [109]), .p (.slice ([vF].map encFd)), .ex []]
def vk1 : St := ⟨ofL [(2, .ptr 0 0 0), (3, .ptr 1 0 0)], ofH [(0, .row 4 [[.p (.str [97]), .own 2, .ex [], .own 4]]), (1, .row 4 [[.p (.str [97]), .own 5, .ex [], .own 6]]), (2, .row 3 [vM1]), (4, .row 3 (liftE ([vT].map encMt))), (5, .row 3 [[.p (.str [109]), .ex [], .ex []]]), (6, .row 3 (liftE ([vT].map encMt)))], 7⟩
def vk2 : St := ⟨ofL [(2, .ptr 0 0 0), (3, .ptr 1 0 0)], ofH [(0, .row 4 [[.p (.str [97]), .p (.slice [encMs ⟨[109], [vF], []⟩]), .ex [], .own 4]]), (1, .row 4 [[.p (.str [97]), .own 5, .ex [], .own 6]]), (4, .row 3 (liftE ([vT].map encMt))), (5, .row 3 [[.p (.str [109]), .ex [], .ex []]]), (6, .row 3 (liftE ([vT].map encMt)))], 7⟩
def vR1 : List AV := [.p (.str [97]), .p (.slice [encMs ⟨[109], [vF], []⟩]), .ex [], .p (.slice ([vT].map encMt))]
def vR2 : List AV := [.p (.str [97]), .p (.slice [encMs ⟨[109], [], []⟩]), .ex [], .p (.slice ([vT].map encMt))]
def vk3 : St := ⟨ofL [(2, .ptr 0 0 0), (3, .ptr 1 0 0)], ofH [(0, .row 4 [vR1]), (1, .row 4 [[.p (.str [97]), .own 5, .ex [], .own 6]]), (5, .row 3 [[.p (.str [109]), .ex [], .ex []]]), (6, .row 3 (liftE ([vT].map encMt)))], 7⟩
def vk4 : St := ⟨ofL [(2, .ptr 0 0 0), (3, .ptr 1 0 0)], ofH [(0, .row 4 [vR1]), (1, .row 4 [[.p (.str [97]), .p (.slice [encMs ⟨[109], [], []⟩]), .ex [], .own 6]]), (6, .row 3 (liftE ([vT].map encMt)))], 7⟩
def vk5 : St := ⟨ofL [(2, .ptr 0 0 0), (3, .ptr 1 0 0)], ofH [(0, .row 4 [vR1]), (1, .row 4 [vR2])], 7⟩
set_option maxRecDepth 100000 in
set_option maxHeartbeats 4000000 in
theorem law14_awake : PFn Tryd.prog 41 [] (.bool true) := by
 refine PFn.of Tryd.func41 rfl (by decide) Tryd.ntmps41 Tryd.results41 (Nat.le_of_ble_eq_true rfl) ?_
 simp only [argsT]
 refine AW.rT (by rfl) fun K hK => ?_
 simp -implicitDefEqProofs only [go_sem, ↓reduceIte, Nat.reduceAdd, Nat.reduceMul, Nat.reduceEqDiff, Nat.reduceLeDiff, reduceCtorEq, Int.reduceToNat]
 refine hK _ ?_; clear hK K
 refine AW.rT (by rfl) fun K hK => ?_
 simp -implicitDefEqProofs only [go_sem, ↓reduceIte, Nat.reduceAdd, Nat.reduceMul, Nat.reduceEqDiff, Nat.reduceLeDiff, reduceCtorEq, Int.reduceToNat]
 refine hK _ ?_; clear hK K
 refine AW.rT (by rfl) fun K hK => ?_
 simp -implicitDefEqProofs only [go_sem, ↓reduceIte, Nat.reduceAdd, Nat.reduceMul, Nat.reduceEqDiff, Nat.reduceLeDiff, reduceCtorEq, Int.reduceToNat]
 refine hK _ ?_; clear hK K
 refine AW.rT (by rfl) fun K hK => ?_
 simp -implicitDefEqProofs only [go_sem, ↓reduceIte, Nat.reduceAdd, Nat.reduceMul, Nat.reduceEqDiff, Nat.reduceLeDiff, reduceCtorEq, Int.reduceToNat]
 refine hK _ ?_; clear hK K
 refine AW.ghost (s' := vk0) ?_ ?_
 ·simp only [vk0]
  refine Ghost.ent (fun l => if l = 0 then 12 else if l = 1 then 19 else if l = 2 then 8 else if l = 3 then 6 else if l = 4 then 10 else if l = 5 then 15 else 17) ?_ ?_ ?_ <;> simp -implicitDefEqProofs only [go_sem, ↓reduceIte, Nat.reduceAdd, Nat.reduceMul, Nat.reduceEqDiff, Nat.reduceLeDiff, reduceCtorEq, Int.reduceToNat, vF, vT, encFd, encMt, liftE_cons, liftE_nil, List.map_cons, List.map_nil, List.forall_mem_cons, List.not_mem_nil, false_implies, implies_true, and_self, map_renL_lift, labsIn_lift, List.all_append, List.all_cons, List.all_nil, List.map_append, Nat.reduceLT, labsInL, AV.labsIn]
  all_goals first | rfl | decide | skip
 refine AW.ghost (s' := vk1) (Ghost.trans (Ghost.freeze (lb := 3) (ps := [vF].map encFd) rfl (unlift_liftE _)) ?_) ?_
 ·simp only [vk0, vk1]
  refine Ghost.sub ?_ ?_ <;> simp -implicitDefEqProofs only [go_sem, ↓reduceIte, Nat.reduceAdd, Nat.reduceMul, Nat.reduceEqDiff, Nat.reduceLeDiff, reduceCtorEq, Int.reduceToNat, thaw, thaw1, Option.map_some, List.map_cons, List.map_nil, vM1, vF, vT, encFd, encMt, liftE_cons, liftE_nil, List.forall_mem_cons, List.not_mem_nil, false_implies, implies_true, and_self, labsIn_lift, List.all_append, List.all_cons, List.all_nil, Nat.reduceLT, labsInL, AV.labsIn]
  all_goals first | rfl | decide | skip
 refine AW.ghost (s' := vk2) (Ghost.trans (Ghost.freeze (lb := 2) (ps := [encMs ⟨[109], [vF], []⟩]) rfl (by rfl)) ?_) ?_
 ·simp only [vk1, vk2]
  refine Ghost.sub ?_ ?_ <;> simp -implicitDefEqProofs only [go_sem, ↓reduceIte, Nat.reduceAdd, Nat.reduceMul, Nat.reduceEqDiff, Nat.reduceLeDiff, reduceCtorEq, Int.reduceToNat, thaw, thaw1, Option.map_some, List.map_cons, List.map_nil, vM1, vF, vT, encFd, encMs, encMt, liftE_cons, liftE_nil, List.forall_mem_cons, List.not_mem_nil, false_implies, implies_true, and_self, labsIn_lift, List.all_append, List.all_cons, List.all_nil, Nat.reduceLT, labsInL, AV.labsIn]
  all_goals first | rfl | decide | skip
 refine AW.ghost (s' := vk3) (Ghost.trans (Ghost.freeze (lb := 4) (ps := [vT].map encMt) rfl (unlift_liftE _)) ?_) ?_
 ·simp only [vk2, vk3]
  refine Ghost.sub ?_ ?_ <;> simp -implicitDefEqProofs only [go_sem, ↓reduceIte, Nat.reduceAdd, Nat.reduceMul, Nat.reduceEqDiff, Nat.reduceLeDiff, reduceCtorEq, Int.reduceToNat, thaw, thaw1, Option.map_some, List.map_cons, List.map_nil, vR1, vM1, vF, vT, encFd, encMs, encMt, liftE_cons, liftE_nil, List.forall_mem_cons, List.not_mem_nil, false_implies, implies_true, and_self, labsIn_lift, List.all_append, List.all_cons, List.all_nil, Nat.reduceLT, labsInL, AV.labsIn]
  all_goals first | rfl | decide | skip
 refine AW.ghost (s' := vk4) (Ghost.trans (Ghost.freeze (lb := 5) (ps := [encMs ⟨[109], [], []⟩]) rfl (by rfl)) ?_) ?_
 ·simp only [vk3, vk4]
  refine Ghost.sub ?_ ?_ <;> simp -implicitDefEqProofs only [go_sem, ↓reduceIte, Nat.reduceAdd, Nat.reduceMul, Nat.reduceEqDiff, Nat.reduceLeDiff, reduceCtorEq, Int.reduceToNat, thaw, thaw1, Option.map_some, List.map_cons, List.map_nil, vR1, vM1, vF, vT, encFd, encMs, encMt, liftE_cons, liftE_nil, List.forall_mem_cons, List.not_mem_nil, false_implies, implies_true, and_self, labsIn_lift, List.all_append, List.all_cons, List.all_nil, Nat.reduceLT, labsInL, AV.labsIn]
  all_goals first | rfl | decide | skip
 refine AW.ghost (s' := vk5) (Ghost.trans (Ghost.freeze (lb := 6) (ps := [vT].map encMt) rfl (unlift_liftE _)) ?_) ?_
 ·simp only [vk4, vk5]
  refine Ghost.sub ?_ ?_ <;> simp -implicitDefEqProofs only [go_sem, ↓reduceIte, Nat.reduceAdd, Nat.reduceMul, Nat.reduceEqDiff, Nat.reduceLeDiff, reduceCtorEq, Int.reduceToNat, thaw, thaw1, Option.map_some, List.map_cons, List.map_nil, vR1, vR2, vM1, vF, vT, encFd, encMs, encMt, liftE_cons, liftE_nil, List.forall_mem_cons, List.not_mem_nil, false_implies, implies_true, and_self, labsIn_lift, List.all_append, List.all_cons, List.all_nil, Nat.reduceLT, labsInL, AV.labsIn]
  all_goals first | rfl | decide | skip
 simp only [vk5, vR1, vR2]
 have C1 := compat_Evolves vS1 vS1 vS1_lens vS1_lens
 have C2 := compat_Evolves vS1 vS2 vS1_lens vS2_lens
 rw [v_yes] at C1
 rw [v_no] at C2
 simp only [encSc, vS1, vS2, List.map_cons, List.map_nil] at C1 C2
 refine AW.rT (by rfl) fun K hK => ?_
 simp -implicitDefEqProofs only [go_sem, ↓reduceIte, Nat.reduceAdd, Nat.reduceMul, Nat.reduceEqDiff, Nat.reduceLeDiff, reduceCtorEq, Int.reduceToNat]
 refine ⟨.pure _, C1, ?_⟩
 try simp -implicitDefEqProofs only [go_sem, ↓reduceIte, Nat.reduceAdd, Nat.reduceMul, Nat.reduceEqDiff, Nat.reduceLeDiff, reduceCtorEq, Int.reduceToNat]
 refine hK _ ?_; clear hK K
 refine AW.rT (by rfl) fun K hK => ?_
 simp -implicitDefEqProofs only [go_sem, ↓reduceIte, Nat.reduceAdd, Nat.reduceMul, Nat.reduceEqDiff, Nat.reduceLeDiff, reduceCtorEq, Int.reduceToNat]
 refine ⟨.pure _, C2, ?_⟩
 try simp -implicitDefEqProofs only [go_sem, ↓reduceIte, Nat.reduceAdd, Nat.reduceMul, Nat.reduceEqDiff, Nat.reduceLeDiff, reduceCtorEq, Int.reduceToNat]
 refine hK _ ?_; clear hK K
 refine AW.rT (by rfl) fun K hK => ?_
 simp -implicitDefEqProofs only [go_sem, ↓reduceIte, Nat.reduceAdd, Nat.reduceMul, Nat.reduceEqDiff, Nat.reduceLeDiff, reduceCtorEq, Int.reduceToNat]
 refine hK _ ?_; clear hK K
 refine AW.ret ?_
 simp -implicitDefEqProofs only [go_sem, ↓reduceIte, Nat.reduceAdd, Nat.reduceMul, Nat.reduceEqDiff, Nat.reduceLeDiff, reduceCtorEq, Int.reduceToNat]
end Go.Aw
namespace Go.Aw
open Go.Proofs Go.RowKit
set_option linter.unusedSimpArgs false
set_option linter.unusedVariables false
end Go.Aw
namespace Go.Aw
open Go.RowKit
variable {P : Program}
end Go.Aw
namespace Go.Aw
open Go.Proofs Go.RowKit
set_option linter.unusedSimpArgs false
set_option linter.unusedVariables false
end Go.Aw
namespace Go.Aw
open Go.Proofs Go.RowKit
set_option linter.unusedSimpArgs false
set_option linter.unusedVariables false
theorem first_mem {α : Type} {p : α → Bool} {z : α} {l : List α} : (firstP p z l).1 ∈ l ∨ (firstP p z l).1 = z := by
 unfold firstP
 cases h : l.find? p with
 | none => exact .inr rfl
 | some a => exact .inl (List.mem_of_find?_eq_some h)
theorem FewS.msg {S : Sc} (F : FewS S) (p : Ms → Bool) : FewM (firstP p zMs S.msgs).1 := by
 rcases first_mem (p := p) (z := zMs) (l := S.msgs) with h | h
 ·exact F.ms _ h
 ·rw [h]; exact ⟨by decide, by decide, by decide, fun f hf => by cases hf⟩
theorem FewS.enum {S : Sc} (F : FewS S) (p : En → Bool) : FewE (firstP p zEn S.enums).1 := by
 rcases first_mem (p := p) (z := zEn) (l := S.enums) with h | h
 ·exact F.en _ h
 ·rw [h]; exact ⟨by decide, by decide, fun f hf => by cases hf⟩
end Go.Aw
namespace Go.Aw
open Go.Proofs Go.RowKit
set_option linter.unusedSimpArgs false
set_option linter.unusedVariables false
theorem okI_range {p : Int} (hp : okI p) : -9223372036854775808 ≤ p ∧ p ≤ 9223372036854775807 := by
 have e1 : IntKind.i64.min = -9223372036854775808 := by decide
 have e2 : IntKind.i64.max = 9223372036854775807 := by decide
 simpa [okI, Lit.wf, e1, e2] using hp
end Go.Aw
namespace Go.Aw
open Go.Proofs Go.RowKit
set_option linter.unusedSimpArgs false
set_option linter.unusedVariables false
def bareA (m : Ms) : List AV := [.p (.str m.name), .ex [], .ex []]
def rowB (l : List Ms) (i : Nat) : List (List AV) := l.mapIdx fun k m => if k < i then bareA m else (encMs m).map AV.p
theorem rowB_zero (l : List Ms) : rowB l 0 = liftE (l.map encMs) := by
 unfold rowB liftE
 apply List.ext_getElem?
 intro i
 rw [List.getElem?_mapIdx, List.getElem?_map, List.getElem?_map]
 cases l[i]? <;> simp
theorem rowB_end (l : List Ms) : rowB l l.length = l.map bareA := by
 unfold rowB
 apply List.ext_getElem?
 intro i
 rw [List.getElem?_mapIdx, List.getElem?_map]
 cases h : l[i]? with
 | none => rfl
 | some m =>
  have : i < l.length := (List.getElem?_eq_some_iff.1 h).1
  simp only [Option.map_some, if_pos this]
theorem rowB_len (l : List Ms) (i : Nat) : (rowB l i).length = l.length := by unfold rowB; rw [List.length_mapIdx]
theorem rowB_at {l : List Ms} {i : Nat} {m : Ms} (h : l[i]? = some m) : (rowB l i)[i]? = some ((encMs m).map AV.p) := by
 unfold rowB
 rw [List.getElem?_mapIdx, h, Option.map_some, if_neg (by omega)]
theorem rowB_next {l : List Ms} {i : Nat} {m : Ms} (h : l[i]? = some m) : (rowB l i).set i (bareA m) = rowB l (i + 1) := by
 have hl : i < l.length := (List.getElem?_eq_some_iff.1 h).1
 unfold rowB
 apply List.ext_getElem?
 intro j
 rw [List.getElem?_set, List.getElem?_mapIdx, List.getElem?_mapIdx]
 by_cases e : i = j
 ·subst e
  rw [if_pos rfl, List.length_mapIdx, if_pos hl, h, Option.map_some, if_pos (by omega)]
 ·rw [if_neg e]
  cases l[j]? with
  | none => rfl
  | some n =>
   simp only [Option.map_some]
   by_cases q : j < i
   ·rw [if_pos q, if_pos (by omega)]
   ·rw [if_neg q, if_neg (by omega)]
theorem bare_unlift : ∀ l : List Ms, unlift (l.map bareA) = some ((l.map bareM).map encMs)
 | [] => rfl
 | m :: l => by
  rw [List.map_cons, unlift, bare_unlift l]
  rfl
theorem rowB_labs {l : List Ms} {i n : Nat} : (rowB l i).all (labsInL n) = true := by
 rw [List.all_eq_true]
 intro e he
 unfold rowB at he
 obtain ⟨j, hj⟩ := List.getElem?_of_mem he
 rw [List.getElem?_mapIdx, Option.map_eq_some_iff] at hj
 obtain ⟨m, _, rfl⟩ := hj
 split <;> rfl
def clS (S : Sc) (i : Nat) (m : List (Nat × AV)) : St := ⟨ofL ((2, .ptr 0 0 0) :: (5, .ptr 1 0 0) :: m), ofH [(0, .row 4 [cellsSc S]), (1, .row 4 [[.p (.str S.name), .own 2, .own 3, .own 4]]), (2, .row 3 (rowB S.msgs i)), (3, .row 2 (liftE (S.enums.map encEn))), (4, .row 3 (liftE (S.meths.map encMt)))], 5⟩
def clZ (S U : Sc) : St := ⟨ofL [(2, .ptr 0 0 0), (5, .ptr 1 0 0)], ofH [(0, .row 4 [cellsSc S]), (1, .row 4 [cellsSc U])], 5⟩
theorem ca_shut {nt : Fm} (S : Sc) : Ghost nt (clS S S.msgs.length []) (clZ S (bareS S)) := by
 unfold clS
 rw [rowB_end]
 refine Ghost.trans (s' := ⟨ofL [(2, .ptr 0 0 0), (5, .ptr 1 0 0)], ofH [(0, .row 4 [cellsSc S]), (1, .row 4 [[.p (.str S.name), .p (.slice ((S.msgs.map bareM).map encMs)), .own 3, .own 4]]), (3, .row 2 (liftE (S.enums.map encEn))), (4, .row 3 (liftE (S.meths.map encMt)))], 5⟩) (Ghost.trans (Ghost.freeze (lb := 2) (ps := (S.msgs.map bareM).map encMs) rfl (bare_unlift _)) ?_) ?_
 ·simp only [cellsSc]
  refine Ghost.sub ?_ ?_ <;> simp -implicitDefEqProofs only [go_sem, ↓reduceIte, Nat.reduceAdd, Nat.reduceMul, Nat.reduceEqDiff, Nat.reduceLeDiff, reduceCtorEq, Int.reduceToNat, thaw, thaw1, Option.map_some, List.map_cons, List.map_nil, thaw_lift, List.forall_mem_cons, List.not_mem_nil, false_implies, implies_true, and_self, labsIn_lift, List.all_append, List.all_cons, List.all_nil, Nat.reduceLT, labsInL, AV.labsIn]
  all_goals first | rfl | decide | skip
 refine Ghost.trans (s' := ⟨ofL [(2, .ptr 0 0 0), (5, .ptr 1 0 0)], ofH [(0, .row 4 [cellsSc S]), (1, .row 4 [[.p (.str S.name), .p (.slice ((S.msgs.map bareM).map encMs)), .p (.slice (S.enums.map encEn)), .own 4]]), (4, .row 3 (liftE (S.meths.map encMt)))], 5⟩) (Ghost.trans (Ghost.freeze (lb := 3) (ps := S.enums.map encEn) rfl (unlift_liftE _)) ?_) ?_
 ·simp only [cellsSc]
  refine Ghost.sub ?_ ?_ <;> simp -implicitDefEqProofs only [go_sem, ↓reduceIte, Nat.reduceAdd, Nat.reduceMul, Nat.reduceEqDiff, Nat.reduceLeDiff, reduceCtorEq, Int.reduceToNat, thaw, thaw1, Option.map_some, List.map_cons, List.map_nil, thaw_lift, List.forall_mem_cons, List.not_mem_nil, false_implies, implies_true, and_self, labsIn_lift, List.all_append, List.all_cons, List.all_nil, Nat.reduceLT, labsInL, AV.labsIn]
  all_goals first | rfl | decide | skip
 refine Ghost.trans (Ghost.freeze (lb := 4) (ps := S.meths.map encMt) rfl (unlift_liftE _)) ?_
 simp only [clZ, cellsSc, bareS]
 refine Ghost.sub ?_ ?_ <;> simp -implicitDefEqProofs only [go_sem, ↓reduceIte, Nat.reduceAdd, Nat.reduceMul, Nat.reduceEqDiff, Nat.reduceLeDiff, reduceCtorEq, Int.reduceToNat, thaw, thaw1, Option.map_some, List.map_cons, List.map_nil, thaw_lift, List.forall_mem_cons, List.not_mem_nil, false_implies, implies_true, and_self, labsIn_lift, List.all_append, List.all_cons, List.all_nil, Nat.reduceLT, labsInL, AV.labsIn]
 all_goals first | rfl | decide | skip
theorem bare_lens {S : Sc} (L : LensS S) : LensS (bareS S) := by
 refine ⟨L.name, fun m hm => ?_, L.enums, L.meths, by show (S.msgs.map bareM).length ≤ _; rw [List.length_map]; exact L.m, L.e, L.t⟩
 obtain ⟨x, hx, rfl⟩ := List.mem_map.1 hm
 exact ⟨(L.msgs x hx).1, fun f hf => by cases hf⟩
theorem callT_lens {S : Sc} (L : LensS S) (k : Nat) : LensS (callT S k) := by
 have sub : (callT S k).meths.Sublist S.meths := by rw [callT_erase]; exact List.eraseIdx_sublist _ _
 exact ⟨L.name, L.msgs, L.enums, fun t ht => L.meths t (sub.subset ht), L.m, L.e, Nat.le_trans sub.length_le L.t⟩
set_option maxRecDepth 100000 in
set_option maxHeartbeats 8000000 in
theorem law14_CompatCalls (S : Sc) (p : Int) (G : GSc S) (hp : okI p) : PFn Tryd.prog 15 [.agg (encSc S), .int .i64 p] (.bool true) := by
 refine PFn.of Tryd.func15 rfl (by decide) Tryd.ntmps15 Tryd.results15 (Nat.le_of_ble_eq_true rfl) ?_
 simp only [argsT, encSc]
 have FW := law00_Few S G.big
 simp only [encSc] at FW
 refine AW.rT (by rfl) fun K hK => ?_
 simp -implicitDefEqProofs only [go_sem, ↓reduceIte, Nat.reduceAdd, Nat.reduceMul, Nat.reduceEqDiff, Nat.reduceLeDiff, reduceCtorEq, Int.reduceToNat]
 refine hK _ ?_; clear hK K
 refine AW.seq ?_
 cases hf : fewB S with
 | false =>
  rw [hf] at FW
  refine AW.rT (by rfl) fun K hK => ?_
  simp -implicitDefEqProofs only [go_sem, ↓reduceIte, Nat.reduceAdd, Nat.reduceMul, Nat.reduceEqDiff, Nat.reduceLeDiff, reduceCtorEq, Int.reduceToNat]
  refine ⟨.pure _, FW, ?_⟩
  try simp -implicitDefEqProofs only [go_sem, ↓reduceIte, Nat.reduceAdd, Nat.reduceMul, Nat.reduceEqDiff, Nat.reduceLeDiff, reduceCtorEq, Int.reduceToNat]
  refine hK _ ?_; clear hK K
  refine AW.cond _ (by simp -implicitDefEqProofs only [go_sem, ↓reduceIte, Nat.reduceAdd, Nat.reduceMul, Nat.reduceEqDiff, Nat.reduceLeDiff, reduceCtorEq, Int.reduceToNat]; rfl) (fun hc => ?_) (fun hc => ?_)
  rotate_left
  ·simp at hc
  refine AW.rT (by rfl) fun K hK => ?_
  simp -implicitDefEqProofs only [go_sem, ↓reduceIte, Nat.reduceAdd, Nat.reduceMul, Nat.reduceEqDiff, Nat.reduceLeDiff, reduceCtorEq, Int.reduceToNat]
  refine ⟨.pure _, law14_awake, ?_⟩
  try simp -implicitDefEqProofs only [go_sem, ↓reduceIte, Nat.reduceAdd, Nat.reduceMul, Nat.reduceEqDiff, Nat.reduceLeDiff, reduceCtorEq, Int.reduceToNat]
  refine hK _ ?_; clear hK K
  refine AW.ret ?_
  simp -implicitDefEqProofs only [go_sem, ↓reduceIte, Nat.reduceAdd, Nat.reduceMul, Nat.reduceEqDiff, Nat.reduceLeDiff, reduceCtorEq, Int.reduceToNat]
 | true =>
 rw [hf] at FW
 have F := few_spec hf
 have L := F.lens
 have C1 := ref07_Check S L
 simp only [encSc] at C1
 by_cases hz : checkC S = 0
 case neg =>
  have cz : (checkC S != 0) = true := by simp [hz]
  refine AW.rT (by rfl) fun K hK => ?_
  simp -implicitDefEqProofs only [go_sem, ↓reduceIte, Nat.reduceAdd, Nat.reduceMul, Nat.reduceEqDiff, Nat.reduceLeDiff, reduceCtorEq, Int.reduceToNat]
  refine ⟨.pure _, FW, ?_⟩
  try simp -implicitDefEqProofs only [go_sem, ↓reduceIte, Nat.reduceAdd, Nat.reduceMul, Nat.reduceEqDiff, Nat.reduceLeDiff, reduceCtorEq, Int.reduceToNat]
  refine ⟨.pure _, C1, ?_⟩
  try simp -implicitDefEqProofs only [go_sem, ↓reduceIte, Nat.reduceAdd, Nat.reduceMul, Nat.reduceEqDiff, Nat.reduceLeDiff, reduceCtorEq, Int.reduceToNat, cz]
  refine hK _ ?_; clear hK K
  refine AW.cond _ (by simp -implicitDefEqProofs only [go_sem, ↓reduceIte, Nat.reduceAdd, Nat.reduceMul, Nat.reduceEqDiff, Nat.reduceLeDiff, reduceCtorEq, Int.reduceToNat]; rfl) (fun hc => ?_) (fun hc => ?_)
  rotate_left
  ·simp at hc
  refine AW.rT (by rfl) fun K hK => ?_
  simp -implicitDefEqProofs only [go_sem, ↓reduceIte, Nat.reduceAdd, Nat.reduceMul, Nat.reduceEqDiff, Nat.reduceLeDiff, reduceCtorEq, Int.reduceToNat]
  refine ⟨.pure _, law14_awake, ?_⟩
  try simp -implicitDefEqProofs only [go_sem, ↓reduceIte, Nat.reduceAdd, Nat.reduceMul, Nat.reduceEqDiff, Nat.reduceLeDiff, reduceCtorEq, Int.reduceToNat]
  refine hK _ ?_; clear hK K
  refine AW.ret ?_
  simp -implicitDefEqProofs only [go_sem, ↓reduceIte, Nat.reduceAdd, Nat.reduceMul, Nat.reduceEqDiff, Nat.reduceLeDiff, reduceCtorEq, Int.reduceToNat]
 have cz : (checkC S != 0) = false := by simp [hz]
 refine AW.rT (by rfl) fun K hK => ?_
 simp -implicitDefEqProofs only [go_sem, ↓reduceIte, Nat.reduceAdd, Nat.reduceMul, Nat.reduceEqDiff, Nat.reduceLeDiff, reduceCtorEq, Int.reduceToNat]
 refine ⟨.pure _, FW, ?_⟩
 try simp -implicitDefEqProofs only [go_sem, ↓reduceIte, Nat.reduceAdd, Nat.reduceMul, Nat.reduceEqDiff, Nat.reduceLeDiff, reduceCtorEq, Int.reduceToNat]
 refine ⟨.pure _, C1, ?_⟩
 try simp -implicitDefEqProofs only [go_sem, ↓reduceIte, Nat.reduceAdd, Nat.reduceMul, Nat.reduceEqDiff, Nat.reduceLeDiff, reduceCtorEq, Int.reduceToNat, cz]
 refine hK _ ?_; clear hK K
 refine AW.cond _ (by simp -implicitDefEqProofs only [go_sem, ↓reduceIte, Nat.reduceAdd, Nat.reduceMul, Nat.reduceEqDiff, Nat.reduceLeDiff, reduceCtorEq, Int.reduceToNat]; rfl) (fun hc => ?_) (fun hc => ?_)
 ·simp at hc
 refine AW.skip ?_
 simp only [andThen, inBlk, reduceCtorEq, ↓reduceIte, if_t, if_f]
 refine AW.seq ?_
 have Fm := F.msgs
 have Fe := F.enums
 have Ft := F.meths
 have SC := law00_Schema S F
 by_cases h0 : S.meths.length = 0
 case pos =>
  have b0 : ((S.meths.length : Int) == 0) = true := by rw [beq_iff_eq]; omega
  have hm0 : S.meths = [] := List.length_eq_zero_iff.1 h0
  refine AW.rT (by rfl) fun K hK => ?_
  simp -implicitDefEqProofs only [go_sem, ↓reduceIte, Nat.reduceAdd, Nat.reduceMul, Nat.reduceEqDiff, Nat.reduceLeDiff, reduceCtorEq, Int.reduceToNat, b0, List.length_map]
  refine hK _ ?_; clear hK K
  refine AW.cond _ (by simp -implicitDefEqProofs only [go_sem, ↓reduceIte, Nat.reduceAdd, Nat.reduceMul, Nat.reduceEqDiff, Nat.reduceLeDiff, reduceCtorEq, Int.reduceToNat]; rfl) (fun hc => ?_) (fun hc => ?_)
  rotate_left
  ·simp at hc
  have DS := law00_SchemaD S F
  simp only [encSc] at DS
  refine AW.rR (SeqR.ev 1 (by rfl) (by decide) ?_)
  simp -implicitDefEqProofs only [go_sem, ↓reduceIte, Nat.reduceAdd, Nat.reduceMul, Nat.reduceEqDiff, Nat.reduceLeDiff, reduceCtorEq, Int.reduceToNat]
  refine SeqR.call (fun l => l) rfl (by decide) DS ⟨?_, rfl, (fun x hx => by cases hx), rfl, rfl, rfl, rfl, rfl, ?_⟩ ?_
  ·simp -implicitDefEqProofs only [go_sem, ↓reduceIte, Nat.reduceAdd, Nat.reduceMul, Nat.reduceEqDiff, Nat.reduceLeDiff, reduceCtorEq, Int.reduceToNat, argD]
  ·simp [labsBy_lift]
  refine SeqR.ghost (s' := ⟨ofL [(2, .ptr 0 0 0), (32, .agg [.p (.str S.name), .own 2, .own 3, .own 4])], ofH [(0, .row 4 [cellsSc S]), (2, .row 3 (liftE (S.msgs.map encMs))), (3, .row 2 (liftE (S.enums.map encEn))), (4, .row 3 (liftE (S.meths.map encMt)))], 5⟩) ?_ ?_
  ·simp only [cellsSc]
   refine Ghost.ent (fun l => if l = 0 then 0 else l + 13) ?_ ?_ ?_ <;> simp -implicitDefEqProofs only [go_sem, ↓reduceIte, Nat.reduceAdd, Nat.reduceMul, Nat.reduceEqDiff, Nat.reduceLeDiff, reduceCtorEq, Int.reduceToNat, lift2, goneU, newU, Nat.reduceSub, List.forall_mem_cons, List.not_mem_nil, false_implies, implies_true, and_self, map_renL_lift, labsIn_lift, List.all_append, List.all_cons, List.all_nil, List.map_append, Nat.reduceLT, labsInL, AV.labsIn]
   all_goals first | rfl | decide | skip
  refine SeqR.ev 2 (by rfl) (by decide) ?_
  simp only [cellsSc]
  simp -implicitDefEqProofs only [go_sem, ↓reduceIte, Nat.reduceAdd, Nat.reduceMul, Nat.reduceEqDiff, Nat.reduceLeDiff, reduceCtorEq, Int.reduceToNat]
  refine SeqR.last rfl ?_
  refine AW.cut (fun _ : Unit => clS S S.msgs.length []) (fun _ => True) ?_ fun _ _ => ?_
  ·refine AW.rT (by rfl) fun K hK => ?_
   simp -implicitDefEqProofs only [go_sem, ↓reduceIte, Nat.reduceAdd, Nat.reduceMul, Nat.reduceEqDiff, Nat.reduceLeDiff, reduceCtorEq, Int.reduceToNat]
   refine hK _ ?_; clear hK K
   refine AW.block ?_
   refine AW.loop (fun i : Nat => clS S i [(6, .p (.int .i64 (i : Int)))]) (fun i => i ≤ S.msgs.length) (fun i => S.msgs.length - i) 0 ?_ (by omega) fun i i1 => ?_
   ·simp only [clS, cellsSc, rowB_zero]
    refine Ghost.ent (fun l => if l = 1 then 5 else l) ?_ ?_ ?_ <;> simp -implicitDefEqProofs only [go_sem, ↓reduceIte, Nat.reduceAdd, Nat.reduceMul, Nat.reduceEqDiff, Nat.reduceLeDiff, reduceCtorEq, Int.reduceToNat,  List.forall_mem_cons, List.not_mem_nil, false_implies, implies_true, and_self, map_renL_lift, labsIn_lift, List.all_append, List.all_cons, List.all_nil, List.map_append, Nat.reduceLT, labsInL, AV.labsIn]
    all_goals first | rfl | decide | skip
   simp only [clS, cellsSc]
   have rl := rowB_len S.msgs i
   refine AW.seq ?_
   by_cases hil : i < S.msgs.length
   case neg =>
    have e : i = S.msgs.length := by omega
    subst e
    have hc1 : ((S.msgs.length : Int) < (S.msgs.length : Int)) = False := eq_false (by omega)
    refine AW.rT (by rfl) fun K hK => ?_
    simp -implicitDefEqProofs only [go_sem, ↓reduceIte, Nat.reduceAdd, Nat.reduceMul, Nat.reduceEqDiff, Nat.reduceLeDiff, reduceCtorEq, Int.reduceToNat, hc1, rl]
    refine hK _ ?_; clear hK K
    refine AW.cond _ (by simp -implicitDefEqProofs only [go_sem, ↓reduceIte, Nat.reduceAdd, Nat.reduceMul, Nat.reduceEqDiff, Nat.reduceLeDiff, reduceCtorEq, Int.reduceToNat]; rfl) (fun hc => ?_) (fun hc => ?_)
    ·simp at hc
    refine AW.exit ?_
    simp only [andThen, inBlk, reduceCtorEq, ↓reduceIte, if_t, if_f]
    refine ⟨(), trivial, ?_⟩
    show Ghost _ _ (clS S S.msgs.length [])
    simp only [clS, cellsSc]
    refine Ghost.sub ?_ ?_ <;> simp -implicitDefEqProofs only [go_sem, ↓reduceIte, Nat.reduceAdd, Nat.reduceMul, Nat.reduceEqDiff, Nat.reduceLeDiff, reduceCtorEq, Int.reduceToNat, rowB_labs, List.forall_mem_cons, List.not_mem_nil, false_implies, implies_true, and_self, labsIn_lift, List.all_append, List.all_cons, List.all_nil, Nat.reduceLT, labsInL, AV.labsIn]
    all_goals first | rfl | decide | skip
   obtain ⟨m, hm⟩ : ∃ m, S.msgs[i]? = some m := ⟨_, List.getElem?_eq_getElem hil⟩
   have hc1 : ((i : Int) < (S.msgs.length : Int)) = True := eq_true (by omega)
   have w1 : IntKind.wrap .i64 ((i : Int) + 1) = ((i + 1 : Nat) : Int) := by rw [w64] <;> omega
   have g1 := rowB_at hm
   have nx := rowB_next hm
   have b0 : 0 ≤ (i : Int) := by omega
   have b1 : (i : Int) < (S.msgs.length : Int) := by omega
   simp only [encMs, List.map_cons, List.map_nil] at g1
   simp only [bareA] at nx
   have g2 : ((rowB S.msgs i).set i [.p (.str m.name), .ex [], .p (.slice (m.res.map encI))])[i]? = some [.p (.str m.name), .ex [], .p (.slice (m.res.map encI))] := by
    rw [List.getElem?_set, if_pos rfl, if_pos (by rw [rl]; exact hil)]
   refine AW.rT (by rfl) fun K hK => ?_
   simp -implicitDefEqProofs only [go_sem, ↓reduceIte, Nat.reduceAdd, Nat.reduceMul, Nat.reduceEqDiff, Nat.reduceLeDiff, reduceCtorEq, Int.reduceToNat, hc1, rl]
   refine hK _ ?_; clear hK K
   refine AW.cond _ (by simp -implicitDefEqProofs only [go_sem, ↓reduceIte, Nat.reduceAdd, Nat.reduceMul, Nat.reduceEqDiff, Nat.reduceLeDiff, reduceCtorEq, Int.reduceToNat]; rfl) (fun hc => ?_) (fun hc => ?_)
   rotate_left
   ·simp at hc
   refine AW.skip ?_
   simp only [andThen, inBlk, reduceCtorEq, ↓reduceIte, if_t, if_f]
   refine AW.seq ?_
   refine AW.block ?_
   refine AW.rT (by rfl) fun K hK => ?_
   simp -implicitDefEqProofs only [go_sem, ↓reduceIte, Nat.reduceAdd, Nat.reduceMul, Nat.reduceEqDiff, Nat.reduceLeDiff, reduceCtorEq, Int.reduceToNat, g1, rl, b0, b1]
   refine hK _ ?_; clear hK K
   refine AW.rE (by rfl) fun K hK => ?_
   simp -implicitDefEqProofs only [go_sem, ↓reduceIte, Nat.reduceAdd, Nat.reduceMul, Nat.reduceEqDiff, Nat.reduceLeDiff, reduceCtorEq, Int.reduceToNat, g2, rl, b0, b1, List.length_set, List.set_set]
   refine hK _ ?_; clear hK K
   simp only [andThen, inBlk, reduceCtorEq, ↓reduceIte, if_t, if_f]
   refine AW.rE (by rfl) fun K hK => ?_
   simp -implicitDefEqProofs only [go_sem, ↓reduceIte, Nat.reduceAdd, Nat.reduceMul, Nat.reduceEqDiff, Nat.reduceLeDiff, reduceCtorEq, Int.reduceToNat, w1]
   refine hK _ ?_; clear hK K
   refine ⟨i + 1, by omega, by omega, ?_⟩
   show Ghost _ _ (clS S (i + 1) [(6, .p (.int .i64 ((i + 1 : Nat) : Int)))])
   simp only [clS, cellsSc]
   refine Ghost.sub ?_ ?_ <;> simp -implicitDefEqProofs only [go_sem, ↓reduceIte, Nat.reduceAdd, Nat.reduceMul, Nat.reduceEqDiff, Nat.reduceLeDiff, reduceCtorEq, Int.reduceToNat, nx, rowB_labs, List.forall_mem_cons, List.not_mem_nil, false_implies, implies_true, and_self, labsIn_lift, List.all_append, List.all_cons, List.all_nil, Nat.reduceLT, labsInL, AV.labsIn]
   all_goals first | rfl | decide | skip
  refine AW.ghost (s' := clZ S (bareS S)) (ca_shut S) ?_
  have EV := compat_Evolves S (bareS S) L (bare_lens L)
  rw [bare_evo hz hm0] at EV
  generalize bareS S = U at *
  simp only [encSc] at SC EV
  simp only [clZ, cellsSc]
  refine AW.dT mixed (by rfl) (by decide +kernel) fun K hK => ?_
  simp -implicitDefEqProofs only [go_sem, ↓reduceIte, Nat.reduceAdd, Nat.reduceMul, Nat.reduceEqDiff, Nat.reduceLeDiff, reduceCtorEq, Int.reduceToNat]
  refine ⟨.pure _, SC, ?_⟩
  try simp -implicitDefEqProofs only [go_sem, ↓reduceIte, Nat.reduceAdd, Nat.reduceMul, Nat.reduceEqDiff, Nat.reduceLeDiff, reduceCtorEq, Int.reduceToNat]
  refine ⟨.pure _, EV, ?_⟩
  try simp -implicitDefEqProofs only [go_sem, ↓reduceIte, Nat.reduceAdd, Nat.reduceMul, Nat.reduceEqDiff, Nat.reduceLeDiff, reduceCtorEq, Int.reduceToNat]
  refine ⟨by decide +kernel, ?_⟩
  refine hK _ ?_; clear hK K
  refine AW.rT (by rfl) fun K hK => ?_
  simp -implicitDefEqProofs only [go_sem, ↓reduceIte, Nat.reduceAdd, Nat.reduceMul, Nat.reduceEqDiff, Nat.reduceLeDiff, reduceCtorEq, Int.reduceToNat]
  refine ⟨.pure _, law14_awake, ?_⟩
  try simp -implicitDefEqProofs only [go_sem, ↓reduceIte, Nat.reduceAdd, Nat.reduceMul, Nat.reduceEqDiff, Nat.reduceLeDiff, reduceCtorEq, Int.reduceToNat]
  refine hK _ ?_; clear hK K
  refine AW.ret ?_
  simp -implicitDefEqProofs only [go_sem, ↓reduceIte, Nat.reduceAdd, Nat.reduceMul, Nat.reduceEqDiff, Nat.reduceLeDiff, reduceCtorEq, Int.reduceToNat]
 have b0 : ((S.meths.length : Int) == 0) = false := beq_eq_false_iff_ne.2 (by omega)
 have hnp : (0 : Int) < (S.meths.length : Int) := by omega
 have hp' := okI_range hp
 have PL := law00_Place p (S.meths.length : Int) hnp (by omega) hp'.1 hp'.2
 obtain ⟨k, hk⟩ : ∃ k : Nat, p % (S.meths.length : Int) = (k : Int) := ⟨(p % (S.meths.length : Int)).toNat, by have := Int.emod_nonneg p (show (S.meths.length : Int) ≠ 0 by omega); omega⟩
 have hkl : k < S.meths.length := by have := Int.emod_lt_of_pos p hnp; omega
 rw [hk] at PL
 obtain ⟨mt, hmt⟩ : ∃ mt, S.meths[k]? = some mt := ⟨_, List.getElem?_eq_getElem hkl⟩
 have ⟨hm1, hm2, hm3⟩ := at_map' encMt hmt
 have hm2' : (k : Int) < (S.meths.length : Int) := by omega
 have w2 : IntKind.wrap .i64 ((k : Int) + 1) = ((k + 1 : Nat) : Int) := by rw [w64] <;> omega
 have c1 : (k : Int) ≤ (S.meths.length : Int) := by omega
 have c2 : ((k + 1 : Nat) : Int) ≤ (S.meths.length : Int) := by omega
 have c0 : 0 ≤ ((k + 1 : Nat) : Int) := by omega
 obtain ⟨e1, e2⟩ := call_evo hz hmt
 have LT := callT_lens L k
 have E1 := compat_Evolves S (callT S k) L LT
 have E2 := compat_Evolves (callT S k) S LT L
 rw [e1] at E1
 rw [e2] at E2
 simp only [encSc, callT] at SC E1 E2
 refine AW.rT (by rfl) fun K hK => ?_
 simp -implicitDefEqProofs only [go_sem, ↓reduceIte, Nat.reduceAdd, Nat.reduceMul, Nat.reduceEqDiff, Nat.reduceLeDiff, reduceCtorEq, Int.reduceToNat, b0, List.length_map]
 refine hK _ ?_; clear hK K
 refine AW.cond _ (by simp -implicitDefEqProofs only [go_sem, ↓reduceIte, Nat.reduceAdd, Nat.reduceMul, Nat.reduceEqDiff, Nat.reduceLeDiff, reduceCtorEq, Int.reduceToNat]; rfl) (fun hc => ?_) (fun hc => ?_)
 ·simp at hc
 refine AW.skip ?_
 simp only [andThen, inBlk, reduceCtorEq, ↓reduceIte, if_t, if_f]
 refine AW.rT (by rfl) fun K hK => ?_
 simp -implicitDefEqProofs only [go_sem, ↓reduceIte, Nat.reduceAdd, Nat.reduceMul, Nat.reduceEqDiff, Nat.reduceLeDiff, reduceCtorEq, Int.reduceToNat]
 refine ⟨.pure _, SC, ?_⟩
 try simp -implicitDefEqProofs only [go_sem, ↓reduceIte, Nat.reduceAdd, Nat.reduceMul, Nat.reduceEqDiff, Nat.reduceLeDiff, reduceCtorEq, Int.reduceToNat]
 refine hK _ ?_; clear hK K
 refine AW.rT (by rfl) fun K hK => ?_
 simp -implicitDefEqProofs only [go_sem, ↓reduceIte, Nat.reduceAdd, Nat.reduceMul, Nat.reduceEqDiff, Nat.reduceLeDiff, reduceCtorEq, Int.reduceToNat, List.length_map]
 refine ⟨.pure _, PL, ?_⟩
 try simp -implicitDefEqProofs only [go_sem, ↓reduceIte, Nat.reduceAdd, Nat.reduceMul, Nat.reduceEqDiff, Nat.reduceLeDiff, reduceCtorEq, Int.reduceToNat]
 refine hK _ ?_; clear hK K
 refine AW.dT mixed (by rfl) (by decide +kernel) fun K hK => ?_
 simp -implicitDefEqProofs only [go_sem, ↓reduceIte, Nat.reduceAdd, Nat.reduceMul, Nat.reduceEqDiff, Nat.reduceLeDiff, reduceCtorEq, Int.reduceToNat, hm1, hm2', c0, c1, c2, w2, List.length_map, Int.toNat_natCast]
 have tk : List.take S.meths.length (List.map encMt S.meths) = List.map encMt S.meths := List.take_of_length_le (by rw [List.length_map]; exact Nat.le_refl _)
 rw [tk, ← List.map_take, ← List.map_drop]
 have l1 : (S.meths.take k).length ≤ 10 := by rw [List.length_take]; omega
 have l2 : (S.meths.drop (k + 1)).length ≤ 10 := by rw [List.length_drop]; omega
 have lM : ∀ y ∈ List.map encMt S.meths, 3 = y.length := fun y hy => by
  obtain ⟨x, _, rfl⟩ := List.mem_map.1 hy
  rfl
 refine ⟨lM, by simp, ⟨by omega, by omega⟩, ⟨lift_len (f := encMt) (fun _ => rfl) _, lift_one one_Mt _, by simp⟩, ⟨.inl trivial, by simp, by rw [liftE_length, List.length_map]; omega⟩, lM, by simp, by omega, ⟨lift_len (f := encMt) (fun _ => rfl) _, lift_one one_Mt _, by simp⟩, by rw [liftE_length, liftE_length, List.length_map, List.length_map]; omega, by decide +kernel, ?_⟩
 refine hK _ ?_; clear hK K
 refine AW.ghost (s' := ⟨ofL [(2, .ptr 0 0 0), (10, .ptr 1 0 0), (11, .p (.int .i64 (k : Int)))], ofH [(0, .row 4 [cellsSc S]), (1, .row 4 [cellsSc (callT S k)])], 3⟩) ?_ ?_
 ·refine Ghost.trans (s' := ⟨ofL [(2, .ptr 0 0 0), (10, .ptr 1 0 0), (11, .p (.int .i64 (k : Int)))], ofH [(0, .row 4 [cellsSc S]), (1, .row 4 [[.p (.str S.name), .p (.slice (S.msgs.map encMs)), .p (.slice (S.enums.map encEn)), .own 2]]), (2, .row 3 (liftE ((S.meths.take k ++ S.meths.drop (k + 1)).map encMt)))], 3⟩) ?_ (Ghost.trans (Ghost.freeze (lb := 2) (ps := (S.meths.take k ++ S.meths.drop (k + 1)).map encMt) rfl (unlift_liftE _)) ?_)
  ·simp only [cellsSc]
   refine Ghost.ent (fun l => if l = 0 then 0 else if l = 1 then 16 else 34) ?_ ?_ ?_ <;> simp -implicitDefEqProofs only [go_sem, ↓reduceIte, Nat.reduceAdd, Nat.reduceMul, Nat.reduceEqDiff, Nat.reduceLeDiff, reduceCtorEq, Int.reduceToNat, liftE_append, List.map_append, List.forall_mem_cons, List.not_mem_nil, false_implies, implies_true, and_self, map_renL_lift, labsIn_lift, List.all_append, List.all_cons, List.all_nil, List.map_append, Nat.reduceLT, labsInL, AV.labsIn]
   all_goals first | rfl | decide | skip
  ·simp only [cellsSc, callT]
   refine Ghost.sub ?_ ?_ <;> simp -implicitDefEqProofs only [go_sem, ↓reduceIte, Nat.reduceAdd, Nat.reduceMul, Nat.reduceEqDiff, Nat.reduceLeDiff, reduceCtorEq, Int.reduceToNat, thaw, thaw1, Option.map_some, List.map_cons, List.map_nil, thaw_lift, List.forall_mem_cons, List.not_mem_nil, false_implies, implies_true, and_self, labsIn_lift, List.all_append, List.all_cons, List.all_nil, Nat.reduceLT, labsInL, AV.labsIn]
   all_goals first | rfl | decide | skip
 simp only [cellsSc, callT]
 generalize S.meths.take k ++ S.meths.drop (k + 1) = MT at *
 refine AW.dT mixed (by rfl) (by decide +kernel) fun K hK => ?_
 simp -implicitDefEqProofs only [go_sem, ↓reduceIte, Nat.reduceAdd, Nat.reduceMul, Nat.reduceEqDiff, Nat.reduceLeDiff, reduceCtorEq, Int.reduceToNat]
 refine ⟨.pure _, SC, ?_⟩
 try simp -implicitDefEqProofs only [go_sem, ↓reduceIte, Nat.reduceAdd, Nat.reduceMul, Nat.reduceEqDiff, Nat.reduceLeDiff, reduceCtorEq, Int.reduceToNat]
 refine ⟨.pure _, E1, ?_⟩
 try simp -implicitDefEqProofs only [go_sem, ↓reduceIte, Nat.reduceAdd, Nat.reduceMul, Nat.reduceEqDiff, Nat.reduceLeDiff, reduceCtorEq, Int.reduceToNat]
 refine ⟨by decide +kernel, ?_⟩
 refine hK _ ?_; clear hK K
 refine AW.dT mixed (by rfl) (by decide +kernel) fun K hK => ?_
 simp -implicitDefEqProofs only [go_sem, ↓reduceIte, Nat.reduceAdd, Nat.reduceMul, Nat.reduceEqDiff, Nat.reduceLeDiff, reduceCtorEq, Int.reduceToNat]
 refine ⟨.pure _, SC, ?_⟩
 try simp -implicitDefEqProofs only [go_sem, ↓reduceIte, Nat.reduceAdd, Nat.reduceMul, Nat.reduceEqDiff, Nat.reduceLeDiff, reduceCtorEq, Int.reduceToNat]
 refine ⟨.pure _, E2, ?_⟩
 try simp -implicitDefEqProofs only [go_sem, ↓reduceIte, Nat.reduceAdd, Nat.reduceMul, Nat.reduceEqDiff, Nat.reduceLeDiff, reduceCtorEq, Int.reduceToNat]
 refine ⟨by decide +kernel, ?_⟩
 refine hK _ ?_; clear hK K
 refine AW.rT (by rfl) fun K hK => ?_
 simp -implicitDefEqProofs only [go_sem, ↓reduceIte, Nat.reduceAdd, Nat.reduceMul, Nat.reduceEqDiff, Nat.reduceLeDiff, reduceCtorEq, Int.reduceToNat, hm1, hm2', hm3, encMt, beq_self_eq_true, List.length_map]
 refine ⟨.pure _, law14_awake, ?_⟩
 try simp -implicitDefEqProofs only [go_sem, ↓reduceIte, Nat.reduceAdd, Nat.reduceMul, Nat.reduceEqDiff, Nat.reduceLeDiff, reduceCtorEq, Int.reduceToNat]
 refine hK _ ?_; clear hK K
 refine AW.ret ?_
 simp -implicitDefEqProofs only [go_sem, ↓reduceIte, Nat.reduceAdd, Nat.reduceMul, Nat.reduceEqDiff, Nat.reduceLeDiff, reduceCtorEq, Int.reduceToNat]
end Go.Aw
