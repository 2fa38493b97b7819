/- What the law LawCompatBreaks leans on, joined (part 6). -/
import Derived.Test.YtmeplhcfjihafaaDoorZcompatBreaks5
set_option linter.unusedSimpArgs false
set_option linter.unusedVariables false
namespace Go.Aw
open Go.Proofs Go.RowKit
set_option linter.unusedSimpArgs false
set_option linter.unusedVariables false
def niceE (e : En) : Prop := (e.vals.map Nm.n).Nodup ∧ ∀ v ∈ e.vals, v.name ≠ []
theorem nice_z : niceE zEn := ⟨List.nodup_nil, fun v hv => by cases hv⟩
def mN (l : List Nm) : List (PV × AV) := l.map fun v => (.int .i64 v.n, .p (.str v.name))
theorem mN_labs (l : List Nm) (n : Nat) : (mN l).all (fun e => AV.labsIn n e.2) = true := by
 simp [mN, AV.labsIn]
attribute [go_sem] mN_labs
theorem mN_no {l : List Nm} {k : Int} (h : l.any (fun v => k == v.n) = false) : MapAt (mN l) (.int .i64 k) none :=
 mapAt_none (q := fun a : Nm => k == a.n) (fun a => by simp [keyEq]) h
theorem mN_yes {l : List Nm} (hd : (l.map Nm.n).Nodup) {v : Nm} (h : v ∈ l) : ∃ i : Nat, MapAt (mN l) (.int .i64 v.n) (some (i, .p (.str v.name))) := by
 obtain ⟨i, a, h1, h2, h3⟩ := first_of (q := fun u : Nm => v.n == u.n) (List.any_eq_true.2 ⟨v, h, by simp⟩)
 have ea : a = v := by
  obtain ⟨j, hj⟩ := List.getElem?_of_mem h
  have e : a.n = v.n := by simpa using (beq_iff_eq.1 h2).symm
  have : i = j := by
   have q1 : (l.map Nm.n)[i]? = some a.n := by simp [h1]
   have q2 : (l.map Nm.n)[j]? = some v.n := by simp [hj]
   have li : i < (l.map Nm.n).length := (List.getElem?_eq_some_iff.1 q1).1
   rw [e, ← q2] at q1
   exact (List.getElem?_inj li hd).1 q1
  subst this
  rw [h1] at hj
  exact Option.some.inj hj
 subst ea
 exact ⟨i, mapAt_some (q := fun u : Nm => a.n == u.n) (fun a => by simp [keyEq]) h1 h2 h3⟩
theorem nm_in {l : List Nm} (hd : (l.map Nm.n).Nodup) {u v : Nm} (hu : u ∈ l) (hn : u.n = v.n) : l.contains v = (u.name == v.name) := by
 rw [Bool.eq_iff_iff, List.contains_iff_mem, beq_iff_eq]
 constructor
 ·intro hv
  obtain ⟨i, hi⟩ := List.getElem?_of_mem hu
  obtain ⟨j, hj⟩ := List.getElem?_of_mem hv
  have q1 : (l.map Nm.n)[i]? = some u.n := by simp [hi]
  have q2 : (l.map Nm.n)[j]? = some v.n := by simp [hj]
  have li : i < (l.map Nm.n).length := (List.getElem?_eq_some_iff.1 q1).1
  rw [hn, ← q2] at q1
  have : i = j := (List.getElem?_inj li hd).1 q1
  subst this
  rw [hi] at hj
  rw [Option.some.inj hj]
 ·intro e
  have : u = v := by cases u; cases v; simp_all
  rw [← this]; exact hu
def fx1 (o n : En) (b1 b2 : Bool) (j : Nat) : St := ⟨ofL [(9, .ptr 0 0 0), (10, .p (.bool b1)), (12, .p (.bool b2)), (13, .map 2), (53, .p (.slice (n.vals.map encNm))), (54, .p (.int .i64 (n.vals.length : Int))), (55, .p (.int .i64 (j : Int)))], ofH [(0, .row 2 [cellsEn o]), (2, .map (mN (n.vals.take j)))], 3⟩
def fx2 (o n : En) (b1 b2 : Bool) (j : Nat) : St := ⟨ofL [(10, .p (.bool b1)), (12, .p (.bool b2)), (13, .map 2), (66, .p (.slice (o.vals.map encNm))), (67, .p (.int .i64 (o.vals.length : Int))), (68, .p (.int .i64 (j : Int)))], ofH [(2, .map (mN n.vals))], 3⟩
set_option maxRecDepth 100000 in
set_option maxHeartbeats 4000000 in
theorem compat_Fits (S U : Sc) (y z : Ty) (h1 : S.enums.length ≤ 1000000) (h2 : U.enums.length ≤ 1000000) (hv : ∀ e ∈ S.enums, e.vals.length ≤ 1000000) (hw : ∀ e ∈ U.enums, e.vals.length ≤ 1000000) (hS : ∀ e ∈ S.enums, niceE e) (hU : ∀ e ∈ U.enums, niceE e) :
  PFn Tryd.prog 44 [.agg (encSc S), .agg (encSc U), .agg (encTy y), .agg (encTy z)] (.bool (fitsB S U y z)) := by
 refine PFn.of Tryd.func44 rfl (by decide) Tryd.ntmps44 Tryd.results44 (Nat.le_of_ble_eq_true rfl) ?_
 simp only [argsT, encSc, encTy]
 refine AW.rT (by rfl) fun K hK => ?_
 simp -implicitDefEqProofs only [go_sem, ↓reduceIte, Nat.reduceAdd, Nat.reduceEqDiff, reduceCtorEq]
 refine hK _ ?_; clear hK K
 refine AW.seq ?_
 refine AW.block ?_
 by_cases k1 : y.kind = 1 ∧ z.kind = 2
 ·have a1 : (y.kind == 1) = true := by simp; omega
  have a2 : (z.kind == 2) = true := by simp; omega
  have e : fitsB S U y z = true := by unfold fitsB; rw [if_pos k1]
  refine AW.rT (by rfl) fun K hK => ?_
  simp -implicitDefEqProofs only [go_sem, ↓reduceIte, Nat.reduceAdd, Nat.reduceEqDiff, a1, a2]
  refine hK _ ?_; clear hK K
  refine AW.cond _ (by simp -implicitDefEqProofs only [go_sem]; rfl) (fun hc => ?_) (fun hc => ?_)
  rotate_left
  ·simp at hc
  refine AW.rT (by rfl) fun K hK => ?_
  simp -implicitDefEqProofs only [go_sem, Nat.reduceAdd]
  refine hK _ ?_; clear hK K
  refine AW.ret ?_
  simp -implicitDefEqProofs only [go_sem, e]
 have e0 : fitsB S U y z = if y.kind ≠ z.kind then false else if y.kind ≠ 6 then true else fitsE S U y z := by unfold fitsB; rw [if_neg k1]
 have cond1 : (y.kind == 1) = false ∨ ((y.kind == 1) = true ∧ (z.kind == 2) = false) := by
  by_cases h : y.kind = 1
  ·right
   exact ⟨by simp; omega, by simp; omega⟩
  ·left; simp; omega
 refine AW.cut (fun _ : Unit => ⟨ofL [(4, .ptr 0 0 0), (5, .ptr 1 0 0), (6, .ptr 2 0 0), (7, .ptr 3 0 0), (18, .p (.bool false))], ofH [(0, .row 4 [cellsSc S]), (1, .row 4 [cellsSc U]), (2, .row 2 [[.p (.int .i64 y.kind), .p (.str y.name)]]), (3, .row 2 [[.p (.int .i64 z.kind), .p (.str z.name)]])], 4⟩) (fun _ => True) ?_ fun _ _ => ?_
 ·rcases cond1 with a1 | ⟨a1, a2⟩
  ·refine AW.rE (by rfl) fun K hK => ?_
   simp -implicitDefEqProofs only [go_sem, ↓reduceIte, Nat.reduceAdd, Nat.reduceEqDiff, a1]
   refine hK _ ?_; clear hK K
   simp only [andThen]
   refine ⟨(), trivial, ?_⟩
   simp only [cellsSc]
   refine Ghost.sub ?_ ?_ <;> simp -implicitDefEqProofs only [go_sem, ↓reduceIte, Nat.reduceEqDiff, reduceCtorEq, List.forall_mem_cons, List.not_mem_nil, false_implies, implies_true, and_self, List.all_cons, List.all_nil, Nat.reduceLT, labsInL, AV.labsIn]
   all_goals first | rfl | decide | skip
  ·refine AW.rE (by rfl) fun K hK => ?_
   simp -implicitDefEqProofs only [go_sem, ↓reduceIte, Nat.reduceAdd, Nat.reduceEqDiff, a1, a2]
   refine hK _ ?_; clear hK K
   simp only [andThen]
   refine ⟨(), trivial, ?_⟩
   simp only [cellsSc]
   refine Ghost.sub ?_ ?_ <;> simp -implicitDefEqProofs only [go_sem, ↓reduceIte, Nat.reduceEqDiff, reduceCtorEq, List.forall_mem_cons, List.not_mem_nil, false_implies, implies_true, and_self, List.all_cons, List.all_nil, Nat.reduceLT, labsInL, AV.labsIn]
   all_goals first | rfl | decide | skip
 simp only [cellsSc]
 refine AW.cond _ (by simp -implicitDefEqProofs only [go_sem, ↓reduceIte, Nat.reduceEqDiff]; rfl) (fun hc => ?_) (fun hc => ?_)
 ·simp at hc
 by_cases k2 : y.kind = z.kind
 case neg =>
  have a3 : (y.kind != z.kind) = true := by simp; omega
  rw [if_pos k2] at e0
  refine AW.rT (by rfl) fun K hK => ?_
  simp -implicitDefEqProofs only [go_sem, ↓reduceIte, Nat.reduceAdd, Nat.reduceEqDiff, reduceCtorEq, a3]
  refine hK _ ?_; clear hK K
  refine AW.cond _ (by simp -implicitDefEqProofs only [go_sem]; rfl) (fun hc => ?_) (fun hc => ?_)
  rotate_left
  ·simp at hc
  refine AW.rT (by rfl) fun K hK => ?_
  simp -implicitDefEqProofs only [go_sem, Nat.reduceAdd]
  refine hK _ ?_; clear hK K
  refine AW.ret ?_
  simp -implicitDefEqProofs only [go_sem, e0]
 have a3 : (y.kind != z.kind) = false := by simp; omega
 rw [if_neg (by simpa using k2)] at e0
 refine AW.rT (by rfl) fun K hK => ?_
 simp -implicitDefEqProofs only [go_sem, ↓reduceIte, Nat.reduceAdd, Nat.reduceEqDiff, reduceCtorEq, a3]
 refine hK _ ?_; clear hK K
 refine AW.cond _ (by simp -implicitDefEqProofs only [go_sem]; rfl) (fun hc => ?_) (fun hc => ?_)
 ·simp at hc
 by_cases k3 : y.kind = 6
 case neg =>
  have a4 : (y.kind != 6) = true := by simp; omega
  rw [if_pos k3] at e0
  refine AW.rT (by rfl) fun K hK => ?_
  simp -implicitDefEqProofs only [go_sem, ↓reduceIte, Nat.reduceAdd, Nat.reduceEqDiff, reduceCtorEq, a4]
  refine hK _ ?_; clear hK K
  refine AW.cond _ (by simp -implicitDefEqProofs only [go_sem]; rfl) (fun hc => ?_) (fun hc => ?_)
  rotate_left
  ·simp at hc
  refine AW.rT (by rfl) fun K hK => ?_
  simp -implicitDefEqProofs only [go_sem, Nat.reduceAdd]
  refine hK _ ?_; clear hK K
  refine AW.ret ?_
  simp -implicitDefEqProofs only [go_sem, e0]
 have a4 : (y.kind != 6) = false := by simp; omega
 rw [if_neg (by simpa using k3)] at e0
 refine AW.rT (by rfl) fun K hK => ?_
 simp -implicitDefEqProofs only [go_sem, ↓reduceIte, Nat.reduceAdd, Nat.reduceEqDiff, reduceCtorEq, a4]
 refine hK _ ?_; clear hK K
 refine AW.cond _ (by simp -implicitDefEqProofs only [go_sem]; rfl) (fun hc => ?_) (fun hc => ?_)
 ·simp at hc
 refine AW.skip ?_
 simp only [andThen, inBlk]
 have E1 := check_Enum S y.name h1
 have E2 := check_Enum U z.name h2
 have l1 : (firstP (fun x => x.name == y.name) zEn S.enums).1.vals.length ≤ 1000000 := by
  have : (firstP (fun x => x.name == y.name) zEn S.enums).1 ∈ S.enums ∨ (firstP (fun x => x.name == y.name) zEn S.enums).1 = zEn := by
   unfold firstP
   cases h : S.enums.find? fun x => x.name == y.name with
   | none => exact .inr rfl
   | some a => exact .inl (List.mem_of_find?_eq_some h)
  rcases this with h | h
  ·exact hv _ h
  ·rw [h]; decide
 have l2 : (firstP (fun x => x.name == z.name) zEn U.enums).1.vals.length ≤ 1000000 := by
  have : (firstP (fun x => x.name == z.name) zEn U.enums).1 ∈ U.enums ∨ (firstP (fun x => x.name == z.name) zEn U.enums).1 = zEn := by
   unfold firstP
   cases h : U.enums.find? fun x => x.name == z.name with
   | none => exact .inr rfl
   | some a => exact .inl (List.mem_of_find?_eq_some h)
  rcases this with h | h
  ·exact hw _ h
  ·rw [h]; decide
 have n1 : niceE (firstP (fun x => x.name == y.name) zEn S.enums).1 := by
  rcases (show _ ∨ _ from by
   unfold firstP
   cases h : S.enums.find? fun x => x.name == y.name with
   | none => exact .inr rfl
   | some a => exact .inl (List.mem_of_find?_eq_some h) : (firstP (fun x => x.name == y.name) zEn S.enums).1 ∈ S.enums ∨ (firstP (fun x => x.name == y.name) zEn S.enums).1 = zEn) with h | h
  ·exact hS _ h
  ·rw [h]; exact nice_z
 have n2 : niceE (firstP (fun x => x.name == z.name) zEn U.enums).1 := by
  rcases (show _ ∨ _ from by
   unfold firstP
   cases h : U.enums.find? fun x => x.name == z.name with
   | none => exact .inr rfl
   | some a => exact .inl (List.mem_of_find?_eq_some h) : (firstP (fun x => x.name == z.name) zEn U.enums).1 ∈ U.enums ∨ (firstP (fun x => x.name == z.name) zEn U.enums).1 = zEn) with h | h
  ·exact hU _ h
  ·rw [h]; exact nice_z
 unfold fitsE at e0
 generalize firstP (fun x => x.name == y.name) zEn S.enums = o at *
 generalize firstP (fun x => x.name == z.name) zEn U.enums = n at *
 obtain ⟨o, b1⟩ := o
 obtain ⟨n, b2⟩ := n
 dsimp only at e0 E1 E2 l1 l2 n1 n2
 simp only [encSc, encEn] at E1 E2
 refine AW.rT (by rfl) fun K hK => ?_
 simp -implicitDefEqProofs only [go_sem, ↓reduceIte, Nat.reduceAdd, Nat.reduceEqDiff, Nat.reduceLeDiff, reduceCtorEq]
 refine ⟨.pure _, E1, ?_⟩
 try simp -implicitDefEqProofs only [go_sem, ↓reduceIte, Nat.reduceAdd, Nat.reduceEqDiff, Nat.reduceLeDiff]
 refine hK _ ?_; clear hK K
 refine AW.rT (by rfl) fun K hK => ?_
 simp -implicitDefEqProofs only [go_sem, ↓reduceIte, Nat.reduceAdd, Nat.reduceEqDiff, Nat.reduceLeDiff, reduceCtorEq]
 refine ⟨.pure _, E2, ?_⟩
 try simp -implicitDefEqProofs only [go_sem, ↓reduceIte, Nat.reduceAdd, Nat.reduceEqDiff, Nat.reduceLeDiff]
 refine hK _ ?_; clear hK K
 refine AW.rT (by rfl) fun K hK => ?_
 simp -implicitDefEqProofs only [go_sem, Nat.reduceAdd]
 refine hK _ ?_; clear hK K
 refine AW.seq ?_
 refine AW.rT (by rfl) fun K hK => ?_
 simp -implicitDefEqProofs only [go_sem, ↓reduceIte, Nat.reduceAdd, Nat.reduceEqDiff, List.length_map]
 refine hK _ ?_; clear hK K
 refine AW.block ?_
 refine AW.loop (fx1 o n b1 b2) (fun j => j ≤ n.vals.length) (fun j => n.vals.length - j) 0 ?_ (by omega) fun j j1 => ?_
 ·simp only [fx1, cellsEn]
  refine Ghost.ent (fun l => if l = 0 then 21 else 34) ?_ ?_ ?_ <;> simp -implicitDefEqProofs only [go_sem, ↓reduceIte, Nat.reduceEqDiff, reduceCtorEq, List.take_zero, mN, List.map_nil, List.forall_mem_cons, List.not_mem_nil, false_implies, implies_true, and_self, List.all_cons, List.all_nil, Nat.reduceLT, labsInL, AV.labsIn]
  all_goals first | rfl | decide | skip
 simp only [fx1, cellsEn]
 by_cases hjl : j < n.vals.length
 ·obtain ⟨v, hv'⟩ : ∃ v, n.vals[j]? = some v := ⟨_, List.getElem?_eq_getElem hjl⟩
  have ⟨v1, v2, v3⟩ := at_map' encNm hv'
  have hc1 : ((j : Int) < (n.vals.length : Int)) = True := eq_true (by omega)
  have w1 : IntKind.wrap .i64 ((j : Int) + 1) = ((j + 1 : Nat) : Int) := by rw [w64] <;> omega
  have hno : (n.vals.take j).any (fun u => v.n == u.n) = false := by
   rw [List.any_eq_false]
   intro u hu
   obtain ⟨q, hq⟩ := List.getElem?_of_mem hu
   rw [List.getElem?_take] at hq
   split at hq
   ·rename_i hqj
    intro e
    have e := beq_iff_eq.1 e
    have q1 : (n.vals.map Nm.n)[q]? = some u.n := by simp [hq]
    have q2 : (n.vals.map Nm.n)[j]? = some v.n := by simp [hv']
    have li : q < (n.vals.map Nm.n).length := (List.getElem?_eq_some_iff.1 q1).1
    rw [← e, ← q2] at q1
    have := (List.getElem?_inj li n2.1).1 q1
    omega
   ·cases hq
  have hnx : mN (n.vals.take j) ++ [(.int .i64 v.n, .p (.str v.name))] = mN (n.vals.take (j + 1)) := by
   rw [List.take_add_one, hv']; simp [mN]
  have hm := mN_no hno
  refine AW.rT (by rfl) fun K hK => ?_
  simp -implicitDefEqProofs only [go_sem, ↓reduceIte, Nat.reduceAdd, Nat.reduceEqDiff, hc1]
  refine hK _ ?_; clear hK K
  refine AW.seq ?_
  refine AW.cond _ (by simp -implicitDefEqProofs only [go_sem]; rfl) (fun hc => ?_) (fun hc => ?_)
  rotate_left
  ·simp at hc
  refine AW.skip ?_
  simp only [andThen]
  refine AW.seq ?_
  refine AW.block ?_
  refine AW.rT (by rfl) fun K hK => ?_
  simp -implicitDefEqProofs only [go_sem, ↓reduceIte, Nat.reduceAdd, Nat.reduceEqDiff, Nat.reduceLeDiff, v1, v3, hc1, encNm, List.length_map]
  refine hK _ ?_; clear hK K
  refine AW.rE (by rfl) fun K hK => ?_
  simp -implicitDefEqProofs only [go_sem, ↓reduceIte, Nat.reduceAdd, Nat.reduceEqDiff, reduceCtorEq]
  refine ⟨keyI v.n, _, hm, ?_⟩
  try simp -implicitDefEqProofs only [go_sem]
  refine hK _ ?_; clear hK K
  simp only [andThen, inBlk]
  refine AW.rE (by rfl) fun K hK => ?_
  simp -implicitDefEqProofs only [go_sem, ↓reduceIte, Nat.reduceAdd, Nat.reduceEqDiff, w1]
  refine hK _ ?_; clear hK K
  refine ⟨j + 1, by omega, by omega, ?_⟩
  refine Ghost.sub ?_ ?_ <;> simp -implicitDefEqProofs only [go_sem, ↓reduceIte, Nat.reduceEqDiff, reduceCtorEq, hnx, List.forall_mem_cons, List.not_mem_nil, false_implies, implies_true, and_self, List.all_cons, List.all_nil, Nat.reduceLT, labsInL, AV.labsIn]
 have hc1 : ((j : Int) < (n.vals.length : Int)) = False := eq_false (by omega)
 have ea : n.vals.take j = n.vals := List.take_of_length_le (by omega)
 rw [ea]
 clear ea hjl
 refine AW.rT (by rfl) fun K hK => ?_
 simp -implicitDefEqProofs only [go_sem, ↓reduceIte, Nat.reduceAdd, Nat.reduceEqDiff, hc1]
 refine hK _ ?_; clear hK K
 refine AW.seq ?_
 refine AW.cond _ (by simp -implicitDefEqProofs only [go_sem]; rfl) (fun hc => ?_) (fun hc => ?_)
 ·simp at hc
 refine AW.exit ?_
 simp only [andThen, inBlk, ↓reduceIte]
 refine AW.seq ?_
 refine AW.rT (by rfl) fun K hK => ?_
 simp -implicitDefEqProofs only [go_sem, ↓reduceIte, Nat.reduceAdd, Nat.reduceEqDiff, List.length_map]
 refine hK _ ?_; clear hK K
 refine AW.block ?_
 refine AW.loop (fx2 o n b1 b2) (fun i => i ≤ o.vals.length ∧ (o.vals.take i).all (fun v => n.vals.contains v) = true) (fun i => o.vals.length - i) 0 ?_ ⟨by omega, by simp⟩ fun i hi => ?_
 ·simp only [fx2]
  refine Ghost.sub ?_ ?_ <;> simp -implicitDefEqProofs only [go_sem, ↓reduceIte, Nat.reduceEqDiff, reduceCtorEq, List.forall_mem_cons, List.not_mem_nil, false_implies, implies_true, and_self, Nat.reduceLT, AV.labsIn]
  all_goals first | rfl | decide | skip
 obtain ⟨i1, i2⟩ := hi
 simp only [fx2]
 by_cases hil : i < o.vals.length
 case neg =>
  have hc2 : ((i : Int) < (o.vals.length : Int)) = False := eq_false (by omega)
  rw [List.take_of_length_le (by omega)] at i2
  rw [i2, Bool.and_true] at e0
  refine AW.rT (by rfl) fun K hK => ?_
  simp -implicitDefEqProofs only [go_sem, ↓reduceIte, Nat.reduceAdd, Nat.reduceEqDiff, hc2]
  refine hK _ ?_; clear hK K
  refine AW.seq ?_
  refine AW.cond _ (by simp -implicitDefEqProofs only [go_sem]; rfl) (fun hc => ?_) (fun hc => ?_)
  ·simp at hc
  refine AW.exit ?_
  simp only [andThen, inBlk, ↓reduceIte]
  cases b1 with
  | true =>
   rw [Bool.true_and] at e0
   refine AW.rT (by rfl) fun K hK => ?_
   simp -implicitDefEqProofs only [go_sem, ↓reduceIte, Nat.reduceAdd, Nat.reduceEqDiff]
   refine hK _ ?_; clear hK K
   refine AW.ret ?_
   simp -implicitDefEqProofs only [go_sem, e0]
  | false =>
   rw [Bool.false_and] at e0
   refine AW.rT (by rfl) fun K hK => ?_
   simp -implicitDefEqProofs only [go_sem, ↓reduceIte, Nat.reduceAdd, Nat.reduceEqDiff]
   refine hK _ ?_; clear hK K
   refine AW.ret ?_
   simp -implicitDefEqProofs only [go_sem, e0]
 obtain ⟨v, hv'⟩ : ∃ v, o.vals[i]? = some v := ⟨_, List.getElem?_eq_getElem hil⟩
 have ⟨v1, v2, v3⟩ := at_map' encNm hv'
 have hc2 : ((i : Int) < (o.vals.length : Int)) = True := eq_true (by omega)
 have w2 : IntKind.wrap .i64 ((i : Int) + 1) = ((i + 1 : Nat) : Int) := by rw [w64] <;> omega
 have vne := n1.2 v (List.mem_of_getElem? hv')
 have bad : n.vals.contains v = false → fitsB S U y z = false := fun h => by
  rw [e0, all_not hv' h, Bool.and_false, Bool.and_false]
 refine AW.rT (by rfl) fun K hK => ?_
 simp -implicitDefEqProofs only [go_sem, ↓reduceIte, Nat.reduceAdd, Nat.reduceEqDiff, hc2]
 refine hK _ ?_; clear hK K
 refine AW.seq ?_
 refine AW.cond _ (by simp -implicitDefEqProofs only [go_sem]; rfl) (fun hc => ?_) (fun hc => ?_)
 rotate_left
 ·simp at hc
 refine AW.skip ?_
 simp only [andThen]
 refine AW.seq ?_
 refine AW.block ?_
 refine AW.rT (by rfl) fun K hK => ?_
 simp -implicitDefEqProofs only [go_sem, ↓reduceIte, Nat.reduceAdd, Nat.reduceEqDiff, Nat.reduceLeDiff, v1, v3, hc2, encNm, List.length_map]
 refine hK _ ?_; clear hK K
 cases hk : n.vals.any (fun u => v.n == u.n) with
 | false =>
  have hm := mN_no hk
  have e := bad (by
   rw [contains_any, List.any_eq_false]
   intro u hu
   have := List.any_eq_false.1 hk u hu
   intro e
   have e := beq_iff_eq.1 e
   rw [e] at this
   simp at this)
  have ns : (([] : List UInt8) == v.name) = false := by
   cases hn : v.name with
   | nil => exact absurd hn vne
   | cons a l => rfl
  refine AW.rT (by rfl) fun K hK => ?_
  simp -implicitDefEqProofs only [go_sem, ↓reduceIte, Nat.reduceAdd, Nat.reduceEqDiff]
  refine ⟨keyI v.n, none, hm, .str [], rfl, ?_⟩
  try simp -implicitDefEqProofs only [go_sem, ns]
  refine hK _ ?_; clear hK K
  refine AW.cond _ (by simp -implicitDefEqProofs only [go_sem]; rfl) (fun hc => ?_) (fun hc => ?_)
  rotate_left
  ·simp at hc
  refine AW.rT (by rfl) fun K hK => ?_
  simp -implicitDefEqProofs only [go_sem, Nat.reduceAdd]
  refine hK _ ?_; clear hK K
  refine AW.ret ?_
  simp -implicitDefEqProofs only [go_sem, e]
 | true =>
  obtain ⟨u, hu, hun⟩ := List.any_eq_true.1 hk
  have hun := (beq_iff_eq.1 hun).symm
  obtain ⟨q, hm⟩ := mN_yes n2.1 hu
  rw [hun] at hm
  have hcn := nm_in n2.1 hu hun
  cases hq : (u.name == v.name) with
  | true =>
   refine AW.rT (by rfl) fun K hK => ?_
   simp -implicitDefEqProofs only [go_sem, ↓reduceIte, Nat.reduceAdd, Nat.reduceEqDiff]
   refine ⟨keyI v.n, some (q, .p (.str u.name)), hm, .str u.name, rfl, ?_⟩
   try simp -implicitDefEqProofs only [go_sem, hq]
   refine hK _ ?_; clear hK K
   refine AW.cond _ (by simp -implicitDefEqProofs only [go_sem]; rfl) (fun hc => ?_) (fun hc => ?_)
   ·simp at hc
   refine AW.skip ?_
   simp only [andThen, inBlk]
   refine AW.rE (by rfl) fun K hK => ?_
   simp -implicitDefEqProofs only [go_sem, ↓reduceIte, Nat.reduceAdd, Nat.reduceEqDiff, w2]
   refine hK _ ?_; clear hK K
   refine ⟨i + 1, ⟨by omega, all_next hv' i2 (by rw [hcn, hq])⟩, by omega, ?_⟩
   refine Ghost.sub ?_ ?_ <;> simp -implicitDefEqProofs only [go_sem, ↓reduceIte, Nat.reduceEqDiff, List.forall_mem_cons, List.not_mem_nil, false_implies, implies_true, and_self, Nat.reduceLT, AV.labsIn]
  | false =>
   have e := bad (by rw [hcn, hq])
   refine AW.rT (by rfl) fun K hK => ?_
   simp -implicitDefEqProofs only [go_sem, ↓reduceIte, Nat.reduceAdd, Nat.reduceEqDiff]
   refine ⟨keyI v.n, some (q, .p (.str u.name)), hm, .str u.name, rfl, ?_⟩
   try simp -implicitDefEqProofs only [go_sem, hq]
   refine hK _ ?_; clear hK K
   refine AW.cond _ (by simp -implicitDefEqProofs only [go_sem]; rfl) (fun hc => ?_) (fun hc => ?_)
   rotate_left
   ·simp at hc
   refine AW.rT (by rfl) fun K hK => ?_
   simp -implicitDefEqProofs only [go_sem, Nat.reduceAdd]
   refine hK _ ?_; clear hK K
   refine AW.ret ?_
   simp -implicitDefEqProofs only [go_sem, e]
end Go.Aw
namespace Go.Aw
open Go.Proofs Go.RowKit
set_option linter.unusedSimpArgs false
set_option linter.unusedVariables false
structure Pr where
 o : List UInt8
 n : List UInt8
 deriving DecidableEq
def encPr (p : Pr) : List PV := [.str p.o, .str p.n]
theorem eq113 (x y : Pr) (w : World) : (Op.equalIn 10000 113 (.agg #[.string ⟨⟨x.o⟩⟩, .string ⟨⟨x.n⟩⟩]) (.agg #[.string ⟨⟨y.o⟩⟩, .string ⟨⟨y.n⟩⟩])).run Tryd.prog w = .ok (decide (x = y)) w := by
 have u3 := Tryd.underlying3
 have u9 := Tryd.underlying9
 have a3 := Tryd.isAgg3
 have a9 := Tryd.isAgg9
 have z3 := Tryd.sizeOf3
 have z9 := Tryd.sizeOf9
 have hS : Tryd.prog.underlying 113 = some (.struct (Tryd.prog.fieldsOf 113)) := by kernel_rfl
 have hp : Tryd.prog.stoodInHeld 113 = false := by kernel_rfl
 rw [show (10000 : Nat) = 9999 + 1 from rfl, run_equalIn_agg w 9999 113 _ _ hS hp]
 simp only [Program.fieldsOf, Tryd.underlying113]
 go_simp
 obtain ⟨a0, a1⟩ := x
 obtain ⟨b0, b1⟩ := y
 simp only [Pr.mk.injEq]
 by_cases h0 : a0 = b0 <;> by_cases h1 : a1 = b1 <;> simp [h0, h1]
theorem keyP (a b : List UInt8) : KeyT Tryd.prog 113 (.agg [.str a, .str b]) := by
 refine key_pair Tryd.underlying113 (fun a b e w => ?_) (fun a b c d w => ?_) a b
 ·have u9 := Tryd.underlying9
  have u113 := Tryd.underlying113
  have a9 := Tryd.isAgg9
  have z9 := Tryd.sizeOf9
  have ck : ∀ (x : List UInt8) w, (Instr.checkKey e 9999 9 (.string ⟨⟨x⟩⟩)).run Tryd.prog w = .ok () w := fun x w => by
   rw [show (9999 : Nat) = 9998 + 1 from rfl]
   unfold Instr.checkKey
   go_simp
  rw [show (10000 : Nat) = 9999 + 1 from rfl]
  unfold Instr.checkKey
  go_simp
 ·have h := eq113 ⟨a, b⟩ ⟨c, d⟩ w
  simp only at h
  have e : decide ((⟨a, b⟩ : Pr) = ⟨c, d⟩) = (a == c && b == d) := by
   rw [Bool.eq_iff_iff]; simp
  rw [e] at h
  exact h
end Go.Aw
namespace Go.Aw
open Go.Proofs Go.RowKit
set_option linter.unusedSimpArgs false
set_option linter.unusedVariables false
def mP (l : List Pr) : List (PV × AV) := l.map fun p => (.agg [.str p.o, .str p.n], .p (.bool true))
theorem mP_no {l : List Pr} {p : Pr} (h : l.contains p = false) : MapAt (mP l) (.agg [.str p.o, .str p.n]) none :=
 mapAt_none (q := fun a : Pr => p == a) (fun a => by
  simp only [keyEq]
  congr 1
  rw [Bool.eq_iff_iff]
  cases p; cases a
  simp) (by rw [← contains_any]; exact h)
theorem mP_yes {l : List Pr} {p : Pr} (h : l.contains p = true) : ∃ i : Nat, MapAt (mP l) (.agg [.str p.o, .str p.n]) (some (i, .p (.bool true))) := by
 rw [contains_any] at h
 obtain ⟨i, a, h1, h2, h3⟩ := first_of h
 exact ⟨i, mapAt_some (q := fun a : Pr => p == a) (fun a => by
  simp only [keyEq]
  congr 1
  rw [Bool.eq_iff_iff]
  cases p; cases a
  simp) h1 h2 h3⟩
theorem mP_add (l : List Pr) (p : Pr) : mP l ++ [(.agg [.str p.o, .str p.n], .p (.bool true))] = mP (l ++ [p]) := by simp [mP]
theorem mP_ren (l : List Pr) (ρ : Nat → Nat) : (mP l).map (fun e => (e.1, AV.ren ρ e.2)) = mP l := by
 simp [mP, AV.ren]
theorem mP_labs (l : List Pr) (n : Nat) : (mP l).all (fun e => AV.labsIn n e.2) = true := by
 simp [mP, AV.labsIn]
attribute [go_sem] mP_ren mP_labs
def addP (l : List Pr) (p : Pr) : List Pr := if l.contains p = true then l else l ++ [p]
def memP (l : List Pr) (r a b : Nat) : List (Nat × Blk) := [(r, .row 2 [[.own a, .map b]]), (a, .row 2 (liftE (l.map encPr))), (b, .map (mP l))]
def adZ (l : List Pr) : St := ⟨ofL [(0, .ptr 0 0 0)], ofH (memP l 0 1 2), 3⟩
set_option maxRecDepth 100000 in
set_option maxHeartbeats 4000000 in
theorem compat_add (l : List Pr) (p : Pr) (hl : l.length ≤ 1000000) : DFn Tryd.prog 67 [.ptr 0 0 0, .p (.str p.o), .p (.str p.n)] (memP l 0 1 2) 3 [0] (.tuple []) (memP (addP l p) 0 3 4) 2 := by
 refine DFn.of [0] Tryd.func67 rfl (by decide) Tryd.ntmps67 Tryd.results67 (Nat.le_of_ble_eq_true rfl) (by simp) fun val => ?_
 simp only [avT, memP]
 refine AW.rT (by rfl) fun K hK => ?_
 simp -implicitDefEqProofs only [go_sem, ↓reduceIte, Nat.reduceAdd, Nat.reduceEqDiff, Nat.reduceLeDiff, reduceCtorEq]
 refine hK _ ?_; clear hK K
 cases hk : l.contains p with
 | true =>
  have e : addP l p = l := by unfold addP; rw [hk]; rfl
  obtain ⟨i, hm⟩ := mP_yes hk
  refine AW.dT mixed (by rfl) (by decide +kernel) fun K hK => ?_
  simp -implicitDefEqProofs only [go_sem, ↓reduceIte, Nat.reduceAdd, Nat.reduceEqDiff, Nat.reduceLeDiff, reduceCtorEq]
  refine ⟨keyP p.o p.n, _, hm, _, rfl, ?_⟩
  try simp -implicitDefEqProofs only [go_sem]
  refine ⟨heapOK_nil rfl, ?_⟩
  refine hK _ ?_; clear hK K
  refine AW.cond _ (by simp -implicitDefEqProofs only [go_sem]; rfl) (fun hc => ?_) (fun hc => ?_)
  ·simp at hc
  refine AW.ghost (s' := adZ (addP l p)) ?_ ?_
  ·simp only [adZ, memP, e]
   refine Ghost.ent (fun l => l) ?_ ?_ ?_ <;> simp -implicitDefEqProofs only [go_sem, ↓reduceIte, Nat.reduceEqDiff, reduceCtorEq, List.forall_mem_cons, List.not_mem_nil, false_implies, implies_true, and_self, map_renL_lift, labsIn_lift, List.all_cons, List.all_nil, Nat.reduceLT, labsInL, AV.labsIn]
   all_goals first | rfl | decide | skip
  refine AW.skip ⟨fun k => if k = 0 then 0 else k - 2, [], trivial, rfl, rfl, ?_, ?_, ?_⟩
  ·simp only [adZ, memP]
   simp -implicitDefEqProofs only [go_sem, ↓reduceIte, Nat.reduceAdd, reduceCtorEq, List.forall_mem_cons, List.not_mem_nil, false_implies, implies_true, Nat.reduceSub]
   first | done | decide
  ·simp []
  ·intro k hk'
   simp at hk'
   subst hk'
   exact ⟨by decide, .inl ⟨0, 0, 0, 2, _, _, by simp, rfl, rfl, rfl, rfl, rfl, by decide⟩⟩
 | false =>
  have e : addP l p = l ++ [p] := by unfold addP; rw [hk]; rfl
  have hm := mP_no hk
  refine AW.dT mixed (by rfl) (by decide +kernel) fun K hK => ?_
  simp -implicitDefEqProofs only [go_sem, ↓reduceIte, Nat.reduceAdd, Nat.reduceEqDiff, Nat.reduceLeDiff, reduceCtorEq]
  refine ⟨keyP p.o p.n, _, hm, _, rfl, ?_⟩
  try simp -implicitDefEqProofs only [go_sem]
  refine ⟨heapOK_nil rfl, ?_⟩
  refine hK _ ?_; clear hK K
  refine AW.cond _ (by simp -implicitDefEqProofs only [go_sem]; rfl) (fun hc => ?_) (fun hc => ?_)
  rotate_left
  ·simp at hc
  refine AW.dT mixed (by rfl) (by decide +kernel) fun K hK => ?_
  simp -implicitDefEqProofs only [go_sem, ↓reduceIte, Nat.reduceAdd, Nat.reduceEqDiff, Nat.reduceLeDiff, reduceCtorEq]
  refine ⟨keyP p.o p.n, _, hm, ?_⟩
  try simp -implicitDefEqProofs only [go_sem]
  refine ⟨by decide +kernel, ?_⟩
  refine hK _ ?_; clear hK K
  refine AW.dE mixed (by rfl) (by decide +kernel) fun K hK => ?_
  simp -implicitDefEqProofs only [go_sem, ↓reduceIte, Nat.reduceAdd, Nat.reduceMul, Nat.reduceEqDiff, Nat.reduceLeDiff, reduceCtorEq]
  refine ⟨⟨by simp, by simp [oneAll, AV.one, PV.one], by simp⟩, by simp [liftE_length]; omega, ?_⟩
  try simp -implicitDefEqProofs only [go_sem, ↓reduceIte, Nat.reduceAdd, Nat.reduceMul, Nat.reduceEqDiff, Nat.reduceLeDiff, reduceCtorEq, Int.reduceToNat]
  refine ⟨by decide +kernel, ?_⟩
  refine hK _ ?_; clear hK K
  rw [e]
  refine ⟨fun k => if k = 0 then 0 else if k = 3 then 28 else 2, [], trivial, rfl, rfl, ?_, ?_, ?_⟩
  ·simp -implicitDefEqProofs only [go_sem, ↓reduceIte, Nat.reduceAdd, Nat.reduceEqDiff, reduceCtorEq, List.forall_mem_cons, List.not_mem_nil, false_implies, implies_true, mP_add, encPr, List.map_append, liftE_append, liftE_cons, liftE_nil]
   simp [labsIn_lift, labsInL, AV.labsIn, List.all_append]
  ·simp []
  ·intro k hk'
   simp at hk'
   subst hk'
   refine ⟨by decide, .inl ⟨0, 0, 0, 2, [[.own 1, .map 2]], [[.own 3, .map 4]], by simp, rfl, ?_, rfl, rfl, rfl, by decide⟩⟩
   simp -implicitDefEqProofs only [go_sem, ↓reduceIte, reduceCtorEq]
end Go.Aw
namespace Go.Aw
open Go.Proofs Go.RowKit
set_option linter.unusedSimpArgs false
set_option linter.unusedVariables false
theorem mP_by {p : Nat → Bool} (l : List Pr) : (Blk.map (mP l)).labsBy p = true := by
 simp [Blk.labsBy, mP, AV.labsBy]
def fOf (m : Ms) (t : Int) : Fd × Bool := firstP (fun x => x.tag == t) zFd m.fields
def keepB (S U : Sc) (mo mn : Ms) (t : Int) : Bool := (fOf mn t).2 && (((fOf mo t).1.label == (fOf mn t).1.label) && fitsB S U (fOf mo t).1.ty (fOf mn t).1.ty)
def stayB (S U : Sc) (mo mn : Ms) (t : Int) : Bool := if (fOf mo t).2 = true then (if keepB S U mo mn t = true then true else mn.res.contains t) else (mn.res.contains t || !mo.res.contains t)
def stayL (S U : Sc) (mo mn : Ms) (t : Int) (l : List Pr) : List Pr := if (fOf mo t).2 = true ∧ keepB S U mo mn t = true ∧ (fOf mo t).1.ty.kind = 7 then addP l ⟨(fOf mo t).1.ty.name, (fOf mn t).1.ty.name⟩ else l
theorem addEnd {l0 l : List Pr} {b : Bool} {rs : Array ResultVar} {args : List AV} {s : St} (ha : args[0]? = some (.ptr 0 0 0)) (hs : s.T 0 = some (.ptr 0 0 0)) (h0 : s.H 0 = some (.row 2 [[.own 1, .map 2]])) (h1 : s.H 1 = some (.row 2 (liftE (l.map encPr)))) (h2 : s.H 2 = some (.map (mP l))) (hr : resD Tryd.prog s rs.toList [.p (.bool b)]) :
  EndD Tryd.prog rs args (memP l0 0 1 2) 3 [0] (.p (.bool b)) (memP l 0 3 4) 2 [0] .ret s := by
 refine ⟨fun k => if k = 0 then 0 else k - 2, [.p (.bool b)], hr, rfl, rfl, ?_, ?_, ?_⟩
 ·simp only [memP]
  simp -implicitDefEqProofs only [go_sem, ↓reduceIte, Nat.reduceAdd, reduceCtorEq, List.forall_mem_cons, List.not_mem_nil, false_implies, implies_true, Nat.reduceSub, h0, h1, h2]
  first | done | decide
 ·simp [memP]
 ·intro k hk'
  simp at hk'
  subst hk'
  exact ⟨by decide, .inl ⟨0, 0, 0, 2, _, _, by simp, ha, hs, rfl, rfl, rfl, by decide⟩⟩
set_option maxRecDepth 100000 in
set_option maxHeartbeats 4000000 in
theorem compat_stays (S U : Sc) (mo mn : Ms) (t : Int) (l : List Pr) (hl : l.length ≤ 1000000) (ho : mo.fields.length ≤ 1000000) (hn : mn.fields.length ≤ 1000000) (hro : mo.res.length ≤ 1000000) (hrn : mn.res.length ≤ 1000000)
  (HF : ∀ y z, PFn Tryd.prog 44 [.agg (encSc S), .agg (encSc U), .agg (encTy y), .agg (encTy z)] (.bool (fitsB S U y z))) :
  DFn Tryd.prog 68 [.ptr 0 0 0, .p (.agg (encSc S)), .p (.agg (encSc U)), .p (.agg (encMs mo)), .p (.agg (encMs mn)), .p (.int .i64 t)] (memP l 0 1 2) 3 [0] (.p (.bool (stayB S U mo mn t))) (memP (stayL S U mo mn t l) 0 3 4) 2 := by
 refine DFn.of [0] Tryd.func68 rfl (by decide) Tryd.ntmps68 Tryd.results68 (Nat.le_of_ble_eq_true rfl) (by simp) fun val => ?_
 have R1 := check_Reserved mn t hrn
 have R2 := check_Reserved mo t hro
 have F1 := check_Field mo t ho
 have F2 := check_Field mn t hn
 have e1 : firstP (fun x => x.tag == t) zFd mo.fields = fOf mo t := rfl
 have e2 : firstP (fun x => x.tag == t) zFd mn.fields = fOf mn t := rfl
 rw [e1] at F1
 rw [e2] at F2
 have HF := HF (fOf mo t).1.ty (fOf mn t).1.ty
 have eL : (fOf mo t).2 = false ∨ keepB S U mo mn t = false → stayL S U mo mn t l = l := by
  intro h
  unfold stayL
  rw [if_neg]
  rintro ⟨q1, q2, _⟩
  rcases h with h | h
  ·rw [h] at q1; cases q1
  ·rw [h] at q2; cases q2
 simp only [encSc, encMs, encFd, encTy] at R1 R2 F1 F2 HF
 simp only [avT, encSc, encMs]
 refine AW.rT (by rfl) fun K hK => ?_
 simp -implicitDefEqProofs only [go_sem, ↓reduceIte, Nat.reduceAdd, Nat.reduceEqDiff, reduceCtorEq, memP]
 refine hK _ ?_; clear hK K
 refine AW.rT (by rfl) fun K hK => ?_
 simp -implicitDefEqProofs only [go_sem, ↓reduceIte, Nat.reduceAdd, Nat.reduceEqDiff, Nat.reduceLeDiff, reduceCtorEq]
 refine ⟨.pure _, R1, ?_⟩
 try simp -implicitDefEqProofs only [go_sem, Nat.reduceAdd]
 refine hK _ ?_; clear hK K
 refine AW.rT (by rfl) fun K hK => ?_
 simp -implicitDefEqProofs only [go_sem, ↓reduceIte, Nat.reduceAdd, Nat.reduceEqDiff, Nat.reduceLeDiff, reduceCtorEq]
 refine ⟨.pure _, F1, ?_⟩
 try simp -implicitDefEqProofs only [go_sem, ↓reduceIte, Nat.reduceAdd, Nat.reduceEqDiff, Nat.reduceLeDiff]
 refine hK _ ?_; clear hK K
 refine AW.seq ?_
 cases hf : (fOf mo t).2 with
 | false =>
  have eB : stayB S U mo mn t = (mn.res.contains t || !mo.res.contains t) := by unfold stayB; rw [hf]; rfl
  rw [eL (.inl hf)]
  refine AW.rT (by rfl) fun K hK => ?_
  simp -implicitDefEqProofs only [go_sem, Nat.reduceAdd]
  refine hK _ ?_; clear hK K
  refine AW.cond _ (by simp -implicitDefEqProofs only [go_sem]; rfl) (fun hc => ?_) (fun hc => ?_)
  rotate_left
  ·simp at hc
  cases hg : mn.res.contains t with
  | true =>
   rw [hg, Bool.true_or] at eB
   refine AW.rT (by rfl) fun K hK => ?_
   simp -implicitDefEqProofs only [go_sem, ↓reduceIte, Nat.reduceAdd, Nat.reduceEqDiff]
   refine hK _ ?_; clear hK K
   rw [eB]
   refine AW.ret (addEnd rfl ?_ ?_ ?_ ?_ ⟨?_, trivial⟩) <;> simp -implicitDefEqProofs only [go_sem, ↓reduceIte, Nat.reduceEqDiff, reduceCtorEq]
  | false =>
   rw [hg, Bool.false_or] at eB
   refine AW.rT (by rfl) fun K hK => ?_
   simp -implicitDefEqProofs only [go_sem, ↓reduceIte, Nat.reduceAdd, Nat.reduceEqDiff, Nat.reduceLeDiff, reduceCtorEq]
   refine ⟨.pure _, R2, ?_⟩
   try simp -implicitDefEqProofs only [go_sem, ↓reduceIte, Nat.reduceAdd, Nat.reduceEqDiff]
   refine hK _ ?_; clear hK K
   rw [eB]
   refine AW.ret (addEnd rfl ?_ ?_ ?_ ?_ ⟨?_, trivial⟩) <;> simp -implicitDefEqProofs only [go_sem, ↓reduceIte, Nat.reduceEqDiff, reduceCtorEq]
 | true =>
  have eB : stayB S U mo mn t = if keepB S U mo mn t = true then true else mn.res.contains t := by unfold stayB; rw [hf]; rfl
  refine AW.rT (by rfl) fun K hK => ?_
  simp -implicitDefEqProofs only [go_sem, Nat.reduceAdd]
  refine hK _ ?_; clear hK K
  refine AW.cond _ (by simp -implicitDefEqProofs only [go_sem]; rfl) (fun hc => ?_) (fun hc => ?_)
  ·simp at hc
  refine AW.skip ?_
  simp only [andThen]
  refine AW.rT (by rfl) fun K hK => ?_
  simp -implicitDefEqProofs only [go_sem, ↓reduceIte, Nat.reduceAdd, Nat.reduceEqDiff, Nat.reduceLeDiff, reduceCtorEq]
  refine ⟨.pure _, F2, ?_⟩
  try simp -implicitDefEqProofs only [go_sem, ↓reduceIte, Nat.reduceAdd, Nat.reduceEqDiff, Nat.reduceLeDiff]
  refine hK _ ?_; clear hK K
  refine AW.seq ?_
  cases hg : (fOf mn t).2 with
  | false =>
   have kb : keepB S U mo mn t = false := by unfold keepB; rw [hg]; rfl
   rw [kb, if_neg (by simp)] at eB
   rw [eL (.inr kb), eB]
   refine AW.rT (by rfl) fun K hK => ?_
   simp -implicitDefEqProofs only [go_sem, ↓reduceIte, Nat.reduceAdd, Nat.reduceEqDiff]
   refine hK _ ?_; clear hK K
   refine AW.cond _ (by simp -implicitDefEqProofs only [go_sem]; rfl) (fun hc => ?_) (fun hc => ?_)
   rotate_left
   ·simp at hc
   refine AW.rT (by rfl) fun K hK => ?_
   simp -implicitDefEqProofs only [go_sem, ↓reduceIte, Nat.reduceAdd, Nat.reduceEqDiff]
   refine hK _ ?_; clear hK K
   refine AW.ret (addEnd rfl ?_ ?_ ?_ ?_ ⟨?_, trivial⟩) <;> simp -implicitDefEqProofs only [go_sem, ↓reduceIte, Nat.reduceEqDiff, reduceCtorEq]
  | true =>
  by_cases hlb : (fOf mo t).1.label = (fOf mn t).1.label
  case neg =>
   have f1 : ((fOf mo t).1.label != (fOf mn t).1.label) = true := by simp [hlb]
   have kb : keepB S U mo mn t = false := by unfold keepB; rw [beq_eq_false_iff_ne.2 hlb]; simp
   rw [kb, if_neg (by simp)] at eB
   rw [eL (.inr kb), eB]
   refine AW.rT (by rfl) fun K hK => ?_
   simp -implicitDefEqProofs only [go_sem, ↓reduceIte, Nat.reduceAdd, Nat.reduceEqDiff, f1]
   refine hK _ ?_; clear hK K
   refine AW.cond _ (by simp -implicitDefEqProofs only [go_sem]; rfl) (fun hc => ?_) (fun hc => ?_)
   rotate_left
   ·simp at hc
   refine AW.rT (by rfl) fun K hK => ?_
   simp -implicitDefEqProofs only [go_sem, ↓reduceIte, Nat.reduceAdd, Nat.reduceEqDiff]
   refine hK _ ?_; clear hK K
   refine AW.ret (addEnd rfl ?_ ?_ ?_ ?_ ⟨?_, trivial⟩) <;> simp -implicitDefEqProofs only [go_sem, ↓reduceIte, Nat.reduceEqDiff, reduceCtorEq]
  have f1 : ((fOf mo t).1.label != (fOf mn t).1.label) = false := by simp [hlb]
  have f1' : ((fOf mo t).1.label == (fOf mn t).1.label) = true := by simp [hlb]
  cases hq : fitsB S U (fOf mo t).1.ty (fOf mn t).1.ty with
  | false =>
   have kb : keepB S U mo mn t = false := by unfold keepB; rw [hq]; simp
   rw [kb, if_neg (by simp)] at eB
   rw [eL (.inr kb), eB]
   refine AW.rT (by rfl) fun K hK => ?_
   simp -implicitDefEqProofs only [go_sem, ↓reduceIte, Nat.reduceAdd, Nat.reduceEqDiff, Nat.reduceLeDiff, f1]
   refine ⟨.pure _, HF, ?_⟩
   try simp -implicitDefEqProofs only [go_sem, ↓reduceIte, Nat.reduceAdd, Nat.reduceEqDiff, hq]
   refine hK _ ?_; clear hK K
   refine AW.cond _ (by simp -implicitDefEqProofs only [go_sem]; rfl) (fun hc => ?_) (fun hc => ?_)
   rotate_left
   ·simp at hc
   refine AW.rT (by rfl) fun K hK => ?_
   simp -implicitDefEqProofs only [go_sem, ↓reduceIte, Nat.reduceAdd, Nat.reduceEqDiff]
   refine hK _ ?_; clear hK K
   refine AW.ret (addEnd rfl ?_ ?_ ?_ ?_ ⟨?_, trivial⟩) <;> simp -implicitDefEqProofs only [go_sem, ↓reduceIte, Nat.reduceEqDiff, reduceCtorEq]
  | true =>
  have kb : keepB S U mo mn t = true := by unfold keepB; rw [hg, f1', hq]; rfl
  rw [kb, if_pos rfl] at eB
  rw [eB]
  refine AW.rT (by rfl) fun K hK => ?_
  simp -implicitDefEqProofs only [go_sem, ↓reduceIte, Nat.reduceAdd, Nat.reduceEqDiff, Nat.reduceLeDiff, f1]
  refine ⟨.pure _, HF, ?_⟩
  try simp -implicitDefEqProofs only [go_sem, ↓reduceIte, Nat.reduceAdd, Nat.reduceEqDiff, hq]
  refine hK _ ?_; clear hK K
  refine AW.cond _ (by simp -implicitDefEqProofs only [go_sem]; rfl) (fun hc => ?_) (fun hc => ?_)
  ·simp at hc
  refine AW.skip ?_
  simp only [andThen]
  refine AW.seq ?_
  by_cases k7 : (fOf mo t).1.ty.kind = 7
  case neg =>
   have f7 : ((fOf mo t).1.ty.kind == 7) = false := beq_eq_false_iff_ne.2 k7
   have e9 : stayL S U mo mn t l = l := by unfold stayL; rw [if_neg (fun h => k7 h.2.2)]
   rw [e9]
   refine AW.rT (by rfl) fun K hK => ?_
   simp -implicitDefEqProofs only [go_sem, ↓reduceIte, Nat.reduceAdd, Nat.reduceEqDiff, f7]
   refine hK _ ?_; clear hK K
   refine AW.cond _ (by simp -implicitDefEqProofs only [go_sem]; rfl) (fun hc => ?_) (fun hc => ?_)
   ·simp at hc
   refine AW.skip ?_
   simp only [andThen]
   refine AW.rT (by rfl) fun K hK => ?_
   simp -implicitDefEqProofs only [go_sem, Nat.reduceAdd]
   refine hK _ ?_; clear hK K
   refine AW.ret (addEnd rfl ?_ ?_ ?_ ?_ ⟨?_, trivial⟩) <;> simp -implicitDefEqProofs only [go_sem, ↓reduceIte, Nat.reduceEqDiff, reduceCtorEq]
  have f7 : ((fOf mo t).1.ty.kind == 7) = true := by simp [k7]
  have e9 : stayL S U mo mn t l = addP l ⟨(fOf mo t).1.ty.name, (fOf mn t).1.ty.name⟩ := by unfold stayL; rw [if_pos ⟨hf, kb, k7⟩]
  rw [e9]
  have AD := compat_add l ⟨(fOf mo t).1.ty.name, (fOf mn t).1.ty.name⟩ hl
  generalize addP l ⟨(fOf mo t).1.ty.name, (fOf mn t).1.ty.name⟩ = l' at *
  refine AW.rT (by rfl) fun K hK => ?_
  simp -implicitDefEqProofs only [go_sem, ↓reduceIte, Nat.reduceAdd, Nat.reduceEqDiff, f7]
  refine hK _ ?_; clear hK K
  refine AW.cond _ (by simp -implicitDefEqProofs only [go_sem]; rfl) (fun hc => ?_) (fun hc => ?_)
  rotate_left
  ·simp at hc
  refine AW.rRE (SeqR.ev 7 (by rfl) (by decide) ?_)
  simp -implicitDefEqProofs only [go_sem, ↓reduceIte, Nat.reduceAdd, Nat.reduceEqDiff, reduceCtorEq]
  refine SeqR.call (fun k => k) rfl rfl AD ⟨?_, rfl, ?_, rfl, rfl, rfl, rfl, rfl, ?_⟩ ?_
  ·simp -implicitDefEqProofs only [go_sem, ↓reduceIte, Nat.reduceEqDiff, argD]
  ·simp only [memP]
   simp -implicitDefEqProofs only [go_sem, ↓reduceIte, Nat.reduceEqDiff, reduceCtorEq, List.forall_mem_cons, List.not_mem_nil, false_implies, implies_true]
   first | done | decide
  ·simp only [memP, List.all_cons, List.all_nil, labsBy_lift, mP_by]
   rfl
  refine SeqR.last rfl ?_
  simp only []
  refine AW.ghost (s' := adZ l') ?_ ?_
  ·simp only [adZ, memP]
   refine Ghost.ent (fun k => if k = 0 then 0 else k + 61) ?_ ?_ ?_ <;> simp -implicitDefEqProofs only [go_sem, ↓reduceIte, Nat.reduceAdd, Nat.reduceEqDiff, reduceCtorEq, lift2, goneU, newU, Nat.reduceSub, List.forall_mem_cons, List.not_mem_nil, false_implies, implies_true, and_self, map_renL_lift, labsIn_lift, List.all_cons, List.all_nil, Nat.reduceLT, labsInL, AV.labsIn]
   all_goals first | rfl | decide | skip
  simp only [adZ]
  refine AW.rT (by rfl) fun K hK => ?_
  simp -implicitDefEqProofs only [go_sem, Nat.reduceAdd, memP]
  refine hK _ ?_; clear hK K
  refine AW.ret (addEnd rfl ?_ ?_ ?_ ?_ ⟨?_, trivial⟩) <;> simp -implicitDefEqProofs only [go_sem, ↓reduceIte, reduceCtorEq]
end Go.Aw
namespace Go.Aw
open Go.Proofs Go.RowKit
set_option linter.unusedSimpArgs false
set_option linter.unusedVariables false
end Go.Aw
namespace Go.Aw
open Go.Proofs Go.RowKit
set_option linter.unusedSimpArgs false
set_option linter.unusedVariables false
def noGo (Q : Exit → St → Prop) : Exit → St → Prop
 | .goto _, _ => False
 | e, s => Q e s
attribute [go_sem] noGo
theorem AW.scope {P : Program} {nt : Fm} {c : Code} {s : St} {Q : Exit → St → Prop} (h : AW P nt c s (noGo Q)) : AW P nt (.scope c) s Q := by
 intro w0 X I0 a w tx m
 refine wp_scope_straight (wp_mono (h w0 X I0 a w tx m) ?_)
 rintro e a' w' ⟨s', m', q⟩
 cases e <;> first | exact ⟨s', m', q⟩ | exact q.elim
end Go.Aw
namespace Go.Aw
open Go.Proofs Go.RowKit
set_option linter.unusedSimpArgs false
set_option linter.unusedVariables false
def msgOf (S : Sc) (k : List UInt8) : Ms := (firstP (fun x => x.name == k) zMs S.msgs).1
def methOf (S : Sc) (k : List UInt8) : Mt × Bool := firstP (fun x => x.name == k) zMt S.meths
def seedP (U : Sc) (l : List Pr) : List Mt → List UInt8 ⊕ List Pr
 | [] => .inr l
 | m :: r => if (methOf U m.name).2 = true then seedP U (addP (addP l ⟨m.inn, (methOf U m.name).1.inn⟩) ⟨m.out, (methOf U m.name).1.out⟩) r else .inl m.name
def tagsP (S U : Sc) (mo mn : Ms) : Nat → Int → List Pr → Int ⊕ List Pr
 | 0, _, l => .inr l
 | n + 1, t, l => if stayB S U mo mn t = true then tagsP S U mo mn n (t + 1) (stayL S U mo mn t l) else .inl t
def walkP (S U : Sc) : Nat → Nat → List Pr → List UInt8 × Int × Bool
 | 0, _, _ => ([], 0, true)
 | n + 1, i, l => match l[i]? with
  | none => ([], 0, true)
  | some p => match tagsP S U (msgOf S p.o) (msgOf U p.n) 500 1 l with
   | .inl t => (p.o, t, false)
   | .inr l' => walkP S U n (i + 1) l'
def evoP (S U : Sc) : List UInt8 × Int × Bool := if checkC S = 0 ∧ checkC U = 0 then (match seedP U [] S.meths with | .inl k => (k, 0, false) | .inr l => walkP S U 101 0 l) else ([], 0, false)
structure PairsOK (S U : Sc) (l : List Pr) : Prop where
 here : ∀ p ∈ l, hasM S p.o = true ∧ hasM U p.n = true
 nd : l.Nodup
theorem addP_ok {S U : Sc} {l : List Pr} {p : Pr} (h : PairsOK S U l) (h1 : hasM S p.o = true) (h2 : hasM U p.n = true) : PairsOK S U (addP l p) := by
 unfold addP
 split
 ·exact h
 ·rename_i hn
  refine ⟨fun q hq => ?_, ?_⟩
  ·rcases List.mem_append.1 hq with hq | hq
   ·exact h.here q hq
   ·simp at hq; subst hq; exact ⟨h1, h2⟩
  ·rw [List.nodup_append]
   refine ⟨h.nd, by simp, fun x hx y hy => ?_⟩
   simp at hy
   subst hy
   rintro rfl
   exact hn (by rw [List.contains_iff_mem]; exact hx)
theorem sub_len {α : Type} [DecidableEq α] : ∀ {a b : List α}, a.Nodup → (∀ x ∈ a, x ∈ b) → a.length ≤ b.length
 | [], b, _, _ => Nat.zero_le _
 | x :: a, b, hn, hs => by
  have hx := hs x List.mem_cons_self
  have h := sub_len (a := a) (b := b.erase x) (List.nodup_cons.1 hn).2 fun y hy => by
   have hy' := hs y (List.mem_cons_of_mem _ hy)
   have hne : y ≠ x := by
    rintro rfl
    exact (List.nodup_cons.1 hn).1 hy
   exact (List.mem_erase_of_ne hne).2 hy'
  have hl := List.length_erase_of_mem hx
  have : 0 < b.length := List.length_pos_of_mem hx
  rw [List.length_cons]
  omega
def allPairs (S U : Sc) : List Pr := S.msgs.flatMap fun x => U.msgs.map fun y => ⟨x.name, y.name⟩
theorem flat_len {α β : Type} {f : α → List β} {n : Nat} : ∀ {l : List α}, (∀ x ∈ l, (f x).length = n) → (l.flatMap f).length = l.length * n
 | [], _ => by simp
 | x :: l, h => by
  rw [List.flatMap_cons, List.length_append, flat_len (l := l) fun y hy => h y (List.mem_cons_of_mem _ hy), h x List.mem_cons_self, List.length_cons, Nat.add_mul, Nat.one_mul, Nat.add_comm]
theorem pairs_len {S U : Sc} {l : List Pr} (h : PairsOK S U l) (h1 : S.msgs.length ≤ 10) (h2 : U.msgs.length ≤ 10) : l.length ≤ 100 := by
 have q := sub_len (b := allPairs S U) h.nd fun p hp => by
  obtain ⟨q1, q2⟩ := h.here p hp
  unfold hasM at q1 q2
  rw [found_any, List.any_eq_true] at q1 q2
  obtain ⟨x, hx, ex⟩ := q1
  obtain ⟨y, hy, ey⟩ := q2
  unfold allPairs
  rw [List.mem_flatMap]
  refine ⟨x, hx, List.mem_map.2 ⟨y, hy, ?_⟩⟩
  have e1 : x.name = p.o := by simpa using ex
  have e2 : y.name = p.n := by simpa using ey
  rw [e1, e2]
 have e : (allPairs S U).length = S.msgs.length * U.msgs.length := flat_len fun x _ => by simp
 have : S.msgs.length * U.msgs.length ≤ 10 * 10 := Nat.mul_le_mul h1 h2
 omega
theorem first_found {α : Type} {p : α → Bool} {z : α} {l : List α} (h : (firstP p z l).2 = true) : (firstP p z l).1 ∈ l ∧ p (firstP p z l).1 = true := by
 unfold firstP at *
 cases e : l.find? p with
 | none => rw [e] at h; cases h
 | some a => exact ⟨List.mem_of_find?_eq_some e, List.find?_some e⟩
theorem kind7 {S : Sc} (R : RightS S) {m : Ms} (hm : m ∈ S.msgs) {f : Fd} (hf : f ∈ m.fields) (k : f.ty.kind = 7) : hasM S f.ty.name = true := by
 obtain ⟨i, hi⟩ := List.getElem?_of_mem hf
 have q := (R.fld m hm i f hi).2.2.1
 unfold fieldB at q
 rw [Bool.and_eq_true] at q
 have q := q.2
 unfold kindB at q
 rw [if_neg (by omega), if_pos k] at q
 exact q
theorem stayL_ok {S U : Sc} (RS : RightS S) (RU : RightS U) {mo mn : Ms} (hmo : mo ∈ S.msgs) (hmn : mn ∈ U.msgs) {t : Int} {l : List Pr} (h : PairsOK S U l) : PairsOK S U (stayL S U mo mn t l) := by
 unfold stayL
 split
 ·rename_i hc
  obtain ⟨c1, c2, c3⟩ := hc
  unfold keepB at c2
  simp only [Bool.and_eq_true] at c2
  obtain ⟨d1, d2, d3⟩ := c2
  have f1 := first_found (p := fun x : Fd => x.tag == t) (z := zFd) (l := mo.fields) c1
  have f2 := first_found (p := fun x : Fd => x.tag == t) (z := zFd) (l := mn.fields) d1
  have k7 : (fOf mn t).1.ty.kind = 7 := by
   unfold fitsB at d3
   split at d3
   ·rename_i q; omega
   ·split at d3
    ·cases d3
    ·rename_i q; rw [← c3]; symm; simpa using q
  exact addP_ok h (kind7 RS hmo f1.1 c3) (kind7 RU hmn f2.1 k7)
 ·exact h
theorem stayL_len {S U : Sc} {mo mn : Ms} {t : Int} {l : List Pr} : l.length ≤ (stayL S U mo mn t l).length ∧ ∀ (i : Nat) p, l[i]? = some p → (stayL S U mo mn t l)[i]? = some p := by
 unfold stayL addP
 split
 ·split
  ·exact ⟨Nat.le_refl _, fun i p h => h⟩
  ·exact ⟨by simp, fun i p h => by rw [List.getElem?_append_left (List.getElem?_eq_some_iff.1 h).1]; exact h⟩
 ·exact ⟨Nat.le_refl _, fun i p h => h⟩
end Go.Aw
namespace Go.Aw
open Go.Proofs Go.RowKit
set_option linter.unusedSimpArgs false
set_option linter.unusedVariables false
def newP (S U : Sc) (mo mn : Ms) (t : Int) : Option Pr := if (fOf mo t).2 = true ∧ keepB S U mo mn t = true ∧ (fOf mo t).1.ty.kind = 7 then some ⟨(fOf mo t).1.ty.name, (fOf mn t).1.ty.name⟩ else none
theorem stayL_new (S U : Sc) (mo mn : Ms) (t : Int) (l : List Pr) : stayL S U mo mn t l = (match newP S U mo mn t with | some p => addP l p | none => l) := by
 unfold stayL newP
 split <;> rfl
theorem mem_addP {l : List Pr} {p q : Pr} : q ∈ addP l p ↔ q ∈ l ∨ q = p := by
 unfold addP
 split
 ·rename_i h
  rw [List.contains_iff_mem] at h
  constructor
  ·exact .inl
  ·rintro (h' | rfl)
   ·exact h'
   ·exact h
 ·simp
theorem mem_stayL {S U : Sc} {mo mn : Ms} {t : Int} {l : List Pr} {q : Pr} : q ∈ stayL S U mo mn t l ↔ q ∈ l ∨ newP S U mo mn t = some q := by
 rw [stayL_new]
 cases h : newP S U mo mn t with
 | none => simp
 | some p => simp only [mem_addP, Option.some.injEq]; constructor <;> (rintro (h' | h'); exact .inl h'; exact .inr h'.symm)
theorem tagsP_cases {S U : Sc} {mo mn : Ms} (I : Pr → Prop) (Bad : Int → Prop) : ∀ (n : Nat) (t : Int) (l : List Pr), (∀ u, t ≤ u → u < t + n → (stayB S U mo mn u = true ∨ Bad u) ∧ ∀ q, newP S U mo mn u = some q → I q) → (∀ p ∈ l, I p) →
  (∃ l', tagsP S U mo mn n t l = .inr l' ∧ ∀ p ∈ l', I p) ∨ ∃ u, Bad u ∧ tagsP S U mo mn n t l = .inl u
 | 0, t, l, _, hl => .inl ⟨l, rfl, hl⟩
 | n + 1, t, l, hs, hl => by
  rw [tagsP]
  cases hb : stayB S U mo mn t with
  | true =>
   rw [if_pos rfl]
   refine tagsP_cases I Bad n (t + 1) _ (fun u h1 h2 => hs u (by omega) (by push_cast; omega)) fun p hp => ?_
   rcases mem_stayL.1 hp with h | h
   ·exact hl p h
   ·exact (hs t (by omega) (by push_cast; omega)).2 p h
  | false =>
   rw [if_neg (by simp)]
   rcases (hs t (by omega) (by push_cast; omega)).1 with h | h
   ·rw [h] at hb; cases hb
   ·exact .inr ⟨t, h, rfl⟩
theorem walkP_cases {S U : Sc} (I : Pr → Prop) (Bad : Pr → Int → Prop) (hs : ∀ p, I p → ∀ u, 1 ≤ u → u ≤ 500 → (stayB S U (msgOf S p.o) (msgOf U p.n) u = true ∨ Bad p u) ∧ ∀ q, newP S U (msgOf S p.o) (msgOf U p.n) u = some q → I q) : ∀ (n i : Nat) (l : List Pr), (∀ p ∈ l, I p) →
  walkP S U n i l = ([], 0, true) ∨ ∃ p u, I p ∧ Bad p u ∧ walkP S U n i l = (p.o, u, false)
 | 0, i, l, _ => .inl rfl
 | n + 1, i, l, hl => by
  rw [walkP]
  cases hp : l[i]? with
  | none => exact .inl rfl
  | some p =>
   have ip := hl p (List.mem_of_getElem? hp)
   rcases tagsP_cases I (Bad p) 500 1 l (fun u h1 h2 => hs p ip u h1 (by omega)) hl with ⟨l', e, h'⟩ | ⟨u, hu, e⟩
   ·simp only [e]
    exact walkP_cases I Bad hs n (i + 1) l' h'
   ·simp only [e]
    exact .inr ⟨p, u, ip, hu, rfl⟩
theorem seedP_ok {U : Sc} (I : Pr → Prop) : ∀ (ms : List Mt) (l : List Pr), (∀ p ∈ l, I p) → (∀ m ∈ ms, (methOf U m.name).2 = true ∧ I ⟨m.inn, (methOf U m.name).1.inn⟩ ∧ I ⟨m.out, (methOf U m.name).1.out⟩) → ∃ l', seedP U l ms = .inr l' ∧ ∀ p ∈ l', I p
 | [], l, hl, _ => ⟨l, rfl, hl⟩
 | m :: r, l, hl, hm => by
  obtain ⟨h1, h2, h3⟩ := hm m List.mem_cons_self
  rw [seedP, if_pos h1]
  refine seedP_ok I r _ (fun p hp => ?_) fun x hx => hm x (List.mem_cons_of_mem _ hx)
  rcases mem_addP.1 hp with hp | rfl
  ·rcases mem_addP.1 hp with hp | rfl
   ·exact hl p hp
   ·exact h2
  ·exact h3
theorem evo_cases {S U : Sc} (I : Pr → Prop) (Bad : Pr → Int → Prop) (hS : checkC S = 0) (hU : checkC U = 0) (hm : ∀ m ∈ S.meths, (methOf U m.name).2 = true ∧ I ⟨m.inn, (methOf U m.name).1.inn⟩ ∧ I ⟨m.out, (methOf U m.name).1.out⟩)
  (hs : ∀ p, I p → ∀ u, 1 ≤ u → u ≤ 500 → (stayB S U (msgOf S p.o) (msgOf U p.n) u = true ∨ Bad p u) ∧ ∀ q, newP S U (msgOf S p.o) (msgOf U p.n) u = some q → I q) :
  evoP S U = ([], 0, true) ∨ ∃ p u, I p ∧ Bad p u ∧ evoP S U = (p.o, u, false) := by
 obtain ⟨l, e, hl⟩ := seedP_ok I S.meths [] (fun p hp => by cases hp) hm
 have := walkP_cases I Bad hs 101 0 l hl
 unfold evoP
 rw [if_pos ⟨hS, hU⟩, e]
 exact this
theorem tagsP_done {S U : Sc} {mo mn : Ms} : ∀ (n : Nat) (t : Int) (l l' : List Pr), tagsP S U mo mn n t l = .inr l' → (∀ (i : Nat) p, l[i]? = some p → l'[i]? = some p) ∧ ∀ u, t ≤ u → u < t + n → stayB S U mo mn u = true ∧ ∀ q, newP S U mo mn u = some q → q ∈ l'
 | 0, t, l, l', h => by
  injection h with h
  subst h
  exact ⟨fun i p hp => hp, fun u h1 h2 => by simp at h2; omega⟩
 | n + 1, t, l, l', h => by
  rw [tagsP] at h
  split at h
  ·rename_i hb
   obtain ⟨h1, h2⟩ := tagsP_done n (t + 1) _ l' h
   refine ⟨fun i p hp => h1 i p ((stayL_len).2 i p hp), fun u q1 q2 => ?_⟩
   by_cases hu : u = t
   ·subst hu
    refine ⟨hb, fun q hq => ?_⟩
    obtain ⟨i, hi⟩ := List.getElem?_of_mem (mem_stayL.2 (.inr hq) : q ∈ stayL S U mo mn u l)
    exact List.mem_of_getElem? (h1 i q hi)
   ·exact h2 u (by omega) (by push_cast at q2; omega)
  ·cases h
theorem tagsP_ok {S U : Sc} (RS : RightS S) (RU : RightS U) {mo mn : Ms} (hmo : mo ∈ S.msgs) (hmn : mn ∈ U.msgs) : ∀ (n : Nat) (t : Int) (l l' : List Pr), tagsP S U mo mn n t l = .inr l' → PairsOK S U l → PairsOK S U l'
 | 0, t, l, l', h, hl => by injection h with h; subst h; exact hl
 | n + 1, t, l, l', h, hl => by
  rw [tagsP] at h
  split at h
  ·exact tagsP_ok RS RU hmo hmn n (t + 1) _ l' h (stayL_ok RS RU hmo hmn hl)
  ·cases h
theorem msgOf_mem {S : Sc} {k : List UInt8} (h : hasM S k = true) : msgOf S k ∈ S.msgs ∧ (msgOf S k).name = k := by
 have := first_found (p := fun x : Ms => x.name == k) (z := zMs) (l := S.msgs) h
 exact ⟨this.1, eq_of_beq this.2⟩
theorem walkP_done {S U : Sc} (RS : RightS S) (RU : RightS U) : ∀ (n i : Nat) (l : List Pr), 101 ≤ n + i → PairsOK S U l → (walkP S U n i l).2.2 = true →
  ∃ L, PairsOK S U L ∧ (∀ p ∈ l, p ∈ L) ∧ (∀ (j : Nat) p, l[j]? = some p → L[j]? = some p) ∧ ∀ (j : Nat) p, i ≤ j → L[j]? = some p → ∀ u, 1 ≤ u → u ≤ 500 → stayB S U (msgOf S p.o) (msgOf U p.n) u = true ∧ ∀ q, newP S U (msgOf S p.o) (msgOf U p.n) u = some q → q ∈ L
 | 0, i, l, hi, hl, h => ⟨l, hl, fun p hp => hp, fun j p hp => hp, fun j p hj hp => by
   have := pairs_len hl RS.len.2.1 RU.len.2.1
   have := (List.getElem?_eq_some_iff.1 hp).1
   omega⟩
 | n + 1, i, l, hi, hl, h => by
  rw [walkP] at h
  cases hp : l[i]? with
  | none =>
   refine ⟨l, hl, fun p hp => hp, fun j p hp => hp, fun j p hj hq => ?_⟩
   have := List.getElem?_eq_none_iff.1 hp
   have := (List.getElem?_eq_some_iff.1 hq).1
   omega
  | some p =>
   simp only [hp] at h
   have hh := hl.here p (List.mem_of_getElem? hp)
   cases ht : tagsP S U (msgOf S p.o) (msgOf U p.n) 500 1 l with
   | inl t => simp only [ht] at h; cases h
   | inr l' =>
    simp only [ht] at h
    obtain ⟨d1, d2⟩ := tagsP_done 500 1 l l' ht
    have ok' := tagsP_ok RS RU (msgOf_mem hh.1).1 (msgOf_mem hh.2).1 500 1 l l' ht hl
    obtain ⟨L, h1, h2, h3, h4⟩ := walkP_done RS RU n (i + 1) l' (by omega) ok' h
    refine ⟨L, h1, fun q hq => ?_, fun j q hq => h3 j q (d1 j q hq), fun j q hj hq u u1 u2 => ?_⟩
    ·obtain ⟨j, hj⟩ := List.getElem?_of_mem hq
     exact List.mem_of_getElem? (h3 j q (d1 j q hj))
    ·by_cases hij : j = i
     ·subst hij
      have := h3 j p (d1 j p hp)
      rw [this] at hq
      injection hq with hq
      subst hq
      obtain ⟨e1, e2⟩ := d2 u u1 (by omega)
      exact ⟨e1, fun r hr => h2 r (e2 r hr)⟩
     ·exact h4 j q (by omega) hq u u1 u2
theorem seedP_done {U : Sc} : ∀ (ms : List Mt) (l l' : List Pr), seedP U l ms = .inr l' → (∀ p ∈ l, p ∈ l') ∧ ∀ m ∈ ms, (methOf U m.name).2 = true ∧ (⟨m.inn, (methOf U m.name).1.inn⟩ : Pr) ∈ l' ∧ (⟨m.out, (methOf U m.name).1.out⟩ : Pr) ∈ l'
 | [], l, l', h => by injection h with h; subst h; exact ⟨fun p hp => hp, fun m hm => by cases hm⟩
 | m :: r, l, l', h => by
  rw [seedP] at h
  split at h
  ·rename_i h0
   obtain ⟨h1, h2⟩ := seedP_done r _ l' h
   refine ⟨fun p hp => h1 p (mem_addP.2 (.inl (mem_addP.2 (.inl hp)))), fun x hx => ?_⟩
   rcases List.mem_cons.1 hx with rfl | hx
   ·exact ⟨h0, h1 _ (mem_addP.2 (.inl (mem_addP.2 (.inr rfl)))), h1 _ (mem_addP.2 (.inr rfl))⟩
   ·exact h2 x hx
  ·cases h
theorem meth_right {S : Sc} (R : RightS S) {k : List UInt8} (h : (methOf S k).2 = true) : (methOf S k).1 ∈ S.meths ∧ (methOf S k).1.name = k ∧ hasM S (methOf S k).1.inn = true ∧ hasM S (methOf S k).1.out = true := by
 have := first_found (p := fun x : Mt => x.name == k) (z := zMt) (l := S.meths) h
 obtain ⟨i, hi⟩ := List.getElem?_of_mem this.1
 exact ⟨this.1, eq_of_beq this.2, (R.meth i _ hi).2⟩
theorem seedP_pairs {S U : Sc} (RS : RightS S) (RU : RightS U) : ∀ (ms : List Mt) (l l' : List Pr), (∀ m ∈ ms, m ∈ S.meths) → seedP U l ms = .inr l' → PairsOK S U l → PairsOK S U l'
 | [], l, l', _, h, hl => by injection h with h; subst h; exact hl
 | m :: r, l, l', hm, h, hl => by
  rw [seedP] at h
  split at h
  ·rename_i h0
   obtain ⟨i, hi⟩ := List.getElem?_of_mem (hm m List.mem_cons_self)
   have a := (RS.meth i m hi).2
   have b := (meth_right RU h0).2.2
   exact seedP_pairs RS RU r _ l' (fun x hx => hm x (List.mem_cons_of_mem _ hx)) h (addP_ok (addP_ok hl a.1 b.1) a.2 b.2)
  ·cases h
structure Over (S U : Sc) (L : List Pr) : Prop where
 s : checkC S = 0
 u : checkC U = 0
 ok : PairsOK S U L
 meth : ∀ m ∈ S.meths, (methOf U m.name).2 = true ∧ (⟨m.inn, (methOf U m.name).1.inn⟩ : Pr) ∈ L ∧ (⟨m.out, (methOf U m.name).1.out⟩ : Pr) ∈ L
 all : ∀ p ∈ L, ∀ u, 1 ≤ u → u ≤ 500 → stayB S U (msgOf S p.o) (msgOf U p.n) u = true ∧ ∀ q, newP S U (msgOf S p.o) (msgOf U p.n) u = some q → q ∈ L
theorem evo_over {S U : Sc} (h : (evoP S U).2.2 = true) : ∃ L, Over S U L := by
 unfold evoP at h
 split at h
 ·rename_i hc
  have RS := right_of hc.1
  have RU := right_of hc.2
  cases hs : seedP U [] S.meths with
  | inl k => rw [hs] at h; cases h
  | inr l =>
   rw [hs] at h
   have ok := seedP_pairs RS RU S.meths [] l (fun m hm => hm) hs ⟨fun p hp => (by cases hp), List.nodup_nil⟩
   obtain ⟨L, h1, h2, h3, h4⟩ := walkP_done RS RU 101 0 l (by omega) ok h
   have sd := (seedP_done S.meths [] l hs).2
   refine ⟨L, hc.1, hc.2, h1, fun m hm => ?_, fun p hp u u1 u2 => ?_⟩
   ·obtain ⟨q1, q2, q3⟩ := sd m hm
    exact ⟨q1, h2 _ q2, h2 _ q3⟩
   ·obtain ⟨j, hj⟩ := List.getElem?_of_mem hp
    exact h4 j p (Nat.zero_le _) hj u u1 u2
 ·cases h
theorem keep_spec {S U : Sc} {mo mn : Ms} {t : Int} : keepB S U mo mn t = true ↔ (fOf mn t).2 = true ∧ (fOf mo t).1.label = (fOf mn t).1.label ∧ fitsB S U (fOf mo t).1.ty (fOf mn t).1.ty = true := by
 unfold keepB
 simp
end Go.Aw
namespace Go.Aw
open Go.Proofs Go.RowKit
set_option linter.unusedSimpArgs false
set_option linter.unusedVariables false
def TagOK (S U : Sc) (Bad : List UInt8 → Int → Prop) (k : List UInt8) (t : Int) : Prop :=
 (Bad k t ∧ keepB S U (msgOf S k) (msgOf U k) t = false) ∨
 ((msgOf U k).res.contains t = true ∧ keepB S U (msgOf S k) (msgOf U k) t = false) ∨
 ((fOf (msgOf S k) t).2 = true ∧ keepB S U (msgOf S k) (msgOf U k) t = true ∧ (fOf (msgOf U k) t).1.ty = (fOf (msgOf S k) t).1.ty) ∨
 ((fOf (msgOf S k) t).2 = false ∧ (msgOf S k).res.contains t = false)
theorem newP_no {S U : Sc} {mo mn : Ms} {t : Int} (h : keepB S U mo mn t = false) : newP S U mo mn t = none := by
 unfold newP
 rw [if_neg]
 rintro ⟨_, q, _⟩
 rw [h] at q; cases q
theorem alike_cases {S U : Sc} (Bad : List UInt8 → Int → Prop) (hS : checkC S = 0) (hU : checkC U = 0)
  (hm : ∀ m ∈ S.meths, (methOf U m.name).2 = true ∧ (methOf U m.name).1.inn = m.inn ∧ (methOf U m.name).1.out = m.out)
  (hk : ∀ k, hasM S k = true → ∀ t, 1 ≤ t → t ≤ 500 → TagOK S U Bad k t) :
  evoP S U = ([], 0, true) ∨ ∃ k t, Bad k t ∧ evoP S U = (k, t, false) := by
 have RS := right_of hS
 have main := evo_cases (S := S) (U := U) (fun p => p.o = p.n ∧ hasM S p.o = true) (fun p u => Bad p.o u) hS hU (fun m hmm => ?_) fun p hp u u1 u2 => ?_
 ·rcases main with h | ⟨p, u, _, h1, h2⟩
  ·exact .inl h
  ·exact .inr ⟨p.o, u, h1, h2⟩
 ·obtain ⟨h1, h2, h3⟩ := hm m hmm
  obtain ⟨i, hi⟩ := List.getElem?_of_mem hmm
  have q := (RS.meth i m hi).2
  exact ⟨h1, ⟨h2.symm, q.1⟩, ⟨h3.symm, q.2⟩⟩
 ·obtain ⟨e, hh⟩ := hp
  rw [← e]
  rcases hk p.o hh u u1 u2 with ⟨b, kb⟩ | ⟨r, kb⟩ | ⟨f, kb, ty⟩ | ⟨f, r⟩
  ·exact ⟨.inr b, fun q hq => by rw [newP_no kb] at hq; cases hq⟩
  ·refine ⟨.inl ?_, fun q hq => by rw [newP_no kb] at hq; cases hq⟩
   unfold stayB
   rw [kb, r]
   simp
  ·refine ⟨.inl ?_, fun q hq => ?_⟩
   ·unfold stayB
    rw [if_pos f, if_pos kb]
   ·unfold newP at hq
    split at hq
    ·rename_i hc
     injection hq with hq
     subst hq
     have f1 := first_found (p := fun x : Fd => x.tag == u) (z := zFd) (l := (msgOf S p.o).fields) f
     exact ⟨by show _ = _; rw [ty], kind7 RS (msgOf_mem hh).1 f1.1 hc.2.2⟩
    ·cases hq
  ·refine ⟨.inl ?_, fun q hq => ?_⟩
   ·unfold stayB
    rw [if_neg (by rw [f]; simp), r]
    simp
   ·unfold newP at hq
    rw [if_neg (by rw [f]; simp)] at hq
    cases hq
theorem alike_yes {S U : Sc} (hS : checkC S = 0) (hU : checkC U = 0)
  (hm : ∀ m ∈ S.meths, (methOf U m.name).2 = true ∧ (methOf U m.name).1.inn = m.inn ∧ (methOf U m.name).1.out = m.out)
  (hk : ∀ k, hasM S k = true → ∀ t, 1 ≤ t → t ≤ 500 → TagOK S U (fun _ _ => False) k t) : evoP S U = ([], 0, true) := by
 rcases alike_cases (fun _ _ => False) hS hU hm hk with h | ⟨_, _, h, _⟩
 ·exact h
 ·exact h.elim
theorem alike_not {S U : Sc} {m : Mt} (hm : m ∈ S.meths) (h2 : (methOf U m.name).1.inn = m.inn) {t : Int} (t1 : 1 ≤ t) (t2 : t ≤ 500) (hb : stayB S U (msgOf S m.inn) (msgOf U m.inn) t = false) : (evoP S U).2.2 = false := by
 cases h : (evoP S U).2.2 with
 | false => rfl
 | true =>
  obtain ⟨L, X⟩ := evo_over h
  obtain ⟨_, q, _⟩ := X.meth m hm
  have := (X.all _ q t t1 t2).1
  rw [h2] at this
  simp only at this
  rw [hb] at this
  cases this
theorem fitsB_same {S U : Sc} {y : Ty} (h : y.kind = 6 → (firstP (fun x => x.name == y.name) zEn S.enums).2 = true ∧ (firstP (fun x => x.name == y.name) zEn U.enums).2 = true ∧ ∀ v ∈ (firstP (fun x => x.name == y.name) zEn S.enums).1.vals, v ∈ (firstP (fun x => x.name == y.name) zEn U.enums).1.vals) : fitsB S U y y = true := by
 unfold fitsB
 rw [if_neg (by omega), if_neg (by simp)]
 by_cases h6 : y.kind = 6
 ·rw [if_neg (by omega)]
  obtain ⟨h1, h2, h3⟩ := h h6
  unfold fitsE
  rw [h1, h2]
  simp only [Bool.true_and, List.all_eq_true]
  intro v hv
  rw [List.contains_iff_mem]
  exact h3 v hv
 ·rw [if_pos h6]
theorem kind6 {S : Sc} (R : RightS S) {m : Ms} (hm : m ∈ S.msgs) {f : Fd} (hf : f ∈ m.fields) (k : f.ty.kind = 6) : (firstP (fun x => x.name == f.ty.name) zEn S.enums).2 = true := by
 obtain ⟨i, hi⟩ := List.getElem?_of_mem hf
 have q := (R.fld m hm i f hi).2.2.1
 unfold fieldB at q
 rw [Bool.and_eq_true] at q
 have q := q.2
 unfold kindB at q
 rw [if_pos k] at q
 exact q
theorem tag_same {S U : Sc} {Bad : List UInt8 → Int → Prop} (R : RightS S) {k : List UInt8} {t : Int} (hk : hasM S k = true)
  (he : ∀ y : Ty, y.kind = 6 → (firstP (fun x => x.name == y.name) zEn S.enums).2 = true → (firstP (fun x => x.name == y.name) zEn U.enums).2 = true ∧ ∀ v ∈ (firstP (fun x => x.name == y.name) zEn S.enums).1.vals, v ∈ (firstP (fun x => x.name == y.name) zEn U.enums).1.vals)
  (hf : (fOf (msgOf S k) t).2 = true → (fOf (msgOf U k) t).2 = true ∧ (fOf (msgOf U k) t).1.label = (fOf (msgOf S k) t).1.label ∧ (fOf (msgOf U k) t).1.ty = (fOf (msgOf S k) t).1.ty)
  (hr : (fOf (msgOf S k) t).2 = false → (msgOf S k).res.contains t = true → (msgOf U k).res.contains t = true ∧ (fOf (msgOf U k) t).2 = false) : TagOK S U Bad k t := by
 cases f : (fOf (msgOf S k) t).2 with
 | true =>
  obtain ⟨h1, h2, h3⟩ := hf f
  refine .inr (.inr (.inl ⟨f, keep_spec.2 ⟨h1, h2.symm, ?_⟩, h3⟩))
  rw [h3]
  have f1 := first_found (p := fun x : Fd => x.tag == t) (z := zFd) (l := (msgOf S k).fields) f
  refine fitsB_same fun h6 => ?_
  have := kind6 R (msgOf_mem hk).1 f1.1 h6
  exact ⟨this, he _ h6 this⟩
 | false =>
  cases r : (msgOf S k).res.contains t with
  | false => exact .inr (.inr (.inr ⟨f, r⟩))
  | true =>
   obtain ⟨q1, q2⟩ := hr f r
   refine .inr (.inl ⟨q1, ?_⟩)
   unfold keepB
   rw [q2]; rfl
end Go.Aw
namespace Go.Aw
open Go.Proofs Go.RowKit
set_option linter.unusedSimpArgs false
set_option linter.unusedVariables false
theorem flds_iff {S : Sc} : ∀ {l : List Fd} {ns : List (List UInt8)} {us : List Int}, fldsC S ns us l = 0 ↔ (∀ f ∈ l, nameB f.name = true ∧ tagB f.tag = true ∧ fieldB S f = true ∧ f.name ∉ ns ∧ f.tag ∉ us) ∧ (l.map Fd.name).Nodup ∧ (l.map Fd.tag).Nodup
 | [], ns, us => by simp [fldsC]
 | f :: l, ns, us => by
  rw [fldsC, List.map_cons, List.map_cons, List.nodup_cons, List.nodup_cons]
  constructor
  ·intro h
   split at h
   ·rename_i h1
    split at h
    ·rename_i h2
     split at h
     ·rename_i h3
      obtain ⟨q1, q2, q3⟩ := (flds_iff (l := l)).1 h
      have t1 := takes_iff.1 h1
      rw [Bool.and_eq_true, Bool.not_eq_true', ← Bool.not_eq_true, List.contains_iff_mem] at h2
      refine ⟨fun g hg => ?_, ⟨fun hm => ?_, q2⟩, ⟨fun hm => ?_, q3⟩⟩
      ·rcases List.mem_cons.1 hg with rfl | hg
       ·exact ⟨t1.1, h2.1, h3, t1.2, h2.2⟩
       ·obtain ⟨a, b, c, d, e⟩ := q1 g hg
        exact ⟨a, b, c, fun hm => d (List.mem_append.2 (.inl hm)), fun hm => e (List.mem_append.2 (.inl hm))⟩
      ·obtain ⟨g, hg, e⟩ := List.mem_map.1 hm
       exact (q1 g hg).2.2.2.1 (by rw [e]; simp)
      ·obtain ⟨g, hg, e⟩ := List.mem_map.1 hm
       exact (q1 g hg).2.2.2.2 (by rw [e]; simp)
     ·cases h
    ·cases h
   ·cases h
  ·rintro ⟨h, ⟨n1, n2⟩, ⟨m1, m2⟩⟩
   obtain ⟨a, b, c, d, e⟩ := h f List.mem_cons_self
   rw [if_pos (takes_iff.2 ⟨a, d⟩), if_pos (by rw [Bool.and_eq_true, Bool.not_eq_true', ← Bool.not_eq_true, List.contains_iff_mem]; exact ⟨b, e⟩), if_pos c]
   refine (flds_iff (l := l)).2 ⟨fun g hg => ?_, n2, m2⟩
   obtain ⟨a', b', c', d', e'⟩ := h g (List.mem_cons_of_mem _ hg)
   refine ⟨a', b', c', fun hm => ?_, fun hm => ?_⟩
   ·rcases List.mem_append.1 hm with hm | hm
    ·exact d' hm
    ·simp at hm; exact n1 (List.mem_map.2 ⟨g, hg, hm⟩)
   ·rcases List.mem_append.1 hm with hm | hm
    ·exact e' hm
    ·simp at hm; exact m1 (List.mem_map.2 ⟨g, hg, hm⟩)
theorem res_iff : ∀ {l : List Int} {us : List Int}, resBad us l = false ↔ (∀ t ∈ l, tagB t = true ∧ t ∉ us) ∧ l.Nodup
 | [], us => by simp [resBad]
 | t :: l, us => by
  rw [resBad, List.nodup_cons]
  constructor
  ·intro h
   split at h
   ·rename_i h2
    rw [Bool.and_eq_true, Bool.not_eq_true', ← Bool.not_eq_true, List.contains_iff_mem] at h2
    obtain ⟨q1, q2⟩ := (res_iff (l := l)).1 h
    refine ⟨fun g hg => ?_, fun hm => ?_, q2⟩
    ·rcases List.mem_cons.1 hg with rfl | hg
     ·exact h2
     ·exact ⟨(q1 g hg).1, fun hm => (q1 g hg).2 (List.mem_append.2 (.inl hm))⟩
    ·exact (q1 t hm).2 (by simp)
   ·cases h
  ·rintro ⟨h, n1, n2⟩
   obtain ⟨a, b⟩ := h t List.mem_cons_self
   rw [if_pos (by rw [Bool.and_eq_true, Bool.not_eq_true', ← Bool.not_eq_true, List.contains_iff_mem]; exact ⟨a, b⟩)]
   refine (res_iff (l := l)).2 ⟨fun g hg => ?_, n2⟩
   obtain ⟨a', b'⟩ := h g (List.mem_cons_of_mem _ hg)
   refine ⟨a', fun hm => ?_⟩
   rcases List.mem_append.1 hm with hm | hm
   ·exact b' hm
   ·simp at hm; subst hm; exact n1 hg
structure FitM (S : Sc) (m : Ms) : Prop where
 no : m.fields.length ≤ 16 ∧ m.res.length ≤ 32
 res : ∀ t ∈ m.res, tagB t = true
 rnd : m.res.Nodup
 fld : ∀ f ∈ m.fields, nameB f.name = true ∧ tagB f.tag = true ∧ fieldB S f = true ∧ f.tag ∉ m.res
 nnd : (m.fields.map Fd.name).Nodup
 tnd : (m.fields.map Fd.tag).Nodup
theorem body_iff {S : Sc} {m : Ms} : bodyC S m = 0 ↔ FitM S m := by
 unfold bodyC
 constructor
 ·intro h
  split at h
  ·cases h
  rename_i h1
  split at h
  ·cases h
  rename_i h2
  obtain ⟨q1, q2, q3⟩ := flds_iff.1 h
  obtain ⟨r1, r2⟩ := res_iff.1 (by simpa using h2)
  exact ⟨by omega, fun t ht => (r1 t ht).1, r2, fun f hf => ⟨(q1 f hf).1, (q1 f hf).2.1, (q1 f hf).2.2.1, (q1 f hf).2.2.2.2⟩, q2, q3⟩
 ·intro F
  have := F.no
  rw [if_neg (by omega), if_neg (by rw [Bool.not_eq_true]; exact res_iff.2 ⟨fun t ht => ⟨F.res t ht, by simp⟩, F.rnd⟩)]
  exact flds_iff.2 ⟨fun f hf => ⟨(F.fld f hf).1, (F.fld f hf).2.1, (F.fld f hf).2.2.1, by simp, (F.fld f hf).2.2.2⟩, F.nnd, F.tnd⟩
theorem fieldB_eq {S U : Sc} (h : ∀ y, kindB U y = kindB S y) (f : Fd) : fieldB U f = fieldB S f := by
 unfold fieldB
 rw [h]
theorem nd_at {α : Type} {l : List α} : l.Nodup ↔ ∀ i j, i < j → j < l.length → l[i]? ≠ l[j]? := by
 rw [List.nodup_iff_pairwise_ne, List.pairwise_iff_getElem]
 constructor
 ·intro h i j hij hj e
  rw [List.getElem?_eq_getElem (show i < l.length by omega), List.getElem?_eq_getElem hj] at e
  exact h i j (by omega) hj hij (Option.some.inj e)
 ·intro h i j hi hj hij e
  exact h i j hij hj (by rw [List.getElem?_eq_getElem hi, List.getElem?_eq_getElem hj, e])
theorem first_in {α : Type} {p : α → Bool} {z : α} {l : List α} {a : α} (h : a ∈ l) (hp : p a = true) (hu : ∀ b ∈ l, p b = true → b = a) : firstP p z l = (a, true) := by
 unfold firstP
 cases e : l.find? p with
 | none => rw [List.find?_eq_none] at e; exact absurd hp (e a h)
 | some b => rw [hu b (List.mem_of_find?_eq_some e) (List.find?_some e)]
theorem first_none {α : Type} {p : α → Bool} {z : α} {l : List α} (h : ∀ b ∈ l, p b = false) : firstP p z l = (z, false) := by
 unfold firstP
 cases e : l.find? p with
 | none => rfl
 | some b =>
  have q := List.find?_some e
  rw [h b (List.mem_of_find?_eq_some e)] at q
  cases q
theorem nd_inj {α β : Type} {f : α → β} : ∀ {l : List α}, (l.map f).Nodup → ∀ a ∈ l, ∀ b ∈ l, f a = f b → a = b
 | [], _, a, ha, _, _, _ => by cases ha
 | x :: l, h, a, ha, b, hb, e => by
  rw [List.map_cons, List.nodup_cons] at h
  rcases List.mem_cons.1 ha with ha1 | ha1
  ·rcases List.mem_cons.1 hb with hb1 | hb1
   ·rw [ha1, hb1]
   ·exact absurd (List.mem_map.2 ⟨b, hb1, by rw [← e, ha1]⟩) h.1
  ·rcases List.mem_cons.1 hb with hb1 | hb1
   ·exact absurd (List.mem_map.2 ⟨a, ha1, by rw [e, hb1]⟩) h.1
   ·exact nd_inj h.2 a ha1 b hb1 e
theorem fOf_in {S : Sc} {m : Ms} (F : FitM S m) {f : Fd} (hf : f ∈ m.fields) : fOf m f.tag = (f, true) :=
 first_in hf (by simp) fun b hb e => nd_inj F.tnd b hb f hf (by simpa using e)
theorem fOf_out {m : Ms} {t : Int} (h : ∀ f ∈ m.fields, f.tag ≠ t) : fOf m t = (zFd, false) :=
 first_none fun b hb => by simpa using h b hb
theorem fOf_tag {m : Ms} {t : Int} (h : (fOf m t).2 = true) : (fOf m t).1 ∈ m.fields ∧ (fOf m t).1.tag = t := by
 have := first_found (p := fun x : Fd => x.tag == t) (z := zFd) (l := m.fields) h
 exact ⟨this.1, eq_of_beq this.2⟩
theorem fit_msgs {S : Sc} (F : FitS S) {m : Ms} (h : m ∈ S.msgs) : FitM S m := body_iff.1 (F.body m h)
theorem msg_nd {S : Sc} (F : FitS S) : (S.msgs.map Ms.name).Nodup := (List.nodup_append.1 F.nd).1
theorem msgOf_in {S : Sc} (F : FitS S) {m : Ms} (h : m ∈ S.msgs) : msgOf S m.name = m := by
 unfold msgOf
 rw [first_in h (by simp) fun b hb e => nd_inj (msg_nd F) b hb m h (by simpa using e)]
theorem hasM_iff {S : Sc} {k : List UInt8} : hasM S k = true ↔ ∃ m ∈ S.msgs, m.name = k := by
 unfold hasM
 rw [found_any, List.any_eq_true]
 simp
theorem methOf_in {S : Sc} (F : FitS S) {m : Mt} (h : m ∈ S.meths) : methOf S m.name = (m, true) := by
 unfold methOf
 exact first_in h (by simp) fun b hb e => nd_inj F.tnd b hb m h (by simpa using e)
theorem found_names {α : Type} {f : α → List UInt8} {z : α} {a b : List α} (h : a.map f = b.map f) (k : List UInt8) : (firstP (fun x => f x == k) z a).2 = (firstP (fun x => f x == k) z b).2 := by
 rw [found_any, found_any]
 have : ∀ l : List α, l.any (fun x => f x == k) = (l.map f).any (fun y => y == k) := fun l => by rw [List.any_map]; rfl
 rw [this, this, h]
theorem kind_names {S U : Sc} (h1 : U.msgs.map Ms.name = S.msgs.map Ms.name) (h2 : U.enums.map En.name = S.enums.map En.name) (y : Ty) : kindB U y = kindB S y := by
 unfold kindB
 rw [found_names (f := En.name) (z := zEn) h2, found_names (f := Ms.name) (z := zMs) h1]
theorem fit_like {S U : Sc} (F : FitS S) (hn : nameB U.name = true) (h1 : U.msgs.map Ms.name = S.msgs.map Ms.name) (h2 : U.enums = S.enums) (h3 : U.meths = S.meths) (hb : ∀ m ∈ U.msgs, FitM U m) : FitS U := by
 have l1 : U.msgs.length = S.msgs.length := by rw [← (show (U.msgs.map Ms.name).length = U.msgs.length from List.length_map _), h1, List.length_map]
 have hh : ∀ k, hasM U k = hasM S k := fun k => found_names (f := Ms.name) (z := zMs) h1 k
 refine ⟨hn, by rw [l1, h2, h3]; exact F.lens, fun m hm => ?_, by rw [h2]; exact F.en, ?_, fun m hm => body_iff.2 (hb m hm), by rw [h2]; exact F.ebody, by rw [h3]; exact F.tn, by rw [h3]; exact F.tnd, fun t ht => ?_⟩
 ·have : m.name ∈ S.msgs.map Ms.name := by rw [← h1]; exact List.mem_map.2 ⟨m, hm, rfl⟩
  obtain ⟨x, hx, e⟩ := List.mem_map.1 this
  rw [← e]; exact F.mn x hx
 ·have := F.nd
  unfold namesS at *
  rw [h1, h2]; exact this
 ·rw [hh, hh]; exact F.tio t (by rw [← h3]; exact ht)
end Go.Aw
namespace Go.Aw
open Go.Proofs Go.RowKit
set_option linter.unusedSimpArgs false
set_option linter.unusedVariables false
def chS (S : Sc) (a : Nat) (m : Ms) : Sc := ⟨S.name, S.msgs.set a m, S.enums, S.meths⟩
theorem set_names {l : List Ms} {a : Nat} {m m' : Ms} (h : l[a]? = some m) (e : m'.name = m.name) : (l.set a m').map Ms.name = l.map Ms.name := by
 apply List.ext_getElem?
 intro i
 rw [List.getElem?_map, List.getElem?_map, List.getElem?_set]
 by_cases hi : a = i
 ·subst hi
  rw [if_pos rfl, if_pos (List.getElem?_eq_some_iff.1 h).1, h, Option.map_some, Option.map_some, e]
 ·rw [if_neg hi]
theorem mem_set {α : Type} {l : List α} {a : Nat} {x y : α} (h : y ∈ l.set a x) : y = x ∨ y ∈ l := by
 rcases List.mem_or_eq_of_mem_set h with h | h
 ·exact .inr h
 ·exact .inl h
theorem chS_kind {S : Sc} {a : Nat} {m m' : Ms} (h : S.msgs[a]? = some m) (e : m'.name = m.name) (y : Ty) : kindB (chS S a m') y = kindB S y := kind_names (S := S) (U := chS S a m') (set_names h e) rfl y
theorem fitM_eq {S U : Sc} (h : ∀ y, kindB U y = kindB S y) {m : Ms} (F : FitM S m) : FitM U m :=
 ⟨F.no, F.res, F.rnd, fun f hf => ⟨(F.fld f hf).1, (F.fld f hf).2.1, by rw [fieldB_eq h]; exact (F.fld f hf).2.2.1, (F.fld f hf).2.2.2⟩, F.nnd, F.tnd⟩
theorem chS_fit {S : Sc} (F : FitS S) {a : Nat} {m m' : Ms} (h : S.msgs[a]? = some m) (e : m'.name = m.name) (hb : FitM S m') : FitS (chS S a m') := by
 refine fit_like F F.name (set_names h e) rfl rfl fun x hx => fitM_eq (chS_kind h e) ?_
 rcases mem_set hx with rfl | hx
 ·exact hb
 ·exact fit_msgs F hx
def brkM (m : Ms) (k : Nat) (f : Fd) (how : Nat) : Ms :=
 if how = 0 then ⟨m.name, m.fields.take k ++ m.fields.drop (k + 1), m.res⟩ else if how = 1 then ⟨m.name, m.fields.set k ⟨f.name, f.tag, f.label % 3 + 1, f.ty⟩, m.res⟩ else if how = 2 then ⟨m.name, m.fields.set k ⟨f.name, f.tag, f.label, ⟨5, []⟩⟩, m.res⟩ else ⟨m.name, m.fields.take k ++ m.fields.drop (k + 1), m.res ++ [f.tag]⟩
theorem brk_name (m : Ms) (k : Nat) (f : Fd) (how : Nat) : (brkM m k f how).name = m.name := by
 unfold brkM
 split
 ·rfl
 ·split
  ·rfl
  ·split <;> rfl
theorem set_map {β : Type} {g : Fd → β} {l : List Fd} {k : Nat} {f f' : Fd} (h : l[k]? = some f) (e : g f' = g f) : (l.set k f').map g = l.map g := by
 apply List.ext_getElem?
 intro i
 rw [List.getElem?_map, List.getElem?_map, List.getElem?_set]
 by_cases hi : k = i
 ·subst hi
  rw [if_pos rfl, if_pos (List.getElem?_eq_some_iff.1 h).1, h, Option.map_some, Option.map_some, e]
 ·rw [if_neg hi]
theorem erase_tag {S : Sc} {m : Ms} (F : FitM S m) {k : Nat} {f : Fd} (h : m.fields[k]? = some f) {g : Fd} (hg : g ∈ m.fields.take k ++ m.fields.drop (k + 1)) : g ∈ m.fields ∧ g.tag ≠ f.tag := by
 rw [← List.eraseIdx_eq_take_drop_succ] at hg
 obtain ⟨j, hj, hx⟩ := List.mem_eraseIdx_iff_getElem?.1 hg
 refine ⟨List.mem_of_getElem? hx, fun e => ?_⟩
 have e2 := F.tnd
 rw [nd_at] at e2
 have lj := (List.getElem?_eq_some_iff.1 hx).1
 have lk := (List.getElem?_eq_some_iff.1 h).1
 rcases Nat.lt_or_gt_of_ne hj with q | q
 ·exact e2 j k q (by rw [List.length_map]; exact lk) (by rw [List.getElem?_map, List.getElem?_map, hx, h, Option.map_some, Option.map_some, e])
 ·exact e2 k j q (by rw [List.length_map]; exact lj) (by rw [List.getElem?_map, List.getElem?_map, hx, h, Option.map_some, Option.map_some, e])
theorem brk_fit {S : Sc} {m : Ms} (F : FitM S m) {k : Nat} {f : Fd} (h : m.fields[k]? = some f) {how : Nat} (hr : 3 ≤ how → m.res.length < 32) : FitM S (brkM m k f how) := by
 have hf := List.mem_of_getElem? h
 obtain ⟨f1, f2, f3, f4⟩ := F.fld f hf
 have sub : (m.fields.take k ++ m.fields.drop (k + 1)).Sublist m.fields := by
  rw [← List.eraseIdx_eq_take_drop_succ]; exact List.eraseIdx_sublist _ _
 unfold brkM
 split
 ·exact ⟨⟨Nat.le_trans sub.length_le F.no.1, F.no.2⟩, F.res, F.rnd, fun g hg => F.fld g (sub.subset hg), (sub.map _).nodup F.nnd, (sub.map _).nodup F.tnd⟩
 split
 ·refine ⟨⟨by show (List.set _ _ _).length ≤ 16; rw [List.length_set]; exact F.no.1, F.no.2⟩, F.res, F.rnd, fun g hg => ?_, by
   have q : ∀ f', f'.name = f.name → ((m.fields.set k f').map Fd.name).Nodup := fun f' e => by rw [set_map h e]; exact F.nnd
   exact q _ rfl, by
   have q : ∀ f', f'.tag = f.tag → ((m.fields.set k f').map Fd.tag).Nodup := fun f' e => by rw [set_map h e]; exact F.tnd
   exact q _ rfl⟩
  rcases mem_set hg with rfl | hg
  ·refine ⟨f1, f2, ?_, f4⟩
   unfold fieldB at f3 ⊢
   rw [Bool.and_eq_true] at f3 ⊢
   refine ⟨?_, f3.2⟩
   unfold labelB
   rw [decide_eq_true_eq]
   show 1 ≤ f.label % 3 + 1 ∧ f.label % 3 + 1 ≤ 3
   omega
  ·exact F.fld g hg
 split
 ·refine ⟨⟨by show (List.set _ _ _).length ≤ 16; rw [List.length_set]; exact F.no.1, F.no.2⟩, F.res, F.rnd, fun g hg => ?_, by
   have q : ∀ f', f'.name = f.name → ((m.fields.set k f').map Fd.name).Nodup := fun f' e => by rw [set_map h e]; exact F.nnd
   exact q _ rfl, by
   have q : ∀ f', f'.tag = f.tag → ((m.fields.set k f').map Fd.tag).Nodup := fun f' e => by rw [set_map h e]; exact F.tnd
   exact q _ rfl⟩
  rcases mem_set hg with rfl | hg
  ·refine ⟨f1, f2, ?_, f4⟩
   unfold fieldB at f3 ⊢
   rw [Bool.and_eq_true] at f3 ⊢
   exact ⟨f3.1, rfl⟩
  ·exact F.fld g hg
 ·rename_i h0 h1 h2
  have hr := hr (by omega)
  refine ⟨⟨Nat.le_trans sub.length_le F.no.1, by show (m.res ++ [f.tag]).length ≤ 32; rw [List.length_append]; simp; omega⟩, fun t ht => ?_, ?_, fun g hg => ?_, (sub.map _).nodup F.nnd, (sub.map _).nodup F.tnd⟩
  ·rcases List.mem_append.1 ht with ht | ht
   ·exact F.res t ht
   ·simp at ht; rw [ht]; exact f2
  ·show (m.res ++ [f.tag]).Nodup
   rw [List.nodup_append]
   refine ⟨F.rnd, by simp, fun x hx y hy => ?_⟩
   simp at hy
   subst hy
   rintro rfl
   exact f4 hx
  ·obtain ⟨g1, g2⟩ := erase_tag F h hg
   obtain ⟨a, b, c, d⟩ := F.fld g g1
   refine ⟨a, b, c, fun hm => ?_⟩
   rcases List.mem_append.1 hm with hm | hm
   ·exact d hm
   ·simp at hm; exact g2 hm
theorem brk_mem {S : Sc} {m : Ms} (F : FitM S m) {k : Nat} {f : Fd} (h : m.fields[k]? = some f) {how : Nat} {g : Fd} (hg : g.tag ≠ f.tag) : g ∈ (brkM m k f how).fields ↔ g ∈ m.fields := by
 have er : g ∈ m.fields.take k ++ m.fields.drop (k + 1) ↔ g ∈ m.fields := by
  rw [← List.eraseIdx_eq_take_drop_succ, List.mem_eraseIdx_iff_getElem?]
  constructor
  ·rintro ⟨j, _, hj⟩; exact List.mem_of_getElem? hj
  ·intro hm
   obtain ⟨j, hj⟩ := List.getElem?_of_mem hm
   refine ⟨j, ?_, hj⟩
   rintro rfl
   rw [h] at hj
   injection hj with hj
   exact hg (by rw [hj])
 have st : ∀ f', f'.tag = f.tag → (g ∈ m.fields.set k f' ↔ g ∈ m.fields) := fun f' e => by
  constructor
  ·intro hm
   rcases mem_set hm with rfl | hm
   ·exact absurd e hg
   ·exact hm
  ·intro hm
   obtain ⟨j, hj⟩ := List.getElem?_of_mem hm
   have : k ≠ j := by
    rintro rfl
    rw [h] at hj
    injection hj with hj
    exact hg (by rw [hj])
   exact List.mem_of_getElem? (i := j) (by rw [List.getElem?_set, if_neg this, hj])
 unfold brkM
 split
 ·exact er
 split
 ·exact st _ rfl
 split
 ·exact st _ rfl
 ·exact er
theorem brk_other {S : Sc} {m : Ms} (F : FitM S m) {k : Nat} {f : Fd} (h : m.fields[k]? = some f) {how : Nat} (F' : FitM S (brkM m k f how)) {t : Int} (ht : t ≠ f.tag) : fOf (brkM m k f how) t = fOf m t := by
 cases e : (fOf m t).2 with
 | true =>
  obtain ⟨a, b⟩ := fOf_tag e
  have q := fOf_in F' ((brk_mem F h (how := how) (g := (fOf m t).1) (by rw [b]; exact ht)).2 a)
  rw [b] at q
  rw [q, ← e]
 | false =>
  have no : ∀ g ∈ m.fields, g.tag ≠ t := fun g hg q => by
   have := fOf_in F hg
   rw [q] at this
   rw [this] at e; cases e
  rw [fOf_out no, fOf_out fun g hg q => ?_]
  exact no g ((brk_mem F h (by rw [q]; exact ht)).1 hg) q
theorem brk_res {m : Ms} {k : Nat} {f : Fd} {how : Nat} {t : Int} (ht : t ≠ f.tag ∨ how < 3) : (brkM m k f how).res.contains t = m.res.contains t := by
 unfold brkM
 split
 ·rfl
 split
 ·rfl
 split
 ·rfl
 ·rename_i h0 h1 h2
  rcases ht with ht | ht
  ·rw [Bool.eq_iff_iff, List.contains_iff_mem, List.contains_iff_mem, List.mem_append]
   simp [ht]
  ·omega
theorem brk_gone {S : Sc} {m : Ms} (F : FitM S m) {k : Nat} {f : Fd} (h : m.fields[k]? = some f) {how : Nat} (hh : how = 0 ∨ 3 ≤ how) : fOf (brkM m k f how) f.tag = (zFd, false) := by
 refine fOf_out fun g hg => ?_
 unfold brkM at hg
 rcases hh with rfl | hh
 ·rw [if_pos rfl] at hg
  exact (erase_tag F h hg).2
 ·rw [if_neg (by omega), if_neg (by omega), if_neg (by omega)] at hg
  exact (erase_tag F h hg).2
theorem brk_keep {S U : Sc} {m : Ms} (F : FitM S m) {k : Nat} {f : Fd} (h : m.fields[k]? = some f) {how : Nat} (F' : FitM S (brkM m k f how)) (h2 : how = 2 → f.ty.kind ≠ 5) : keepB S U m (brkM m k f how) f.tag = false := by
 rw [← Bool.not_eq_true]
 intro hk
 obtain ⟨k1, k2, k3⟩ := keep_spec.1 hk
 have hf := List.mem_of_getElem? h
 have e0 := fOf_in F hf
 rw [e0] at k2 k3
 have hl : 1 ≤ f.label ∧ f.label ≤ 3 := by
  have := (F.fld f hf).2.2.1
  unfold fieldB labelB at this
  rw [Bool.and_eq_true, decide_eq_true_eq] at this
  exact this.1
 by_cases q0 : how = 0 ∨ 3 ≤ how
 ·rw [brk_gone F h q0] at k1; cases k1
 ·have hlt := (List.getElem?_eq_some_iff.1 h).1
  by_cases q1 : how = 1
  ·subst q1
   have : (⟨f.name, f.tag, f.label % 3 + 1, f.ty⟩ : Fd) ∈ (brkM m k f 1).fields := List.mem_of_getElem? (i := k) (by
    show (m.fields.set k _)[k]? = _
    rw [List.getElem?_set, if_pos rfl, if_pos hlt])
   have := fOf_in F' this
   simp only at this
   rw [this] at k2
   simp only at k2
   omega
  ·have q2 : how = 2 := by omega
   subst q2
   have : (⟨f.name, f.tag, f.label, ⟨5, []⟩⟩ : Fd) ∈ (brkM m k f 2).fields := List.mem_of_getElem? (i := k) (by
    show (m.fields.set k _)[k]? = _
    rw [List.getElem?_set, if_pos rfl, if_pos hlt])
   have := fOf_in F' this
   simp only at this
   rw [this] at k3
   simp only at k3
   unfold fitsB at k3
   have := h2 rfl
   rw [if_neg (by simp), if_pos (by simpa using this)] at k3
   cases k3
theorem brk_tags {S : Sc} {a : Nat} {m : Ms} (hS : checkC S = 0) (ha : S.msgs[a]? = some m) {k : Nat} {f : Fd} (h : m.fields[k]? = some f) {how : Nat} (hr : 3 ≤ how → m.res.length < 32) (h2 : how = 2 → f.ty.kind ≠ 5) {Bad : List UInt8 → Int → Prop} (hb : how < 3 → Bad m.name f.tag)
  {k' : List UInt8} (hk : hasM S k' = true) (t : Int) : TagOK S (chS S a (brkM m k f how)) Bad k' t := by
 have F := check_fit.1 hS
 have M := fit_msgs F (List.mem_of_getElem? ha)
 have B := brk_fit M h hr
 have G := chS_fit F ha (brk_name m k f how) B
 obtain ⟨x, hx, e⟩ := hasM_iff.1 hk
 subst e
 have alt := (List.getElem?_eq_some_iff.1 ha).1
 have here : brkM m k f how ∈ (chS S a (brkM m k f how)).msgs := List.mem_of_getElem? (i := a) (by
  show (S.msgs.set a _)[a]? = _
  rw [List.getElem?_set, if_pos rfl, if_pos alt])
 by_cases hxm : x.name = m.name
 ·have e1 : msgOf S x.name = m := by rw [hxm]; exact msgOf_in F (List.mem_of_getElem? ha)
  have e2 : msgOf (chS S a (brkM m k f how)) x.name = brkM m k f how := by
   have := msgOf_in G here
   rw [brk_name] at this
   rw [hxm]; exact this
  by_cases ht : t = f.tag
  ·subst ht
   have kb := brk_keep (U := chS S a (brkM m k f how)) M h B h2
   by_cases h3 : how < 3
   ·refine .inl ⟨by rw [hxm]; exact hb h3, ?_⟩
    rw [e1, e2]; exact kb
   ·refine .inr (.inl ⟨?_, ?_⟩)
    ·rw [e2, List.contains_iff_mem]
     unfold brkM
     rw [if_neg (by omega), if_neg (by omega), if_neg (by omega)]
     simp
    ·rw [e1, e2]; exact kb
  ·refine tag_same (right_of hS) hk (fun y _ hy => ⟨hy, fun v hv => hv⟩) (fun q => ?_) fun q r => ?_
   ·rw [e1, e2, brk_other M h B ht]
    rw [e1] at q
    exact ⟨q, rfl, rfl⟩
   ·rw [e1] at q r
    rw [e2, brk_other M h B ht, brk_res (.inl ht)]
    exact ⟨r, q⟩
 ·have e1 : msgOf S x.name = x := msgOf_in F hx
  have e2 : msgOf (chS S a (brkM m k f how)) x.name = x := by
   obtain ⟨j, hj⟩ := List.getElem?_of_mem hx
   have ne : a ≠ j := by
    rintro rfl
    rw [ha] at hj
    injection hj with hj
    exact hxm (by rw [hj])
   exact msgOf_in G (List.mem_of_getElem? (i := j) (by show (S.msgs.set a _)[j]? = _; rw [List.getElem?_set, if_neg ne, hj]))
  refine tag_same (right_of hS) hk (fun y _ hy => ⟨hy, fun v hv => hv⟩) (fun q => ?_) fun q r => ?_
  ·rw [e2]; rw [e1] at q ⊢; exact ⟨q, rfl, rfl⟩
  ·rw [e1] at q r; rw [e2]; exact ⟨r, q⟩
theorem tag_in {t : Int} (h : tagB t = true) : 1 ≤ t ∧ t ≤ 500 := by
 unfold tagB at h
 simpa using h
theorem brk_evo {S : Sc} {a : Nat} {m : Ms} (hS : checkC S = 0) (ha : S.msgs[a]? = some m) {k : Nat} {f : Fd} (h : m.fields[k]? = some f) {c : Mt} (hc : c ∈ S.meths) (hi : c.inn = m.name) {how : Nat} (hh : how < 3) (h2 : how = 2 → f.ty.kind ≠ 5) :
  evoP S (chS S a (brkM m k f how)) = (m.name, f.tag, false) := by
 have F := check_fit.1 hS
 have M := fit_msgs F (List.mem_of_getElem? ha)
 have B := brk_fit M h (how := how) (fun q => by omega)
 have G := chS_fit F ha (brk_name m k f how) B
 have hU := check_fit.2 G
 have fm := M.fld f (List.mem_of_getElem? h)
 obtain ⟨t1, t2⟩ := tag_in fm.2.1
 have alt := (List.getElem?_eq_some_iff.1 ha).1
 rcases alike_cases (fun x t => x = m.name ∧ t = f.tag) hS hU (fun x hx => by rw [methOf_in G (S := chS S a (brkM m k f how)) hx]; exact ⟨rfl, rfl, rfl⟩) (fun k' hk t _ _ => brk_tags hS ha h (fun q => by omega) h2 (fun _ => ⟨rfl, rfl⟩) hk t) with e | ⟨_, _, ⟨rfl, rfl⟩, e⟩
 ·exfalso
  have no := alike_not (S := S) (U := chS S a (brkM m k f how)) hc (by rw [methOf_in G (S := chS S a (brkM m k f how)) hc]) t1 t2 ?_
  ·rw [e] at no; cases no
  ·have here : brkM m k f how ∈ (chS S a (brkM m k f how)).msgs := List.mem_of_getElem? (i := a) (by
    show (S.msgs.set a _)[a]? = _
    rw [List.getElem?_set, if_pos rfl, if_pos alt])
   have e2 := msgOf_in G here
   rw [brk_name] at e2
   rw [hi, msgOf_in F (List.mem_of_getElem? ha), e2]
   unfold stayB
   rw [brk_keep M h B h2, brk_res (.inr hh), fOf_in M (List.mem_of_getElem? h)]
   have := fm.2.2.2
   rw [← List.contains_iff_mem, Bool.not_eq_true] at this
   rw [this]; rfl
 ·exact e
theorem brk_evo3 {S : Sc} {a : Nat} {m : Ms} (hS : checkC S = 0) (ha : S.msgs[a]? = some m) {k : Nat} {f : Fd} (h : m.fields[k]? = some f) {c : Mt} (hc : c ∈ S.meths) (hi : c.inn = m.name) :
  ((evoP S (chS S a (brkM m k f 3))).2.2 = true ∨ 32 < (brkM m k f 3).res.length) ∧ (evoP (chS S a (brkM m k f 3)) S).2.2 = false := by
 have F := check_fit.1 hS
 have M := fit_msgs F (List.mem_of_getElem? ha)
 have fm := M.fld f (List.mem_of_getElem? h)
 obtain ⟨t1, t2⟩ := tag_in fm.2.1
 have alt := (List.getElem?_eq_some_iff.1 ha).1
 have rl : (brkM m k f 3).res = m.res ++ [f.tag] := rfl
 constructor
 ·by_cases hl : m.res.length < 32
  ·left
   have B := brk_fit M h (how := 3) (fun q => hl)
   have G := chS_fit F ha (brk_name m k f 3) B
   rw [alike_yes hS (check_fit.2 G) (fun x hx => by rw [methOf_in G (S := chS S a (brkM m k f 3)) hx]; exact ⟨rfl, rfl, rfl⟩) (fun k' hk t _ _ => brk_tags hS ha h (fun q => hl) (fun q => by cases q) (fun q => by omega) hk t)]
  ·right
   rw [rl, List.length_append]
   simp
   omega
 ·by_cases hU : checkC (chS S a (brkM m k f 3)) = 0
  ·have G := check_fit.1 hU
   have here : brkM m k f 3 ∈ (chS S a (brkM m k f 3)).msgs := List.mem_of_getElem? (i := a) (by
    show (S.msgs.set a _)[a]? = _
    rw [List.getElem?_set, if_pos rfl, if_pos alt])
   refine alike_not (S := chS S a (brkM m k f 3)) (U := S) (m := c) hc (by rw [methOf_in F hc]) t1 t2 ?_
   have e2 := msgOf_in G here
   rw [brk_name] at e2
   rw [hi, msgOf_in F (List.mem_of_getElem? ha), e2]
   unfold stayB
   rw [brk_gone M h (.inr (Nat.le_refl _)), if_neg (by simp), rl]
   have := fm.2.2.2
   rw [← List.contains_iff_mem, Bool.not_eq_true] at this
   rw [this]
   have q : (m.res ++ [f.tag]).contains f.tag = true := by rw [List.contains_iff_mem]; simp
   rw [q]; rfl
  ·unfold evoP
   rw [if_neg (fun q => hU q.1)]
end Go.Aw
namespace Go.Aw
open Go.Proofs Go.RowKit
set_option linter.unusedSimpArgs false
set_option linter.unusedVariables false
theorem vals_iff : ∀ {l : List Nm} {ns : List (List UInt8)} {us : List Int}, valsC ns us l = 0 ↔ (∀ f ∈ l, nameB f.name = true ∧ numB f.n = true ∧ f.name ∉ ns ∧ f.n ∉ us) ∧ (l.map Nm.name).Nodup ∧ (l.map Nm.n).Nodup
 | [], ns, us => by simp [valsC]
 | f :: l, ns, us => by
  rw [valsC, List.map_cons, List.map_cons, List.nodup_cons, List.nodup_cons]
  constructor
  ·intro h
   split at h
   ·rename_i h1
    split at h
    ·rename_i h2
     obtain ⟨q1, q2, q3⟩ := (vals_iff (l := l)).1 h
     have t1 := takes_iff.1 h1
     rw [Bool.and_eq_true, Bool.not_eq_true', ← Bool.not_eq_true, List.contains_iff_mem] at h2
     refine ⟨fun g hg => ?_, ⟨fun hm => ?_, q2⟩, ⟨fun hm => ?_, q3⟩⟩
     ·rcases List.mem_cons.1 hg with rfl | hg
      ·exact ⟨t1.1, h2.1, t1.2, h2.2⟩
      ·obtain ⟨a, b, d, e⟩ := q1 g hg
       exact ⟨a, b, fun hm => d (List.mem_append.2 (.inl hm)), fun hm => e (List.mem_append.2 (.inl hm))⟩
     ·obtain ⟨g, hg, e⟩ := List.mem_map.1 hm
      exact (q1 g hg).2.2.1 (by rw [e]; simp)
     ·obtain ⟨g, hg, e⟩ := List.mem_map.1 hm
      exact (q1 g hg).2.2.2 (by rw [e]; simp)
    ·cases h
   ·cases h
  ·rintro ⟨h, ⟨n1, n2⟩, ⟨m1, m2⟩⟩
   obtain ⟨a, b, d, e⟩ := h f List.mem_cons_self
   rw [if_pos (takes_iff.2 ⟨a, d⟩), if_pos (by rw [Bool.and_eq_true, Bool.not_eq_true', ← Bool.not_eq_true, List.contains_iff_mem]; exact ⟨b, e⟩)]
   refine (vals_iff (l := l)).2 ⟨fun g hg => ?_, n2, m2⟩
   obtain ⟨a', b', d', e'⟩ := h g (List.mem_cons_of_mem _ hg)
   refine ⟨a', b', fun hm => ?_, fun hm => ?_⟩
   ·rcases List.mem_append.1 hm with hm | hm
    ·exact d' hm
    ·simp at hm; exact n1 (List.mem_map.2 ⟨g, hg, hm⟩)
   ·rcases List.mem_append.1 hm with hm | hm
    ·exact e' hm
    ·simp at hm; exact m1 (List.mem_map.2 ⟨g, hg, hm⟩)
theorem name_nil : nameB [] = false := by decide +kernel
structure FitE (e : En) : Prop where
 no : e.vals.length ≤ 16
 zero : ∃ v ∈ e.vals, v.n = 0
 vals : ∀ v ∈ e.vals, nameB v.name = true ∧ numB v.n = true
 nnd : (e.vals.map Nm.name).Nodup
 vnd : (e.vals.map Nm.n).Nodup
theorem ebody_iff {e : En} : enumBody e = 0 ↔ FitE e := by
 unfold enumBody
 constructor
 ·intro h
  split at h
  ·cases h
  rename_i h1
  split at h
  ·rename_i h2
   obtain ⟨q1, q2, q3⟩ := vals_iff.1 h
   obtain ⟨v, hv, e0⟩ := List.any_eq_true.1 h2
   exact ⟨by omega, ⟨v, hv, eq_of_beq e0⟩, fun v hv => ⟨(q1 v hv).1, (q1 v hv).2.1⟩, q2, q3⟩
  ·cases h
 ·intro F
  have := F.no
  obtain ⟨v, hv, e0⟩ := F.zero
  rw [if_neg (by omega), if_pos (List.any_eq_true.2 ⟨v, hv, by simp [e0]⟩)]
  exact vals_iff.2 ⟨fun v hv => ⟨(F.vals v hv).1, (F.vals v hv).2, by simp, by simp⟩, F.nnd, F.vnd⟩
theorem FitE.nice {e : En} (F : FitE e) : niceE e := by
 refine ⟨F.vnd, fun v hv q => ?_⟩
 have := (F.vals v hv).1
 rw [q, name_nil] at this
 cases this
theorem fit_enum {S : Sc} (F : FitS S) {e : En} (h : e ∈ S.enums) : FitE e := ebody_iff.1 (F.ebody e h)
theorem right_Fits {S U : Sc} (F : FitS S) (G : FitS U) (y z : Ty) : PFn Tryd.prog 44 [.agg (encSc S), .agg (encSc U), .agg (encTy y), .agg (encTy z)] (.bool (fitsB S U y z)) :=
 compat_Fits S U y z (by have := F.lens; omega) (by have := G.lens; omega) (fun e he => by have := (fit_enum F he).no; omega) (fun e he => by have := (fit_enum G he).no; omega) (fun e he => (fit_enum F he).nice) fun e he => (fit_enum G he).nice
end Go.Aw
namespace Go.Aw
open Go.Proofs Go.RowKit
set_option linter.unusedSimpArgs false
set_option linter.unusedVariables false
theorem memP_by {p : Nat → Bool} {l : List Pr} {r a b : Nat} (h1 : p a = true) (h2 : p b = true) : (memP l r a b).all (fun x => x.2.labsBy p) = true := by
 simp only [memP, List.all_cons, List.all_nil, labsBy_lift, mP_by, Bool.and_true]
 simp [Blk.labsBy, labsByL, AV.labsBy, h1, h2]
def evS (S U : Sc) (l : List Pr) (m : List (Nat × AV)) : St := ⟨ofL ((2, .ptr 0 0 0) :: (3, .ptr 1 0 0) :: (7, .ptr 2 0 0) :: m), ofH ((0, .row 4 [cellsSc S]) :: (1, .row 4 [cellsSc U]) :: memP l 2 3 4), 5⟩
theorem walkP_end {S U : Sc} : ∀ (n i : Nat) (l : List Pr), l.length ≤ i → walkP S U n i l = ([], 0, true)
 | 0, i, l, _ => rfl
 | n + 1, i, l, h => by
  rw [walkP, List.getElem?_eq_none h]
def evNx (S U : Sc) (p : Pr) (i : Nat) : Int ⊕ List Pr → List UInt8 × Int × Bool
 | .inl t => (p.o, t, false)
 | .inr l' => walkP S U (100 - i) (i + 1) l'
theorem walkP_at {S U : Sc} {i : Nat} {l : List Pr} {p : Pr} (h : l[i]? = some p) (hi : i ≤ 100) : walkP S U (101 - i) i l = evNx S U p i (tagsP S U (msgOf S p.o) (msgOf U p.n) 500 1 l) := by
 rw [show 101 - i = (100 - i) + 1 by omega, walkP, h]
 simp only
 cases tagsP S U (msgOf S p.o) (msgOf U p.n) 500 1 l <;> rfl
def evI (S U : Sc) (mo mn : Ms) (l : List Pr) (i : Nat) (m : List (Nat × AV)) : St := ⟨ofL ((2, .ptr 0 0 0) :: (3, .ptr 1 0 0) :: (7, .ptr 2 0 0) :: (12, .p (.str [])) :: (13, .p (.int .i64 0)) :: (14, .p (.int .i64 (i : Int))) :: (15, .ptr 5 0 0) :: (17, .ptr 6 0 0) :: m),
 ofH ((0, .row 4 [cellsSc S]) :: (1, .row 4 [cellsSc U]) :: (5, .row 3 [cellsMs mo]) :: (6, .row 3 [cellsMs mn]) :: memP l 2 3 4), 7⟩
def evM (S U : Sc) (l : List Pr) (m m' : Mt) (i : Nat) : St := ⟨ofL [(2, .ptr 0 0 0), (3, .ptr 1 0 0), (7, .ptr 2 0 0), (9, .ptr 5 0 0), (10, .ptr 6 0 0), (32, .p (.slice (S.meths.map encMt))), (33, .p (.int .i64 (S.meths.length : Int))), (34, .p (.int .i64 (i : Int)))],
 ofH ((0, .row 4 [cellsSc S]) :: (1, .row 4 [cellsSc U]) :: (5, .row 3 [cellsMt m]) :: (6, .row 3 [cellsMt m']) :: memP l 2 3 4), 7⟩
set_option maxRecDepth 100000 in
set_option maxHeartbeats 4000000 in
theorem compat_Evolves (S U : Sc) (LS : LensS S) (LU : LensS U) : PFn Tryd.prog 42 [.agg (encSc S), .agg (encSc U)] (.tuple [.str (evoP S U).1, .int .i64 (evoP S U).2.1, .bool (evoP S U).2.2]) := by
 refine PFn.of Tryd.func42 rfl (by decide) Tryd.ntmps42 Tryd.results42 (Nat.le_of_ble_eq_true rfl) ?_
 have C1 := check_Check S LS
 have C2 := check_Check U LU
 simp only [encSc] at C1 C2
 simp only [argsT, encSc]
 refine AW.rT (by rfl) fun K hK => ?_
 simp -implicitDefEqProofs only [go_sem, ↓reduceIte, Nat.reduceAdd, Nat.reduceEqDiff]
 refine hK _ ?_; clear hK K
 refine AW.scope ?_
 refine AW.seq ?_
 by_cases hS : checkC S = 0
 case neg =>
  have f1 : (checkC S != 0) = true := by simp [hS]
  have e : evoP S U = ([], 0, false) := by unfold evoP; rw [if_neg (fun h => hS h.1)]
  refine AW.rT (by rfl) fun K hK => ?_
  simp -implicitDefEqProofs only [go_sem, ↓reduceIte, Nat.reduceAdd, Nat.reduceEqDiff, Nat.reduceLeDiff, reduceCtorEq]
  refine ⟨.pure _, C1, ?_⟩
  try simp -implicitDefEqProofs only [go_sem, ↓reduceIte, Nat.reduceAdd, Nat.reduceEqDiff, f1]
  refine hK _ ?_; clear hK K
  refine AW.cond _ (by simp -implicitDefEqProofs only [go_sem]; rfl) (fun hc => ?_) (fun hc => ?_)
  rotate_left
  ·simp at hc
  refine AW.rT (by rfl) fun K hK => ?_
  simp -implicitDefEqProofs only [go_sem, Nat.reduceAdd]
  refine hK _ ?_; clear hK K
  refine AW.ret ?_
  simp -implicitDefEqProofs only [go_sem, ↓reduceIte, Nat.reduceEqDiff, e]
 have f1 : (checkC S != 0) = false := by simp [hS]
 by_cases hU : checkC U = 0
 case neg =>
  have f2 : (checkC U != 0) = true := by simp [hU]
  have e : evoP S U = ([], 0, false) := by unfold evoP; rw [if_neg (fun h => hU h.2)]
  refine AW.rT (by rfl) fun K hK => ?_
  simp -implicitDefEqProofs only [go_sem, ↓reduceIte, Nat.reduceAdd, Nat.reduceEqDiff, Nat.reduceLeDiff, reduceCtorEq]
  refine ⟨.pure _, C1, ?_⟩
  try simp -implicitDefEqProofs only [go_sem, ↓reduceIte, Nat.reduceAdd, Nat.reduceEqDiff, Nat.reduceLeDiff, f1]
  refine ⟨.pure _, C2, ?_⟩
  try simp -implicitDefEqProofs only [go_sem, ↓reduceIte, Nat.reduceAdd, Nat.reduceEqDiff, f2]
  refine hK _ ?_; clear hK K
  refine AW.cond _ (by simp -implicitDefEqProofs only [go_sem]; rfl) (fun hc => ?_) (fun hc => ?_)
  rotate_left
  ·simp at hc
  refine AW.rT (by rfl) fun K hK => ?_
  simp -implicitDefEqProofs only [go_sem, Nat.reduceAdd]
  refine hK _ ?_; clear hK K
  refine AW.ret ?_
  simp -implicitDefEqProofs only [go_sem, ↓reduceIte, Nat.reduceEqDiff, e]
 have f2 : (checkC U != 0) = false := by simp [hU]
 refine AW.rT (by rfl) fun K hK => ?_
 simp -implicitDefEqProofs only [go_sem, ↓reduceIte, Nat.reduceAdd, Nat.reduceEqDiff, Nat.reduceLeDiff, reduceCtorEq]
 refine ⟨.pure _, C1, ?_⟩
 try simp -implicitDefEqProofs only [go_sem, ↓reduceIte, Nat.reduceAdd, Nat.reduceEqDiff, Nat.reduceLeDiff, f1]
 refine ⟨.pure _, C2, ?_⟩
 try simp -implicitDefEqProofs only [go_sem, ↓reduceIte, Nat.reduceAdd, Nat.reduceEqDiff, f2]
 refine hK _ ?_; clear hK K
 refine AW.cond _ (by simp -implicitDefEqProofs only [go_sem]; rfl) (fun hc => ?_) (fun hc => ?_)
 ·simp at hc
 refine AW.skip ?_
 simp only [andThen]
 refine AW.rT (by rfl) fun K hK => ?_
 simp -implicitDefEqProofs only [go_sem, ↓reduceIte, Nat.reduceAdd, Nat.reduceLeDiff]
 refine hK _ ?_; clear hK K
 have FS := check_fit.1 hS
 have FU := check_fit.1 hU
 have RS := right_of hS
 have RU := right_of hU
 have HF := right_Fits FS FU
 have Fl := FS.lens
 have Gl := FU.lens
 have eE : evoP S U = (match seedP U [] S.meths with | .inl k => (k, 0, false) | .inr l => walkP S U 101 0 l) := by unfold evoP; rw [if_pos ⟨hS, hU⟩] <;> (cases seedP U [] S.meths <;> rfl)
 -- the calls' messages
 refine AW.cut (fun l : List Pr => evS S U l []) (fun l => seedP U [] S.meths = .inr l ∧ PairsOK S U l) ?_ fun l hl => ?_
 ·refine AW.rT (by rfl) fun K hK => ?_
  simp -implicitDefEqProofs only [go_sem, ↓reduceIte, Nat.reduceAdd, Nat.reduceEqDiff, reduceCtorEq, List.length_map]
  refine hK _ ?_; clear hK K
  refine AW.block ?_
  refine AW.loop (fun x : List Pr × Nat => evS S U x.1 [(32, .p (.slice (S.meths.map encMt))), (33, .p (.int .i64 (S.meths.length : Int))), (34, .p (.int .i64 (x.2 : Int)))]) (fun x => x.2 ≤ S.meths.length ∧ seedP U [] S.meths = seedP U x.1 (S.meths.drop x.2) ∧ PairsOK S U x.1) (fun x => S.meths.length - x.2) ([], 0) ?_ ⟨Nat.zero_le _, rfl, ⟨fun p hp => (by cases hp), List.nodup_nil⟩⟩ fun x hx => ?_
  ·refine Ghost.trans (s' := ⟨ofL [(2, .ptr 0 0 0), (3, .ptr 1 0 0), (7, .ptr 2 0 0), (32, .p (.slice (S.meths.map encMt))), (33, .p (.int .i64 (S.meths.length : Int))), (34, .p (.int .i64 0))], ofH [(0, .row 4 [cellsSc S]), (1, .row 4 [cellsSc U]), (2, .row 2 [[.ex [], .map 4]]), (4, .map [])], 5⟩) ?_ (Ghost.trans (Ghost.nilH (l := 2) (i := 0) (j := 0) (sz' := 2) rfl rfl rfl) ?_)
   ·simp only [cellsSc]
    refine Ghost.ent (fun l => if l = 0 then 0 else if l = 1 then 1 else if l = 2 then 15 else 13) ?_ ?_ ?_ <;> simp -implicitDefEqProofs only [go_sem, ↓reduceIte, Nat.reduceEqDiff, reduceCtorEq, List.forall_mem_cons, List.not_mem_nil, false_implies, implies_true, and_self, List.all_cons, List.all_nil, Nat.reduceLT, labsInL, AV.labsIn]
    all_goals first | rfl | decide | skip
   ·simp only [evS, memP, cellsSc]
    refine Ghost.ent (fun l => if l = 3 then 5 else l) ?_ ?_ ?_ <;> simp -implicitDefEqProofs only [go_sem, ↓reduceIte, Nat.reduceEqDiff, reduceCtorEq, List.map_nil, liftE_nil, mP, List.forall_mem_cons, List.not_mem_nil, false_implies, implies_true, and_self, List.all_cons, List.all_nil, Nat.reduceLT, labsInL, AV.labsIn]
    all_goals first | rfl | decide | skip
  obtain ⟨l, i⟩ := x
  obtain ⟨i1, i2, i3⟩ := hx
  simp only at i1 i2 i3
  simp only [evS, memP, cellsSc]
  by_cases hil : i < S.meths.length
  case neg =>
   have hc1 : ((i : Int) < (S.meths.length : Int)) = False := eq_false (by omega)
   refine AW.rT (by rfl) fun K hK => ?_
   simp -implicitDefEqProofs only [go_sem, ↓reduceIte, Nat.reduceAdd, Nat.reduceEqDiff, hc1]
   refine hK _ ?_; clear hK K
   refine AW.seq ?_
   refine AW.cond _ (by simp -implicitDefEqProofs only [go_sem]; rfl) (fun hc => ?_) (fun hc => ?_)
   ·simp at hc
   refine AW.exit ?_
   simp only [andThen, inBlk, ↓reduceIte]
   refine ⟨l, ⟨?_, i3⟩, ?_⟩
   ·rw [i2, List.drop_of_length_le (by omega)]; rfl
   ·show Ghost _ _ (evS S U l [])
    simp only [evS, memP, cellsSc]
    refine Ghost.sub ?_ ?_ <;> simp -implicitDefEqProofs only [go_sem, ↓reduceIte, Nat.reduceEqDiff, reduceCtorEq, List.forall_mem_cons, List.not_mem_nil, false_implies, implies_true, and_self, labsIn_lift, List.all_cons, List.all_nil, Nat.reduceLT, labsInL, AV.labsIn]
    all_goals first | rfl | decide | skip
  obtain ⟨m, hm⟩ : ∃ m, S.meths[i]? = some m := ⟨_, List.getElem?_eq_getElem hil⟩
  have ⟨hm1, hm2, hm3⟩ := at_map' encMt hm
  have hm2' : (i : Int) < (S.meths.length : Int) := by omega
  have hc1 : ((i : Int) < (S.meths.length : Int)) = True := eq_true (by omega)
  have w1 : IntKind.wrap .i64 ((i : Int) + 1) = ((i + 1 : Nat) : Int) := by rw [w64] <;> omega
  have M1 := check_Method U m.name (by omega)
  have e1 : firstP (fun x => x.name == m.name) zMt U.meths = methOf U m.name := rfl
  rw [e1] at M1
  simp only [encSc, encMt] at M1
  have dr : S.meths.drop i = m :: S.meths.drop (i + 1) := by
   rw [List.drop_eq_getElem_cons hil, (List.getElem?_eq_some_iff.1 hm).2]
  rw [dr, seedP] at i2
  refine AW.rT (by rfl) fun K hK => ?_
  simp -implicitDefEqProofs only [go_sem, ↓reduceIte, Nat.reduceAdd, Nat.reduceEqDiff, hc1]
  refine hK _ ?_; clear hK K
  refine AW.seq ?_
  refine AW.cond _ (by simp -implicitDefEqProofs only [go_sem]; rfl) (fun hc => ?_) (fun hc => ?_)
  rotate_left
  ·simp at hc
  refine AW.skip ?_
  simp only [andThen]
  refine AW.seq ?_
  refine AW.block ?_
  refine AW.rT (by rfl) fun K hK => ?_
  simp -implicitDefEqProofs only [go_sem, ↓reduceIte, Nat.reduceAdd, Nat.reduceEqDiff, Nat.reduceLeDiff, hm1, hm2', hm3, encMt, List.length_map]
  refine hK _ ?_; clear hK K
  refine AW.rT (by rfl) fun K hK => ?_
  simp -implicitDefEqProofs only [go_sem, ↓reduceIte, Nat.reduceAdd, Nat.reduceEqDiff, Nat.reduceLeDiff]
  refine ⟨.pure _, M1, ?_⟩
  try simp -implicitDefEqProofs only [go_sem, ↓reduceIte, Nat.reduceAdd, Nat.reduceEqDiff, Nat.reduceLeDiff]
  refine hK _ ?_; clear hK K
  refine AW.seq ?_
  cases hk : (methOf U m.name).2 with
  | false =>
   rw [if_neg (by rw [hk]; simp)] at i2
   rw [i2] at eE
   refine AW.rT (by rfl) fun K hK => ?_
   simp -implicitDefEqProofs only [go_sem, Nat.reduceAdd]
   refine hK _ ?_; clear hK K
   refine AW.cond _ (by simp -implicitDefEqProofs only [go_sem]; rfl) (fun hc => ?_) (fun hc => ?_)
   rotate_left
   ·simp at hc
   refine AW.rT (by rfl) fun K hK => ?_
   simp -implicitDefEqProofs only [go_sem, ↓reduceIte, Nat.reduceAdd, Nat.reduceEqDiff]
   refine hK _ ?_; clear hK K
   refine AW.ret ?_
   simp -implicitDefEqProofs only [go_sem, ↓reduceIte, Nat.reduceEqDiff, eE, noGo]
  | true =>
  rw [if_pos hk] at i2
  refine AW.rT (by rfl) fun K hK => ?_
  simp -implicitDefEqProofs only [go_sem, Nat.reduceAdd]
  refine hK _ ?_; clear hK K
  refine AW.cond _ (by simp -implicitDefEqProofs only [go_sem]; rfl) (fun hc => ?_) (fun hc => ?_)
  ·simp at hc
  refine AW.skip ?_
  simp only [andThen]
  have hl100 := pairs_len i3 RS.len.2.1 RU.len.2.1
  have mr := RS.meth i m hm
  have mr' := meth_right RU hk
  have A1 := compat_add l ⟨m.inn, (methOf U m.name).1.inn⟩ (by omega)
  have ok1 := addP_ok i3 mr.2.1 mr'.2.2.1 (p := ⟨m.inn, (methOf U m.name).1.inn⟩)
  generalize addP l ⟨m.inn, (methOf U m.name).1.inn⟩ = l1 at *
  have hl101 := pairs_len ok1 RS.len.2.1 RU.len.2.1
  have A2 := compat_add l1 ⟨m.out, (methOf U m.name).1.out⟩ (by omega)
  have ok2 := addP_ok ok1 mr.2.2 mr'.2.2.2 (p := ⟨m.out, (methOf U m.name).1.out⟩)
  generalize addP l1 ⟨m.out, (methOf U m.name).1.out⟩ = l2 at *
  refine AW.rR (SeqR.ev 5 (by rfl) (by decide) ?_)
  simp -implicitDefEqProofs only [go_sem, ↓reduceIte, Nat.reduceAdd, Nat.reduceEqDiff]
  refine SeqR.call (fun k => k + 2) rfl rfl A1 ⟨?_, rfl, ?_, rfl, rfl, rfl, rfl, rfl, memP_by (r := 0) rfl rfl⟩ ?_
  ·simp -implicitDefEqProofs only [go_sem, ↓reduceIte, Nat.reduceEqDiff, argD]
  ·simp only [memP]
   simp -implicitDefEqProofs only [go_sem, ↓reduceIte, Nat.reduceAdd, Nat.reduceEqDiff, reduceCtorEq, List.forall_mem_cons, List.not_mem_nil, false_implies, implies_true]
   first | done | decide
  refine SeqR.last rfl ?_
  refine AW.ghost (s' := evM S U l1 m (methOf U m.name).1 i) ?_ ?_
  ·simp only [evM, memP, cellsSc]
   refine Ghost.ent (fun l => if l = 3 then 27 else if l = 4 then 28 else if l = 5 then 8 else if l = 6 then 17 else l) ?_ ?_ ?_ <;> simp -implicitDefEqProofs only [go_sem, ↓reduceIte, Nat.reduceAdd, Nat.reduceEqDiff, reduceCtorEq, lift2, goneU, newU, Nat.reduceSub, cellsMt, List.forall_mem_cons, List.not_mem_nil, false_implies, implies_true, and_self, map_renL_lift, labsIn_lift, List.all_cons, List.all_nil, Nat.reduceLT, labsInL, AV.labsIn]
   all_goals first | rfl | decide | skip
  simp only [evM, memP, cellsSc, cellsMt]
  refine AW.rRE (SeqR.ev 5 (by rfl) (by decide) ?_)
  simp -implicitDefEqProofs only [go_sem, ↓reduceIte, Nat.reduceAdd, Nat.reduceEqDiff, reduceCtorEq]
  refine SeqR.call (fun k => k + 2) rfl rfl A2 ⟨?_, rfl, ?_, rfl, rfl, rfl, rfl, rfl, memP_by (r := 0) rfl rfl⟩ ?_
  ·simp -implicitDefEqProofs only [go_sem, ↓reduceIte, Nat.reduceEqDiff, argD]
  ·simp only [memP]
   simp -implicitDefEqProofs only [go_sem, ↓reduceIte, Nat.reduceAdd, Nat.reduceEqDiff, reduceCtorEq, List.forall_mem_cons, List.not_mem_nil, false_implies, implies_true]
   first | done | decide
  refine SeqR.last rfl ?_
  simp only []
  refine AW.ghost (s' := evM S U l2 m (methOf U m.name).1 i) ?_ ?_
  ·simp only [evM, memP, cellsSc]
   refine Ghost.ent (fun l => if l = 3 then 12 else if l = 4 then 13 else l) ?_ ?_ ?_ <;> simp -implicitDefEqProofs only [go_sem, ↓reduceIte, Nat.reduceAdd, Nat.reduceEqDiff, reduceCtorEq, lift2, goneU, newU, Nat.reduceSub, cellsMt, List.forall_mem_cons, List.not_mem_nil, false_implies, implies_true, and_self, map_renL_lift, labsIn_lift, List.all_cons, List.all_nil, Nat.reduceLT, labsInL, AV.labsIn]
   all_goals first | rfl | decide | skip
  simp only [evM, memP, cellsSc, cellsMt]
  refine AW.rE (by rfl) fun K hK => ?_
  simp -implicitDefEqProofs only [go_sem, ↓reduceIte, Nat.reduceAdd, Nat.reduceEqDiff, w1]
  refine hK _ ?_; clear hK K
  refine ⟨(l2, i + 1), ⟨by omega, i2, ok2⟩, by simp only; omega, ?_⟩
  show Ghost _ _ (evS S U l2 [(32, .p (.slice (S.meths.map encMt))), (33, .p (.int .i64 (S.meths.length : Int))), (34, .p (.int .i64 ((i + 1 : Nat) : Int)))])
  simp only [evS, memP, cellsSc]
  refine Ghost.sub ?_ ?_ <;> simp -implicitDefEqProofs only [go_sem, ↓reduceIte, Nat.reduceEqDiff, reduceCtorEq, List.forall_mem_cons, List.not_mem_nil, false_implies, implies_true, and_self, labsIn_lift, List.all_cons, List.all_nil, Nat.reduceLT, labsInL, AV.labsIn]
  all_goals first | rfl | decide | skip
 obtain ⟨hl1, hl2⟩ := hl
 rw [hl1] at eE
 simp only at eE
 have okl := hl2
 clear hl2 hl1
 simp only [evS, memP, cellsSc]
 refine AW.rT (by rfl) fun K hK => ?_
 simp -implicitDefEqProofs only [go_sem, Nat.reduceAdd]
 refine hK _ ?_; clear hK K
 refine AW.seq ?_
 refine AW.label ?_
 simp only [andThen]
 refine AW.cut (fun x : List UInt8 × Int => ⟨ofL [(12, .p (.str x.1)), (13, .p (.int .i64 x.2))], ofH [], 0⟩) (fun x => evoP S U = (x.1, x.2, x.2 == 0)) ?_ fun x hx => ?_
 rotate_left
 ·refine AW.rT (by rfl) fun K hK => ?_
  simp -implicitDefEqProofs only [go_sem, ↓reduceIte, Nat.reduceAdd, Nat.reduceEqDiff]
  refine hK _ ?_; clear hK K
  refine AW.ret ?_
  simp -implicitDefEqProofs only [go_sem, ↓reduceIte, Nat.reduceEqDiff, hx, noGo]
 refine AW.rT (by rfl) fun K hK => ?_
 simp -implicitDefEqProofs only [go_sem, Nat.reduceAdd]
 refine hK _ ?_; clear hK K
 refine AW.block ?_
 refine AW.loop (fun x : List Pr × Nat => evS S U x.1 [(12, .p (.str [])), (13, .p (.int .i64 0)), (14, .p (.int .i64 (x.2 : Int)))]) (fun x => x.2 ≤ x.1.length ∧ evoP S U = walkP S U (101 - x.2) x.2 x.1 ∧ PairsOK S U x.1) (fun x => 101 - x.2) (l, 0) ?_ ⟨Nat.zero_le _, eE, okl⟩ fun x hx => ?_
 ·simp only [evS, memP, cellsSc]
  refine Ghost.sub ?_ ?_ <;> simp -implicitDefEqProofs only [go_sem, ↓reduceIte, Nat.reduceEqDiff, reduceCtorEq, List.forall_mem_cons, List.not_mem_nil, false_implies, implies_true, and_self, labsIn_lift, List.all_cons, List.all_nil, Nat.reduceLT, labsInL, AV.labsIn]
  all_goals first | rfl | decide | skip
 clear eE okl
 obtain ⟨l, i⟩ := x
 obtain ⟨i1, eE, okl⟩ := hx
 simp only at i1 eE okl
 have hl100 := pairs_len okl RS.len.2.1 RU.len.2.1
 simp only [evS, memP, cellsSc]
 refine AW.seq ?_
 by_cases hil : i < l.length
 case neg =>
  have hc1 : ((i : Int) < (l.length : Int)) = False := eq_false (by omega)
  rw [walkP_end _ _ _ (by omega)] at eE
  refine AW.rT (by rfl) fun K hK => ?_
  simp -implicitDefEqProofs only [go_sem, ↓reduceIte, Nat.reduceAdd, Nat.reduceEqDiff, reduceCtorEq, hc1, liftE_length, List.length_map]
  refine hK _ ?_; clear hK K
  refine AW.cond _ (by simp -implicitDefEqProofs only [go_sem]; rfl) (fun hc => ?_) (fun hc => ?_)
  ·simp at hc
  refine AW.exit ?_
  simp only [andThen, inBlk, ↓reduceIte]
  refine ⟨([], 0), eE, ?_⟩
  refine Ghost.sub ?_ ?_ <;> simp -implicitDefEqProofs only [go_sem, ↓reduceIte, Nat.reduceEqDiff, List.forall_mem_cons, List.not_mem_nil, false_implies, implies_true, and_self, AV.labsIn]
 obtain ⟨p, hp⟩ : ∃ p, l[i]? = some p := ⟨_, List.getElem?_eq_getElem hil⟩
 rw [walkP_at hp (by omega)] at eE
 have g1 := at_lift encPr hp
 have b0 : 0 ≤ (i : Int) := by omega
 have b1 : (i : Int) < (l.length : Int) := by omega
 have hc1 : ((i : Int) < (l.length : Int)) = True := eq_true (by omega)
 have w1 : IntKind.wrap .i64 ((i : Int) + 1) = ((i + 1 : Nat) : Int) := by rw [w64] <;> omega
 have hh := okl.here p (List.mem_of_getElem? hp)
 have hmo := (msgOf_mem hh.1).1
 have hmn := (msgOf_mem hh.2).1
 have M1 := check_Message S p.o (by omega)
 have M2 := check_Message U p.n (by omega)
 have e1 : firstP (fun x => x.name == p.o) zMs S.msgs = (msgOf S p.o, true) := by rw [← hh.1]; rfl
 have e2 : firstP (fun x => x.name == p.n) zMs U.msgs = (msgOf U p.n, true) := by rw [← hh.2]; rfl
 rw [e1] at M1
 rw [e2] at M2
 simp only [encSc, encMs] at M1 M2
 simp only [encPr, List.map_cons, List.map_nil] at g1
 refine AW.rT (by rfl) fun K hK => ?_
 simp -implicitDefEqProofs only [go_sem, ↓reduceIte, Nat.reduceAdd, Nat.reduceEqDiff, reduceCtorEq, hc1, liftE_length, List.length_map]
 refine hK _ ?_; clear hK K
 refine AW.cond _ (by simp -implicitDefEqProofs only [go_sem]; rfl) (fun hc => ?_) (fun hc => ?_)
 rotate_left
 ·simp at hc
 refine AW.skip ?_
 simp only [andThen]
 refine AW.seq ?_
 refine AW.block ?_
 refine AW.dT mixed (by rfl) (by decide +kernel) fun K hK => ?_
 simp -implicitDefEqProofs only [go_sem, ↓reduceIte, Nat.reduceAdd, Nat.reduceEqDiff, Nat.reduceLeDiff, reduceCtorEq, g1, b0, b1, liftE_length, List.length_map]
 refine ⟨.pure _, M1, ?_⟩
 try simp -implicitDefEqProofs only [go_sem, ↓reduceIte, Nat.reduceAdd, Nat.reduceEqDiff, Nat.reduceLeDiff]
 refine ⟨by decide +kernel, ?_⟩
 refine hK _ ?_; clear hK K
 refine AW.dT mixed (by rfl) (by decide +kernel) fun K hK => ?_
 simp -implicitDefEqProofs only [go_sem, ↓reduceIte, Nat.reduceAdd, Nat.reduceEqDiff, Nat.reduceLeDiff, reduceCtorEq, g1, b0, b1, liftE_length, List.length_map]
 refine ⟨.pure _, M2, ?_⟩
 try simp -implicitDefEqProofs only [go_sem, ↓reduceIte, Nat.reduceAdd, Nat.reduceEqDiff, Nat.reduceLeDiff]
 refine ⟨by decide +kernel, ?_⟩
 refine hK _ ?_; clear hK K
 refine AW.rT (by rfl) fun K hK => ?_
 simp -implicitDefEqProofs only [go_sem, Nat.reduceAdd]
 refine hK _ ?_; clear hK K
 refine AW.block ?_
 refine AW.loop (fun x : List Pr × Nat => evI S U (msgOf S p.o) (msgOf U p.n) x.1 i [(19, .p (.int .i64 (x.2 : Int)))]) (fun x => x.2 ≤ 501 ∧ 1 ≤ x.2 ∧ i < x.1.length ∧ evoP S U = evNx S U p i (tagsP S U (msgOf S p.o) (msgOf U p.n) (501 - x.2) (x.2 : Int) x.1) ∧ PairsOK S U x.1) (fun x => 501 - x.2) (l, 1) ?_ ⟨by simp, by simp, hil, eE, okl⟩ fun x hx => ?_
 ·simp only [evI, memP, cellsSc, cellsMs]
  refine Ghost.ent (fun l => if l = 5 then 25 else if l = 6 then 41 else l) ?_ ?_ ?_ <;> simp -implicitDefEqProofs only [go_sem, ↓reduceIte, Nat.reduceEqDiff, reduceCtorEq, Int.cast_ofNat_Int, List.forall_mem_cons, List.not_mem_nil, false_implies, implies_true, and_self, map_renL_lift, labsIn_lift, List.all_cons, List.all_nil, Nat.reduceLT, labsInL, AV.labsIn]
  all_goals first | rfl | decide | skip
 clear eE okl hl100 g1 hc1 hil hp i1 M1 M2
 obtain ⟨l, n⟩ := x
 obtain ⟨n1, n2, hil, eE, okl⟩ := hx
 simp only at n1 n2 hil eE okl
 have hl100 := pairs_len okl RS.len.2.1 RU.len.2.1
 simp only [evI, memP, cellsSc, cellsMs]
 refine AW.seq ?_
 by_cases hn : n ≤ 500
 case neg =>
  have hc1 : ((n : Int) ≤ 500) = False := eq_false (by omega)
  rw [show 501 - n = 0 by omega] at eE
  refine AW.rT (by rfl) fun K hK => ?_
  simp -implicitDefEqProofs only [go_sem, ↓reduceIte, Nat.reduceAdd, Nat.reduceEqDiff, hc1]
  refine hK _ ?_; clear hK K
  refine AW.cond _ (by simp -implicitDefEqProofs only [go_sem]; rfl) (fun hc => ?_) (fun hc => ?_)
  ·simp at hc
  refine AW.exit ?_
  simp only [andThen, inBlk, ↓reduceIte]
  refine AW.rE (by rfl) fun K hK => ?_
  simp -implicitDefEqProofs only [go_sem, ↓reduceIte, Nat.reduceAdd, Nat.reduceEqDiff, w1]
  refine hK _ ?_; clear hK K
  refine ⟨(l, i + 1), ⟨by simp only; omega, ?_, okl⟩, by simp only; omega, ?_⟩
  ·simp only
   rw [eE, show 101 - (i + 1) = 100 - i by omega]; rfl
  ·show Ghost _ _ (evS S U l [(12, .p (.str [])), (13, .p (.int .i64 0)), (14, .p (.int .i64 ((i + 1 : Nat) : Int)))])
   simp only [evS, memP, cellsSc]
   refine Ghost.sub ?_ ?_ <;> simp -implicitDefEqProofs only [go_sem, ↓reduceIte, Nat.reduceEqDiff, reduceCtorEq, List.forall_mem_cons, List.not_mem_nil, false_implies, implies_true, and_self, labsIn_lift, List.all_cons, List.all_nil, Nat.reduceLT, labsInL, AV.labsIn]
   all_goals first | rfl | decide | skip
 have hc1 : ((n : Int) ≤ 500) = True := eq_true (by omega)
 have w2 : IntKind.wrap .i64 ((n : Int) + 1) = ((n + 1 : Nat) : Int) := by rw [w64] <;> omega
 have no1 := (fit_msgs FS hmo).no
 have no2 := (fit_msgs FU hmn).no
 have ST := compat_stays S U (msgOf S p.o) (msgOf U p.n) (n : Int) l (by omega) (by omega) (by omega) (by omega) (by omega) HF
 rw [show 501 - n = (500 - n) + 1 by omega, tagsP] at eE
 refine AW.rT (by rfl) fun K hK => ?_
 simp -implicitDefEqProofs only [go_sem, ↓reduceIte, Nat.reduceAdd, Nat.reduceEqDiff, hc1]
 refine hK _ ?_; clear hK K
 refine AW.cond _ (by simp -implicitDefEqProofs only [go_sem]; rfl) (fun hc => ?_) (fun hc => ?_)
 rotate_left
 ·simp at hc
 refine AW.skip ?_
 simp only [andThen]
 refine AW.seq ?_
 refine AW.block ?_
 refine AW.rR (SeqR.ev 6 (by rfl) (by decide) ?_)
 simp -implicitDefEqProofs only [go_sem, ↓reduceIte, Nat.reduceAdd, Nat.reduceEqDiff, Nat.reduceLeDiff, reduceCtorEq]
 refine SeqR.call (fun k => k + 2) rfl rfl ST ⟨?_, rfl, ?_, rfl, rfl, rfl, rfl, rfl, memP_by (r := 0) rfl rfl⟩ ?_
 ·simp -implicitDefEqProofs only [go_sem, ↓reduceIte, Nat.reduceEqDiff, argD, encSc, encMs]
 ·simp only [memP]
  simp -implicitDefEqProofs only [go_sem, ↓reduceIte, Nat.reduceAdd, Nat.reduceEqDiff, reduceCtorEq, List.forall_mem_cons, List.not_mem_nil, false_implies, implies_true]
  first | done | decide
 refine SeqR.ev 1 (by rfl) (by decide) ?_
 simp -implicitDefEqProofs only [go_sem, Nat.reduceAdd]
 refine SeqR.last rfl ?_
 cases hb : stayB S U (msgOf S p.o) (msgOf U p.n) (n : Int) with
 | false =>
  rw [if_neg (by rw [hb]; simp)] at eE
  refine AW.cond _ (by simp -implicitDefEqProofs only [go_sem]; rfl) (fun hc => ?_) (fun hc => ?_)
  rotate_left
  ·simp at hc
  refine AW.rT (by rfl) fun K hK => ?_
  simp -implicitDefEqProofs only [go_sem, ↓reduceIte, Nat.reduceAdd, Nat.reduceEqDiff]
  refine hK _ ?_; clear hK K
  refine AW.exit ?_
  simp only [andThen, inBlk, ↓reduceIte]
  refine ⟨(p.o, (n : Int)), ?_, ?_⟩
  ·simp only
   rw [eE]
   have : ((n : Int) == 0) = false := beq_eq_false_iff_ne.2 (by omega)
   rw [this]; rfl
  ·show Ghost _ _ ⟨ofL [(12, .p (.str p.o)), (13, .p (.int .i64 (n : Int)))], ofH [], 0⟩
   refine Ghost.sub ?_ ?_ <;> simp -implicitDefEqProofs only [go_sem, ↓reduceIte, Nat.reduceEqDiff, (msgOf_mem hh.1).2, List.forall_mem_cons, List.not_mem_nil, false_implies, implies_true, and_self, AV.labsIn]
 | true =>
  rw [if_pos hb] at eE
  have okl' := stayL_ok RS RU hmo hmn (t := (n : Int)) okl
  have il' : i < (stayL S U (msgOf S p.o) (msgOf U p.n) (n : Int) l).length := Nat.lt_of_lt_of_le hil stayL_len.1
  generalize stayL S U (msgOf S p.o) (msgOf U p.n) (n : Int) l = l' at *
  refine AW.cond _ (by simp -implicitDefEqProofs only [go_sem]; rfl) (fun hc => ?_) (fun hc => ?_)
  ·simp at hc
  refine AW.skip ?_
  simp only [andThen, inBlk]
  refine AW.ghost (s' := evI S U (msgOf S p.o) (msgOf U p.n) l' i [(19, .p (.int .i64 (n : Int)))]) ?_ ?_
  ·simp only [evI, memP, cellsSc, cellsMs]
   refine Ghost.ent (fun l => if l = 3 then 15 else if l = 4 then 16 else l) ?_ ?_ ?_ <;> simp -implicitDefEqProofs only [go_sem, ↓reduceIte, Nat.reduceAdd, Nat.reduceEqDiff, reduceCtorEq, lift2, goneU, newU, Nat.reduceSub, List.forall_mem_cons, List.not_mem_nil, false_implies, implies_true, and_self, map_renL_lift, labsIn_lift, List.all_cons, List.all_nil, Nat.reduceLT, labsInL, AV.labsIn]
   all_goals first | rfl | decide | skip
  simp only [evI, memP, cellsSc, cellsMs]
  refine AW.rE (by rfl) fun K hK => ?_
  simp -implicitDefEqProofs only [go_sem, ↓reduceIte, Nat.reduceAdd, Nat.reduceEqDiff, w2]
  refine hK _ ?_; clear hK K
  refine ⟨(l', n + 1), ⟨by simp only; omega, by simp only; omega, il', ?_, okl'⟩, by simp only; omega, ?_⟩
  ·simp only
   rw [eE, show 501 - (n + 1) = 500 - n by omega]
   push_cast
   rfl
  ·show Ghost _ _ (evI S U (msgOf S p.o) (msgOf U p.n) l' i [(19, .p (.int .i64 ((n + 1 : Nat) : Int)))])
   simp only [evI, memP, cellsSc, cellsMs]
   refine Ghost.sub ?_ ?_ <;> simp -implicitDefEqProofs only [go_sem, ↓reduceIte, Nat.reduceEqDiff, reduceCtorEq, List.forall_mem_cons, List.not_mem_nil, false_implies, implies_true, and_self, labsIn_lift, List.all_cons, List.all_nil, Nat.reduceLT, labsInL, AV.labsIn]
   all_goals first | rfl | decide | skip
end Go.Aw
namespace Go.Aw
open Go.Proofs Go.RowKit
set_option linter.unusedSimpArgs false
set_option linter.unusedVariables false
def vF : Fd := ⟨[120], 3, 1, ⟨1, []⟩⟩
def vT : Mt := ⟨[99], [109], [109]⟩
def vS1 : Sc := ⟨[97], [⟨[109], [vF], []⟩], [], [vT]⟩
def vS2 : Sc := ⟨[97], [⟨[109], [], []⟩], [], [vT]⟩
theorem vS1_lens : LensS vS1 := lens_few (by decide +kernel)
theorem vS2_lens : LensS vS2 := lens_few (by decide +kernel)
theorem v_yes : evoP vS1 vS1 = ([], 0, true) := by decide +kernel
theorem v_no : evoP vS1 vS2 = ([109], 3, false) := by decide +kernel
def vk0 : St := ⟨ofL [(2, .ptr 0 0 0), (3, .ptr 1 0 0)], ofH [(0, .row 4 [[.p (.str [97]), .own 2, .ex [], .own 4]]), (1, .row 4 [[.p (.str [97]), .own 5, .ex [], .own 6]]), (2, .row 3 [[.p (.str [109]), .own 3, .ex []]]), (3, .row 5 (liftE ([vF].map encFd))), (4, .row 3 (liftE ([vT].map encMt))), (5, .row 3 [[.p (.str [109]), .ex [], .ex []]]), (6, .row 3 (liftE ([vT].map encMt)))], 7⟩
def vM1 : List AV := [.p (.str [109]), .p (.slice ([vF].map encFd)), .ex []]
def vk1 : St := ⟨ofL [(2, .ptr 0 0 0), (3, .ptr 1 0 0)], ofH [(0, .row 4 [[.p (.str [97]), .own 2, .ex [], .own 4]]), (1, .row 4 [[.p (.str [97]), .own 5, .ex [], .own 6]]), (2, .row 3 [vM1]), (4, .row 3 (liftE ([vT].map encMt))), (5, .row 3 [[.p (.str [109]), .ex [], .ex []]]), (6, .row 3 (liftE ([vT].map encMt)))], 7⟩
def vk2 : St := ⟨ofL [(2, .ptr 0 0 0), (3, .ptr 1 0 0)], ofH [(0, .row 4 [[.p (.str [97]), .p (.slice [encMs ⟨[109], [vF], []⟩]), .ex [], .own 4]]), (1, .row 4 [[.p (.str [97]), .own 5, .ex [], .own 6]]), (4, .row 3 (liftE ([vT].map encMt))), (5, .row 3 [[.p (.str [109]), .ex [], .ex []]]), (6, .row 3 (liftE ([vT].map encMt)))], 7⟩
def vR1 : List AV := [.p (.str [97]), .p (.slice [encMs ⟨[109], [vF], []⟩]), .ex [], .p (.slice ([vT].map encMt))]
def vR2 : List AV := [.p (.str [97]), .p (.slice [encMs ⟨[109], [], []⟩]), .ex [], .p (.slice ([vT].map encMt))]
def vk3 : St := ⟨ofL [(2, .ptr 0 0 0), (3, .ptr 1 0 0)], ofH [(0, .row 4 [vR1]), (1, .row 4 [[.p (.str [97]), .own 5, .ex [], .own 6]]), (5, .row 3 [[.p (.str [109]), .ex [], .ex []]]), (6, .row 3 (liftE ([vT].map encMt)))], 7⟩
def vk4 : St := ⟨ofL [(2, .ptr 0 0 0), (3, .ptr 1 0 0)], ofH [(0, .row 4 [vR1]), (1, .row 4 [[.p (.str [97]), .p (.slice [encMs ⟨[109], [], []⟩]), .ex [], .own 6]]), (6, .row 3 (liftE ([vT].map encMt)))], 7⟩
def vk5 : St := ⟨ofL [(2, .ptr 0 0 0), (3, .ptr 1 0 0)], ofH [(0, .row 4 [vR1]), (1, .row 4 [vR2])], 7⟩
set_option maxRecDepth 100000 in
set_option maxHeartbeats 4000000 in
theorem law14_awake : PFn Tryd.prog 41 [] (.bool true) := by
 refine PFn.of Tryd.func41 rfl (by decide) Tryd.ntmps41 Tryd.results41 (Nat.le_of_ble_eq_true rfl) ?_
 simp only [argsT]
 refine AW.rT (by rfl) fun K hK => ?_
 simp -implicitDefEqProofs only [go_sem]
 refine hK _ ?_; clear hK K
 refine AW.rT (by rfl) fun K hK => ?_
 simp -implicitDefEqProofs only [go_sem, ↓reduceIte, Nat.reduceAdd, Nat.reduceEqDiff, Nat.reduceLeDiff]
 refine hK _ ?_; clear hK K
 refine AW.rT (by rfl) fun K hK => ?_
 simp -implicitDefEqProofs only [go_sem, ↓reduceIte, Nat.reduceAdd, Nat.reduceMul, Nat.reduceEqDiff, Nat.reduceLeDiff]
 refine hK _ ?_; clear hK K
 refine AW.rT (by rfl) fun K hK => ?_
 simp -implicitDefEqProofs only [go_sem, ↓reduceIte, Nat.reduceAdd, Nat.reduceMul, Nat.reduceEqDiff, Nat.reduceLeDiff]
 refine hK _ ?_; clear hK K
 refine AW.ghost (s' := vk0) ?_ ?_
 ·simp only [vk0]
  refine Ghost.ent (fun l => if l = 0 then 12 else if l = 1 then 19 else if l = 2 then 8 else if l = 3 then 6 else if l = 4 then 10 else if l = 5 then 15 else 17) ?_ ?_ ?_ <;> simp -implicitDefEqProofs only [go_sem, ↓reduceIte, Nat.reduceEqDiff, reduceCtorEq, vF, vT, encFd, encMt, liftE_cons, liftE_nil, List.map_cons, List.map_nil, List.forall_mem_cons, List.not_mem_nil, false_implies, implies_true, and_self, List.all_cons, List.all_nil, Nat.reduceLT, labsInL, AV.labsIn]
  all_goals first | rfl | decide | skip
 refine AW.ghost (s' := vk1) (Ghost.trans (Ghost.freeze (lb := 3) (ps := [vF].map encFd) rfl (unlift_liftE _)) ?_) ?_
 ·simp only [vk0, vk1]
  refine Ghost.sub ?_ ?_ <;> simp -implicitDefEqProofs only [go_sem, ↓reduceIte, Nat.reduceEqDiff, reduceCtorEq, thaw, thaw1, Option.map_some, List.map_cons, List.map_nil, vM1, vF, vT, encFd, encMt, liftE_cons, liftE_nil, List.forall_mem_cons, List.not_mem_nil, false_implies, implies_true, and_self, List.all_cons, List.all_nil, Nat.reduceLT, labsInL, AV.labsIn]
  all_goals first | rfl | decide | skip
 refine AW.ghost (s' := vk2) (Ghost.trans (Ghost.freeze (lb := 2) (ps := [encMs ⟨[109], [vF], []⟩]) rfl (by rfl)) ?_) ?_
 ·simp only [vk1, vk2]
  refine Ghost.sub ?_ ?_ <;> simp -implicitDefEqProofs only [go_sem, ↓reduceIte, Nat.reduceEqDiff, reduceCtorEq, thaw, thaw1, Option.map_some, List.map_cons, List.map_nil, vM1, vF, vT, encFd, encMs, encMt, liftE_cons, liftE_nil, List.forall_mem_cons, List.not_mem_nil, false_implies, implies_true, and_self, List.all_cons, List.all_nil, Nat.reduceLT, labsInL, AV.labsIn]
  all_goals first | rfl | decide | skip
 refine AW.ghost (s' := vk3) (Ghost.trans (Ghost.freeze (lb := 4) (ps := [vT].map encMt) rfl (unlift_liftE _)) ?_) ?_
 ·simp only [vk2, vk3]
  refine Ghost.sub ?_ ?_ <;> simp -implicitDefEqProofs only [go_sem, ↓reduceIte, Nat.reduceEqDiff, reduceCtorEq, thaw, thaw1, Option.map_some, List.map_cons, List.map_nil, vR1, vF, vT, encFd, encMs, encMt, liftE_cons, liftE_nil, List.forall_mem_cons, List.not_mem_nil, false_implies, implies_true, and_self, List.all_cons, List.all_nil, Nat.reduceLT, labsInL, AV.labsIn]
  all_goals first | rfl | decide | skip
 refine AW.ghost (s' := vk4) (Ghost.trans (Ghost.freeze (lb := 5) (ps := [encMs ⟨[109], [], []⟩]) rfl (by rfl)) ?_) ?_
 ·simp only [vk3, vk4]
  refine Ghost.sub ?_ ?_ <;> simp -implicitDefEqProofs only [go_sem, ↓reduceIte, Nat.reduceEqDiff, reduceCtorEq, thaw, thaw1, Option.map_some, List.map_cons, List.map_nil, vR1, vF, vT, encFd, encMs, encMt, liftE_cons, liftE_nil, List.forall_mem_cons, List.not_mem_nil, false_implies, implies_true, and_self, List.all_cons, List.all_nil, Nat.reduceLT, labsInL, AV.labsIn]
  all_goals first | rfl | decide | skip
 refine AW.ghost (s' := vk5) (Ghost.trans (Ghost.freeze (lb := 6) (ps := [vT].map encMt) rfl (unlift_liftE _)) ?_) ?_
 ·simp only [vk4, vk5]
  refine Ghost.sub ?_ ?_ <;> simp -implicitDefEqProofs only [go_sem, ↓reduceIte, Nat.reduceEqDiff, reduceCtorEq, thaw, thaw1, Option.map_some, List.map_cons, List.map_nil, vR1, vR2, vF, vT, encFd, encMs, encMt, liftE_cons, liftE_nil, List.forall_mem_cons, List.not_mem_nil, false_implies, implies_true, and_self, List.all_cons, List.all_nil, Nat.reduceLT, labsInL, AV.labsIn]
  all_goals first | rfl | decide | skip
 simp only [vk5, vR1, vR2]
 have C1 := compat_Evolves vS1 vS1 vS1_lens vS1_lens
 have C2 := compat_Evolves vS1 vS2 vS1_lens vS2_lens
 rw [v_yes] at C1
 rw [v_no] at C2
 simp only [encSc, vS1, vS2, List.map_cons, List.map_nil] at C1 C2
 refine AW.rT (by rfl) fun K hK => ?_
 simp -implicitDefEqProofs only [go_sem, ↓reduceIte, Nat.reduceAdd, Nat.reduceEqDiff, Nat.reduceLeDiff]
 refine ⟨.pure _, C1, ?_⟩
 try simp -implicitDefEqProofs only [go_sem, ↓reduceIte, Nat.reduceAdd, Nat.reduceEqDiff]
 refine hK _ ?_; clear hK K
 refine AW.rT (by rfl) fun K hK => ?_
 simp -implicitDefEqProofs only [go_sem, ↓reduceIte, Nat.reduceAdd, Nat.reduceEqDiff, Nat.reduceLeDiff]
 refine ⟨.pure _, C2, ?_⟩
 try simp -implicitDefEqProofs only [go_sem, ↓reduceIte, Nat.reduceAdd, Nat.reduceEqDiff]
 refine hK _ ?_; clear hK K
 refine AW.rT (by rfl) fun K hK => ?_
 simp -implicitDefEqProofs only [go_sem, ↓reduceIte, Nat.reduceAdd, Nat.reduceEqDiff]
 refine hK _ ?_; clear hK K
 refine AW.ret ?_
 simp -implicitDefEqProofs only [go_sem]
end Go.Aw
namespace Go.Aw
open Go.Proofs Go.RowKit
set_option linter.unusedSimpArgs false
set_option linter.unusedVariables false
def rowN (k : List UInt8) : Blk := .row 4 [[.p (.str k), .own 1, .own 2, .own 3]]
def F9 (S : Sc) (k : List UInt8) : List (Nat × Blk) := (4, rowN k) :: F5 S
theorem F5_ok (S : Sc) : FOK (F5 S) := by
 refine ⟨fun x hx => ?_, fun x hx y hy e => ?_, fun x hx => ?_⟩
 ·simp only [F5, List.mem_cons, List.not_mem_nil, or_false] at hx
  rcases hx with rfl | rfl <;> simp
 ·simp only [F5, List.mem_cons, List.not_mem_nil, or_false] at hx hy
  rcases hx with rfl | rfl <;> rcases hy with rfl | rfl <;> first | rfl | (simp at e)
 ·simp only [F5, List.mem_cons, List.not_mem_nil, or_false] at hx
  rcases hx with rfl | rfl
  ·exact ⟨labsIn_lift _ _, labsIn_lift _ _⟩
  ·exact ⟨rfl, rfl⟩
theorem F9_ok (S : Sc) (k : List UInt8) : FOK (F9 S k) := by
 refine ⟨fun x hx => ?_, fun x hx y hy e => ?_, fun x hx => ?_⟩
 ·simp only [F9, F5, List.mem_cons, List.not_mem_nil, or_false] at hx
  rcases hx with rfl | rfl | rfl <;> simp
 ·simp only [F9, F5, List.mem_cons, List.not_mem_nil, or_false] at hx hy
  rcases hx with rfl | rfl | rfl <;> rcases hy with rfl | rfl | rfl <;> first | rfl | (simp at e)
 ·simp only [F9, F5, List.mem_cons, List.not_mem_nil, or_false] at hx
  rcases hx with rfl | rfl | rfl
  ·exact ⟨rfl, rfl⟩
  ·exact ⟨labsIn_lift _ _, labsIn_lift _ _⟩
  ·exact ⟨rfl, rfl⟩
theorem F5_by (S : Sc) : ∀ x ∈ F5 S, x.2.labsBy (fun k => k != 4) = true := by
 intro x hx
 simp only [F5, List.mem_cons, List.not_mem_nil, or_false] at hx
 rcases hx with rfl | rfl
 ·exact labsBy_lift
 ·rfl
theorem F5_no4 (S : Sc) : ∀ x ∈ F5 S, x.1 ≠ 4 := by
 intro x hx
 simp only [F5, List.mem_cons, List.not_mem_nil, or_false] at hx
 rcases hx with rfl | rfl <;> simp
theorem upd_upd {α : Type} (f : Nat → Option α) (i : Nat) (a b : Option α) : upd (upd f i a) i b = upd f i b := by
 funext j
 by_cases h : j = i
 ·subst h; rw [upd_same, upd_same]
 ·rw [upd_ne _ _ h, upd_ne _ _ h, upd_ne _ _ h]
theorem shut9 {nt : Fm} (S : Sc) (k : List UInt8) (l : List Ms) (es : List En) {T : List (Nat × AV)} {f r g : Nat → Bool} (hT : TOK T) (hT3 : ∀ x ∈ T, ∀ lb ps, thaw lb ps x.2 = x.2) (hN : NoG l es) :
  Ghost nt ⟨ofL T, ofH (memG (F9 S k) l f r es g), 100⟩ ⟨ofL T, ofH [(4, .row 4 [cellsSc ⟨k, l, es, S.meths⟩]), (5, .row 4 [cellsSc S])], 100⟩ := by
 refine Ghost.trans (shutG hT (F9_ok S k) hN) ?_
 have tm : ∀ {lb : Nat} {ps : List (List PV)}, ∀ x ∈ T, (ofL T x.1).map (thaw lb ps) = some x.2 ∧ x.2.labsIn 100 = true := fun x hx => by
  obtain ⟨h1, h2, _⟩ := hT x hx
  rw [h1, Option.map_some, hT3 x hx]
  exact ⟨rfl, h2.2⟩
 refine Ghost.trans (s' := ⟨ofL T, ofH [(4, .row 4 [[.p (.str k), .p (.slice (l.map encMs)), .own 2, .own 3]]), (3, .row 3 (liftE (S.meths.map encMt))), (5, .row 4 [cellsSc S]), (2, .row 2 (liftE (es.map encEn)))], 100⟩) (Ghost.trans (Ghost.freeze (lb := 1) (ps := l.map encMs) rfl (unlift_liftE _)) (Ghost.sub tm ?_)) ?_
 ·simp only [F9, F5, rowN, cellsSc, List.cons_append, List.nil_append]
  simp -implicitDefEqProofs only [go_sem, ↓reduceIte, Nat.reduceEqDiff, List.forall_mem_cons, List.not_mem_nil, false_implies, implies_true, thaw1, Option.map_some, List.map_cons, List.map_nil, thaw_lift, labsIn_lift]
  first | done | decide
 refine Ghost.trans (s' := ⟨ofL T, ofH [(4, .row 4 [[.p (.str k), .p (.slice (l.map encMs)), .p (.slice (es.map encEn)), .own 3]]), (3, .row 3 (liftE (S.meths.map encMt))), (5, .row 4 [cellsSc S])], 100⟩) (Ghost.trans (Ghost.freeze (lb := 2) (ps := es.map encEn) rfl (unlift_liftE _)) (Ghost.sub tm ?_)) ?_
 ·simp only [cellsSc]
  simp -implicitDefEqProofs only [go_sem, ↓reduceIte, Nat.reduceEqDiff, List.forall_mem_cons, List.not_mem_nil, false_implies, implies_true, thaw1, Option.map_some, List.map_cons, List.map_nil, thaw_lift, labsIn_lift]
  first | done | decide
 refine Ghost.trans (Ghost.freeze (lb := 3) (ps := S.meths.map encMt) rfl (unlift_liftE _)) (Ghost.sub tm ?_)
 simp only [cellsSc]
 simp -implicitDefEqProofs only [go_sem, ↓reduceIte, Nat.reduceEqDiff, List.forall_mem_cons, List.not_mem_nil, false_implies, implies_true, thaw1, Option.map_some, List.map_cons, List.map_nil]
 first | done | decide
end Go.Aw
namespace Go.Aw
open Go.Proofs Go.RowKit
set_option linter.unusedSimpArgs false
set_option linter.unusedVariables false
end Go.Aw
namespace Go.Aw
open Go.RowKit
variable {P : Program}
end Go.Aw
namespace Go.Aw
open Go.Proofs Go.RowKit
set_option linter.unusedSimpArgs false
set_option linter.unusedVariables false
end Go.Aw
namespace Go.Aw
open Go.Proofs Go.RowKit
set_option linter.unusedSimpArgs false
set_option linter.unusedVariables false
theorem first_mem {α : Type} {p : α → Bool} {z : α} {l : List α} : (firstP p z l).1 ∈ l ∨ (firstP p z l).1 = z := by
 unfold firstP
 cases h : l.find? p with
 | none => exact .inr rfl
 | some a => exact .inl (List.mem_of_find?_eq_some h)
theorem FewS.msg {S : Sc} (F : FewS S) (p : Ms → Bool) : FewM (firstP p zMs S.msgs).1 := by
 rcases first_mem (p := p) (z := zMs) (l := S.msgs) with h | h
 ·exact F.ms _ h
 ·rw [h]; exact ⟨by decide, by decide, by decide, fun f hf => by cases hf⟩
theorem FewS.enum {S : Sc} (F : FewS S) (p : En → Bool) : FewE (firstP p zEn S.enums).1 := by
 rcases first_mem (p := p) (z := zEn) (l := S.enums) with h | h
 ·exact F.en _ h
 ·rw [h]; exact ⟨by decide, by decide, fun f hf => by cases hf⟩
end Go.Aw
namespace Go.Aw
open Go.Proofs Go.RowKit
set_option linter.unusedSimpArgs false
set_option linter.unusedVariables false
theorem okI_range {p : Int} (hp : okI p) : -9223372036854775808 ≤ p ∧ p ≤ 9223372036854775807 := by
 have e1 : IntKind.i64.min = -9223372036854775808 := by decide
 have e2 : IntKind.i64.max = 9223372036854775807 := by decide
 simpa [okI, Lit.wf, e1, e2] using hp
end Go.Aw
namespace Go.Aw
open Go.Proofs Go.RowKit
set_option linter.unusedSimpArgs false
set_option linter.unusedVariables false
end Go.Aw
namespace Go.Aw
open Go.Proofs Go.RowKit
set_option linter.unusedSimpArgs false
set_option linter.unusedVariables false
def bwT (q r : Int) (n : List UInt8) (m : List (Nat × AV)) : List (Nat × AV) := (2, .p (.int .i64 q)) :: (3, .p (.int .i64 r)) :: (4, .ptr 5 0 0) :: (9, .ptr 4 0 0) :: (10, .p (.str n)) :: m
def bwS (S : Sc) (q r : Int) (n : List UInt8) (m : List (Nat × AV)) : St := ⟨ofL (bwT q r n m), ofH (memG (F9 S S.name) S.msgs tt tt S.enums tt), 100⟩
def bwU : List (Nat × AV) → List (Nat × AV) := fun m => (4, .ptr 5 0 0) :: (9, .ptr 4 0 0) :: m
def bwZ (S U : Sc) (n : List UInt8) (t : Int) : St := ⟨ofL (bwU [(10, .p (.str n)), (14, .p (.int .i64 t))]), ofH [(4, .row 4 [cellsSc U]), (5, .row 4 [cellsSc S])], 100⟩
theorem shut9P {nt : Fm} (S : Sc) (k : List UInt8) (l : List Ms) (es : List En) {f r g : Nat → Bool} {i : Nat} {m : Ms} (hm : l[i]? = some m) (hN : NoG l es) :
  Ghost nt ⟨ofL [(4, .ptr 5 0 0), (9, .ptr 4 0 0), (12, .ptr 1 i 0)], ofH (memG (F9 S k) l f r es g), 100⟩ ⟨ofL [(4, .ptr 5 0 0), (9, .ptr 4 0 0), (12, .p (.box (encMs m) 0))], ofH [(4, .row 4 [cellsSc ⟨k, l, es, S.meths⟩]), (5, .row 4 [cellsSc S])], 100⟩ := by
 refine Ghost.trans (shutG (fun x hx => ?_) (F9_ok S k) hN) ?_
 ·simp only [List.mem_cons, List.not_mem_nil, or_false] at hx
  rcases hx with rfl | rfl | rfl
  all_goals exact ⟨rfl, ⟨rfl, rfl⟩, fun cs => by simp⟩
 have em : (l.map encMs)[i]? = some (encMs m) := by rw [List.getElem?_map, hm]; rfl
 refine Ghost.trans (s' := ⟨ofL [(4, .ptr 5 0 0), (9, .ptr 4 0 0), (12, .p (.box (encMs m) 0))], ofH [(4, .row 4 [[.p (.str k), .p (.slice (l.map encMs)), .own 2, .own 3]]), (3, .row 3 (liftE (S.meths.map encMt))), (5, .row 4 [cellsSc S]), (2, .row 2 (liftE (es.map encEn)))], 100⟩) (Ghost.trans (Ghost.freezeP (lb := 1) (ps := l.map encMs) rfl (unlift_liftE _)) (Ghost.sub ?_ ?_)) ?_
 ·simp -implicitDefEqProofs only [go_sem, ↓reduceIte, Nat.reduceEqDiff, List.forall_mem_cons, List.not_mem_nil, false_implies, implies_true, and_self, thawP, thawP1, Option.map_some, em]
  first | done | decide
 ·simp only [F9, F5, rowN, cellsSc, List.cons_append, List.nil_append]
  simp -implicitDefEqProofs only [go_sem, ↓reduceIte, Nat.reduceEqDiff, List.forall_mem_cons, List.not_mem_nil, false_implies, implies_true, thawP1, Option.map_some, List.map_cons, List.map_nil, thawP_lift, labsIn_lift]
  first | done | decide
 have tm : ∀ {lb : Nat} {ps : List (List PV)}, ∀ x ∈ [((4 : Nat), AV.ptr 5 0 0), (9, .ptr 4 0 0), (12, .p (.box (encMs m) 0))], (lb = 2 ∨ lb = 3) → (ofL [(4, .ptr 5 0 0), (9, .ptr 4 0 0), (12, .p (.box (encMs m) 0))] x.1).map (thaw lb ps) = some x.2 ∧ x.2.labsIn 100 = true := fun x hx hl => by
  simp only [List.mem_cons, List.not_mem_nil, or_false] at hx
  rcases hx with rfl | rfl | rfl
  all_goals exact ⟨rfl, rfl⟩
 refine Ghost.trans (s' := ⟨ofL [(4, .ptr 5 0 0), (9, .ptr 4 0 0), (12, .p (.box (encMs m) 0))], ofH [(4, .row 4 [[.p (.str k), .p (.slice (l.map encMs)), .p (.slice (es.map encEn)), .own 3]]), (3, .row 3 (liftE (S.meths.map encMt))), (5, .row 4 [cellsSc S])], 100⟩) (Ghost.trans (Ghost.freeze (lb := 2) (ps := es.map encEn) rfl (unlift_liftE _)) (Ghost.sub (fun x hx => tm x hx (.inl rfl)) ?_)) ?_
 ·simp only [cellsSc]
  simp -implicitDefEqProofs only [go_sem, ↓reduceIte, Nat.reduceEqDiff, List.forall_mem_cons, List.not_mem_nil, false_implies, implies_true, thaw1, Option.map_some, List.map_cons, List.map_nil, thaw_lift, labsIn_lift]
  first | done | decide
 refine Ghost.trans (Ghost.freeze (lb := 3) (ps := S.meths.map encMt) rfl (unlift_liftE _)) (Ghost.sub (fun x hx => tm x hx (.inr rfl)) ?_)
 simp only [cellsSc]
 simp -implicitDefEqProofs only [go_sem, ↓reduceIte, Nat.reduceEqDiff, List.forall_mem_cons, List.not_mem_nil, false_implies, implies_true, thaw1, Option.map_some, List.map_cons, List.map_nil]
 first | done | decide
theorem brk_lens {S : Sc} (L : LensS S) {i : Nat} {m : Ms} (hm : S.msgs[i]? = some m) {k : Nat} {f : Fd} (hf : m.fields[k]? = some f) (w : Nat) : LensS (chS S i (brkM m k f w)) := by
 have hM := L.msgs m (List.mem_of_getElem? hm)
 refine ⟨L.name, fun x hx => ?_, L.enums, L.meths, by show (List.set _ _ _).length ≤ _; rw [List.length_set]; exact L.m, L.e, L.t⟩
 rcases List.mem_or_eq_of_mem_set hx with hx | rfl
 ·exact L.msgs x hx
 ·refine ⟨by rw [brk_name]; exact hM.1, fun g hg => ?_⟩
  have er : ∀ g ∈ m.fields.take k ++ m.fields.drop (k + 1), g ∈ m.fields := fun g hg => by
   rw [← List.eraseIdx_eq_take_drop_succ] at hg
   exact (List.eraseIdx_sublist _ _).subset hg
  have fl := hM.2 f (List.mem_of_getElem? hf)
  unfold brkM at hg
  split at hg
  ·exact hM.2 g (er g hg)
  split at hg
  ·rcases List.mem_or_eq_of_mem_set hg with hg | rfl
   ·exact hM.2 g hg
   ·exact fl
  split at hg
  ·rcases List.mem_or_eq_of_mem_set hg with hg | rfl
   ·exact hM.2 g hg
   ·exact fl
  ·exact hM.2 g (er g hg)
set_option maxRecDepth 100000 in
set_option maxHeartbeats 16000000 in
theorem law14_CompatBreaks (S : Sc) (p q r : Int) (G : GSc S) (hp : okI p) (hq : okI q) (hr : okI r) : PFn Tryd.prog 12 [.agg (encSc S), .int .i64 p, .int .i64 q, .int .i64 r] (.bool true) := by
 refine PFn.of Tryd.func12 rfl (by decide) Tryd.ntmps12 Tryd.results12 (Nat.le_of_ble_eq_true rfl) ?_
 simp only [argsT, encSc]
 have FW := law00_Few S G.big
 simp only [encSc] at FW
 refine AW.rT (by rfl) fun K hK => ?_
 simp -implicitDefEqProofs only [go_sem, Nat.reduceAdd]
 refine hK _ ?_; clear hK K
 refine AW.seq ?_
 cases hf : fewB S with
 | false =>
  rw [hf] at FW
  refine AW.rT (by rfl) fun K hK => ?_
  simp -implicitDefEqProofs only [go_sem, ↓reduceIte, Nat.reduceAdd, Nat.reduceEqDiff, Nat.reduceLeDiff]
  refine ⟨.pure _, FW, ?_⟩
  try simp -implicitDefEqProofs only [go_sem, ↓reduceIte, Nat.reduceAdd, Nat.reduceEqDiff]
  refine hK _ ?_; clear hK K
  refine AW.cond _ (by simp -implicitDefEqProofs only [go_sem]; rfl) (fun hc => ?_) (fun hc => ?_)
  rotate_left
  ·simp at hc
  refine AW.rT (by rfl) fun K hK => ?_
  simp -implicitDefEqProofs only [go_sem]
  refine ⟨.pure _, law14_awake, ?_⟩
  try simp -implicitDefEqProofs only [go_sem, Nat.reduceAdd]
  refine hK _ ?_; clear hK K
  refine AW.ret ?_
  simp -implicitDefEqProofs only [go_sem]
 | true =>
 rw [hf] at FW
 have F := few_spec hf
 have L := F.lens
 have C1 := ref07_Check S L
 simp only [encSc] at C1
 by_cases hz : checkC S = 0
 case neg =>
  have cz : (checkC S != 0) = true := by simp [hz]
  refine AW.rT (by rfl) fun K hK => ?_
  simp -implicitDefEqProofs only [go_sem, ↓reduceIte, Nat.reduceAdd, Nat.reduceEqDiff, Nat.reduceLeDiff]
  refine ⟨.pure _, FW, ?_⟩
  try simp -implicitDefEqProofs only [go_sem, ↓reduceIte, Nat.reduceAdd, Nat.reduceEqDiff, Nat.reduceLeDiff]
  refine ⟨.pure _, C1, ?_⟩
  try simp -implicitDefEqProofs only [go_sem, ↓reduceIte, Nat.reduceAdd, Nat.reduceEqDiff, cz]
  refine hK _ ?_; clear hK K
  refine AW.cond _ (by simp -implicitDefEqProofs only [go_sem]; rfl) (fun hc => ?_) (fun hc => ?_)
  rotate_left
  ·simp at hc
  refine AW.rT (by rfl) fun K hK => ?_
  simp -implicitDefEqProofs only [go_sem]
  refine ⟨.pure _, law14_awake, ?_⟩
  try simp -implicitDefEqProofs only [go_sem, Nat.reduceAdd]
  refine hK _ ?_; clear hK K
  refine AW.ret ?_
  simp -implicitDefEqProofs only [go_sem]
 have cz : (checkC S != 0) = false := by simp [hz]
 by_cases h0 : S.meths.length = 0
 case pos =>
  have b0 : ((S.meths.length : Int) == 0) = true := by rw [beq_iff_eq]; omega
  refine AW.rT (by rfl) fun K hK => ?_
  simp -implicitDefEqProofs only [go_sem, ↓reduceIte, Nat.reduceAdd, Nat.reduceEqDiff, Nat.reduceLeDiff]
  refine ⟨.pure _, FW, ?_⟩
  try simp -implicitDefEqProofs only [go_sem, ↓reduceIte, Nat.reduceAdd, Nat.reduceEqDiff, Nat.reduceLeDiff]
  refine ⟨.pure _, C1, ?_⟩
  try simp -implicitDefEqProofs only [go_sem, ↓reduceIte, Nat.reduceAdd, Nat.reduceEqDiff, cz, b0, List.length_map]
  refine hK _ ?_; clear hK K
  refine AW.cond _ (by simp -implicitDefEqProofs only [go_sem]; rfl) (fun hc => ?_) (fun hc => ?_)
  rotate_left
  ·simp at hc
  refine AW.rT (by rfl) fun K hK => ?_
  simp -implicitDefEqProofs only [go_sem]
  refine ⟨.pure _, law14_awake, ?_⟩
  try simp -implicitDefEqProofs only [go_sem, Nat.reduceAdd]
  refine hK _ ?_; clear hK K
  refine AW.ret ?_
  simp -implicitDefEqProofs only [go_sem]
 have b0 : ((S.meths.length : Int) == 0) = false := beq_eq_false_iff_ne.2 (by omega)
 refine AW.rT (by rfl) fun K hK => ?_
 simp -implicitDefEqProofs only [go_sem, ↓reduceIte, Nat.reduceAdd, Nat.reduceEqDiff, Nat.reduceLeDiff]
 refine ⟨.pure _, FW, ?_⟩
 try simp -implicitDefEqProofs only [go_sem, ↓reduceIte, Nat.reduceAdd, Nat.reduceEqDiff, Nat.reduceLeDiff]
 refine ⟨.pure _, C1, ?_⟩
 try simp -implicitDefEqProofs only [go_sem, ↓reduceIte, Nat.reduceAdd, Nat.reduceEqDiff, cz, b0, List.length_map]
 refine hK _ ?_; clear hK K
 refine AW.cond _ (by simp -implicitDefEqProofs only [go_sem]; rfl) (fun hc => ?_) (fun hc => ?_)
 ·simp at hc
 refine AW.skip ?_
 simp only [andThen]
 clear FW C1 cz hc
 have DS := law00_SchemaG S F
 have Fm := F.msgs
 have Fe := F.enums
 have Ft := F.meths
 have hN : NoG S.msgs S.enums := ⟨by omega, by omega⟩
 simp only [encSc] at DS
 refine AW.rR (SeqR.ev 1 (by rfl) (by decide) ?_)
 simp -implicitDefEqProofs only [go_sem, ↓reduceIte, Nat.reduceAdd, Nat.reduceEqDiff, Nat.reduceLeDiff]
 refine SeqR.call (fun l => l) rfl (by decide) DS ⟨?_, rfl, (fun x hx => by cases hx), rfl, rfl, mem3_dist F, rfl, rfl, mem3_all⟩ ?_
 ·simp -implicitDefEqProofs only [go_sem, argD]
 refine SeqR.ghost (callG F (c := 0) (T' := [(1, .p (.int .i64 p)), (2, .p (.int .i64 q)), (3, .p (.int .i64 r)), (4, .ptr 5 0 0), (40, .agg [.p (.str S.name), .own 1, .own 2, .own 3])]) (by simp) ?_ ?_) ?_
 ·simp -implicitDefEqProofs only [go_sem, ↓reduceIte, Nat.reduceAdd, Nat.reduceEqDiff, reduceCtorEq, List.forall_mem_cons, List.not_mem_nil, false_implies, implies_true, and_self, lift2]
  first | done | exact ⟨by decide, rfl, by decide⟩ | exact ⟨by decide, rfl⟩
 ·simp -implicitDefEqProofs only [go_sem, cellsSc, goneU, List.map_nil]
 clear DS
 have eM : memG (F9 S S.name) S.msgs tt tt S.enums tt = (4, .row 4 [[.p (.str S.name), .own 1, .own 2, .own 3]]) :: (3, .row 3 (liftE (S.meths.map encMt))) :: (5, .row 4 [cellsSc S]) :: (1, .row 3 (rowG tt tt S.msgs)) :: (2, .row 2 (rowX tt S.enums)) :: bks S.msgs tt tt S.enums tt := rfl
 have eM5 : memG (F5 S) S.msgs tt tt S.enums tt = (3, .row 3 (liftE (S.meths.map encMt))) :: (5, .row 4 [cellsSc S]) :: (1, .row 3 (rowG tt tt S.msgs)) :: (2, .row 2 (rowX tt S.enums)) :: bks S.msgs tt tt S.enums tt := rfl
 rw [eM5]
 simp only [cellsSc]
 refine SeqR.ev 2 (by rfl) (by decide) ?_
 simp -implicitDefEqProofs only [go_sem, ↓reduceIte, Nat.reduceAdd, Nat.reduceEqDiff, Nat.reduceLeDiff]
 refine SeqR.last rfl ?_
 refine AW.ghost (boxG (f := tt) (r := tt) (g := tt) (b := rowN S.name) (T' := [(1, .p (.int .i64 p)), (2, .p (.int .i64 q)), (3, .p (.int .i64 r)), (4, .ptr 5 0 0), (9, .ptr 4 0 0)]) (F5_ok S) rfl rfl hN (F5_no4 S) ?_ rfl (F5_by S) ?_) ?_
 ·simp -implicitDefEqProofs only [go_sem, ↓reduceIte, Nat.reduceEqDiff, List.forall_mem_cons, List.not_mem_nil, false_implies, implies_true, and_self]
  first | done | decide | exact ⟨by decide, by decide⟩
 ·rw [eM5]
  simp only [cellsSc, upd_upd]
  rfl
 have hp' := okI_range hp
 have hq' := okI_range hq
 have hr' := okI_range hr
 have FT := check_fit.1 hz
 have nm := FT.lens
 have hnp : (0 : Int) < (S.meths.length : Int) := by omega
 have PL := law00_Place p (S.meths.length : Int) hnp (by omega) hp'.1 hp'.2
 obtain ⟨ci, hci⟩ : ∃ a : Nat, p % (S.meths.length : Int) = (a : Int) := ⟨(p % (S.meths.length : Int)).toNat, by have := Int.emod_nonneg p (show (S.meths.length : Int) ≠ 0 by omega); omega⟩
 have hcl : ci < S.meths.length := by have := Int.emod_lt_of_pos p hnp; omega
 rw [hci] at PL
 obtain ⟨c, hc⟩ : ∃ c, S.meths[ci]? = some c := ⟨_, List.getElem?_eq_getElem hcl⟩
 have hcm := List.mem_of_getElem? hc
 have ⟨hm1, hm2, hm3⟩ := at_map' encMt hc
 have hm2' : (ci : Int) < (S.meths.length : Int) := by omega
 rw [show memG ((4, rowN S.name) :: F5 S) S.msgs tt tt S.enums tt = memG (F9 S S.name) S.msgs tt tt S.enums tt from rfl, eM]
 simp only [cellsSc]
 refine AW.dT mixed (by rfl) (by decide +kernel) fun K hK => ?_
 simp -implicitDefEqProofs only [go_sem, ↓reduceIte, Nat.reduceAdd, Nat.reduceEqDiff, List.length_map]
 refine ⟨.pure _, PL, ?_⟩
 try simp -implicitDefEqProofs only [go_sem, ↓reduceIte, Nat.reduceAdd, Nat.reduceEqDiff, hm1, hm2', hm3, encMt, List.length_map]
 refine ⟨heapOK_nil rfl, ?_⟩
 refine hK _ ?_; clear hK K
 have gL := rowG_len (f := tt) (r := tt) (l := S.msgs)
 refine AW.cut (fun _ : Unit => ⟨ofL [], ofH [], 0⟩) (fun _ => True) ?_ fun _ _ => ?_
 rotate_left
 ·refine AW.rT (by rfl) fun K hK => ?_
  simp -implicitDefEqProofs only [go_sem]
  refine ⟨.pure _, law14_awake, ?_⟩
  try simp -implicitDefEqProofs only [go_sem, Nat.reduceAdd]
  refine hK _ ?_; clear hK K
  refine AW.ret ?_
  simp -implicitDefEqProofs only [go_sem]
 refine AW.rT (by rfl) fun K hK => ?_
 simp -implicitDefEqProofs only [go_sem, Nat.reduceAdd]
 refine hK _ ?_; clear hK K
 refine AW.block ?_
 refine AW.loop (fun i : Nat => bwS S q r c.inn [(11, .p (.int .i64 (i : Int)))]) (fun i => i ≤ S.msgs.length) (fun i => S.msgs.length - i) 0 ?_ (by omega) fun i i1 => ?_
 ·refine sameG (F9_ok S S.name) hN ?_ ?_
  ·simp only [bwT]
   simp -implicitDefEqProofs only [go_sem, ↓reduceIte, Nat.reduceEqDiff, List.forall_mem_cons, List.not_mem_nil, false_implies, implies_true, and_self]
   exact ⟨by decide, by decide, rfl⟩
  ·rw [eM]
   simp only [cellsSc]
   rfl
 unfold bwS
 rw [eM]
 simp only [bwT, cellsSc]
 refine AW.seq ?_
 by_cases hil : i < S.msgs.length
 case neg =>
  have hc1 : ((i : Int) < (S.msgs.length : Int)) = False := eq_false (by omega)
  refine AW.rT (by rfl) fun K hK => ?_
  simp -implicitDefEqProofs only [go_sem, ↓reduceIte, Nat.reduceAdd, Nat.reduceEqDiff, hc1, gL]
  refine hK _ ?_; clear hK K
  refine AW.cond _ (by simp -implicitDefEqProofs only [go_sem]; rfl) (fun hc => ?_) (fun hc => ?_)
  ·simp at hc
  refine AW.exit ?_
  simp only [andThen, inBlk, ↓reduceIte]
  refine ⟨(), trivial, ?_⟩
  show Ghost _ _ ⟨ofL [], ofH [], 0⟩
  refine Ghost.sub ?_ ?_ <;> simp -implicitDefEqProofs only [go_sem, List.not_mem_nil, false_implies, implies_true]
 obtain ⟨m, hm⟩ : ∃ m, S.msgs[i]? = some m := ⟨_, List.getElem?_eq_getElem hil⟩
 have hc1 : ((i : Int) < (S.msgs.length : Int)) = True := eq_true (by omega)
 have w1 : IntKind.wrap .i64 ((i : Int) + 1) = ((i + 1 : Nat) : Int) := by rw [w64] <;> omega
 have i14 : i < 14 := by omega
 have a0 : 0 ≤ (i : Int) := by omega
 have a1 : (i : Int) < (S.msgs.length : Int) := by omega
 have g1 := rowG_get (f := tt) (r := tt) hm
 have B10 := memF_at (F := []) (r := tt) (g := tt) (f := tt) hN hm rfl
 simp only [mG, tt, if_true, bF] at g1 B10
 have hmm := List.mem_of_getElem? hm
 have FM := F.ms m hmm
 have lf := FM.fields
 refine AW.rT (by rfl) fun K hK => ?_
 simp -implicitDefEqProofs only [go_sem, ↓reduceIte, Nat.reduceAdd, Nat.reduceEqDiff, hc1, gL]
 refine hK _ ?_; clear hK K
 refine AW.cond _ (by simp -implicitDefEqProofs only [go_sem]; rfl) (fun hc => ?_) (fun hc => ?_)
 rotate_left
 ·simp at hc
 refine AW.skip ?_
 simp only [andThen]
 refine AW.seq ?_
 refine AW.block ?_
 refine AW.rT (by rfl) fun K hK => ?_
 simp -implicitDefEqProofs only [go_sem, ↓reduceIte, Nat.reduceAdd, Nat.reduceEqDiff, gL, a0, a1]
 refine hK _ ?_; clear hK K
 refine AW.seq ?_
 have goNext : ∀ {T : Nat → Option AV} {H : Nat → Option Blk} {nx : Nat}, (∀ x ∈ bwT q r c.inn [(11, .p (.int .i64 ((i + 1 : Nat) : Int)))], T x.1 = some x.2 ∧ x.2.labsIn 100 = true) → H = ofH (memG (F9 S S.name) S.msgs tt tt S.enums tt) → ∃ y : Nat, y ≤ S.msgs.length ∧ S.msgs.length - y < S.msgs.length - i ∧ Ghost (fm 237) ⟨T, H, nx⟩ (bwS S q r c.inn [(11, .p (.int .i64 (y : Int)))]) := fun h1 h2 => ⟨i + 1, by omega, by omega, sameG (F9_ok S S.name) hN h1 h2⟩
 by_cases hn : m.name = c.inn
 case neg =>
  have n1 : (m.name == c.inn) = false := beq_eq_false_iff_ne.2 hn
  refine AW.rT (by rfl) fun K hK => ?_
  simp -implicitDefEqProofs only [go_sem, ↓reduceIte, Nat.reduceAdd, Nat.reduceEqDiff, g1, n1, Bool.not_false]
  refine hK _ ?_; clear hK K
  refine AW.cond _ (by simp -implicitDefEqProofs only [go_sem]; rfl) (fun hc => ?_) (fun hc => ?_)
  rotate_left
  ·simp at hc
  refine AW.exit ?_
  simp only [andThen, inBlk, ↓reduceIte]
  refine AW.rE (by rfl) fun K hK => ?_
  simp -implicitDefEqProofs only [go_sem, ↓reduceIte, Nat.reduceAdd, Nat.reduceEqDiff, w1]
  refine hK _ ?_; clear hK K
  refine goNext ?_ ?_
  ·simp only [bwT]
   simp -implicitDefEqProofs only [go_sem, ↓reduceIte, Nat.reduceEqDiff, List.forall_mem_cons, List.not_mem_nil, false_implies, implies_true, and_self]
   first | done | decide | exact ⟨by decide, by decide⟩
  ·rw [eM]
   simp only [cellsSc]
   rfl
 have n1 : (m.name == c.inn) = true := by simp [hn]
 by_cases hl0 : m.fields.length = 0
 ·have z1 : ((m.fields.length : Int) == 0) = true := by rw [beq_iff_eq]; omega
  refine AW.rT (by rfl) fun K hK => ?_
  simp -implicitDefEqProofs only [go_sem, ↓reduceIte, Nat.reduceAdd, Nat.reduceEqDiff, g1, n1, B10, z1, Bool.not_true, liftE_length, List.length_map]
  refine hK _ ?_; clear hK K
  refine AW.cond _ (by simp -implicitDefEqProofs only [go_sem]; rfl) (fun hc => ?_) (fun hc => ?_)
  rotate_left
  ·simp at hc
  refine AW.exit ?_
  simp only [andThen, inBlk, ↓reduceIte]
  refine AW.rE (by rfl) fun K hK => ?_
  simp -implicitDefEqProofs only [go_sem, ↓reduceIte, Nat.reduceAdd, Nat.reduceEqDiff, w1]
  refine hK _ ?_; clear hK K
  refine goNext ?_ ?_
  ·simp only [bwT]
   simp -implicitDefEqProofs only [go_sem, ↓reduceIte, Nat.reduceEqDiff, List.forall_mem_cons, List.not_mem_nil, false_implies, implies_true, and_self]
   first | done | decide | exact ⟨by decide, by decide⟩
  ·rw [eM]
   simp only [cellsSc]
   rfl
 have z1 : ((m.fields.length : Int) == 0) = false := beq_eq_false_iff_ne.2 (by omega)
 have hnf : (0 : Int) < (m.fields.length : Int) := by omega
 have PF := law00_Place q (m.fields.length : Int) hnf (by omega) hq'.1 hq'.2
 obtain ⟨k, hk⟩ : ∃ a : Nat, q % (m.fields.length : Int) = (a : Int) := ⟨(q % (m.fields.length : Int)).toNat, by have := Int.emod_nonneg q (show (m.fields.length : Int) ≠ 0 by omega); omega⟩
 have hkl : k < m.fields.length := by have := Int.emod_lt_of_pos q hnf; omega
 rw [hk] at PF
 obtain ⟨f, hfd⟩ : ∃ f, m.fields[k]? = some f := ⟨_, List.getElem?_eq_getElem hkl⟩
 have hfm := List.mem_of_getElem? hfd
 have g2 := at_lift encFd hfd
 simp only [encFd, List.map_cons, List.map_nil] at g2
 have k0 : 0 ≤ (k : Int) := by omega
 have k1 : (k : Int) < (m.fields.length : Int) := by omega
 have FMk := fit_msgs FT hmm
 have PW := law00_Place r 4 (by omega) (by omega) hr'.1 hr'.2
 have W1 := Int.emod_nonneg r (show (4 : Int) ≠ 0 by omega)
 have W2 := Int.emod_lt_of_pos r (show (0 : Int) < 4 by omega)
 generalize r % 4 = w at *
 have wc : w = 0 ∨ w = 1 ∨ w = 2 ∨ w = 3 := by omega
 refine AW.rT (by rfl) fun K hK => ?_
 simp -implicitDefEqProofs only [go_sem, ↓reduceIte, Nat.reduceAdd, Nat.reduceEqDiff, g1, n1, B10, z1, Bool.not_true, liftE_length, List.length_map]
 refine hK _ ?_; clear hK K
 refine AW.cond _ (by simp -implicitDefEqProofs only [go_sem]; rfl) (fun hc => ?_) (fun hc => ?_)
 ·simp at hc
 refine AW.skip ?_
 simp only [andThen]
 refine AW.rT (by rfl) fun K hK => ?_
 simp -implicitDefEqProofs only [go_sem, ↓reduceIte, Nat.reduceAdd, Nat.reduceEqDiff, g1, B10, liftE_length, List.length_map]
 refine ⟨.pure _, PF, ?_⟩
 try simp -implicitDefEqProofs only [go_sem, Nat.reduceAdd]
 refine hK _ ?_; clear hK K
 refine AW.rT (by rfl) fun K hK => ?_
 simp -implicitDefEqProofs only [go_sem, ↓reduceIte, Nat.reduceAdd, Nat.reduceEqDiff, g1, g2, k0, k1, B10, liftE_length, List.length_map]
 refine hK _ ?_; clear hK K
 refine AW.cut (fun x : Sc => bwZ S x c.inn f.tag) (fun x => LensS x ∧ evoP S x = (c.inn, f.tag, false)) ?_ fun U hU => ?_
 rotate_left
 ·have SC := law00_Schema S F
  have E1 := compat_Evolves S U L hU.1
  rw [hU.2] at E1
  simp only [encSc] at SC E1
  unfold bwZ
  simp only [bwU, cellsSc]
  refine AW.dT mixed (by rfl) (by decide +kernel) fun K hK => ?_
  simp -implicitDefEqProofs only [go_sem, ↓reduceIte, Nat.reduceAdd, Nat.reduceLeDiff]
  refine ⟨.pure _, SC, ?_⟩
  try simp -implicitDefEqProofs only [go_sem, ↓reduceIte, Nat.reduceAdd, Nat.reduceEqDiff, Nat.reduceLeDiff]
  refine ⟨.pure _, E1, ?_⟩
  try simp -implicitDefEqProofs only [go_sem, ↓reduceIte, Nat.reduceAdd, Nat.reduceEqDiff]
  refine ⟨by decide +kernel, ?_⟩
  refine hK _ ?_; clear hK K
  refine AW.rT (by rfl) fun K hK => ?_
  simp -implicitDefEqProofs only [go_sem, ↓reduceIte, Nat.reduceAdd, Nat.reduceEqDiff, beq_self_eq_true]
  refine ⟨.pure _, law14_awake, ?_⟩
  try simp -implicitDefEqProofs only [go_sem, ↓reduceIte, Nat.reduceAdd, Nat.reduceEqDiff]
  refine hK _ ?_; clear hK K
  refine AW.ret ?_
  simp -implicitDefEqProofs only [go_sem]
 refine AW.rT (by rfl) fun K hK => ?_
 simp -implicitDefEqProofs only [go_sem, ↓reduceIte, Nat.reduceAdd, Nat.reduceEqDiff]
 refine ⟨.pure _, PW, ?_⟩
 try simp -implicitDefEqProofs only [go_sem, Nat.reduceAdd]
 refine hK _ ?_; clear hK K
 refine AW.block ?_
 -- CASES
 have at_ := fun x hx => memG_at (F9_ok S S.name) hN (f := tt) (r := tt) (g := tt) (x := x) hx
 have lb := memG_labs (F9_ok S S.name) hN (f := tt) (r := tt) (g := tt)
 have eMf : memG (F9 S S.name) S.msgs ff tt S.enums tt = (4, .row 4 [[.p (.str S.name), .own 1, .own 2, .own 3]]) :: (3, .row 3 (liftE (S.meths.map encMt))) :: (5, .row 4 [cellsSc S]) :: (1, .row 3 (rowG ff tt S.msgs)) :: (2, .row 2 (rowX tt S.enums)) :: bks S.msgs ff tt S.enums tt := rfl
 have atf := fun x hx => memG_at (F9_ok S S.name) hN (f := ff) (r := tt) (g := tt) (x := x) hx
 have lbf := memG_labs (F9_ok S S.name) hN (f := ff) (r := tt) (g := tt)
 have gf := rowG_get (f := ff) (r := tt) hm
 simp only [mG, ff, tt, if_true, if_false, Bool.false_eq_true] at gf
 have gLf := rowG_len (f := ff) (r := tt) (l := S.msgs)
 have okT : ∀ w : Int, TOK (bwT q r c.inn [(11, .p (.int .i64 (i : Int))), (12, .ptr 1 i 0), (13, .p (.int .i64 (k : Int))), (14, .p (.int .i64 f.tag)), (92, .p (.int .i64 w))]) := by
  intro w x hx
  simp only [bwT, List.mem_cons, List.not_mem_nil, or_false] at hx
  rcases hx with rfl | rfl | rfl | rfl | rfl | rfl | rfl | rfl | rfl | rfl
  all_goals exact ⟨rfl, ⟨rfl, rfl⟩, fun cs => by simp⟩
 have okU : TOK (bwU [(10, .p (.str c.inn)), (14, .p (.int .i64 f.tag))]) := by
  intro x hx
  simp only [bwU, List.mem_cons, List.not_mem_nil, or_false] at hx
  rcases hx with rfl | rfl | rfl | rfl
  all_goals exact ⟨rfl, ⟨rfl, rfl⟩, fun cs => by simp⟩
 have okU3 : ∀ x ∈ bwU [(10, .p (.str c.inn)), (14, .p (.int .i64 f.tag))], ∀ lb ps, thaw lb ps x.2 = x.2 := by
  intro x hx lb ps
  simp only [bwU, List.mem_cons, List.not_mem_nil, or_false] at hx
  rcases hx with rfl | rfl | rfl | rfl <;> rfl
 have NS : ∀ m', NoG (S.msgs.set i m') S.enums := fun m' => ⟨by rw [List.length_set]; omega, by omega⟩
 have lenF : ∀ y ∈ List.map encFd m.fields, 5 = y.length := fun y hy => by
  obtain ⟨x, _, rfl⟩ := List.mem_map.1 hy
  rfl
 have tkl : List.take m.fields.length (List.map encFd m.fields) = List.map encFd m.fields := List.take_of_length_le (by rw [List.length_map]; exact Nat.le_refl _)
 have w3 : IntKind.wrap .i64 ((k : Int) + 1) = ((k + 1 : Nat) : Int) := by rw [w64] <;> omega
 have k2 : (k : Int) ≤ (m.fields.length : Int) := by omega
 have k3 : 0 ≤ ((k + 1 : Nat) : Int) := by omega
 have k4 : ((k + 1 : Nat) : Int) ≤ (m.fields.length : Int) := by omega
 have lT : (m.fields.take k).length ≤ 20 := by rw [List.length_take]; omega
 have lD : (m.fields.drop (k + 1)).length ≤ 20 := by rw [List.length_drop]; omega
 have hlab := (FMk.fld f hfm).2.2.1
 unfold fieldB labelB at hlab
 rw [Bool.and_eq_true, decide_eq_true_eq] at hlab
 have tm : f.label.tmod 3 = f.label % 3 := Int.tmod_eq_emod_of_nonneg (by omega)
 have w4 : IntKind.wrap .i64 (f.label % 3) = f.label % 3 := by rw [w64] <;> omega
 have w5 : IntKind.wrap .i64 (f.label % 3 + 1) = f.label % 3 + 1 := by rw [w64] <;> omega
 have z3 : ((3 : Int) = 0) = False := eq_false (by omega)
 rcases wc with rfl | rfl | rfl | rfl
 ·skip
  skip
  refine AW.ghost (Ghost.trans (sameG (F := F9 S S.name) (l := S.msgs) (f := tt) (r := tt) (es := S.enums) (g := tt) (T' := bwT q r c.inn [(11, .p (.int .i64 (i : Int))), (12, .ptr 1 i 0), (13, .p (.int .i64 (k : Int))), (14, .p (.int .i64 f.tag)), (92, .p (.int .i64 0))]) (F9_ok S S.name) hN ?_ ?_) (Ghost.trans (keepF (nt := fm 237) (l := S.msgs) (f := tt) (r := tt) (es := S.enums) (g := tt) ff (okT 0) (F9_ok S S.name) hN) (s'' := ⟨ofL (bwT q r c.inn [(11, .p (.int .i64 (i : Int))), (12, .ptr 1 i 0), (13, .p (.int .i64 (k : Int))), (14, .p (.int .i64 f.tag)), (92, .p (.int .i64 0))]), ofH (memG (F9 S S.name) S.msgs ff tt S.enums tt), 100⟩) ?_)) ?_
  ·simp only [bwT]
   simp -implicitDefEqProofs only [go_sem, ↓reduceIte, Nat.reduceEqDiff, List.forall_mem_cons, List.not_mem_nil, false_implies, implies_true, and_self]
   first | done | exact ⟨by decide, by decide, by decide⟩
  ·rw [eM]
   simp only [cellsSc]
   rfl
  ·unfold stG
   rw [memG_congr (f := fun i => tt i && ff i) (f' := ff) (r := tt) (r' := tt) (g := tt) (g' := tt) (fun i _ => ⟨rfl, rfl⟩) (fun _ _ => rfl)]
   exact Ghost.refl
  rw [eMf]
  simp only [bwT, cellsSc]
  refine AW.rT (by rfl) fun K hK => ?_
  simp -implicitDefEqProofs only [go_sem, ↓reduceIte, Nat.reduceAdd, Nat.reduceEqDiff]
  refine hK _ ?_; clear hK K
  refine AW.cond _ (by simp -implicitDefEqProofs only [go_sem]; rfl) (fun hc => ?_) (fun hc => ?_)
  rotate_left
  ·simp at hc
  have eF : (brkM m k f 0).fields.map encFd = List.take k (List.map encFd m.fields) ++ List.drop (k + 1) (List.map encFd m.fields) := by
   rw [← List.map_take, ← List.map_drop, ← List.map_append]
   rfl
  have cs : (k = 0) ∨ (k ≠ 0 ∧ k + 1 = m.fields.length) ∨ (k ≠ 0 ∧ k + 1 < m.fields.length) := by omega
  rcases cs with hk0 | ⟨hk0, hk1⟩ | ⟨hk0, hk1⟩
  ·have hTk : List.take k (List.map encFd m.fields) = [] := by rw [hk0]; rfl
   have hDr : 0 = 0 := rfl
   refine AW.dE mixed (by rfl) (by decide +kernel) fun K hK => ?_
   simp -implicitDefEqProofs only [go_sem, ↓reduceIte, Nat.reduceAdd, Nat.reduceEqDiff, Nat.reduceLeDiff, reduceCtorEq, gf, k2, k3, k4, w3, tkl, hTk, liftE_nil, List.drop_zero, List.length_map, Int.toNat_natCast]
   refine ⟨lenF, by simp, ⟨by omega, by omega, by omega, rfl⟩, lenF, by simp, by omega, ⟨by rw [← List.map_drop]; exact lift_len (f := encFd) (fun _ => rfl) _, by rw [← List.map_drop]; exact lift_one one_Fd _, by simp⟩, ⟨.inl trivial, by simp, by rw [liftE_length, List.length_drop, List.length_map]; omega⟩, ?_, ?_⟩
   ·first
     | decide +kernel
     | skip
   refine hK _ ?_; clear hK K
   simp only [andThen, inBlk]
   refine ⟨chS S i (brkM m k f 0), ⟨brk_lens L hm hfd 0, ?_⟩, ?_⟩
   ·rw [← hn]
    exact brk_evo hz hm hfd hcm hn.symm (by omega) (fun q => by cases q)
   refine Ghost.trans (putN (F := F9 S S.name) (l := S.msgs) (r := tt) (N := 117) (es := S.enums) (g := tt) (m' := brkM m k f 0) (T' := bwU [(10, .p (.str c.inn)), (14, .p (.int .i64 f.tag))]) (F9_ok S S.name) hN (by omega) hm (brk_name _ _ _ _) rfl ?_ ?_ ?_ ?_) (shut9 S S.name (S.msgs.set i (brkM m k f 0)) S.enums okU okU3 (NS _))
   ·simp only [bwU]
    simp -implicitDefEqProofs only [go_sem, ↓reduceIte, Nat.reduceEqDiff, List.forall_mem_cons, List.not_mem_nil, false_implies, implies_true]
    first | exact ⟨by decide, by decide⟩ | exact ⟨⟨by decide, fun _ h => by cases h⟩, ⟨by decide, fun _ h => by cases h⟩, fun _ h => by cases h⟩ | exact ⟨⟨by decide, by simp⟩, ⟨by decide, by simp⟩, by simp⟩
   ·simp -implicitDefEqProofs only [go_sem, ↓reduceIte, tt]
   ·simp -implicitDefEqProofs only [go_sem, ↓reduceIte, Nat.reduceEqDiff, eF, hTk, List.nil_append]
   ·intro x hx h
    have e1 := atf x hx
    have e2 := (lbf x hx).1
    rw [eMf] at e1
    simp only [cellsSc] at e1
    rw [upd_ne _ _ h, upd_ne _ _ (by omega)]
    exact e1
  ·obtain ⟨x0, xs, hTk⟩ : ∃ x xs, List.take k (List.map encFd m.fields) = x :: xs := by
    cases h : List.take k (List.map encFd m.fields) with
    | nil =>
     exfalso
     have := congrArg List.length h
     rw [List.length_take, List.length_map, List.length_nil] at this
     omega
    | cons x xs => exact ⟨x, xs, rfl⟩
   have hDr : List.drop (k + 1) (List.map encFd m.fields) = [] := List.drop_of_length_le (by rw [List.length_map]; omega)
   refine AW.dE mixed (by rfl) (by decide +kernel) fun K hK => ?_
   simp -implicitDefEqProofs only [go_sem, ↓reduceIte, Nat.reduceAdd, Nat.reduceEqDiff, Nat.reduceLeDiff, reduceCtorEq, gf, k2, k3, k4, w3, tkl, hTk, hDr, liftE_nil, List.drop_zero, List.length_map, Int.toNat_natCast]
   refine ⟨lenF, by simp, ⟨by omega, by omega, by omega, rfl⟩, lenF, by simp, by omega, ⟨by simp, by simp, by simp⟩, ?_, ?_⟩
   ·first
     | decide +kernel
     | skip
   refine hK _ ?_; clear hK K
   simp only [andThen, inBlk]
   refine ⟨chS S i (brkM m k f 0), ⟨brk_lens L hm hfd 0, ?_⟩, ?_⟩
   ·rw [← hn]
    exact brk_evo hz hm hfd hcm hn.symm (by omega) (fun q => by cases q)
   refine Ghost.trans (putEx (F := F9 S S.name) (l := S.msgs) (r := tt) (es := S.enums) (g := tt) (m' := brkM m k f 0) (T' := bwU [(10, .p (.str c.inn)), (14, .p (.int .i64 f.tag))]) (F9_ok S S.name) hN hm (brk_name _ _ _ _) rfl ?_ ?_ ?_) (shut9 S S.name (S.msgs.set i (brkM m k f 0)) S.enums okU okU3 (NS _))
   ·simp only [bwU]
    simp -implicitDefEqProofs only [go_sem, ↓reduceIte, Nat.reduceEqDiff, List.forall_mem_cons, List.not_mem_nil, false_implies, implies_true, and_self]
    first | exact ⟨by decide, by decide⟩ | exact ⟨⟨by decide, fun _ h => by cases h⟩, ⟨by decide, fun _ h => by cases h⟩, fun _ h => by cases h⟩ | exact ⟨⟨by decide, by simp⟩, ⟨by decide, by simp⟩, by simp⟩
   ·simp -implicitDefEqProofs only [go_sem, ↓reduceIte, eF, hTk, hDr, List.append_nil, tt]
   ·intro x hx h
    have e1 := atf x hx
    have e2 := (lbf x hx).1
    rw [eMf] at e1
    simp only [cellsSc] at e1
    rw [upd_ne _ _ h]
    exact e1
  ·obtain ⟨x0, xs, hTk⟩ : ∃ x xs, List.take k (List.map encFd m.fields) = x :: xs := by
    cases h : List.take k (List.map encFd m.fields) with
    | nil =>
     exfalso
     have := congrArg List.length h
     rw [List.length_take, List.length_map, List.length_nil] at this
     omega
    | cons x xs => exact ⟨x, xs, rfl⟩
   obtain ⟨y0, ys, hDr⟩ : ∃ x xs, List.drop (k + 1) (List.map encFd m.fields) = x :: xs := by
    cases h : List.drop (k + 1) (List.map encFd m.fields) with
    | nil =>
     exfalso
     have := congrArg List.length h
     rw [List.length_drop, List.length_map, List.length_nil] at this
     omega
    | cons x xs => exact ⟨x, xs, rfl⟩
   refine AW.dE mixed (by rfl) (by decide +kernel) fun K hK => ?_
   simp -implicitDefEqProofs only [go_sem, ↓reduceIte, Nat.reduceAdd, Nat.reduceEqDiff, Nat.reduceLeDiff, reduceCtorEq, gf, k2, k3, k4, w3, tkl, hTk, hDr, liftE_cons, List.drop_zero, List.length_map, Int.toNat_natCast]
   refine ⟨lenF, by simp, ⟨by omega, by omega, by omega, rfl⟩, lenF, by simp, by omega, ⟨by rw [← liftE_cons, ← hDr, ← List.map_drop]; exact lift_len (f := encFd) (fun _ => rfl) _, by rw [← liftE_cons, ← hDr, ← List.map_drop]; exact lift_one one_Fd _, by simp⟩, ⟨.inr (by simp), by rw [← hTk]; exact fun y hy => (lenF y (List.mem_of_mem_take hy)).symm, by have e1 := congrArg List.length hTk; have e2 := congrArg List.length hDr; simp only [List.length_take, List.length_drop, List.length_map, List.length_cons] at e1 e2; simp only [liftE_length]; omega⟩, ?_, ?_⟩
   ·first
     | decide +kernel
     | skip
   refine hK _ ?_; clear hK K
   simp only [andThen, inBlk]
   refine ⟨chS S i (brkM m k f 0), ⟨brk_lens L hm hfd 0, ?_⟩, ?_⟩
   ·rw [← hn]
    exact brk_evo hz hm hfd hcm hn.symm (by omega) (fun q => by cases q)
   refine Ghost.trans (putN (F := F9 S S.name) (l := S.msgs) (r := tt) (N := 117) (es := S.enums) (g := tt) (m' := brkM m k f 0) (T' := bwU [(10, .p (.str c.inn)), (14, .p (.int .i64 f.tag))]) (F9_ok S S.name) hN (by omega) hm (brk_name _ _ _ _) rfl ?_ ?_ ?_ ?_) (shut9 S S.name (S.msgs.set i (brkM m k f 0)) S.enums okU okU3 (NS _))
   ·simp only [bwU]
    simp -implicitDefEqProofs only [go_sem, ↓reduceIte, Nat.reduceEqDiff, List.forall_mem_cons, List.not_mem_nil, false_implies, implies_true]
    first | exact ⟨by decide, by decide⟩ | exact ⟨⟨by decide, fun _ h => by cases h⟩, ⟨by decide, fun _ h => by cases h⟩, fun _ h => by cases h⟩ | exact ⟨⟨by decide, by simp⟩, ⟨by decide, by simp⟩, by simp⟩
   ·simp -implicitDefEqProofs only [go_sem, ↓reduceIte, tt]
   ·simp -implicitDefEqProofs only [go_sem, ↓reduceIte, Nat.reduceEqDiff, eF, hTk, hDr, liftE_append, liftE_cons, List.cons_append]
   ·intro x hx h
    have e1 := atf x hx
    have e2 := (lbf x hx).1
    rw [eMf] at e1
    simp only [cellsSc] at e1
    rw [upd_ne _ _ h, upd_ne _ _ (by omega)]
    exact e1
 ·have e1 : bF (brkM m k f 1) = .row 5 ((liftE (m.fields.map encFd)).set k [.p (.str f.name), .p (.int .i64 f.tag), .p (.int .i64 (f.label % 3 + 1)), .p (.int .i64 f.ty.kind), .p (.str f.ty.name)]) := by
   unfold bF
   show Blk.row 5 (liftE ((m.fields.set k _).map encFd)) = _
   rw [← setL encFd]
   rfl
  refine AW.rT (by rfl) fun K hK => ?_
  simp -implicitDefEqProofs only [go_sem, ↓reduceIte, Nat.reduceAdd]
  refine hK _ ?_; clear hK K
  refine AW.cond _ (by simp -implicitDefEqProofs only [go_sem]; rfl) (fun hc => ?_) (fun hc => ?_)
  ·simp at hc
  refine AW.rT (by rfl) fun K hK => ?_
  simp -implicitDefEqProofs only [go_sem, ↓reduceIte, Nat.reduceAdd, Nat.reduceEqDiff]
  refine hK _ ?_; clear hK K
  refine AW.cond _ (by simp -implicitDefEqProofs only [go_sem]; rfl) (fun hc => ?_) (fun hc => ?_)
  rotate_left
  ·simp at hc
  refine AW.dE mixed (by rfl) (by decide +kernel) fun K hK => ?_
  simp -implicitDefEqProofs only [go_sem, ↓reduceIte, Nat.reduceAdd, Nat.reduceEqDiff, Nat.reduceLeDiff, g1, g2, k0, k1, B10, tm, w5, z3, liftE_length, List.length_map]
  refine ⟨?_, ?_⟩
  ·obtain ⟨j, hj⟩ : ∃ j, j = i := ⟨i, rfl⟩
   rw [← hj]
   have hj14 : j < 14 := by omega
   clear hj
   revert j
   decide +kernel
  refine hK _ ?_; clear hK K
  simp only [andThen, inBlk]
  refine ⟨chS S i (brkM m k f 1), ⟨brk_lens L hm hfd 1, ?_⟩, ?_⟩
  ·rw [← hn]
   exact brk_evo hz hm hfd hcm hn.symm (by omega) (fun q => by cases q)
  refine Ghost.trans (setF (F := F9 S S.name) (l := S.msgs) (r := tt) (es := S.enums) (g := tt) (m' := brkM m k f 1) (T' := bwU [(10, .p (.str c.inn)), (14, .p (.int .i64 f.tag))]) (F9_ok S S.name) hN hm (brk_name _ _ _ _) rfl ?_ ?_) (shut9 S S.name (S.msgs.set i (brkM m k f 1)) S.enums okU okU3 (NS _))
  ·simp only [bwU]
   simp -implicitDefEqProofs only [go_sem, ↓reduceIte, Nat.reduceEqDiff, List.forall_mem_cons, List.not_mem_nil, false_implies, implies_true, and_self]
   first | done | exact ⟨by decide, by decide⟩
  ·rw [e1, eM]
   simp only [cellsSc]
   rfl
 ·have e1 : bF (brkM m k f 2) = .row 5 ((liftE (m.fields.map encFd)).set k [.p (.str f.name), .p (.int .i64 f.tag), .p (.int .i64 f.label), .p (.int .i64 5), .p (.str [])]) := by
   unfold bF
   show Blk.row 5 (liftE ((m.fields.set k _).map encFd)) = _
   rw [← setL encFd]
   rfl
  refine AW.rT (by rfl) fun K hK => ?_
  simp -implicitDefEqProofs only [go_sem, ↓reduceIte, Nat.reduceAdd]
  refine hK _ ?_; clear hK K
  refine AW.cond _ (by simp -implicitDefEqProofs only [go_sem]; rfl) (fun hc => ?_) (fun hc => ?_)
  ·simp at hc
  refine AW.rT (by rfl) fun K hK => ?_
  simp -implicitDefEqProofs only [go_sem, ↓reduceIte, Nat.reduceAdd, Nat.reduceEqDiff]
  refine hK _ ?_; clear hK K
  refine AW.cond _ (by simp -implicitDefEqProofs only [go_sem]; rfl) (fun hc => ?_) (fun hc => ?_)
  ·simp at hc
  refine AW.rT (by rfl) fun K hK => ?_
  simp -implicitDefEqProofs only [go_sem, ↓reduceIte, Nat.reduceAdd, Nat.reduceEqDiff]
  refine hK _ ?_; clear hK K
  refine AW.cond _ (by simp -implicitDefEqProofs only [go_sem]; rfl) (fun hc => ?_) (fun hc => ?_)
  rotate_left
  ·simp at hc
  by_cases h5 : f.ty.kind = 5
  ·have q5 : (f.ty.kind == 5) = true := by simp [h5]
   refine AW.seq ?_
   refine AW.rT (by rfl) fun K hK => ?_
   simp -implicitDefEqProofs only [go_sem, ↓reduceIte, Nat.reduceAdd, Nat.reduceEqDiff, g1, g2, k0, k1, B10, q5, liftE_length, List.length_map]
   refine hK _ ?_; clear hK K
   refine AW.cond _ (by simp -implicitDefEqProofs only [go_sem]; rfl) (fun hc => ?_) (fun hc => ?_)
   rotate_left
   ·simp at hc
   refine AW.rT (by rfl) fun K hK => ?_
   simp -implicitDefEqProofs only [go_sem]
   refine ⟨.pure _, law14_awake, ?_⟩
   try simp -implicitDefEqProofs only [go_sem, Nat.reduceAdd]
   refine hK _ ?_; clear hK K
   refine AW.ret ?_
   simp -implicitDefEqProofs only [go_sem]
  have q5 : (f.ty.kind == 5) = false := beq_eq_false_iff_ne.2 h5
  refine AW.seq ?_
  refine AW.rT (by rfl) fun K hK => ?_
  simp -implicitDefEqProofs only [go_sem, ↓reduceIte, Nat.reduceAdd, Nat.reduceEqDiff, g1, g2, k0, k1, B10, q5, liftE_length, List.length_map]
  refine hK _ ?_; clear hK K
  refine AW.cond _ (by simp -implicitDefEqProofs only [go_sem]; rfl) (fun hc => ?_) (fun hc => ?_)
  ·simp at hc
  refine AW.skip ?_
  simp only [andThen]
  refine AW.rE (by rfl) fun K hK => ?_
  simp -implicitDefEqProofs only [go_sem, ↓reduceIte, Nat.reduceAdd, Nat.reduceEqDiff, Nat.reduceLeDiff, g1, g2, k0, k1, B10, liftE_length, List.length_map]
  refine hK _ ?_; clear hK K
  simp only [andThen, inBlk]
  refine ⟨chS S i (brkM m k f 2), ⟨brk_lens L hm hfd 2, ?_⟩, ?_⟩
  ·rw [← hn]
   exact brk_evo hz hm hfd hcm hn.symm (by omega) (fun _ => h5)
  refine Ghost.trans (setF (F := F9 S S.name) (l := S.msgs) (r := tt) (es := S.enums) (g := tt) (m' := brkM m k f 2) (T' := bwU [(10, .p (.str c.inn)), (14, .p (.int .i64 f.tag))]) (F9_ok S S.name) hN hm (brk_name _ _ _ _) rfl ?_ ?_) (shut9 S S.name (S.msgs.set i (brkM m k f 2)) S.enums okU okU3 (NS _))
  ·simp only [bwU]
   simp -implicitDefEqProofs only [go_sem, ↓reduceIte, Nat.reduceEqDiff, List.forall_mem_cons, List.not_mem_nil, false_implies, implies_true, and_self]
   first | done | exact ⟨by decide, by decide⟩
  ·rw [e1, eM]
   simp only [cellsSc]
   rfl
 ·skip
  refine AW.ghost (Ghost.trans (sameG (F := F9 S S.name) (l := S.msgs) (f := tt) (r := tt) (es := S.enums) (g := tt) (T' := bwT q r c.inn [(11, .p (.int .i64 (i : Int))), (12, .ptr 1 i 0), (13, .p (.int .i64 (k : Int))), (14, .p (.int .i64 f.tag)), (92, .p (.int .i64 3))]) (F9_ok S S.name) hN ?_ ?_) (Ghost.trans (keepF (nt := fm 237) (l := S.msgs) (f := tt) (r := tt) (es := S.enums) (g := tt) ff (okT 3) (F9_ok S S.name) hN) (s'' := ⟨ofL (bwT q r c.inn [(11, .p (.int .i64 (i : Int))), (12, .ptr 1 i 0), (13, .p (.int .i64 (k : Int))), (14, .p (.int .i64 f.tag)), (92, .p (.int .i64 3))]), ofH (memG (F9 S S.name) S.msgs ff tt S.enums tt), 100⟩) ?_)) ?_
  ·simp only [bwT]
   simp -implicitDefEqProofs only [go_sem, ↓reduceIte, Nat.reduceEqDiff, List.forall_mem_cons, List.not_mem_nil, false_implies, implies_true, and_self]
   first | done | exact ⟨by decide, by decide, by decide⟩
  ·rw [eM]
   simp only [cellsSc]
   rfl
  ·unfold stG
   rw [memG_congr (f := fun i => tt i && ff i) (f' := ff) (r := tt) (r' := tt) (g := tt) (g' := tt) (fun i _ => ⟨rfl, rfl⟩) (fun _ _ => rfl)]
   exact Ghost.refl
  rw [eMf]
  simp only [bwT, cellsSc]
  refine AW.rT (by rfl) fun K hK => ?_
  simp -implicitDefEqProofs only [go_sem, ↓reduceIte, Nat.reduceAdd, Nat.reduceEqDiff]
  refine hK _ ?_; clear hK K
  refine AW.cond _ (by simp -implicitDefEqProofs only [go_sem]; rfl) (fun hc => ?_) (fun hc => ?_)
  ·simp at hc
  refine AW.rT (by rfl) fun K hK => ?_
  simp -implicitDefEqProofs only [go_sem, ↓reduceIte, Nat.reduceAdd, Nat.reduceEqDiff]
  refine hK _ ?_; clear hK K
  refine AW.cond _ (by simp -implicitDefEqProofs only [go_sem]; rfl) (fun hc => ?_) (fun hc => ?_)
  ·simp at hc
  refine AW.rT (by rfl) fun K hK => ?_
  simp -implicitDefEqProofs only [go_sem, ↓reduceIte, Nat.reduceAdd, Nat.reduceEqDiff]
  refine hK _ ?_; clear hK K
  refine AW.cond _ (by simp -implicitDefEqProofs only [go_sem]; rfl) (fun hc => ?_) (fun hc => ?_)
  ·simp at hc
  refine AW.cut (fun _ : Unit => ⟨ofL (bwT q r c.inn [(11, .p (.int .i64 (i : Int))), (12, .ptr 1 i 0), (13, .p (.int .i64 (k : Int))), (14, .p (.int .i64 f.tag)), (92, .p (.int .i64 3))]), ofH (memG (F9 S S.name) (S.msgs.set i (brkM m k f 0)) ff tt S.enums tt), 100⟩) (fun _ => True) ?_ fun _ _ => ?_
  rotate_left
  ·obtain ⟨l2, hl2⟩ : ∃ l2, l2 = S.msgs.set i (brkM m k f 0) := ⟨_, rfl⟩
   have hm2 : l2[i]? = some (brkM m k f 0) := by rw [hl2, List.getElem?_set, if_pos rfl, if_pos hil]
   have ll2 : l2.length = S.msgs.length := by rw [hl2, List.length_set]
   have hN2 : NoG l2 S.enums := ⟨by omega, by omega⟩
   have g2f := rowG_get (f := ff) (r := tt) hm2
   have B30 := memR_at (F := []) (r := tt) (g := tt) (f := ff) hN2 hm2 rfl
   simp only [mG, ff, tt, if_true, if_false, Bool.false_eq_true, bR] at g2f B30
   have gL2 : (rowG ff tt l2).length = S.msgs.length := by rw [rowG_len, ll2]
   have eM2 : memG (F9 S S.name) l2 ff tt S.enums tt = (4, .row 4 [[.p (.str S.name), .own 1, .own 2, .own 3]]) :: (3, .row 3 (liftE (S.meths.map encMt))) :: (5, .row 4 [cellsSc S]) :: (1, .row 3 (rowG ff tt l2)) :: (2, .row 2 (rowX tt S.enums)) :: bks l2 ff tt S.enums tt := rfl
   rw [← hl2, eM2]
   simp only [bwT, cellsSc]
   have n76 : (i = 76) = False := eq_false (by omega)
   have er0 : (brkM m k f 0).res = m.res := rfl
   have en0 : (brkM m k f 0).name = m.name := rfl
   refine AW.rT (by rfl) fun K hK => ?_
   simp -implicitDefEqProofs only [go_sem, ↓reduceIte, Nat.reduceAdd, Nat.reduceMul, Nat.reduceEqDiff, Nat.reduceLeDiff, reduceCtorEq, g2f, B30, n76, er0, en0, liftE_length, List.length_map]
   refine ⟨⟨by simp, by simp [oneAll, AV.one, PV.one], fun _ => trivial⟩, by have := FM.res; omega, ?_⟩
   refine hK _ ?_; clear hK K
   have lb2 := memG_labs (F9_ok S S.name) hN2 (f := ff) (r := tt) (g := tt)
   have at2 := fun x hx => memG_at (F9_ok S S.name) hN2 (f := ff) (r := tt) (g := tt) (x := x) hx
   have el3 : l2.set i (brkM m k f 3) = S.msgs.set i (brkM m k f 3) := by rw [hl2, List.set_set]
   have hm3' : (S.msgs.set i (brkM m k f 3))[i]? = some (brkM m k f 3) := by rw [List.getElem?_set, if_pos rfl, if_pos hil]
   refine AW.ghost (Ghost.trans (moveR (F := F9 S S.name) (l := l2) (f := ff) (r := tt) (es := S.enums) (g := tt) (m' := brkM m k f 3) (a := i) (N := 107) (T' := [(4, .ptr 5 0 0), (9, .ptr 4 0 0), (12, .ptr 1 i 0)]) (F9_ok S S.name) hN2 (by omega) hm2 rfl rfl rfl ?_ ?_ ?_ fun x hx h1 h2 => ?_) (by rw [el3]; exact shut9P S S.name (S.msgs.set i (brkM m k f 3)) S.enums hm3' (NS _))) ?_
   ·simp -implicitDefEqProofs only [go_sem, ↓reduceIte, Nat.reduceEqDiff, List.forall_mem_cons, List.not_mem_nil, false_implies, implies_true]
    first | done | exact ⟨⟨by decide, by decide⟩, by decide, by decide⟩
   ·simp -implicitDefEqProofs only [go_sem, ↓reduceIte, ff, Bool.false_eq_true, en0]
   ·simp -implicitDefEqProofs only [go_sem, ↓reduceIte, Nat.reduceEqDiff, bR]
    rw [show (brkM m k f 3).res = m.res ++ [f.tag] from rfl, List.map_append, liftE_append]
    rfl
   ·have e1 := at2 x hx
    have e2 := (lb2 x hx).1
    rw [eM2] at e1
    simp only [cellsSc] at e1
    rw [upd_ne _ _ h1, upd_ne _ _ (by omega), upd_ne _ _ h2, upd_ne _ _ (by omega)]
    exact e1
   have U3 := brk_evo3 hz hm hfd hcm hn.symm
   have L3 := brk_lens L hm hfd 3
   have SC := law00_Schema S F
   have E1 := compat_Evolves S (chS S i (brkM m k f 3)) L L3
   have E2 := compat_Evolves (chS S i (brkM m k f 3)) S L3 L
   obtain ⟨V1, hV1⟩ : ∃ V, V = evoP S (chS S i (brkM m k f 3)) := ⟨_, rfl⟩
   obtain ⟨V2, hV2⟩ : ∃ V, V = evoP (chS S i (brkM m k f 3)) S := ⟨_, rfl⟩
   rw [← hV1] at U3 E1
   rw [← hV2] at U3 E2
   obtain ⟨va, vb, vc⟩ := V1
   obtain ⟨wa, wb, wc⟩ := V2
   simp only at U3
   obtain ⟨U3, rfl⟩ := U3
   simp only [encSc, chS] at SC E1 E2
   simp only [cellsSc]
   refine AW.dT mixed (by rfl) (by decide +kernel) fun K hK => ?_
   simp -implicitDefEqProofs only [go_sem, ↓reduceIte, Nat.reduceAdd, Nat.reduceLeDiff]
   refine ⟨.pure _, SC, ?_⟩
   try simp -implicitDefEqProofs only [go_sem, ↓reduceIte, Nat.reduceAdd, Nat.reduceEqDiff, Nat.reduceLeDiff]
   refine ⟨.pure _, E1, ?_⟩
   try simp -implicitDefEqProofs only [go_sem, ↓reduceIte, Nat.reduceAdd, Nat.reduceEqDiff]
   refine ⟨by decide +kernel, ?_⟩
   refine hK _ ?_; clear hK K
   refine AW.dT mixed (by rfl) (by decide +kernel) fun K hK => ?_
   simp -implicitDefEqProofs only [go_sem, ↓reduceIte, Nat.reduceAdd, Nat.reduceEqDiff, Nat.reduceLeDiff]
   refine ⟨.pure _, SC, ?_⟩
   try simp -implicitDefEqProofs only [go_sem, ↓reduceIte, Nat.reduceAdd, Nat.reduceEqDiff]
   refine ⟨.pure _, E2, ?_⟩
   try simp -implicitDefEqProofs only [go_sem, ↓reduceIte, Nat.reduceAdd, Nat.reduceEqDiff]
   refine ⟨by decide +kernel, ?_⟩
   refine hK _ ?_; clear hK K
   have vq : vc = true ∨ (vc = false ∧ ((32 : Int) < ((brkM m k f 3).res.length : Int)) = True) := by
    rcases U3 with h | h
    ·exact .inl h
    ·cases vc
     ·exact .inr ⟨rfl, eq_true (by omega)⟩
     ·exact .inl rfl
   rcases vq with rfl | ⟨rfl, vl⟩
   ·refine AW.rT (by rfl) fun K hK => ?_
    simp -implicitDefEqProofs only [go_sem, ↓reduceIte, Nat.reduceAdd, Nat.reduceEqDiff]
    refine ⟨.pure _, law14_awake, ?_⟩
    try simp -implicitDefEqProofs only [go_sem, ↓reduceIte, Nat.reduceAdd, Nat.reduceEqDiff]
    refine hK _ ?_; clear hK K
    refine AW.ret ?_
    simp -implicitDefEqProofs only [go_sem]
   ·refine AW.rT (by rfl) fun K hK => ?_
    simp -implicitDefEqProofs only [go_sem, ↓reduceIte, Nat.reduceAdd, Nat.reduceEqDiff, vl, encMs, List.length_map]
    refine ⟨.pure _, law14_awake, ?_⟩
    try simp -implicitDefEqProofs only [go_sem, ↓reduceIte, Nat.reduceAdd, Nat.reduceEqDiff]
    refine hK _ ?_; clear hK K
    refine AW.ret ?_
    simp -implicitDefEqProofs only [go_sem]
  have eF : (brkM m k f 0).fields.map encFd = List.take k (List.map encFd m.fields) ++ List.drop (k + 1) (List.map encFd m.fields) := by
   rw [← List.map_take, ← List.map_drop, ← List.map_append]
   rfl
  have cs : (k = 0) ∨ (k ≠ 0 ∧ k + 1 = m.fields.length) ∨ (k ≠ 0 ∧ k + 1 < m.fields.length) := by omega
  rcases cs with hk0 | ⟨hk0, hk1⟩ | ⟨hk0, hk1⟩
  ·have hTk : List.take k (List.map encFd m.fields) = [] := by rw [hk0]; rfl
   have hDr : 0 = 0 := rfl
   refine AW.dE mixed (by rfl) (by decide +kernel) fun K hK => ?_
   simp -implicitDefEqProofs only [go_sem, ↓reduceIte, Nat.reduceAdd, Nat.reduceEqDiff, Nat.reduceLeDiff, reduceCtorEq, gf, k2, k3, k4, w3, tkl, hTk, liftE_nil, List.drop_zero, List.length_map, Int.toNat_natCast]
   refine ⟨lenF, by simp, ⟨by omega, by omega, by omega, rfl⟩, lenF, by simp, by omega, ⟨by rw [← List.map_drop]; exact lift_len (f := encFd) (fun _ => rfl) _, by rw [← List.map_drop]; exact lift_one one_Fd _, by simp⟩, ⟨.inl trivial, by simp, by rw [liftE_length, List.length_drop, List.length_map]; omega⟩, ?_, ?_⟩
   ·first
     | decide +kernel
     | skip
   refine hK _ ?_; clear hK K
   simp only [andThen]
   refine ⟨(), trivial, ?_⟩
   refine putN (F := F9 S S.name) (l := S.msgs) (r := tt) (N := 121) (es := S.enums) (g := tt) (m' := brkM m k f 0) (T' := bwT q r c.inn [(11, .p (.int .i64 (i : Int))), (12, .ptr 1 i 0), (13, .p (.int .i64 (k : Int))), (14, .p (.int .i64 f.tag)), (92, .p (.int .i64 3))]) (F9_ok S S.name) hN (by omega) hm (brk_name _ _ _ _) rfl ?_ ?_ ?_ ?_
   ·simp only [bwT]
    simp -implicitDefEqProofs only [go_sem, ↓reduceIte, Nat.reduceEqDiff, List.forall_mem_cons, List.not_mem_nil, false_implies, implies_true]
    (repeat' apply And.intro) <;> first | done | decide | (intro _ h; cases h) | simp
   ·simp -implicitDefEqProofs only [go_sem, ↓reduceIte, tt]
   ·simp -implicitDefEqProofs only [go_sem, ↓reduceIte, Nat.reduceEqDiff, eF, hTk, List.nil_append]
   ·intro x hx h
    have e1 := atf x hx
    have e2 := (lbf x hx).1
    rw [eMf] at e1
    simp only [cellsSc] at e1
    rw [upd_ne _ _ h, upd_ne _ _ (by omega)]
    exact e1
  ·obtain ⟨x0, xs, hTk⟩ : ∃ x xs, List.take k (List.map encFd m.fields) = x :: xs := by
    cases h : List.take k (List.map encFd m.fields) with
    | nil =>
     exfalso
     have := congrArg List.length h
     rw [List.length_take, List.length_map, List.length_nil] at this
     omega
    | cons x xs => exact ⟨x, xs, rfl⟩
   have hDr : List.drop (k + 1) (List.map encFd m.fields) = [] := List.drop_of_length_le (by rw [List.length_map]; omega)
   refine AW.dE mixed (by rfl) (by decide +kernel) fun K hK => ?_
   simp -implicitDefEqProofs only [go_sem, ↓reduceIte, Nat.reduceAdd, Nat.reduceEqDiff, Nat.reduceLeDiff, reduceCtorEq, gf, k2, k3, k4, w3, tkl, hTk, hDr, liftE_nil, List.drop_zero, List.length_map, Int.toNat_natCast]
   refine ⟨lenF, by simp, ⟨by omega, by omega, by omega, rfl⟩, lenF, by simp, by omega, ⟨by simp, by simp, by simp⟩, ?_, ?_⟩
   ·first
     | decide +kernel
     | skip
   refine hK _ ?_; clear hK K
   simp only [andThen]
   refine ⟨(), trivial, ?_⟩
   refine putEx (F := F9 S S.name) (l := S.msgs) (r := tt) (es := S.enums) (g := tt) (m' := brkM m k f 0) (T' := bwT q r c.inn [(11, .p (.int .i64 (i : Int))), (12, .ptr 1 i 0), (13, .p (.int .i64 (k : Int))), (14, .p (.int .i64 f.tag)), (92, .p (.int .i64 3))]) (F9_ok S S.name) hN hm (brk_name _ _ _ _) rfl ?_ ?_ ?_
   ·simp only [bwT]
    simp -implicitDefEqProofs only [go_sem, ↓reduceIte, Nat.reduceEqDiff, List.forall_mem_cons, List.not_mem_nil, false_implies, implies_true, and_self]
    (repeat' apply And.intro) <;> first | done | decide | (intro _ h; cases h) | simp
   ·simp -implicitDefEqProofs only [go_sem, ↓reduceIte, eF, hTk, hDr, List.append_nil, tt]
   ·intro x hx h
    have e1 := atf x hx
    have e2 := (lbf x hx).1
    rw [eMf] at e1
    simp only [cellsSc] at e1
    rw [upd_ne _ _ h]
    exact e1
  ·obtain ⟨x0, xs, hTk⟩ : ∃ x xs, List.take k (List.map encFd m.fields) = x :: xs := by
    cases h : List.take k (List.map encFd m.fields) with
    | nil =>
     exfalso
     have := congrArg List.length h
     rw [List.length_take, List.length_map, List.length_nil] at this
     omega
    | cons x xs => exact ⟨x, xs, rfl⟩
   obtain ⟨y0, ys, hDr⟩ : ∃ x xs, List.drop (k + 1) (List.map encFd m.fields) = x :: xs := by
    cases h : List.drop (k + 1) (List.map encFd m.fields) with
    | nil =>
     exfalso
     have := congrArg List.length h
     rw [List.length_drop, List.length_map, List.length_nil] at this
     omega
    | cons x xs => exact ⟨x, xs, rfl⟩
   refine AW.dE mixed (by rfl) (by decide +kernel) fun K hK => ?_
   simp -implicitDefEqProofs only [go_sem, ↓reduceIte, Nat.reduceAdd, Nat.reduceEqDiff, Nat.reduceLeDiff, reduceCtorEq, gf, k2, k3, k4, w3, tkl, hTk, hDr, liftE_cons, List.drop_zero, List.length_map, Int.toNat_natCast]
   refine ⟨lenF, by simp, ⟨by omega, by omega, by omega, rfl⟩, lenF, by simp, by omega, ⟨by rw [← liftE_cons, ← hDr, ← List.map_drop]; exact lift_len (f := encFd) (fun _ => rfl) _, by rw [← liftE_cons, ← hDr, ← List.map_drop]; exact lift_one one_Fd _, by simp⟩, ⟨.inr (by simp), by rw [← hTk]; exact fun y hy => (lenF y (List.mem_of_mem_take hy)).symm, by have e1 := congrArg List.length hTk; have e2 := congrArg List.length hDr; simp only [List.length_take, List.length_drop, List.length_map, List.length_cons] at e1 e2; simp only [liftE_length]; omega⟩, ?_, ?_⟩
   ·first
     | decide +kernel
     | skip
   refine hK _ ?_; clear hK K
   simp only [andThen]
   refine ⟨(), trivial, ?_⟩
   refine putN (F := F9 S S.name) (l := S.msgs) (r := tt) (N := 121) (es := S.enums) (g := tt) (m' := brkM m k f 0) (T' := bwT q r c.inn [(11, .p (.int .i64 (i : Int))), (12, .ptr 1 i 0), (13, .p (.int .i64 (k : Int))), (14, .p (.int .i64 f.tag)), (92, .p (.int .i64 3))]) (F9_ok S S.name) hN (by omega) hm (brk_name _ _ _ _) rfl ?_ ?_ ?_ ?_
   ·simp only [bwT]
    simp -implicitDefEqProofs only [go_sem, ↓reduceIte, Nat.reduceEqDiff, List.forall_mem_cons, List.not_mem_nil, false_implies, implies_true]
    (repeat' apply And.intro) <;> first | done | decide | (intro _ h; cases h) | simp
   ·simp -implicitDefEqProofs only [go_sem, ↓reduceIte, tt]
   ·simp -implicitDefEqProofs only [go_sem, ↓reduceIte, Nat.reduceEqDiff, eF, hTk, hDr, liftE_append, liftE_cons, List.cons_append]
   ·intro x hx h
    have e1 := atf x hx
    have e2 := (lbf x hx).1
    rw [eMf] at e1
    simp only [cellsSc] at e1
    rw [upd_ne _ _ h, upd_ne _ _ (by omega)]
    exact e1
end Go.Aw
