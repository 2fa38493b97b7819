/- What the law LawProjectLast leans on, joined (part 4). -/
import Derived.Test.YtpbangopjdlfcaaDoorZprojectLast3
set_option linter.unusedSimpArgs false
set_option linter.unusedVariables false
namespace Go.Aw.T
open Go.Proofs
set_option linter.unusedSimpArgs false
set_option linter.unusedVariables false
def bareN (e : Int × List Tr) : Int × List Tr := (e.1, e.2.map bareT)
def bz (t : Tr) (i : Nat) (e : Int × List Tr) : St := ⟨ofL [(1, .ptr 0 0 0), (2, .ptr 1 0 0), (3, .ptr 2 0 0), (4, .p (.int .i64 (i : Int))), (5, .ptr 4 0 0)],
 ofH [(0, .row 5 [cellsT t]), (1, .row 5 [[.p (.int .i64 0), .p (.int .i64 0), .p (.str []), .ex [], .ex []]]), (2, .row 5 [[.p (.int .i64 t.kind), .p (.int .i64 t.n), .p (.str t.s), .own 3, .ex []]]),
  (3, .row 2 (liftE (((t.ents.map bareN).take i).map encEn))), (4, .row 2 [[.p (.int .i64 e.1), .p (.slice ((e.2.map bareT).map encTr))]])], 5⟩
theorem map_at {α β : Type} {f : α → β} {l : List α} {i : Nat} {x : α} (h : l[i]? = some x) : (l.map f)[i]? = some (f x) := by rw [List.getElem?_map, h]; rfl
end Go.Aw.T
namespace Go.Aw.T
open Go.Proofs
set_option linter.unusedSimpArgs false
set_option linter.unusedVariables false
def cx (t : Tr) (i : Nat) (l : List (Nat × AV)) (h : List (Nat × Blk)) (n : Nat) : St := ⟨ofL ((1, .ptr 0 0 0) :: (2, .ptr 1 0 0) :: (3, .own 2) :: (11, .p (.slice (t.ents.map encEn))) :: (12, .p (.int .i64 (t.ents.length : Int))) :: (13, .p (.int .i64 (i : Int))) :: l),
 ofH ((0, .row 5 [[.p (.int .i64 t.kind), .p (.int .i64 t.n), .p (.str t.s), .p (.slice (t.ents.map encEn)), .ex []]]) :: (1, .row 5 [[.p (.int .i64 0), .p (.int .i64 0), .p (.str []), .ex [], .ex []]]) ::
  (2, .row 2 (liftE (((t.ents.map bareN).take i).map encEn))) :: h), n⟩
end Go.Aw.T
namespace Go.Aw.T
open Go.Proofs
set_option linter.unusedSimpArgs false
set_option linter.unusedVariables false
theorem lensTs_iff : ∀ {l : List Tr}, lensTs l = true ↔ ∀ x ∈ l, lensT x = true
 | [] => by simp [lensTs]
 | x :: l => by rw [lensTs, Bool.and_eq_true, lensTs_iff]; simp
theorem lensE_iff : ∀ {es : List (Int × List Tr)}, lensE es = true ↔ ∀ e ∈ es, e.2.length ≤ 1000 ∧ lensTs e.2 = true
 | [] => by simp [lensE]
 | (g, l) :: es => by
  rw [lensE, Bool.and_eq_true, Bool.and_eq_true, decide_eq_true_eq, lensE_iff]
  simp
end Go.Aw.T
namespace Go.Aw.T
end Go.Aw.T
namespace Go.Aw.T
open Go.Proofs
set_option linter.unusedSimpArgs false
set_option linter.unusedVariables false
end Go.Aw.T
namespace Go.Aw.T
open Go.Proofs
set_option linter.unusedSimpArgs false
set_option linter.unusedVariables false
def clampV (n : Int) : Int := if n < -2147483648 then -2147483648 else if 2147483647 < n then 2147483647 else n
def pfit (y : Ty) (t : Tr) : Bool := if y.kind = 1 ∨ y.kind = 2 then decide (t.kind = 1) else if y.kind = 3 ∨ y.kind = 6 then decide (t.kind = 1) && numV y t.n else if y.kind = 4 then decide (t.kind = 2) && valS t.s else if y.kind = 5 then decide (t.kind = 2) else decide (t.kind = 3)
def selL {α : Type} (f : Fd) (l : List α) : List α := if f.label = 3 then l else l.drop (l.length - 1)
theorem selL_map {α β : Type} (f : Fd) (g : α → β) (l : List α) : selL f (l.map g) = (selL f l).map g := by
 unfold selL
 split
 ·rfl
 ·rw [List.map_drop, List.length_map]
def keepL (f : Fd) (l : List Tr) : Bool := f.label != 1 || !(l.head?.any zeroV)
mutual
def prM (S : Sc) (m : Ms) : Tr → Tr
 | .mk _ _ _ es _ => .mk 3 0 [] (prE S m es) []
def prE (S : Sc) (m : Ms) : List (Int × List Tr) → List (Int × List Tr)
 | [] => []
 | (g, l) :: es => if ((fldOf m g).2 && l.all (pfit (fldOf m g).1.ty) && keepL (fldOf m g).1 (selL (fldOf m g).1 (prL S (fldOf m g).1 l))) = true then (g, selL (fldOf m g).1 (prL S (fldOf m g).1 l)) :: prE S m es else prE S m es
def prL (S : Sc) (f : Fd) : List Tr → List Tr
 | [] => []
 | t :: l => (if f.ty.kind = 1 then .mk t.kind (clampV t.n) t.s t.ents t.rest else if f.ty.kind = 7 then prM S (msOf S f.ty.name).1 t else t) :: prL S f l
end
def pr1 (S : Sc) (f : Fd) (t : Tr) : Tr := if f.ty.kind = 1 then .mk t.kind (clampV t.n) t.s t.ents t.rest else if f.ty.kind = 7 then prM S (msOf S f.ty.name).1 t else t
theorem prL_map (S : Sc) (f : Fd) : ∀ l : List Tr, prL S f l = l.map (pr1 S f)
 | [] => by rw [prL]; rfl
 | t :: l => by rw [prL, prL_map S f l]; rfl
theorem prM_mk (S : Sc) (m : Ms) (t : Tr) : prM S m t = .mk 3 0 [] (prE S m t.ents) [] := by
 cases t
 rw [prM]
 rfl
def fieldP (S : Sc) (f : Fd) (l : List Tr) : List Tr × Bool := if l.all (pfit f.ty) = false then ([], false) else ((selL f l).map (pr1 S f), keepL f ((selL f l).map (pr1 S f)))
def entP (S : Sc) (m : Ms) (e : Int × List Tr) : List (Int × List Tr) := if (fldOf m e.1).2 = true ∧ (fieldP S (fldOf m e.1).1 e.2).2 = true then [(e.1, (fieldP S (fldOf m e.1).1 e.2).1)] else []
theorem prE_cons (S : Sc) (m : Ms) (e : Int × List Tr) (es : List (Int × List Tr)) : prE S m (e :: es) = entP S m e ++ prE S m es := by
 obtain ⟨g, l⟩ := e
 rw [prE]
 unfold entP fieldP
 simp only
 rw [prL_map, selL_map]
 cases h1 : (fldOf m g).2
 ·simp
 cases h2 : l.all (pfit (fldOf m g).1.ty)
 ·simp
 cases h3 : keepL (fldOf m g).1 ((selL (fldOf m g).1 l).map (pr1 S (fldOf m g).1))
 ·simp
 ·simp
theorem prE_flat (S : Sc) (m : Ms) : ∀ es : List (Int × List Tr), prE S m es = es.flatMap (entP S m)
 | [] => by rw [prE]; rfl
 | e :: es => by rw [prE_cons, prE_flat S m es]; rfl
theorem prE_take {S : Sc} {m : Ms} {es : List (Int × List Tr)} {i : Nat} {e : Int × List Tr} (h : es[i]? = some e) : prE S m (es.take (i + 1)) = prE S m (es.take i) ++ entP S m e := by
 rw [prE_flat, prE_flat, List.take_add_one, h, List.flatMap_append]
 simp
theorem entP_len (S : Sc) (m : Ms) (e : Int × List Tr) : (entP S m e).length ≤ 1 := by
 unfold entP
 split <;> simp
theorem prE_len (S : Sc) (m : Ms) (es : List (Int × List Tr)) : (prE S m es).length ≤ es.length := by
 induction es with
 | nil => simp [prE]
 | cons e es ih =>
  rw [prE_cons, List.length_append, List.length_cons]
  have := entP_len S m e
  omega
def zeroTr : Tr := .mk 0 0 [] [] []
def projP (S : Sc) (k : List UInt8) (t : Tr) : Tr × Bool := if (msOf S k).2 = false ∨ checkC S ≠ 0 ∨ t.kind ≠ 3 ∨ okT t = false then (zeroTr, false) else (prM S (msOf S k).1 t, true)
end Go.Aw.T
namespace Go.Aw.T
open Go.Proofs
set_option linter.unusedSimpArgs false
set_option linter.unusedVariables false
theorem project_Clamp (n : Int) : PFn Tryd.prog 46 [.int .i64 n] (.int .i64 (clampV n)) := by
 refine PFn.of Tryd.func46 rfl (by decide) Tryd.ntmps46 Tryd.results46 (Nat.le_of_ble_eq_true rfl) ?_
 simp only [argsT]
 refine AW.rT (by rfl) fun K hK => ?_
 simp -implicitDefEqProofs only [go_sem]
 refine hK _ ?_; clear hK K
 refine AW.rT (by rfl) fun K hK => ?_
 simp -implicitDefEqProofs only [go_sem, ↓reduceIte, Nat.reduceAdd, reduceCtorEq]
 try simp -implicitDefEqProofs only [go_sem, ↓reduceIte, Nat.reduceAdd, Nat.reduceMul, Nat.reduceEqDiff, Nat.reduceLeDiff, reduceCtorEq, Int.reduceToNat]
 refine hK _ ?_; clear hK K
 refine AW.ret ?_
 simp -implicitDefEqProofs only [go_sem]
 congr 1
 unfold clampV
 repeat' split
 all_goals omega
theorem pfit_12 {y : Ty} {t : Tr} (h : y.kind = 1 ∨ y.kind = 2) : pfit y t = decide (t.kind = 1) := by unfold pfit; rw [if_pos h]
theorem pfit_36 {y : Ty} {t : Tr} (h : y.kind = 3 ∨ y.kind = 6) : pfit y t = (decide (t.kind = 1) && numV y t.n) := by unfold pfit; rw [if_neg (by omega), if_pos h]
theorem pfit_4 {y : Ty} {t : Tr} (h : y.kind = 4) : pfit y t = (decide (t.kind = 2) && valS t.s) := by unfold pfit; rw [if_neg (by omega), if_neg (by omega), if_pos h]
theorem pfit_5 {y : Ty} {t : Tr} (h : y.kind = 5) : pfit y t = decide (t.kind = 2) := by unfold pfit; rw [if_neg (by omega), if_neg (by omega), if_neg (by omega), if_pos h]
theorem pfit_7 {y : Ty} {t : Tr} (h1 : y.kind ≠ 1) (h2 : y.kind ≠ 2) (h3 : y.kind ≠ 3) (h6 : y.kind ≠ 6) (h4 : y.kind ≠ 4) (h5 : y.kind ≠ 5) : pfit y t = decide (t.kind = 3) := by unfold pfit; rw [if_neg (by omega), if_neg (by omega), if_neg h4, if_neg h5]
theorem eqd (a b : Int) : (a == b) = decide (a = b) := by by_cases h : a = b <;> simp [h]
set_option maxRecDepth 100000 in
set_option maxHeartbeats 4000000 in
theorem project_fits (y : Ty) (t : Tr) (hs : t.s.length ≤ 1000000) : PFn Tryd.prog 135 [.agg (encTy y), .agg (encTr t)] (.bool (pfit y t)) := by
 have CN := valid_Number y t.n
 have CV : PFn Tryd.prog 131 [.str t.s] (.bool (valS t.s)) := runes_Valid t.s (by omega)
 simp only [encTy] at CN
 refine PFn.of Tryd.func135 rfl (by decide) Tryd.ntmps135 Tryd.results135 (Nat.le_of_ble_eq_true rfl) ?_
 simp only [argsT]
 refine AW.rT (by rfl) fun K hK => ?_
 simp -implicitDefEqProofs only [go_sem, ↓reduceIte, Nat.reduceAdd, Nat.reduceEqDiff, encTy, encTr_eq]
 refine hK _ ?_; clear hK K
 refine AW.seq ?_
 refine AW.rT (by rfl) fun K hK => ?_
 simp -implicitDefEqProofs only [go_sem, ↓reduceIte, Nat.reduceAdd, Nat.reduceEqDiff, reduceCtorEq]
 refine hK _ ?_; clear hK K
 refine AW.block ?_
 refine AW.seq ?_
 refine AW.block ?_
 refine AW.seq ?_
 refine AW.block ?_
 refine AW.seq ?_
 refine AW.block ?_
 refine AW.seq ?_
 refine AW.block ?_
 refine AW.block ?_
 refine AW.seq ?_
 refine AW.seq ?_
 by_cases k1 : y.kind = 1
 ·have e := eqb k1
  refine AW.rT (by rfl) fun K hK => ?_
  simp -implicitDefEqProofs only [go_sem, ↓reduceIte, Nat.reduceAdd, e]
  refine hK _ ?_; clear hK K
  refine AW.cond _ (by simp -implicitDefEqProofs only [go_sem]; rfl) (fun hc => ?_) (fun hc => ?_)
  rotate_left
  ·simp at hc
  refine AW.exit ?_
  simp only [andThen, inBlk, ↓reduceIte]
  refine AW.seq ?_
  have HH : pfit y t = (t.kind == 1) := by rw [pfit_12 (.inl k1), eqd]
  refine AW.rT (by rfl) fun K hK => ?_
  simp -implicitDefEqProofs only [go_sem, ↓reduceIte, Nat.reduceAdd, Nat.reduceEqDiff]
  refine hK _ ?_; clear hK K
  refine AW.ret ?_
  simp -implicitDefEqProofs only [go_sem, HH]
 have e1 := beqf k1
 refine AW.rT (by rfl) fun K hK => ?_
 simp -implicitDefEqProofs only [go_sem, ↓reduceIte, Nat.reduceAdd, e1]
 refine hK _ ?_; clear hK K
 refine AW.cond _ (by simp -implicitDefEqProofs only [go_sem]; rfl) (fun hc => ?_) (fun hc => ?_)
 ·simp at hc
 refine AW.skip ?_
 simp only [andThen]
 refine AW.seq ?_
 by_cases k2 : y.kind = 2
 ·have e := eqb k2
  refine AW.rT (by rfl) fun K hK => ?_
  simp -implicitDefEqProofs only [go_sem, ↓reduceIte, Nat.reduceAdd, Nat.reduceEqDiff, e]
  refine hK _ ?_; clear hK K
  refine AW.cond _ (by simp -implicitDefEqProofs only [go_sem]; rfl) (fun hc => ?_) (fun hc => ?_)
  rotate_left
  ·simp at hc
  refine AW.exit ?_
  simp only [andThen, inBlk, ↓reduceIte]
  refine AW.seq ?_
  have HH : pfit y t = (t.kind == 1) := by rw [pfit_12 (.inr k2), eqd]
  refine AW.rT (by rfl) fun K hK => ?_
  simp -implicitDefEqProofs only [go_sem, ↓reduceIte, Nat.reduceAdd, Nat.reduceEqDiff]
  refine hK _ ?_; clear hK K
  refine AW.ret ?_
  simp -implicitDefEqProofs only [go_sem, HH]
 have e2 := beqf k2
 refine AW.rT (by rfl) fun K hK => ?_
 simp -implicitDefEqProofs only [go_sem, ↓reduceIte, Nat.reduceAdd, Nat.reduceEqDiff, e2]
 refine hK _ ?_; clear hK K
 refine AW.cond _ (by simp -implicitDefEqProofs only [go_sem]; rfl) (fun hc => ?_) (fun hc => ?_)
 ·simp at hc
 refine AW.skip ?_
 simp only [andThen]
 refine AW.seq ?_
 refine AW.seq ?_
 by_cases k36 : y.kind = 3 ∨ y.kind = 6
 ·by_cases k3 : y.kind = 3
  ·have e := eqb k3
   refine AW.rT (by rfl) fun K hK => ?_
   simp -implicitDefEqProofs only [go_sem, ↓reduceIte, Nat.reduceAdd, Nat.reduceEqDiff, e]
   refine hK _ ?_; clear hK K
   refine AW.cond _ (by simp -implicitDefEqProofs only [go_sem]; rfl) (fun hc => ?_) (fun hc => ?_)
   rotate_left
   ·simp at hc
   refine AW.skip ?_
   simp only [andThen]
   refine AW.cond _ (by simp -implicitDefEqProofs only [go_sem]; rfl) (fun hc => ?_) (fun hc => ?_)
   rotate_left
   ·simp at hc
   refine AW.exit ?_
   simp only [andThen, inBlk, ↓reduceIte]
   refine AW.seq ?_
   by_cases t1 : t.kind = 1
   ·have q1 := eqb t1
    have HH : pfit y t = numV y t.n := by rw [pfit_36 k36]; simp [t1]
    generalize numV y t.n = nv at CN HH
    refine AW.rT (by rfl) fun K hK => ?_
    simp -implicitDefEqProofs only [go_sem, ↓reduceIte, Nat.reduceAdd, Nat.reduceEqDiff, Nat.reduceLeDiff, reduceCtorEq, q1]
    refine ⟨.pure _, CN, ?_⟩
    try simp -implicitDefEqProofs only [go_sem, ↓reduceIte, Nat.reduceAdd, Nat.reduceEqDiff]
    refine hK _ ?_; clear hK K
    refine AW.ret ?_
    simp -implicitDefEqProofs only [go_sem, HH]
   ·have q1 := beqf t1
    have HH : pfit y t = false := by rw [pfit_36 k36]; simp [t1]
    refine AW.rT (by rfl) fun K hK => ?_
    simp -implicitDefEqProofs only [go_sem, ↓reduceIte, Nat.reduceAdd, Nat.reduceEqDiff, q1]
    refine hK _ ?_; clear hK K
    refine AW.ret ?_
    simp -implicitDefEqProofs only [go_sem, HH]
  ·have e := beqf k3
   have e6 := eqb (show y.kind = 6 by omega)
   refine AW.rT (by rfl) fun K hK => ?_
   simp -implicitDefEqProofs only [go_sem, ↓reduceIte, Nat.reduceAdd, Nat.reduceEqDiff, e]
   refine hK _ ?_; clear hK K
   refine AW.cond _ (by simp -implicitDefEqProofs only [go_sem]; rfl) (fun hc => ?_) (fun hc => ?_)
   ·simp at hc
   refine AW.rE (by rfl) fun K hK => ?_
   simp -implicitDefEqProofs only [go_sem, ↓reduceIte, Nat.reduceAdd, Nat.reduceEqDiff, e6]
   refine hK _ ?_; clear hK K
   simp only [andThen]
   refine AW.cond _ (by simp -implicitDefEqProofs only [go_sem]; rfl) (fun hc => ?_) (fun hc => ?_)
   rotate_left
   ·simp at hc
   refine AW.exit ?_
   simp only [andThen, inBlk, ↓reduceIte]
   refine AW.seq ?_
   by_cases t1 : t.kind = 1
   ·have q1 := eqb t1
    have HH : pfit y t = numV y t.n := by rw [pfit_36 k36]; simp [t1]
    generalize numV y t.n = nv at CN HH
    refine AW.rT (by rfl) fun K hK => ?_
    simp -implicitDefEqProofs only [go_sem, ↓reduceIte, Nat.reduceAdd, Nat.reduceEqDiff, Nat.reduceLeDiff, reduceCtorEq, q1]
    refine ⟨.pure _, CN, ?_⟩
    try simp -implicitDefEqProofs only [go_sem, ↓reduceIte, Nat.reduceAdd, Nat.reduceEqDiff]
    refine hK _ ?_; clear hK K
    refine AW.ret ?_
    simp -implicitDefEqProofs only [go_sem, HH]
   ·have q1 := beqf t1
    have HH : pfit y t = false := by rw [pfit_36 k36]; simp [t1]
    refine AW.rT (by rfl) fun K hK => ?_
    simp -implicitDefEqProofs only [go_sem, ↓reduceIte, Nat.reduceAdd, Nat.reduceEqDiff, q1]
    refine hK _ ?_; clear hK K
    refine AW.ret ?_
    simp -implicitDefEqProofs only [go_sem, HH]
 have e3 := beqf (show y.kind ≠ 3 by omega)
 have e6 := beqf (show y.kind ≠ 6 by omega)
 refine AW.rT (by rfl) fun K hK => ?_
 simp -implicitDefEqProofs only [go_sem, ↓reduceIte, Nat.reduceAdd, Nat.reduceEqDiff, e3]
 refine hK _ ?_; clear hK K
 refine AW.cond _ (by simp -implicitDefEqProofs only [go_sem]; rfl) (fun hc => ?_) (fun hc => ?_)
 ·simp at hc
 refine AW.rE (by rfl) fun K hK => ?_
 simp -implicitDefEqProofs only [go_sem, ↓reduceIte, Nat.reduceAdd, Nat.reduceEqDiff, e6]
 refine hK _ ?_; clear hK K
 simp only [andThen]
 refine AW.cond _ (by simp -implicitDefEqProofs only [go_sem]; rfl) (fun hc => ?_) (fun hc => ?_)
 ·simp at hc
 refine AW.skip ?_
 simp only [andThen]
 refine AW.seq ?_
 by_cases k4 : y.kind = 4
 ·have e := eqb k4
  refine AW.rT (by rfl) fun K hK => ?_
  simp -implicitDefEqProofs only [go_sem, ↓reduceIte, Nat.reduceAdd, Nat.reduceEqDiff, e]
  refine hK _ ?_; clear hK K
  refine AW.cond _ (by simp -implicitDefEqProofs only [go_sem]; rfl) (fun hc => ?_) (fun hc => ?_)
  rotate_left
  ·simp at hc
  refine AW.exit ?_
  simp only [andThen, inBlk, ↓reduceIte]
  refine AW.seq ?_
  by_cases t1 : t.kind = 2
  ·have q1 := eqb t1
   have HH : pfit y t = valS t.s := by rw [pfit_4 k4]; simp [t1]
   generalize valS t.s = nv at CV HH
   refine AW.rT (by rfl) fun K hK => ?_
   simp -implicitDefEqProofs only [go_sem, ↓reduceIte, Nat.reduceAdd, Nat.reduceEqDiff, q1]
   refine ⟨.pure _, CV, ?_⟩
   try simp -implicitDefEqProofs only [go_sem, ↓reduceIte, Nat.reduceAdd, Nat.reduceEqDiff]
   refine hK _ ?_; clear hK K
   refine AW.ret ?_
   simp -implicitDefEqProofs only [go_sem, HH]
  ·have q1 := beqf t1
   have HH : pfit y t = false := by rw [pfit_4 k4]; simp [t1]
   refine AW.rT (by rfl) fun K hK => ?_
   simp -implicitDefEqProofs only [go_sem, ↓reduceIte, Nat.reduceAdd, Nat.reduceEqDiff, q1]
   refine hK _ ?_; clear hK K
   refine AW.ret ?_
   simp -implicitDefEqProofs only [go_sem, HH]
 have e4 := beqf k4
 refine AW.rT (by rfl) fun K hK => ?_
 simp -implicitDefEqProofs only [go_sem, ↓reduceIte, Nat.reduceAdd, Nat.reduceEqDiff, e4]
 refine hK _ ?_; clear hK K
 refine AW.cond _ (by simp -implicitDefEqProofs only [go_sem]; rfl) (fun hc => ?_) (fun hc => ?_)
 ·simp at hc
 refine AW.skip ?_
 simp only [andThen]
 by_cases k5 : y.kind = 5
 ·have e := eqb k5
  refine AW.rT (by rfl) fun K hK => ?_
  simp -implicitDefEqProofs only [go_sem, ↓reduceIte, Nat.reduceAdd, Nat.reduceEqDiff, e]
  refine hK _ ?_; clear hK K
  refine AW.cond _ (by simp -implicitDefEqProofs only [go_sem]; rfl) (fun hc => ?_) (fun hc => ?_)
  rotate_left
  ·simp at hc
  refine AW.exit ?_
  simp only [andThen, inBlk, ↓reduceIte]
  refine AW.seq ?_
  have HH : pfit y t = (t.kind == 2) := by rw [pfit_5 k5, eqd]
  refine AW.rT (by rfl) fun K hK => ?_
  simp -implicitDefEqProofs only [go_sem, ↓reduceIte, Nat.reduceAdd, Nat.reduceEqDiff]
  refine hK _ ?_; clear hK K
  refine AW.ret ?_
  simp -implicitDefEqProofs only [go_sem, HH]
 have e5 := beqf k5
 refine AW.rT (by rfl) fun K hK => ?_
 simp -implicitDefEqProofs only [go_sem, ↓reduceIte, Nat.reduceAdd, Nat.reduceEqDiff, e5]
 refine hK _ ?_; clear hK K
 refine AW.cond _ (by simp -implicitDefEqProofs only [go_sem]; rfl) (fun hc => ?_) (fun hc => ?_)
 ·simp at hc
 refine AW.skip ?_
 simp only [andThen]
 refine AW.exit ?_
 simp only [andThen, inBlk, reduceCtorEq, ↓reduceIte]
 have HH : pfit y t = (t.kind == 3) := by rw [pfit_7 k1 k2 (by omega) (by omega) k4 k5, eqd]
 refine AW.rT (by rfl) fun K hK => ?_
 simp -implicitDefEqProofs only [go_sem, ↓reduceIte, Nat.reduceAdd, Nat.reduceEqDiff]
 refine hK _ ?_; clear hK K
 refine AW.ret ?_
 simp -implicitDefEqProofs only [go_sem, HH]
theorem law13_awake : PFn Tryd.prog 43 [] (.bool true) := by
 have C1 := project_Clamp 1099511627776
 have C2 := project_Clamp (-1099511627776)
 have C3 := project_Clamp 5
 rw [show clampV 1099511627776 = 2147483647 from rfl] at C1
 rw [show clampV (-1099511627776) = -2147483648 from rfl] at C2
 rw [show clampV 5 = 5 from rfl] at C3
 refine PFn.of Tryd.func43 rfl (by decide) Tryd.ntmps43 Tryd.results43 (Nat.le_of_ble_eq_true rfl) ?_
 simp only [argsT]
 have q1 : ((2147483647 : Int) == 2147483647) = true := rfl
 have q2 : ((-2147483648 : Int) == -2147483648) = true := rfl
 have q3 : ((5 : Int) == 5) = true := rfl
 refine AW.rT (by rfl) fun K hK => ?_
 simp -implicitDefEqProofs only [go_sem]
 refine hK _ ?_; clear hK K
 refine AW.rT (by rfl) fun K hK => ?_
 simp -implicitDefEqProofs only [go_sem]
 refine ⟨.pure _, C1, ?_⟩
 try simp -implicitDefEqProofs only [go_sem, ↓reduceIte, Nat.reduceAdd, q1]
 refine ⟨.pure _, C2, ?_⟩
 try simp -implicitDefEqProofs only [go_sem, ↓reduceIte, Nat.reduceAdd, Nat.reduceEqDiff, q2]
 refine ⟨.pure _, C3, ?_⟩
 try simp -implicitDefEqProofs only [go_sem, ↓reduceIte, Nat.reduceAdd, Nat.reduceEqDiff, q3]
 refine hK _ ?_; clear hK K
 refine AW.ret ?_
 simp -implicitDefEqProofs only [go_sem]
end Go.Aw.T
namespace Go.Aw.T
open Go.Proofs
set_option linter.unusedSimpArgs false
set_option linter.unusedVariables false
def yc (S : Sc) (f : Fd) (L : List (Nat × AV)) (H : List (Nat × Blk)) (n : Nat) : St := ⟨ofL ((3, .ptr 0 0 0) :: (4, .ptr 1 0 0) :: L), ofH ((0, .row 4 [cellsSc S]) :: (1, .row 5 [cellsFd f]) :: H), n⟩
def ycA (l : List Tr) (i : Nat) : List (Nat × AV) := [(2, .p (.slice (l.map encTr))), (15, .p (.slice (l.map encTr))), (16, .p (.int .i64 (l.length : Int))), (17, .p (.int .i64 (i : Int)))]
def ycB (l : List Tr) (i : Nat) : List (Nat × AV) := [(10, .own 2), (35, .p (.slice (l.map encTr))), (36, .p (.int .i64 (l.length : Int))), (37, .p (.int .i64 (i : Int)))]
theorem selL_len {α : Type} (f : Fd) (l : List α) (h : 1 ≤ l.length) : 1 ≤ (selL f l).length ∧ (selL f l).length ≤ l.length := by
 unfold selL
 split
 ·omega
 ·rw [List.length_drop]; omega
theorem selL_mem {α : Type} {f : Fd} {l : List α} {x : α} (h : x ∈ selL f l) : x ∈ l := by
 unfold selL at h
 split at h
 ·exact h
 ·exact List.mem_of_mem_drop h
set_option maxRecDepth 100000 in
set_option maxHeartbeats 8000000 in
theorem project_field (S : Sc) (hS : SizS S) (f : Fd) (l : List Tr) (hne : 1 ≤ l.length) (hl : l.length ≤ 1000) (hs : ∀ x ∈ l, x.s.length ≤ 1000000) (IH : ∀ x ∈ l, ∀ m : Ms, m.fields.length ≤ 1000000 → PFn Tryd.prog 74 [.agg (encSc S), .agg (encMs m), .agg (encTr x)] (.agg (encTr (prM S m x)))) :
  PFn Tryd.prog 103 [.agg (encSc S), .agg (encFd f), .slice (l.map encTr)] (.tuple [.slice ((fieldP S f l).1.map encTr), .bool (fieldP S f l).2]) := by
 refine PFn.of Tryd.func103 rfl (by decide) Tryd.ntmps103 Tryd.results103 (Nat.le_of_ble_eq_true rfl) ?_
 simp only [argsT]
 refine AW.rT (by rfl) fun K hK => ?_
 simp -implicitDefEqProofs only [go_sem, ↓reduceIte, Nat.reduceAdd, Nat.reduceEqDiff, encSc, encFd]
 refine hK _ ?_; clear hK K
 refine AW.cut (fun _ : Unit => yc S f [(2, .p (.slice (l.map encTr)))] [] 2) (fun _ => l.all (pfit f.ty) = true) ?_ fun _ hall => ?_
 ·refine AW.rT (by rfl) fun K hK => ?_
  simp -implicitDefEqProofs only [go_sem, ↓reduceIte, Nat.reduceAdd, Nat.reduceEqDiff, reduceCtorEq, List.length_map]
  refine hK _ ?_; clear hK K
  refine AW.block ?_
  refine AW.loop (fun i : Nat => yc S f (ycA l i) [] 2) (fun i => i ≤ l.length ∧ (l.take i).all (pfit f.ty) = true) (fun i => l.length - i) 0 ?_ (by simp) fun i hi => ?_
  ·simp only [yc, ycA, cellsSc, cellsFd]
   refine Ghost.sub ?_ ?_ <;> simp -implicitDefEqProofs only [go_sem, ↓reduceIte, Nat.reduceEqDiff, reduceCtorEq, List.forall_mem_cons, List.not_mem_nil, false_implies, implies_true, and_self, List.all_cons, List.all_nil, Nat.reduceLT, labsInL, AV.labsIn]
   rfl
  obtain ⟨g1, g2⟩ := hi
  simp only [yc, ycA, cellsSc, cellsFd]
  by_cases hil : i < l.length
  case neg =>
   have hc1 : ((i : Int) < (l.length : Int)) = False := eq_false (by omega)
   rw [List.take_of_length_le (by omega)] at g2
   refine AW.rT (by rfl) fun K hK => ?_
   simp -implicitDefEqProofs only [go_sem, ↓reduceIte, Nat.reduceAdd, Nat.reduceEqDiff, hc1]
   refine hK _ ?_; clear hK K
   refine AW.seq ?_
   refine AW.cond _ (by simp -implicitDefEqProofs only [go_sem]; rfl) (fun hc => ?_) (fun hc => ?_)
   ·simp at hc
   refine AW.exit ?_
   simp only [andThen, inBlk, ↓reduceIte]
   refine ⟨(), g2, ?_⟩
   try simp only [yc, cellsSc, cellsFd]
   refine Ghost.sub ?_ ?_ <;> simp -implicitDefEqProofs only [go_sem, ↓reduceIte, Nat.reduceEqDiff, List.forall_mem_cons, List.not_mem_nil, false_implies, implies_true, and_self, List.all_cons, List.all_nil, Nat.reduceLT, labsInL, AV.labsIn]
   done
  obtain ⟨x, hx⟩ : ∃ x, l[i]? = some x := ⟨_, List.getElem?_eq_getElem hil⟩
  have ⟨hx1, hx2, hx3⟩ := at_map' encTr hx
  have hc1 : ((i : Int) < (l.length : Int)) = True := eq_true (by omega)
  have CP := project_fits f.ty x (hs x (List.mem_of_getElem? hx))
  simp only [encTy, encTr_eq] at CP
  have w1 : IntKind.wrap .i64 ((i : Int) + 1) = ((i + 1 : Nat) : Int) := by rw [w64] <;> omega
  refine AW.rT (by rfl) fun K hK => ?_
  simp -implicitDefEqProofs only [go_sem, ↓reduceIte, Nat.reduceAdd, Nat.reduceEqDiff, hc1]
  refine hK _ ?_; clear hK K
  refine AW.seq ?_
  refine AW.cond _ (by simp -implicitDefEqProofs only [go_sem]; rfl) (fun hc => ?_) (fun hc => ?_)
  rotate_left
  ·simp at hc
  refine AW.skip ?_
  simp only [andThen]
  refine AW.seq ?_
  refine AW.block ?_
  refine AW.rT (by rfl) fun K hK => ?_
  simp -implicitDefEqProofs only [go_sem, ↓reduceIte, Nat.reduceAdd, Nat.reduceEqDiff, Nat.reduceLeDiff, hx1, hx3, hc1, encTr_eq, List.length_map]
  refine hK _ ?_; clear hK K
  cases hp : pfit f.ty x with
  | false =>
   rw [hp] at CP
   have HH : fieldP S f l = ([], false) := by unfold fieldP; rw [if_pos (all_not hx hp)]
   refine AW.rT (by rfl) fun K hK => ?_
   simp -implicitDefEqProofs only [go_sem, ↓reduceIte, Nat.reduceAdd, Nat.reduceEqDiff, Nat.reduceLeDiff]
   refine ⟨.pure _, CP, ?_⟩
   try simp -implicitDefEqProofs only [go_sem, Nat.reduceAdd]
   refine hK _ ?_; clear hK K
   refine AW.cond _ (by simp -implicitDefEqProofs only [go_sem]; rfl) (fun hc => ?_) (fun hc => ?_)
   rotate_left
   ·simp at hc
   refine AW.rT (by rfl) fun K hK => ?_
   simp -implicitDefEqProofs only [go_sem, Nat.reduceAdd]
   refine hK _ ?_; clear hK K
   refine AW.ret ?_
   simp -implicitDefEqProofs only [go_sem, ↓reduceIte, Nat.reduceEqDiff, HH, List.map_nil]
  | true =>
   rw [hp] at CP
   refine AW.rT (by rfl) fun K hK => ?_
   simp -implicitDefEqProofs only [go_sem, ↓reduceIte, Nat.reduceAdd, Nat.reduceEqDiff, Nat.reduceLeDiff]
   refine ⟨.pure _, CP, ?_⟩
   try simp -implicitDefEqProofs only [go_sem, Nat.reduceAdd]
   refine hK _ ?_; clear hK K
   refine AW.cond _ (by simp -implicitDefEqProofs only [go_sem]; rfl) (fun hc => ?_) (fun hc => ?_)
   ·simp at hc
   refine AW.skip ?_
   simp only [andThen, inBlk]
   refine AW.rE (by rfl) fun K hK => ?_
   simp -implicitDefEqProofs only [go_sem, ↓reduceIte, Nat.reduceAdd, Nat.reduceEqDiff, w1]
   refine hK _ ?_; clear hK K
   refine ⟨i + 1, ⟨by omega, all_next hx g2 hp⟩, by omega, ?_⟩
   show Ghost _ _ (yc S f (ycA l (i + 1)) [] 2)
   simp only [yc, ycA, cellsSc, cellsFd]
   refine Ghost.sub ?_ ?_ <;> simp -implicitDefEqProofs only [go_sem, ↓reduceIte, Nat.reduceEqDiff, reduceCtorEq, List.forall_mem_cons, List.not_mem_nil, false_implies, implies_true, and_self, List.all_cons, List.all_nil, Nat.reduceLT, labsInL, AV.labsIn]
   done
 have FP : fieldP S f l = ((selL f l).map (pr1 S f), keepL f ((selL f l).map (pr1 S f))) := by unfold fieldP; rw [if_neg (by simp [hall])]
 have sl := selL_len f l hne
 have smem := fun x => selL_mem (f := f) (l := l) (x := x)
 refine AW.cut (fun _ : Unit => yc S f [(2, .p (.slice ((selL f l).map encTr)))] [] 2) (fun _ => True) ?_ fun _ _ => ?_
 ·simp only [yc, cellsSc, cellsFd]
  by_cases hb : f.label = 3
  ·have b3 : (f.label != 3) = false := by simp [hb]
   have e : selL f l = l := by unfold selL; rw [if_pos hb]
   rw [e]
   refine AW.rT (by rfl) fun K hK => ?_
   simp -implicitDefEqProofs only [go_sem, ↓reduceIte, Nat.reduceAdd, b3]
   refine hK _ ?_; clear hK K
   refine AW.cond _ (by simp -implicitDefEqProofs only [go_sem]; rfl) (fun hc => ?_) (fun hc => ?_)
   ·simp at hc
   refine AW.skip ?_
   simp only [andThen]
   refine ⟨(), trivial, ?_⟩
   try simp only [yc, cellsSc, cellsFd]
   refine Ghost.sub ?_ ?_ <;> simp -implicitDefEqProofs only [go_sem, ↓reduceIte, Nat.reduceEqDiff, List.forall_mem_cons, List.not_mem_nil, false_implies, implies_true, and_self, List.all_cons, List.all_nil, Nat.reduceLT, labsInL, AV.labsIn]
   done
  ·have b3 : (f.label != 3) = true := by simpa using hb
   have e : selL f l = l.drop (l.length - 1) := by unfold selL; rw [if_neg hb]
   have ws : IntKind.wrap .i64 ((l.length : Int) - 1) = ((l.length - 1 : Nat) : Int) := by rw [w64] <;> omega
   rw [e]
   refine AW.rT (by rfl) fun K hK => ?_
   simp -implicitDefEqProofs only [go_sem, ↓reduceIte, Nat.reduceAdd, b3]
   refine hK _ ?_; clear hK K
   refine AW.cond _ (by simp -implicitDefEqProofs only [go_sem]; rfl) (fun hc => ?_) (fun hc => ?_)
   rotate_left
   ·simp at hc
   refine AW.rE (by rfl) fun K hK => ?_
   simp -implicitDefEqProofs only [go_sem, ↓reduceIte, Nat.reduceAdd, Nat.reduceEqDiff, ws, List.length_map]
   refine ⟨fun y hy => by
    obtain ⟨x, _, rfl⟩ := List.mem_map.1 hy
    rw [encTr_eq]
    rfl, by simp, ⟨by omega, by omega, by omega⟩, ?_⟩
   refine hK _ ?_; clear hK K
   simp only [andThen]
   refine ⟨(), trivial, ?_⟩
   try simp only [yc, cellsSc, cellsFd]
   have tk : List.take l.length (l.map encTr) = l.map encTr := List.take_of_length_le (by simp)
   refine Ghost.sub ?_ ?_ <;> simp -implicitDefEqProofs only [go_sem, ↓reduceIte, Nat.reduceEqDiff, List.map_drop, tk, List.forall_mem_cons, List.not_mem_nil, false_implies, implies_true, and_self, List.all_cons, List.all_nil, Nat.reduceLT, labsInL, AV.labsIn]
   done
 have smap : (selL f l).map encTr = (selL f l).map encTr := rfl
 generalize selL f l = q at *
 obtain ⟨sl1, sl2⟩ := sl
 simp only [yc, cellsSc, cellsFd]
 refine AW.rT (by rfl) fun K hK => ?_
 simp -implicitDefEqProofs only [go_sem, Nat.reduceAdd]
 refine hK _ ?_; clear hK K
 refine AW.seq ?_
 refine AW.rT (by rfl) fun K hK => ?_
 simp -implicitDefEqProofs only [go_sem, ↓reduceIte, Nat.reduceAdd, Nat.reduceEqDiff, List.length_map]
 refine hK _ ?_; clear hK K
 refine AW.block ?_
 refine AW.loop (fun i : Nat => yc S f (ycB q i) [(2, .row 5 (liftE (((q.map (pr1 S f)).take i).map encTr)))] 3) (fun i => i ≤ q.length) (fun i => q.length - i) 0 ?_ (by simp) fun i hi => ?_
 ·refine Ghost.trans (Ghost.nil (t := 10) (sz := 5) rfl) ?_
  simp only [yc, ycB, cellsSc, cellsFd]
  refine Ghost.ent (fun l => if l = 2 then 6 else l) ?_ ?_ ?_ <;> simp -implicitDefEqProofs only [go_sem, ↓reduceIte, Nat.reduceEqDiff, reduceCtorEq, List.take_zero, List.map_nil, liftE_nil, List.forall_mem_cons, List.not_mem_nil, false_implies, implies_true, and_self, List.all_cons, List.all_nil, Nat.reduceLT, labsInL, AV.labsIn]
  all_goals first | rfl | skip
 simp only [yc, ycB, cellsSc, cellsFd]
 by_cases hil : i < q.length
 case neg =>
  have hc1 : ((i : Int) < (q.length : Int)) = False := eq_false (by omega)
  have hi' : i = q.length := by omega
  rw [hi', List.take_of_length_le (by simp)]
  have hpl : ((q.map (pr1 S f)).length : Int) = (q.length : Int) := by simp
  have hpl' : 1 ≤ (q.map (pr1 S f)).length := by simpa using sl1
  generalize q.map (pr1 S f) = ps at *
  obtain ⟨x0, hx0⟩ : ∃ x, ps[0]? = some x := ⟨_, List.getElem?_eq_getElem (by omega)⟩
  have ⟨hy1, hy2, hy3⟩ := at_map' encTr hx0
  have hz0 : ((0 : Int) ≤ 0) = True := by simp
  have hz : ((0 : Int) < (ps.length : Int)) = True := eq_true (by omega)
  have hh : ps.head?.any zeroV = zeroV x0 := by
   cases hq : ps with
   | nil => rw [hq] at hx0; simp at hx0
   | cons y l => rw [hq] at hx0; simp at hx0; subst hx0; rfl
  have CZ := valid_Zero x0
  rw [encTr_eq] at CZ
  refine AW.rT (by rfl) fun K hK => ?_
  simp -implicitDefEqProofs only [go_sem, ↓reduceIte, Nat.reduceAdd, Nat.reduceEqDiff]
  refine hK _ ?_; clear hK K
  refine AW.seq ?_
  refine AW.cond _ (by simp -implicitDefEqProofs only [go_sem]; rfl) (fun hc => ?_) (fun hc => ?_)
  ·simp at hc
  refine AW.exit ?_
  simp only [andThen, inBlk, ↓reduceIte]
  refine AW.ghost (s' := yc S f [(10, .p (.slice (ps.map encTr)))] [] 2) (Ghost.trans (Ghost.freeze (lb := 2) (ps := ps.map encTr) rfl (unlift_liftE _)) ?_) ?_
  ·simp only [yc, cellsSc, cellsFd]
   refine Ghost.sub ?_ ?_ <;> simp -implicitDefEqProofs only [go_sem, ↓reduceIte, Nat.reduceEqDiff, reduceCtorEq, thaw, thaw1, Option.map_some, List.map_cons, List.map_nil, List.forall_mem_cons, List.not_mem_nil, false_implies, implies_true, and_self, List.all_cons, List.all_nil, Nat.reduceLT, labsInL, AV.labsIn]
   done
  simp only [yc, cellsSc, cellsFd]
  by_cases hb : f.label = 1
  ·have b1 : (f.label != 1) = false := by simp [hb]
   have HH : fieldP S f l = (ps, !zeroV x0) := by rw [FP]; unfold keepL; rw [b1, hh, Bool.false_or]
   cases hzv : zeroV x0 with
   | true =>
    rw [hzv] at CZ HH
    refine AW.rT (by rfl) fun K hK => ?_
    simp -implicitDefEqProofs only [go_sem, ↓reduceIte, Nat.reduceAdd, Nat.reduceEqDiff, Nat.reduceLeDiff, Int.reduceToNat, b1, hy3, hz0, hz, encTr_eq, List.length_map]
    refine ⟨.pure _, CZ, ?_⟩
    try simp -implicitDefEqProofs only [go_sem, ↓reduceIte, Nat.reduceAdd, Nat.reduceEqDiff]
    refine hK _ ?_; clear hK K
    refine AW.ret ?_
    simp -implicitDefEqProofs only [go_sem, ↓reduceIte, Nat.reduceEqDiff, HH, Bool.not_true]
    done
   | false =>
    rw [hzv] at CZ HH
    refine AW.rT (by rfl) fun K hK => ?_
    simp -implicitDefEqProofs only [go_sem, ↓reduceIte, Nat.reduceAdd, Nat.reduceEqDiff, Nat.reduceLeDiff, Int.reduceToNat, b1, hy3, hz0, hz, encTr_eq, List.length_map]
    refine ⟨.pure _, CZ, ?_⟩
    try simp -implicitDefEqProofs only [go_sem, ↓reduceIte, Nat.reduceAdd, Nat.reduceEqDiff]
    refine hK _ ?_; clear hK K
    refine AW.ret ?_
    simp -implicitDefEqProofs only [go_sem, ↓reduceIte, Nat.reduceEqDiff, HH, Bool.not_false]
    done
  ·have b1 : (f.label != 1) = true := by simpa using hb
   have HH : fieldP S f l = (ps, true) := by rw [FP]; unfold keepL; rw [b1, Bool.true_or]
   refine AW.rT (by rfl) fun K hK => ?_
   simp -implicitDefEqProofs only [go_sem, ↓reduceIte, Nat.reduceAdd, Nat.reduceEqDiff, b1]
   refine hK _ ?_; clear hK K
   refine AW.ret ?_
   simp -implicitDefEqProofs only [go_sem, ↓reduceIte, Nat.reduceEqDiff, HH]
   done
 obtain ⟨x, hx⟩ : ∃ x, q[i]? = some x := ⟨_, List.getElem?_eq_getElem hil⟩
 have ⟨hx1, hx2, hx3⟩ := at_map' encTr hx
 have hc1 : ((i : Int) < (q.length : Int)) = True := eq_true (by omega)
 have xm := smem x (List.mem_of_getElem? hx)
 have w1 : IntKind.wrap .i64 ((i : Int) + 1) = ((i + 1 : Nat) : Int) := by rw [w64] <;> omega
 have e7 : liftE (((q.map (pr1 S f)).take i).map encTr) ++ [[AV.p (.int .i64 (pr1 S f x).kind), .p (.int .i64 (pr1 S f x).n), .p (.str (pr1 S f x).s), .p (.slice ((pr1 S f x).ents.map encEn)), .p (.slice ((pr1 S f x).rest.map encRaw))]] = liftE (((q.map (pr1 S f)).take (i + 1)).map encTr) := by
  rw [List.take_add_one, map_at hx]
  simp [liftE, encTr_eq]
 have rlen : (liftE (((q.map (pr1 S f)).take i).map encTr)).length ≤ i := by rw [liftE_length, List.length_map, List.length_take]; omega
 generalize ((q.map (pr1 S f)).take i).map encTr = Qs at *
 refine AW.rT (by rfl) fun K hK => ?_
 simp -implicitDefEqProofs only [go_sem, ↓reduceIte, Nat.reduceAdd, Nat.reduceEqDiff, hc1]
 refine hK _ ?_; clear hK K
 refine AW.seq ?_
 refine AW.cond _ (by simp -implicitDefEqProofs only [go_sem]; rfl) (fun hc => ?_) (fun hc => ?_)
 rotate_left
 ·simp at hc
 refine AW.skip ?_
 simp only [andThen]
 refine AW.seq ?_
 refine AW.block ?_
 refine AW.rT (by rfl) fun K hK => ?_
 simp -implicitDefEqProofs only [go_sem, ↓reduceIte, Nat.reduceAdd, Nat.reduceEqDiff, Nat.reduceLeDiff, hx1, hx3, hc1, encTr_eq, List.length_map]
 refine hK _ ?_; clear hK K
 refine AW.cut (fun _ : Unit => yc S f (ycB q i ++ [(12, .ptr 3 0 0)]) [(2, .row 5 (liftE Qs)), (3, .row 5 [cellsT (pr1 S f x)])] 4) (fun _ => True) ?_ fun _ _ => ?_
 ·refine AW.rT (by rfl) fun K hK => ?_
  simp -implicitDefEqProofs only [go_sem, ↓reduceIte, Nat.reduceAdd, Nat.reduceEqDiff]
  refine hK _ ?_; clear hK K
  refine AW.block ?_
  by_cases k1 : f.ty.kind = 1
  ·have e1 := eqb k1
   have PR : cellsT (pr1 S f x) = [.p (.int .i64 x.kind), .p (.int .i64 (clampV x.n)), .p (.str x.s), .p (.slice (x.ents.map encEn)), .p (.slice (x.rest.map encRaw))] := by unfold pr1; rw [if_pos k1]; rfl
   have CC := project_Clamp x.n
   rw [PR]
   refine AW.rT (by rfl) fun K hK => ?_
   simp -implicitDefEqProofs only [go_sem, ↓reduceIte, Nat.reduceAdd, e1]
   refine hK _ ?_; clear hK K
   refine AW.cond _ (by simp -implicitDefEqProofs only [go_sem]; rfl) (fun hc => ?_) (fun hc => ?_)
   rotate_left
   ·simp at hc
   refine AW.rE (by rfl) fun K hK => ?_
   simp -implicitDefEqProofs only [go_sem, ↓reduceIte, Nat.reduceAdd, Nat.reduceEqDiff]
   refine ⟨.pure _, CC, ?_⟩
   try simp -implicitDefEqProofs only [go_sem, ↓reduceIte, Nat.reduceAdd, Nat.reduceEqDiff, Nat.reduceLeDiff]
   refine hK _ ?_; clear hK K
   simp only [andThen, inBlk]
   refine ⟨(), trivial, ?_⟩
   simp only [yc, ycB, cellsSc, cellsFd, List.cons_append, List.nil_append]
   refine Ghost.ent (fun l => if l = 3 then 6 else l) ?_ ?_ ?_ <;> simp -implicitDefEqProofs only [go_sem, ↓reduceIte, Nat.reduceEqDiff, reduceCtorEq, List.forall_mem_cons, List.not_mem_nil, false_implies, implies_true, and_self, map_renL_lift, labsIn_lift, List.all_cons, List.all_nil, Nat.reduceLT, labsInL, AV.labsIn]
   all_goals first | rfl | skip
  have e1 := beqf k1
  by_cases k7 : f.ty.kind = 7
  ·have e7' := eqb k7
   have CM : PFn Tryd.prog 62 [.agg (encSc S), .str f.ty.name] (.tuple [.agg (encMs (msOf S f.ty.name).1), .bool (msOf S f.ty.name).2]) := check_Message S f.ty.name hS.msgs
   have CI := IH x xm (msOf S f.ty.name).1 (siz_of hS _)
   have PR : pr1 S f x = prM S (msOf S f.ty.name).1 x := by unfold pr1; rw [if_neg k1, if_pos k7]
   rw [PR]
   generalize prM S (msOf S f.ty.name).1 x = z at CI
   simp only [encSc, encMs, encTr_eq] at CM CI
   refine AW.rT (by rfl) fun K hK => ?_
   simp -implicitDefEqProofs only [go_sem, ↓reduceIte, Nat.reduceAdd, e1]
   refine hK _ ?_; clear hK K
   refine AW.cond _ (by simp -implicitDefEqProofs only [go_sem]; rfl) (fun hc => ?_) (fun hc => ?_)
   ·simp at hc
   refine AW.rT (by rfl) fun K hK => ?_
   simp -implicitDefEqProofs only [go_sem, ↓reduceIte, Nat.reduceAdd, Nat.reduceEqDiff, e7']
   refine hK _ ?_; clear hK K
   refine AW.cond _ (by simp -implicitDefEqProofs only [go_sem]; rfl) (fun hc => ?_) (fun hc => ?_)
   rotate_left
   ·simp at hc
   refine AW.rT (by rfl) fun K hK => ?_
   simp -implicitDefEqProofs only [go_sem, ↓reduceIte, Nat.reduceAdd, Nat.reduceEqDiff, Nat.reduceLeDiff, reduceCtorEq]
   refine ⟨.pure _, CM, ?_⟩
   try simp -implicitDefEqProofs only [go_sem, ↓reduceIte, Nat.reduceAdd, Nat.reduceEqDiff, Nat.reduceLeDiff]
   refine hK _ ?_; clear hK K
   refine AW.rE (by rfl) fun K hK => ?_
   simp -implicitDefEqProofs only [go_sem, ↓reduceIte, Nat.reduceAdd, Nat.reduceEqDiff, Nat.reduceLeDiff, reduceCtorEq]
   refine ⟨.pure _, CI, ?_⟩
   try simp -implicitDefEqProofs only [go_sem, ↓reduceIte, Nat.reduceAdd, Nat.reduceEqDiff, Nat.reduceLeDiff]
   refine hK _ ?_; clear hK K
   simp only [andThen, inBlk]
   refine ⟨(), trivial, ?_⟩
   simp only [yc, ycB, cellsSc, cellsFd, cellsT, List.cons_append, List.nil_append]
   refine Ghost.ent (fun l => if l = 3 then 6 else l) ?_ ?_ ?_ <;> simp -implicitDefEqProofs only [go_sem, ↓reduceIte, Nat.reduceEqDiff, reduceCtorEq, List.forall_mem_cons, List.not_mem_nil, false_implies, implies_true, and_self, map_renL_lift, labsIn_lift, List.all_cons, List.all_nil, Nat.reduceLT, labsInL, AV.labsIn]
   all_goals first | rfl | skip
  ·have e7' := beqf k7
   have PR : pr1 S f x = x := by unfold pr1; rw [if_neg k1, if_neg k7]
   rw [PR]
   refine AW.rT (by rfl) fun K hK => ?_
   simp -implicitDefEqProofs only [go_sem, ↓reduceIte, Nat.reduceAdd, e1]
   refine hK _ ?_; clear hK K
   refine AW.cond _ (by simp -implicitDefEqProofs only [go_sem]; rfl) (fun hc => ?_) (fun hc => ?_)
   ·simp at hc
   refine AW.rT (by rfl) fun K hK => ?_
   simp -implicitDefEqProofs only [go_sem, ↓reduceIte, Nat.reduceAdd, Nat.reduceEqDiff, e7']
   refine hK _ ?_; clear hK K
   refine AW.cond _ (by simp -implicitDefEqProofs only [go_sem]; rfl) (fun hc => ?_) (fun hc => ?_)
   ·simp at hc
   refine AW.skip ?_
   simp only [andThen, inBlk]
   refine ⟨(), trivial, ?_⟩
   simp only [yc, ycB, cellsSc, cellsFd, cellsT, List.cons_append, List.nil_append]
   refine Ghost.ent (fun l => if l = 3 then 6 else l) ?_ ?_ ?_ <;> simp -implicitDefEqProofs only [go_sem, ↓reduceIte, Nat.reduceEqDiff, reduceCtorEq, List.forall_mem_cons, List.not_mem_nil, false_implies, implies_true, and_self, map_renL_lift, labsIn_lift, List.all_cons, List.all_nil, Nat.reduceLT, labsInL, AV.labsIn]
   all_goals first | rfl | skip
 generalize pr1 S f x = z at *
 simp only [yc, ycB, cellsSc, cellsFd, cellsT, List.cons_append, List.nil_append]
 refine AW.rE (by rfl) fun K hK => ?_
 simp -implicitDefEqProofs only [go_sem, ↓reduceIte, Nat.reduceAdd, Nat.reduceMul, Nat.reduceEqDiff, Nat.reduceLeDiff, reduceCtorEq]
 refine ⟨⟨by simp, by simp [oneAll, AV.one, PV.one], by simp⟩, by omega, ?_⟩
 try simp -implicitDefEqProofs only [go_sem, ↓reduceIte, Nat.reduceAdd, Nat.reduceMul, Nat.reduceEqDiff, Nat.reduceLeDiff, reduceCtorEq, Int.reduceToNat]
 refine hK _ ?_; clear hK K
 simp only [andThen, inBlk]
 refine AW.rE (by rfl) fun K hK => ?_
 simp -implicitDefEqProofs only [go_sem, ↓reduceIte, Nat.reduceAdd, Nat.reduceEqDiff, w1]
 refine hK _ ?_; clear hK K
 refine ⟨i + 1, by omega, by omega, ?_⟩
 show Ghost _ _ (yc S f (ycB q (i + 1)) [(2, .row 5 (liftE (((q.map (pr1 S f)).take (i + 1)).map encTr)))] 3)
 simp only [yc, ycB, cellsSc, cellsFd]
 rw [← e7]
 refine Ghost.ent (fun l => if l = 2 then 7 else l) ?_ ?_ ?_ <;> simp -implicitDefEqProofs only [go_sem, ↓reduceIte, Nat.reduceEqDiff, reduceCtorEq, List.forall_mem_cons, List.not_mem_nil, false_implies, implies_true, and_self, map_renL_lift, labsIn_lift, List.all_append, List.all_cons, List.all_nil, List.map_append, Nat.reduceLT, labsInL, AV.labsIn]
 all_goals first | rfl | skip
end Go.Aw.T
namespace Go.Aw
open Go.RowKit
variable {P : Program}
theorem seq_part {w0 : World} {X I0 : Nat → Prop} {nt : Fm} {ops : Array Oper} {Q : Exit → Act → World → Prop} {K : (Nat → Option AV) → (Nat → Option Blk) → Nat → Prop} (hd : ops.toList.all (dstOK nt) = true) (tx : TabX w0 X I0) {r' : List Oper} :
  ∀ (r : List Oper) (i nx : Nat) (T : Nat → Option AV) (H : Nat → Option Blk) (σ : Lab) (I : Nat → Prop) (a : Act) (w : World), ops.toList.drop i = r ++ r' → Match nt w0 X I0 σ I T H a w → (∀ l, nx ≤ l → σ l = none) → seqW P ops.toList nx r T H K →
   (∀ T H n σ I a w, Match nt w0 X I0 σ I T H a w → (∀ l, n ≤ l → σ l = none) → K T H n → wpOps P ops Q (List.range' (i + r.length) r'.length) a w) → wpOps P ops Q (List.range' i (r ++ r').length) a w := by
 intro r
 induction r with
 | nil => intro i nx T H σ I a w _ m hn hk hK; exact hK T H nx σ I a w m hn hk
 | cons o r ih =>
  intro i nx T H σ I a w hr m hn hk hK
  have hi : ops[i]? = some o := by
   rw [← Array.getElem?_toList, show i = i + 0 from rfl, ← List.getElem?_drop, hr]; rfl
  have hdr : ops.toList.drop (i + 1) = r ++ r' := by rw [← List.drop_drop, hr]; rfl
  have hdo : dstOK nt o = true := List.all_eq_true.1 hd o (List.mem_of_getElem? (by rw [Array.getElem?_toList]; exact hi))
  have hK' : ∀ T H n σ I a w, Match nt w0 X I0 σ I T H a w → (∀ l, n ≤ l → σ l = none) → K T H n → wpOps P ops Q (List.range' (i + 1 + r.length) r'.length) a w := by
   intro T H n σ I a w h1 h2 h3
   have := hK T H n σ I a w h1 h2 h3
   rwa [List.length_cons, show i + (r.length + 1) = i + 1 + r.length by omega] at this
  rw [List.cons_append, List.length_cons, List.range'_succ]
  simp only [wpOps, hi]
  simp only [seqW] at hk
  have run : (opW P nx o.op T H fun e => seqW P ops.toList (nx + 1) r (putT T o.dst e.val) (putH H e.upd) K) → o.wp P a w (wpOps P ops Q (List.range' (i + 1) (r ++ r').length)) Q := by
   intro hop
   refine snd_op (w0 := w0) (X := X) (I0 := I0) ⟨m.heap, m.tmps, hn nx (Nat.le_refl _), tx⟩ hop _ _ fun e v w' σ' I' hk' out => ?_
   refine ih (i + 1) (nx + 1) _ _ σ' I' _ w' hdr (m.put hdo out.heap out.ext out.imm out.same out.val) (fun l hl => ?_) hk' hK'
   rw [out.lab l (by omega)]
   exact hn l (by omega)
  have skip : seqW P ops.toList (nx + 1) r (putT T o.dst (some (.p (.cst undef)))) H K → wpOps P ops Q (List.range' (i + 1) (r ++ r').length) (a.put o.dst undef) w := by
   intro hk'
   exact ih (i + 1) (nx + 1) _ _ σ I _ w hdr (m.put hdo m.heap (fun _ _ h => h) (fun _ h => h) (fun _ _ => rfl) (fun y hy => by injection hy with hy; subst hy; exact .p (.cst undef))) (fun l hl => hn l (by omega)) hk' hK'
  unfold guardS at hk
  cases hg : o.guard with
  | none =>
   rw [hg] at hk
   have : Region.wanted o (yielded ops a.tmps) = true := by simp [Region.wanted, hg]
   rw [if_pos this]
   exact .inl (run hk)
  | some jw =>
   obtain ⟨j, want⟩ := jw
   rw [hg] at hk
   simp only at hk
   split at hk
   ·rename_i b hb
    obtain ⟨d, hd1, hd2⟩ := Option.bind_eq_some_iff.1 hb
    rw [Array.getElem?_toList] at hd1
    obtain ⟨u, hu, hru⟩ := m.tmps d _ hd2
    have hy : yielded ops a.tmps j = some b := by
     cases hru with
     | p h => cases h; simp [yielded, hd1, hu]
    have hw : Region.wanted o (yielded ops a.tmps) = (b == want) := by
     simp only [Region.wanted, hg, hy]
     cases b <;> cases want <;> rfl
    split at hk
    ·rename_i hbw
     rw [hw, if_pos (by simp [hbw])]
     exact .inl (run hk)
    ·rename_i hbw
     rw [hw, if_neg (by simp [hbw])]
     exact skip hk
   ·rename_i x hb
    obtain ⟨d, hd1, hd2⟩ := Option.bind_eq_some_iff.1 hb
    rw [Array.getElem?_toList] at hd1
    obtain ⟨u, hu, hru⟩ := m.tmps d _ hd2
    have hy : yielded ops a.tmps j = none := by
     cases hru with
     | p h =>
      cases h
      simp only [yielded, hd1, Option.bind_some, hu]
      have := hk.1
      cases x <;> first | rfl | exact this.elim
    have hw : Region.wanted o (yielded ops a.tmps) = false := by
     simp only [Region.wanted, hg, hy]
     cases want <;> rfl
    rw [hw, if_neg (by simp)]
    exact skip hk.2
   ·exact hk.elim
end Go.Aw
namespace Go.Aw
open Go.RowKit
variable {P : Program}
def SeqR (P : Program) (nt : Fm) (ops : Array Oper) (i : Nat) (s : St) (K : St → Prop) : Prop :=
 ∀ w0 X I0 a w (Q : Exit → Act → World → Prop), TabX w0 X I0 → Matches nt w0 X I0 s a w → (∀ s' a' w', Matches nt w0 X I0 s' a' w' → K s' → Q .normal a' w') → wpOps P ops Q (List.range' i (ops.size - i)) a w
theorem SeqR.ghost {nt : Fm} {ops : Array Oper} {i : Nat} {s s' : St} {K : St → Prop} (g : Ghost nt s s') (h : SeqR P nt ops i s' K) : SeqR P nt ops i s K :=
 fun w0 X I0 a w Q tx m hQ => h w0 X I0 a w Q tx (g w0 X I0 a w m) hQ
theorem SeqR.last {nt : Fm} {ops : Array Oper} {i : Nat} {s : St} {K : St → Prop} (hi : ops.size = i) (h : K s) : SeqR P nt ops i s K := by
 intro w0 X I0 a w Q tx m hQ
 subst hi
 rw [Nat.sub_self]
 exact hQ s a w m h
theorem SeqR.ev {nt : Fm} {ops : Array Oper} {i : Nat} {s : St} {K : St → Prop} (k : Nat) (hd : ops.toList.all (dstOK nt) = true) (hk : i + k ≤ ops.size) (h : seqO P ops.toList s.nx ((ops.toList.drop i).take k) s.T s.H fun T H n => SeqR P nt ops (i + k) ⟨T, H, n⟩ K) : SeqR P nt ops i s K := by
 intro w0 X I0 a w Q tx ⟨σ, I, hn, m⟩ hQ
 rw [seqO_eq] at h
 have hl : ops.toList.length = ops.size := Array.length_toList
 have main := seq_part (P := P) (w0 := w0) (X := X) (I0 := I0) (r' := ops.toList.drop (i + k)) (Q := Q) hd tx ((ops.toList.drop i).take k) i s.nx s.T s.H σ I a w (by rw [← List.drop_drop, List.take_append_drop]) m hn h
  (fun T H n σ I a w m hn hq => by
   have := hq w0 X I0 a w Q tx ⟨σ, I, hn, m⟩ hQ
   rw [List.length_take, List.length_drop, Nat.min_eq_left (by omega), List.length_drop, hl]
   exact this)
 rw [← List.drop_drop, List.take_append_drop, List.length_drop, hl] at main
 exact main
def CallD (P : Program) (nt : Fm) (o : Oper) (s : St) (K : St → Prop) : Prop :=
 ∀ w0 X I0 a w (next : Act → World → Prop) (Q : Exit → Act → World → Prop), TabX w0 X I0 → Matches nt w0 X I0 s a w → (∀ s' a' w', Matches nt w0 X I0 s' a' w' → K s' → next a' w') → o.wp P a w next Q
theorem SeqR.op {nt : Fm} {ops : Array Oper} {i : Nat} {s : St} {K : St → Prop} {o : Oper} (ho : ops[i]? = some o) (hg : o.guard = none) (h : CallD P nt o s fun s' => SeqR P nt ops (i + 1) s' K) : SeqR P nt ops i s K := by
 intro w0 X I0 a w Q tx m hQ
 have hi : i < ops.size := (Array.getElem?_eq_some_iff.1 ho).1
 rw [show ops.size - i = (ops.size - (i + 1)) + 1 by omega, List.range'_succ]
 simp only [wpOps, ho]
 have : Region.wanted o (yielded ops a.tmps) = true := by simp [Region.wanted, hg]
 rw [if_pos this]
 exact .inl (h w0 X I0 a w _ Q tx m fun s' a' w' m' k => k w0 X I0 a' w' Q tx m' hQ)
theorem AW.rR {nt : Fm} {id : Nat} {ops : Array Oper} {y : Code} {s : St} {Q : Exit → St → Prop} (h : SeqR P nt ops 0 s fun s' => AW P nt y s' Q) : AW P nt (.seq (.region id ops false) y) s Q := by
 refine AW.seq ?_
 intro w0 X I0 a w tx m
 refine wp_region ?_
 have := h w0 X I0 a w (fun e a' w' => ∃ s', Matches nt w0 X I0 s' a' w' ∧ andThen (fun s' => AW P nt y s' Q) Q e s') tx m fun s' a' w' m' k => ⟨s', m', k⟩
 rw [List.range_eq_range']
 simpa using this
mutual
def AV.labsBy (p : Nat → Bool) : AV → Bool
 | .p _ | .ex _ | .vw _ _ => true
 | .own l | .cut l _ _ | .ptr l _ _ | .map l | .it l => p l
 | .agg cs | .tuple cs | .fn _ cs => labsByL p cs
 | .iface _ x => x.labsBy p
def labsByL (p : Nat → Bool) : List AV → Bool
 | [] => true
 | x :: l => x.labsBy p && labsByL p l
end
theorem labsByL_mem {p : Nat → Bool} {l : List AV} (h : labsByL p l = true) {x : AV} (hx : x ∈ l) : x.labsBy p = true := by
 induction l with
 | nil => cases hx
 | cons y l ih =>
  rw [labsByL, Bool.and_eq_true] at h
  rcases List.mem_cons.1 hx with rfl | hx
  ·exact h.1
  ·exact ih h.2 hx
def Blk.labsBy (p : Nat → Bool) : Blk → Bool
 | .row _ es => es.all (labsByL p)
 | .map es => es.all fun e => e.2.labsBy p
 | .iter _ _ => true
theorem repA_by {σ σ' : Lab} {w : World} {I : Nat → Prop} {ρ : Nat → Nat} {p : Nat → Bool} (hp : ∀ l, p l = true → ∀ s, σ l = some s → σ' (ρ l) = some s) {u : Value} {x : AV} (h : repA σ w I u x) : x.labsBy p = true → repA σ' w I u (x.ren ρ) := by
 induction h with
 | p h => intro _; exact .p h
 | ex hn h => intro _; exact .ex hn h
 | vw hn hm hc h => intro _; exact .vw hn hm hc h
 | ownE h => intro q; exact .ownE (hp _ q _ h)
 | own h => intro q; exact .own (hp _ q _ h)
 | cut h hm hc => intro q; exact .cut (hp _ q _ h) hm hc
 | ptr h => intro q; exact .ptr (hp _ q _ h)
 | map h => intro q; exact .map (hp _ q _ h)
 | it h => intro q; exact .it (hp _ q _ h)
 | agg hs hr ih =>
  intro q
  refine .agg (by rw [renL_length]; exact hs) fun j u y h1 h2 => ?_
  rw [renL_get, Option.map_eq_some_iff] at h2
  obtain ⟨z, hz, rfl⟩ := h2
  exact ih j u z h1 hz (labsByL_mem q (List.mem_of_getElem? hz))
 | tuple hs hr ih =>
  intro q
  refine .tuple (by rw [renL_length]; exact hs) fun j u y h1 h2 => ?_
  rw [renL_get, Option.map_eq_some_iff] at h2
  obtain ⟨z, hz, rfl⟩ := h2
  exact ih j u z h1 hz (labsByL_mem q (List.mem_of_getElem? hz))
 | iface t h ih => intro q; exact .iface t (ih q)
 | fn f hs hr ih =>
  intro q
  refine .fn f (by rw [renL_length]; exact hs) fun j u y h1 h2 => ?_
  rw [renL_get, Option.map_eq_some_iff] at h2
  obtain ⟨z, hz, rfl⟩ := h2
  exact ih j u z h1 hz (labsByL_mem q (List.mem_of_getElem? hz))
theorem repB_by {σ σ' : Lab} {w : World} {I : Nat → Prop} {ρ : Nat → Nat} {p : Nat → Bool} (hp : ∀ l, p l = true → ∀ s, σ l = some s → σ' (ρ l) = some s) {l : Nat} {b : Blk} (hl : p l = true) (h : repB σ w I l b) (hb : b.labsBy p = true) : repB σ' w I (ρ l) (b.ren ρ) := by
 cases h with
 | emp h => exact .emp (hp _ hl _ h)
 | row h hg hcur hc hs ho hr =>
  rename_i g c sz cur et es
  refine .row (by rw [List.length_map]; exact hp _ hl _ h) hg hcur (by rw [List.length_map]; exact hc) (fun e he => ?_) (fun e he x hx => ?_) fun i e j x q1 q2 => ?_
  ·obtain ⟨e', he', rfl⟩ := List.mem_map.1 he
   rw [renL_length]
   exact hs e' he'
  ·obtain ⟨e', he', rfl⟩ := List.mem_map.1 he
   obtain ⟨j, hj⟩ := List.getElem?_of_mem hx
   rw [renL_get, Option.map_eq_some_iff] at hj
   obtain ⟨x', hx', rfl⟩ := hj
   rw [AV.one_ren]
   exact ho e' he' x' (List.mem_of_getElem? hx')
  ·rw [List.getElem?_map, Option.map_eq_some_iff] at q1
   obtain ⟨e', he', rfl⟩ := q1
   rw [renL_get, Option.map_eq_some_iff] at q2
   obtain ⟨x', hx', rfl⟩ := q2
   obtain ⟨u, hu, hru⟩ := hr i e' j x' he' hx'
   exact ⟨u, hu, repA_by hp hru (labsByL_mem (List.all_eq_true.1 hb e' (List.mem_of_getElem? he')) (List.mem_of_getElem? hx'))⟩
 | map h hg hn hr =>
  rename_i g k ms es
  refine .map (hp _ hl _ h) hg (by rw [List.length_map]; exact hn) fun i m e q1 q2 => ?_
  rw [List.getElem?_map, Option.map_eq_some_iff] at q2
  obtain ⟨e', he', rfl⟩ := q2
  obtain ⟨r1, r2⟩ := hr i m e' q1 he'
  exact ⟨r1, repA_by hp r2 (List.all_eq_true.1 hb e' (List.mem_of_getElem? he'))⟩
 | iter h hg => exact .iter (hp _ hl _ h) hg
def DFn (P : Program) (f : FuncId) (args : List AV) (h : List (Nat × Blk)) (n : Nat) (rt : List Nat) (r : AV) (h' : List (Nat × Blk)) (m : Nat) : Prop :=
 enters P f = true ∧ ∀ (w : World) (I : Nat → Prop) (σ : Lab) (vals : Array Value), vals.size = args.length → (∀ l, n ≤ l → σ l = none) → (∀ (j : Nat) u x, vals[j]? = some u → args[j]? = some x → repA σ w I u x) →
  HOK σ w I (ofH h) w (lentX σ (ofH h)) I → tabOK w I →
  Calls P f vals w fun e w' => ∃ v σ' I', e = .returned v ∧ HOK σ' w' I' (ofH h') w (lentX σ (ofH h)) I ∧ repA σ' w' I' v r ∧ (∀ l ∈ rt, σ' l = σ l) ∧ (∀ l, n + m ≤ l → σ' l = none)
def avT : List AV → Nat → Nat → Option AV
 | [], _ => fun _ => none
 | x :: l, i => upd (avT l (i + 1)) i (some x)
theorem avT_at : ∀ (l : List AV) (i j : Nat), avT l i j = if j < i then none else l[j - i]? := by
 intro l
 induction l with
 | nil => intro i j; simp [avT]
 | cons a l ih =>
  intro i j
  rw [avT]
  by_cases h : j = i
  ·subst h; rw [upd_same, if_neg (by omega), Nat.sub_self]; rfl
  ·rw [upd_ne _ _ h, ih]
   by_cases h2 : j < i
   ·rw [if_pos (by omega), if_pos h2]
   ·rw [if_neg (by omega), if_neg h2, show j - i = (j - (i + 1)) + 1 by omega, List.getElem?_cons_succ]
def resD (P : Program) (s : St) : List ResultVar → List AV → Prop
 | [], [] => True
 | .tmp t :: r, x :: l => s.T t = some x ∧ resD P s r l
 | .cell t ty :: r, x :: l => loadW P ty (s.T t) s.H (fun e => e = ⟨some x, []⟩) ∧ resD P s r l
 | _, _ => False
def oneOrA : List AV → AV
 | [x] => x
 | l => .tuple l
def rootOK (s : St) (args : List AV) (h h' : List (Nat × Blk)) (pins : List Nat) (ρ : Nat → Nat) (l : Nat) : Prop :=
 (∃ j i off sz es es', j ∈ pins ∧ args[j]? = some (.ptr l i off) ∧ s.T j = some (.ptr (ρ l) i off) ∧ ofH h l = some (.row sz es) ∧ ofH h' l = some (.row sz es') ∧ es'.length = es.length ∧ 0 < sz) ∨
 (∃ j es, j ∈ pins ∧ args[j]? = some (.map l) ∧ s.T j = some (.map (ρ l)) ∧ ofH h l = some (.map es)) ∨
 (∃ (j k : Nat) (cs cs' : List AV) (sz : Nat) (es es' : List (List AV)), j ∈ pins ∧ args[j]? = some (.agg cs) ∧ cs[k]? = some (AV.own l) ∧ s.T j = some (.agg cs') ∧ cs'[k]? = some (AV.own (ρ l)) ∧ ofH h l = some (.row sz es) ∧ ofH h' l = some (.row sz es') ∧ es ≠ [] ∧ es' ≠ [])
def EndD (P : Program) (rs : Array ResultVar) (args : List AV) (h : List (Nat × Blk)) (n : Nat) (rt : List Nat) (r : AV) (h' : List (Nat × Blk)) (m : Nat) (pins : List Nat) : Exit → St → Prop
 | .normal, s | .ret, s => ∃ (ρ : Nat → Nat) (l : List AV), resD P s rs.toList l ∧ oneOrA l = r.ren ρ ∧ r.labsIn (n + m) = true ∧ (∀ x ∈ h', s.H (ρ x.1) = some (x.2.ren ρ) ∧ x.1 < n + m ∧ x.2.labsIn (n + m) = true) ∧
   (∀ x ∈ h', ∀ y ∈ h', ρ x.1 = ρ y.1 → x.1 = y.1) ∧ ∀ l ∈ rt, l < n ∧ rootOK s args h h' pins ρ l
 | _, _ => False
theorem slot_kept {σ0 σ1 : Lab} {w0 w1 : World} {I0 I1 : Nat → Prop} {v : Value} {l l1 i off sz : Nat} {es es1 : List (List AV)} (h0 : repA σ0 w0 I0 v (.ptr l i off)) (h1 : repA σ1 w1 I1 v (.ptr l1 i off)) (b0 : repB σ0 w0 I0 l (.row sz es)) (b1 : repB σ1 w1 I1 l1 (.row sz es1))
  (hl : es1.length = es.length) (hz : 0 < sz) (hfr : ∀ (b : Nat) (cur : Array Value) (et : TypeId) (p : Nat × Nat), w0.heap[b]? = some (Obj.cells cur et p) → ∃ (cur' : Array Value) (et' : TypeId) (p' : Nat × Nat), w1.heap[b]? = some (Obj.cells cur' et' p') ∧ cur'.size = cur.size) : σ1 l1 = σ0 l := by
 cases h0 with
 | ptr s0 =>
  rename_i g n c sz0
  generalize hxe : Value.pointer (some ⟨g, i * sz0 + off, none⟩) = xv at h1
  cases h1 with
  | ptr s1 =>
   rename_i g1 n1 c1 sz1
   injection hxe with hxe
   injection hxe with hxe
   injection hxe with hg _ _
   subst hg
   obtain ⟨cur0, et0, p0, e0, f0⟩ := cells_slot b0 s0
   obtain ⟨cur1, et1, p1, e1, f1⟩ := cells_slot b1 s1
   obtain ⟨cur2, et2, p2, e2, f2⟩ := hfr g cur0 et0 p0 e0
   rw [e1] at e2
   injection e2 with e2
   injection e2 with e2
   subst e2
   have n0 : n = es.length ∧ sz0 = sz := by
    cases b0 with
    | emp h => rw [s0] at h; cases h
    | row h => rw [s0] at h; injection h with h; injection h with _ h2 _ h4; exact ⟨h2, h4⟩
   have n1' : n1 = es1.length ∧ sz1 = sz := by
    cases b1 with
    | emp h => rw [s1] at h; cases h
    | row h => rw [s1] at h; injection h with h; injection h with _ h2 _ h4; exact ⟨h2, h4⟩
   obtain ⟨rfl, rfl⟩ := n0
   obtain ⟨rfl, rfl⟩ := n1'
   have hc : c1 = c := Nat.eq_of_mul_eq_mul_right hz (by rw [← f1, f2, f0])
   rw [s0, s1, hc, hl]
theorem own_kept {σ0 σ1 : Lab} {w0 w1 : World} {I0 I1 : Nat → Prop} {v : Value} {l l1 sz : Nat} {es es1 : List (List AV)} (h0 : repA σ0 w0 I0 v (.own l)) (h1 : repA σ1 w1 I1 v (.own l1)) (b0 : repB σ0 w0 I0 l (.row sz es)) (b1 : repB σ1 w1 I1 l1 (.row sz es1))
  (hz : es ≠ []) (hz1 : es1 ≠ []) : σ1 l1 = σ0 l := by
 cases b0 with
 | emp h => exact absurd rfl hz
 | row s0 =>
  cases b1 with
  | emp h => exact absurd rfl hz1
  | row s1 =>
   cases h0 with
   | ownE q => rw [s0] at q; cases q
   | own q0 =>
    rw [s0] at q0
    injection q0 with q0
    injection q0 with a1 a2 a3 a4
    subst a1 a2 a3 a4
    generalize hxe : Value.slice _ _ _ = xv at h1
    cases h1 with
    | ownE q => rw [s1] at q; cases q
    | own q1 =>
     rw [s1] at q1
     injection q1 with q1
     injection q1 with c1 c2 c3 c4
     subst c1 c2 c3 c4
     injection hxe with e1 e2 e3
     injection e1 with e1
     injection e1 with e1 _ _
     rw [s0, s1, e1, e2, e3]
theorem aggA {σ : Lab} {w : World} {I : Nat → Prop} {v : Value} {cs : List AV} (h : repA σ w I v (.agg cs)) : ∃ vs : Array Value, v = .agg vs ∧ vs.size = cs.length ∧ ∀ (j : Nat) u p, vs[j]? = some u → cs[j]? = some p → repA σ w I u p := by
 cases h with
 | agg h hr => exact ⟨_, rfl, h, hr⟩
theorem resD_run {nt : Fm} {w0 : World} {X I0 : Nat → Prop} {σ : Lab} {I : Nat → Prop} {s : St} {a : Act} {w : World} (tx : TabX w0 X I0) (m : Match nt w0 X I0 σ I s.T s.H a w) (hlab : σ s.nx = none) (f : ResultVar → Sem Value) (hf : ∀ t, f (.tmp t) = pure (a.tmps.getD t undef)) (hf' : ∀ t ty, f (.cell t ty) = (do loadVar ty (← asAddr (a.tmps.getD t undef)))) : ∀ (rs : List ResultVar) (l : List AV), resD P s rs l →
  ∃ vs : List Value, (rs.mapM f).run P w = .ok vs w ∧ vs.length = l.length ∧ ∀ (j : Nat) u x, vs[j]? = some u → l[j]? = some x → repA σ w I u x := by
 intro rs
 induction rs with
 | nil =>
  intro l h
  cases l with
  | nil => exact ⟨[], rfl, rfl, fun j u p h _ => by simp at h⟩
  | cons x l => simp [resD] at h
 | cons r rs ih =>
  intro l h
  cases l with
  | nil => cases r <;> simp [resD] at h
  | cons x l =>
   cases r with
   | cell t ty =>
    obtain ⟨hx, hl⟩ := h
    obtain ⟨ad, v, y, q1, q2, q3, q4⟩ := load_run (P := P) (lab := s.nx) (t := ty) (x := .tmp t) (k := fun e => e = ⟨some x, []⟩) ⟨m.heap, m.tmps, hlab, tx⟩ hx
    simp only [Eff.mk.injEq, Option.some.injEq, and_true] at q4
    subst q4
    obtain ⟨vs, h1, h2, h3⟩ := ih l hl
    refine ⟨v :: vs, ?_, by simp [h2], fun j u p r1 r2 => ?_⟩
    ·have q1' : a.tmps.getD t undef = .pointer (some ad) := q1
     rw [List.mapM_cons, hf', q1']
     simp [asAddr, q2, h1]
    ·rcases j with _ | j
     ·simp at r1 r2; subst r1 r2; exact q3
     ·exact h3 j u p (by simpa using r1) (by simpa using r2)
   | tmp t =>
    obtain ⟨hx, hl⟩ := h
    obtain ⟨u, hu, hru⟩ := m.tmps t x hx
    obtain ⟨vs, h1, h2, h3⟩ := ih l hl
    refine ⟨u :: vs, ?_, by simp [h2], fun j u' p r1 r2 => ?_⟩
    ·rw [List.mapM_cons, hf]
     have : a.tmps.getD t undef = u := by simp [Array.getD_eq_getD_getElem?, hu]
     rw [this]
     simp [h1]
    ·rcases j with _ | j
     ·simp at r1 r2; subst r1 r2; exact hru
     ·exact h3 j u' p (by simpa using r1) (by simpa using r2)
end Go.Aw
namespace Go.Aw
open Go.RowKit
variable {P : Program}
theorem DFn.of {f : FuncId} {fn : Func} {c : Code} {args : List AV} {h : List (Nat × Blk)} {n : Nat} {rt : List Nat} {r : AV} {h' : List (Nat × Blk)} {m : Nat} (pins : List Nat) (hf : P.funcs[f]? = some fn) (hb : fn.body = some c) (hn : fn.name ≠ "runtime.NumGoroutine") {nt : Nat} (hnt : fn.ntmps = nt) {rs : Array ResultVar} (hrs : fn.results = rs) (hnt' : args.length ≤ nt)
  (hpins : ∀ i ∈ pins, i < args.length) (hw : ∀ val : Nat → Value, AW P ⟨nt, pins, val⟩ c ⟨avT args 0, ofH h, n⟩ (EndD P rs args h n rt r h' m pins)) : DFn P f args h n rt r h' m := by
 subst hnt hrs
 refine ⟨by simp [enters, hf, hb, hn], fun w I σ vals hs hσ hr hH ht => ?_⟩
 have tx : TabX w (lentX σ (ofH h)) I := ⟨ht, fun g hg => (hH.imm g hg).1, fun g ⟨l, s, q1, q2, q3⟩ => (hH.mine l g s q1 q2 q3).1⟩
 refine calls_of_wp hf hb ?_
 have at_ : ∀ i, i < vals.size → (vals ++ Array.replicate (fn.ntmps - vals.size) undef)[i]? = vals[i]? := fun i hi => by rw [Array.getElem?_append_left hi]
 have mt : Matches ⟨fn.ntmps, pins, fun i => vals.getD i undef⟩ w (lentX σ (ofH h)) I ⟨avT args 0, ofH h, n⟩ { tmps := vals ++ Array.replicate (fn.ntmps - vals.size) undef, defers := [] } w := by
  refine ⟨σ, I, hσ, rfl, (by simp; omega), fun i hi => ?_, hH, fun i x hx => ?_⟩
  ·have hlt := hpins i hi
   rw [← hs] at hlt
   simp only
   rw [at_ i hlt, Array.getD_eq_getD_getElem?, Array.getElem?_eq_getElem hlt]
   rfl
  ·simp only at hx
   rw [avT_at, if_neg (by omega), Nat.sub_zero] at hx
   have hi : i < vals.size := by rw [hs]; exact (List.getElem?_eq_some_iff.1 hx).1
   exact ⟨vals[i], by rw [at_ i hi, Array.getElem?_eq_getElem hi], hr i _ x (Array.getElem?_eq_getElem hi) hx⟩
 refine wp_mono (hw _ w _ I _ w tx mt) ?_
 rintro e a' w' ⟨s', ⟨σ', I', hn', m'⟩, q⟩
 have fin : EndD P fn.results args h n rt r h' m pins .ret s' → a'.defers = [] ∧ ∃ v, (results fn a'.tmps).run P w' = .ok v w' ∧
   ∃ v' σ'' I'', Ending.returned v = .returned v' ∧ HOK σ'' w' I'' (ofH h') w (lentX σ (ofH h)) I ∧ repA σ'' w' I'' v' r ∧ (∀ l ∈ rt, σ'' l = σ l) ∧ (∀ l, n + m ≤ l → σ'' l = none) := by
  rintro ⟨ρ, l, q1, q2, q3, q4, q5, q6⟩
  obtain ⟨vs, h1, h2, h3⟩ := resD_run (P := P) tx m' (hn' _ (Nat.le_refl _)) (resF a'.tmps) (fun t => rfl) (fun t ty => rfl) fn.results.toList l q1
  have hrun : (results fn a'.tmps).run P w' = .ok (if h : vs.length = 1 then vs[0] else .tuple vs.toArray) w' := by
   rw [results_eq, show fn.results = fn.results.toList.toArray by simp, List.mapM_toArray]
   simp only [Sem.run_bind, Sem.run_map, h1, Result.andThen_ok, Sem.run_pure, List.size_toArray, List.getElem_toArray]
  have hat : ∀ l b, ofH h' l = some b → s'.H (ρ l) = some (b.ren ρ) ∧ l < n + m ∧ b.labsIn (n + m) = true := fun l b hl => q4 (l, b) (ofH_mem hl)
  have hv : repA σ' w' I' (if h : vs.length = 1 then vs[0] else .tuple vs.toArray) (oneOrA l) := by
   by_cases h4 : vs.length = 1
   ·rw [dif_pos h4]
    obtain ⟨p, rfl⟩ : ∃ p, l = [p] := List.length_eq_one_iff.1 (by omega)
    exact h3 0 _ p (List.getElem?_eq_getElem (by omega)) rfl
   ·rw [dif_neg h4]
    have : oneOrA l = .tuple l := by
     unfold oneOrA
     split
     ·exact absurd h2 h4
     ·rfl
    rw [this]
    exact .tuple (by simpa using h2) (fun j u p q1 q2 => h3 j u p (by simpa using q1) q2)
  refine ⟨m'.defers, _, hrun, _, relab ρ (n + m) σ', I', rfl, ⟨fun l b hl => ?_, fun l l' g s1 s2 n1 n2 e1 e2 g1 g2 => ?_, fun l g s1 n1 e1 g1 => ?_, m'.heap.imm, m'.heap.sub, m'.heap.fr⟩, repA_ren hv r q2 q3, fun l hl => ?_, fun l hl => ?_⟩
  ·obtain ⟨p1, p2, p3⟩ := hat l b hl
   exact repB_ren p2 (m'.heap.rows _ _ p1) p3
  ·obtain ⟨b1, hb1⟩ := Option.ne_none_iff_exists'.1 n1
   obtain ⟨b2, hb2⟩ := Option.ne_none_iff_exists'.1 n2
   obtain ⟨p1, p2, p3⟩ := hat l b1 hb1
   obtain ⟨p1', p2', p3'⟩ := hat l' b2 hb2
   unfold relab at e1 e2
   rw [if_pos p2] at e1
   rw [if_pos p2'] at e2
   have := m'.heap.inj (ρ l) (ρ l') g s1 s2 (by rw [p1]; simp) (by rw [p1']; simp) e1 e2 g1 g2
   exact q5 (l, b1) (ofH_mem hb1) (l', b2) (ofH_mem hb2) this
  ·obtain ⟨b1, hb1⟩ := Option.ne_none_iff_exists'.1 n1
   obtain ⟨p1, p2, p3⟩ := hat l b1 hb1
   unfold relab at e1
   rw [if_pos p2] at e1
   exact m'.heap.mine (ρ l) g s1 (by rw [p1]; simp) e1 g1
  ·obtain ⟨hln, hroot⟩ := q6 l hl
   unfold relab
   rw [if_pos (by omega)]
   have pin : ∀ j, j ∈ pins → ∀ x, s'.T j = some x → ∃ u, vals[j]? = some u ∧ repA σ' w' I' u x := fun j hj x hx => by
    have hp := m'.pins j hj
    obtain ⟨u, hu, hru⟩ := m'.tmps j x hx
    rw [hp] at hu
    have hlt : j < vals.size := by rw [hs]; exact hpins j hj
    simp only [Option.some.injEq] at hu
    rw [Array.getD_eq_getD_getElem?, Array.getElem?_eq_getElem hlt] at hu
    simp only [Option.getD_some] at hu
    subst hu
    exact ⟨_, Array.getElem?_eq_getElem hlt, hru⟩
   rcases hroot with ⟨j, i, off, sz, es, es', r1, r2, r3, r4, r5, r6, r7⟩ | ⟨j, es, r1, r2, r3, r4⟩ | ⟨j, k, cs, cs', sz, es, es', r1, r2, r3, r4, r5, r6, r7, r8, r9⟩
   ·obtain ⟨u, hu, hru⟩ := pin j r1 _ r3
    obtain ⟨p1, p2, p3⟩ := hat l _ r5
    have hu0 := hr j u _ hu r2
    have b0 := hH.rows l _ r4
    have b1 := m'.heap.rows _ _ p1
    exact slot_kept hu0 hru b0 b1 (by rw [List.length_map]; exact r6) r7 m'.heap.fr.shape
   ·obtain ⟨u, hu, hru⟩ := pin j r1 _ r3
    have hu0 := hr j u _ hu r2
    cases hu0 with
    | map s0 =>
     cases hru with
     | map s1 => rw [s0, s1]
   ·obtain ⟨u, hu, hru⟩ := pin j r1 _ r4
    obtain ⟨p1, p2, p3⟩ := hat l _ r7
    have hu0 := hr j u _ hu r2
    have b0 := hH.rows l _ r6
    have b1 := m'.heap.rows _ _ p1
    obtain ⟨vs, rfl, z1, z2⟩ := aggA hu0
    obtain ⟨vs', e', z3, z4⟩ := aggA hru
    injection e' with e'
    subst e'
    have hk : k < vs.size := by rw [z1]; exact (List.getElem?_eq_some_iff.1 r3).1
    have y0 := z2 k _ _ (Array.getElem?_eq_getElem hk) r3
    have y1 := z4 k _ _ (Array.getElem?_eq_getElem hk) r5
    exact own_kept y0 y1 b0 b1 r8 (by simpa using r9)
  ·unfold relab
   rw [if_neg (by omega)]
 cases e with
 | normal => exact fin q
 | ret => exact fin q
 | exit _ => exact q.elim
 | goto _ => exact q.elim
 | panic _ => exact q.elim
 | outgrown => exact q.elim
def argD (T : Nat → Option AV) (ρ : Nat → Nat) : List Operand → List AV → Prop
 | [], [] => True
 | x :: xs, .p p :: ys => (match ev T x with | some v => pureA v = some p | none => False) ∧ argD T ρ xs ys
 | x :: xs, y :: ys => ev T x = some (y.ren ρ) ∧ argD T ρ xs ys
 | _, _ => False
theorem argD_spec {T : Nat → Option AV} {ρ : Nat → Nat} : ∀ {xs : List Operand} {ys : List AV}, argD T ρ xs ys → xs.length = ys.length ∧ ∀ (j : Nat) x y, xs[j]? = some x → ys[j]? = some y → (∃ p v, y = .p p ∧ ev T x = some v ∧ pureA v = some p) ∨ ev T x = some (y.ren ρ) := by
 intro xs
 induction xs with
 | nil =>
  intro ys h
  cases ys with
  | nil => exact ⟨rfl, fun j x y h => by simp at h⟩
  | cons y ys => simp [argD] at h
 | cons x xs ih =>
  intro ys h
  cases ys with
  | nil => simp [argD] at h
  | cons y ys =>
   have main : argD T ρ xs ys → ((∃ p v, y = .p p ∧ ev T x = some v ∧ pureA v = some p) ∨ ev T x = some (y.ren ρ)) → (x :: xs).length = (y :: ys).length ∧ ∀ (j : Nat) x' y', (x :: xs)[j]? = some x' → (y :: ys)[j]? = some y' → (∃ p v, y' = .p p ∧ ev T x' = some v ∧ pureA v = some p) ∨ ev T x' = some (y'.ren ρ) := by
    intro h1 h2
    obtain ⟨q1, q2⟩ := ih h1
    refine ⟨by simp [q1], fun j x' y' e1 e2 => ?_⟩
    cases j with
    | zero => simp at e1 e2; subst e1 e2; exact h2
    | succ j => exact q2 j x' y' (by simpa using e1) (by simpa using e2)
   cases y with
   | p p =>
    simp only [argD] at h
    obtain ⟨h1, h2⟩ := h
    split at h1
    ·rename_i v hv
     exact main h2 (.inl ⟨p, v, rfl, hv, h1⟩)
    ·exact h1.elim
   | _ => exact main h.2 (.inr h.1)
def lift2 (ρ : Nat → Nat) (n nx : Nat) (l : Nat) : Nat := if l < n then ρ l else nx + (l - n)
def goneU (ρ : Nat → Nat) (h : List (Nat × Blk)) : List (Nat × Option Blk) := h.map fun x => (ρ x.1, none)
def newU (ρ : Nat → Nat) (h : List (Nat × Blk)) : List (Nat × Option Blk) := h.map fun x => (ρ x.1, some (x.2.ren ρ))
theorem putH_gone (ρ : Nat → Nat) (l : Nat) : ∀ (h : List (Nat × Blk)) (H : Nat → Option Blk), (putH H (goneU ρ h) l = H l ∧ ∀ x ∈ h, ρ x.1 ≠ l) ∨ (putH H (goneU ρ h) l = none ∧ ∃ x ∈ h, ρ x.1 = l)
 | [], H => .inl ⟨rfl, fun x hx => by cases hx⟩
 | x :: h, H => by
  have e : putH H (goneU ρ (x :: h)) = putH (upd H (ρ x.1) none) (goneU ρ h) := rfl
  rw [e]
  rcases putH_gone ρ l h (upd H (ρ x.1) none) with ⟨h1, h2⟩ | ⟨h1, y, hy, h2⟩
  ·by_cases hl : ρ x.1 = l
   ·right
    refine ⟨?_, x, List.mem_cons_self, hl⟩
    rw [h1, hl, upd_same]
   ·left
    refine ⟨by rw [h1, upd_ne _ _ (fun h => hl h.symm)], fun y hy => ?_⟩
    rcases List.mem_cons.1 hy with rfl | hy
    ·exact hl
    ·exact h2 y hy
  ·exact .inr ⟨h1, y, List.mem_cons_of_mem _ hy, h2⟩
theorem putH_new (ρ : Nat → Nat) (l : Nat) : ∀ (h : List (Nat × Blk)) (H : Nat → Option Blk), (putH H (newU ρ h) l = H l ∧ ∀ x ∈ h, ρ x.1 ≠ l) ∨ (∃ x ∈ h, ρ x.1 = l ∧ putH H (newU ρ h) l = some (x.2.ren ρ))
 | [], H => .inl ⟨rfl, fun x hx => by cases hx⟩
 | x :: h, H => by
  have e : putH H (newU ρ (x :: h)) = putH (upd H (ρ x.1) (some (x.2.ren ρ))) (newU ρ h) := rfl
  rw [e]
  rcases putH_new ρ l h (upd H (ρ x.1) (some (x.2.ren ρ))) with ⟨h1, h2⟩ | ⟨y, hy, h1, h2⟩
  ·by_cases hl : ρ x.1 = l
   ·right
    refine ⟨x, List.mem_cons_self, hl, ?_⟩
    rw [h1, ← hl, upd_same]
   ·left
    refine ⟨by rw [h1, upd_ne _ _ (fun h => hl h.symm)], fun y hy => ?_⟩
    rcases List.mem_cons.1 hy with rfl | hy
    ·exact hl
    ·exact h2 y hy
  ·exact .inr ⟨y, List.mem_cons_of_mem _ hy, h1, h2⟩
def distinct : List Nat → Bool
 | [] => true
 | x :: l => !l.contains x && distinct l
theorem ofH_of_mem : ∀ {h : List (Nat × Blk)} {x : Nat × Blk}, distinct (h.map (·.1)) = true → x ∈ h → ofH h x.1 = some x.2
 | [], _, _, h => by cases h
 | y :: h, x, hd, hx => by
  simp only [List.map_cons, distinct, Bool.and_eq_true, Bool.not_eq_true'] at hd
  obtain ⟨a, b⟩ := y
  rcases List.mem_cons.1 hx with rfl | hx'
  ·simp [ofH]
  ·have : x.1 ≠ a := by
    intro e
    have : (h.map (·.1)).contains a = true := by
     rw [List.contains_iff_mem]
     exact List.mem_map.2 ⟨x, hx', e⟩
    rw [this] at hd
    cases hd.1
   simp only [ofH, if_neg this]
   exact ofH_of_mem hd.2 hx'
structure FitD (s : St) (xs : List Operand) (args : List AV) (h : List (Nat × Blk)) (n : Nat) (rt : List Nat) (r : AV) (h' : List (Nat × Blk)) (ρ : Nat → Nat) : Prop where
 opd : argD s.T ρ xs args
 labs : args.all (fun y => y.labsIn n) = true
 here : ∀ x ∈ h, s.H (ρ x.1) = some (x.2.ren ρ) ∧ x.1 < n ∧ x.2.labsIn n = true
 inj : distinct (h.map fun x => ρ x.1) = true
 dist : distinct (h.map (·.1)) = true
 dist' : distinct (h'.map (·.1)) = true
 roots : rt.all (fun l => (h.map (·.1)).contains l) = true
 res : r.labsBy (fun l => rt.contains l || decide (n ≤ l)) = true
 mem : h'.all (fun x => (rt.contains x.1 || decide (n ≤ x.1)) && x.2.labsBy (fun l => rt.contains l || decide (n ≤ l))) = true
theorem distinct_inj {ρ : Nat → Nat} : ∀ {h : List (Nat × Blk)}, distinct (h.map fun x => ρ x.1) = true → ∀ x ∈ h, ∀ y ∈ h, ρ x.1 = ρ y.1 → x = y
 | [], _, x, hx, _, _, _ => by cases hx
 | z :: h, hd, x, hx, y, hy, e => by
  simp only [List.map_cons, distinct, Bool.and_eq_true, Bool.not_eq_true'] at hd
  have no : ∀ v ∈ h, ρ v.1 ≠ ρ z.1 := fun v hv e => by
   have : (h.map fun x => ρ x.1).contains (ρ z.1) = true := by
    rw [List.contains_iff_mem]
    exact List.mem_map.2 ⟨v, hv, e⟩
   rw [this] at hd
   cases hd.1
  rcases List.mem_cons.1 hx with hx' | hx'
  ·rcases List.mem_cons.1 hy with hy' | hy'
   ·rw [hx', hy']
   ·rw [hx'] at e
    exact absurd e.symm (no y hy')
  ·rcases List.mem_cons.1 hy with hy' | hy'
   ·rw [hy'] at e
    exact absurd e (no x hx')
   ·exact distinct_inj hd.2 x hx' y hy' e
theorem callD_fn {nt : Fm} {s : St} {K : St → Prop} {o : Oper} {f : FuncId} {xs : Array Operand} {ts : Array TypeId} {args : List AV} {h : List (Nat × Blk)} {n : Nat} {rt : List Nat} {r : AV} {h' : List (Nat × Blk)} {m : Nat} (ρ : Nat → Nat)
  (ho : o.op = .call { callee := .value (.func f), args := xs, argTypes := ts }) (hd : dstOK nt o = true) (D : DFn P f args h n rt r h' m) (F : FitD s xs.toList args h n rt r h' ρ)
  (hk : K ⟨putT s.T o.dst (some (r.ren (lift2 ρ n s.nx))), putH (putH s.H (goneU ρ h)) (newU (lift2 ρ n s.nx) h'), s.nx + m⟩) : CallD P nt o s K := by
 obtain ⟨hen, hp⟩ := D
 intro w0 X I0 a w next Q tx ⟨σ, I, hn, mm⟩ hnext
 have IN : In σ w I s.T s.H w0 X I0 a s.nx := ⟨mm.heap, mm.tmps, hn _ (Nat.le_refl _), tx⟩
 have hrun : (execOp a.eval o).run P w = .ok (.enter f (xs.map a.eval)) w := by
  have he : a.eval (.func f) = .func (.func f) #[] #[] := rfl
  simp only [execOp, ho, resolve, he, Deferred.ofValue, Sem.run_bind, Sem.run_pure, Result.andThen_ok, invoke, Array.append_empty, Array.empty_append, run_enter hen]
 obtain ⟨p1, p2⟩ := argD_spec F.opd
 have here : ∀ l b, ofH h l = some b → s.H (ρ l) = some (b.ren ρ) ∧ l < n ∧ b.labsIn n = true := fun l b hl => F.here (l, b) (ofH_mem hl)
 have inj : ∀ l l' b b', ofH h l = some b → ofH h l' = some b' → ρ l = ρ l' → l = l' := fun l l' b b' h1 h2 e => by
  have := distinct_inj F.inj (l, b) (ofH_mem h1) (l', b') (ofH_mem h2) e
  injection this
 generalize hσc : relab ρ n σ = σc
 have σat : ∀ l, l < n → σc l = σ (ρ l) := fun l hl => by rw [← hσc]; unfold relab; rw [if_pos hl]
 have σno : ∀ l, n ≤ l → σc l = none := fun l hl => by rw [← hσc]; unfold relab; rw [if_neg (by omega)]
 have Xof : ∀ g, lentX σc (ofH h) g → ∃ l b sl, ofH h l = some b ∧ s.H (ρ l) = some (b.ren ρ) ∧ σ (ρ l) = some sl ∧ sl.block = some g := fun g ⟨l, sl, q1, q2, q3⟩ => by
  obtain ⟨b, hb⟩ := Option.ne_none_iff_exists'.1 q1
  obtain ⟨r1, r2, _⟩ := here l b hb
  exact ⟨l, b, sl, hb, r1, by rw [← σat l r2]; exact q2, q3⟩
 have hH : HOK σc w I (ofH h) w (lentX σc (ofH h)) I := by
  refine ⟨fun l b hl => ?_, fun l l' g s1 s2 n1 n2 e1 e2 g1 g2 => ?_, fun l g s1 n1 e1 g1 => ?_, fun g hg => ⟨(mm.heap.imm g hg).1, .inl hg⟩, fun _ h => h, Fr.refl _ _⟩
  ·obtain ⟨r1, r2, r3⟩ := here l b hl
   rw [← hσc]
   exact repB_ren r2 (mm.heap.rows _ _ r1) r3
  ·obtain ⟨b1, hb1⟩ := Option.ne_none_iff_exists'.1 n1
   obtain ⟨b2, hb2⟩ := Option.ne_none_iff_exists'.1 n2
   obtain ⟨r1, r2, _⟩ := here l b1 hb1
   obtain ⟨r1', r2', _⟩ := here l' b2 hb2
   rw [σat l r2] at e1
   rw [σat l' r2'] at e2
   exact inj l l' b1 b2 hb1 hb2 (mm.heap.inj _ _ g s1 s2 (by rw [r1]; simp) (by rw [r1']; simp) e1 e2 g1 g2)
  ·obtain ⟨b1, hb1⟩ := Option.ne_none_iff_exists'.1 n1
   obtain ⟨r1, r2, _⟩ := here l b1 hb1
   refine ⟨?_, .inl ⟨l, s1, n1, e1, g1⟩⟩
   rw [σat l r2] at e1
   exact (mm.heap.mine _ g s1 (by rw [r1]; simp) e1 g1).1
 have hargs := hp w I σc (xs.map a.eval) (by simpa using p1) σno (fun j u y q1 q2 => by
  rw [Array.getElem?_map, Option.map_eq_some_iff] at q1
  obtain ⟨x, hx, rfl⟩ := q1
  have hlab : y.labsIn n = true := List.all_eq_true.1 F.labs y (List.mem_of_getElem? q2)
  rcases p2 j x y (by simpa using hx) q2 with ⟨p, v, rfl, hv, hpv⟩ | hv
  ·exact .p (rep_pureA (IN.ev hv) hpv)
  ·rw [← hσc]
   exact repA_ren (IN.ev hv) y rfl hlab) hH IN.tabs
 unfold Oper.wp
 rw [hrun, Oper.upon_enter]
 refine hargs.mono fun e w' he => ?_
 obtain ⟨v, σ', I', rfl, hh, hrv, hroot, hnew⟩ := he
 -- the caller's labels behind the call
 obtain ⟨σ2, hσ2⟩ : ∃ σ2 : Lab, ∀ l, σ2 l = if l < s.nx then σ l else σ' (n + (l - s.nx)) := ⟨fun l => if l < s.nx then σ l else σ' (n + (l - s.nx)), fun _ => rfl⟩
 have old : ∀ l sl, σ l = some sl → σ2 l = some sl := fun l sl hl => by
  rw [hσ2]
  rcases Nat.lt_or_ge l s.nx with q | q
  ·rw [if_pos q]; exact hl
  ·rw [hn l q] at hl; cases hl
 have new : ∀ l, (rt.contains l || decide (n ≤ l)) = true → ∀ sl, σ' l = some sl → σ2 (lift2 ρ n s.nx l) = some sl := fun l hl sl hs => by
  unfold lift2
  rcases Nat.lt_or_ge l n with q | q
  ·rw [if_pos q]
   have hm : l ∈ rt := by
    rcases Bool.or_eq_true_iff.1 hl with hl | hl
    ·exact List.contains_iff_mem.1 hl
    ·simp at hl; omega
   rw [hroot l hm, σat l q] at hs
   exact old _ _ hs
  ·rw [if_neg (by omega), hσ2, if_neg (by omega), show n + (s.nx + (l - n) - s.nx) = l by omega]
   exact hs
 have blk : ∀ l g sl, s.H l ≠ none → σ l = some sl → sl.block = some g → g < w.heap.size := fun l g sl hn hs hg => by
  obtain ⟨b, hb⟩ := Option.ne_none_iff_exists'.1 hn
  obtain ⟨s', hs', hlt⟩ := (mm.heap.rows l b hb).block
  rw [hs] at hs'; injection hs' with hs'; subst hs'
  exact hlt g hg
 have Xmine : ∀ g, lentX σc (ofH h) g → ¬ I g ∧ (X g ∨ w0.heap.size ≤ g) ∧ g < w.heap.size := fun g hg => by
  obtain ⟨l, b, sl, q1, q2, q3, q4⟩ := Xof g hg
  obtain ⟨m1, m2⟩ := mm.heap.mine _ g sl (by rw [q2]; simp) q3 q4
  exact ⟨m1, m2, blk _ g sl (by rw [q2]; simp) q3 q4⟩
 have same : ∀ b, I b → w'.heap[b]? = w.heap[b]? := fun b hb => hh.fr.block b (mm.heap.imm b hb).1 fun hx => (Xmine b hx).1 hb
 have hI : ∀ g, I g → I' g := hh.sub
 have fresh : ∀ g, I' g → I g ∨ lentX σc (ofH h) g ∨ w.heap.size ≤ g := fun g hg => (hh.imm g hg).2
 have frame : ∀ l b, s.H l = some b → (∀ x ∈ h, ρ x.1 ≠ l) → ∀ g sl, σ l = some sl → sl.block = some g → ¬ lentX σc (ofH h) g := fun l b hl hno g sl hs hg hx => by
  obtain ⟨l2, b2, sl2, q1, q2, q3, q4⟩ := Xof g hx
  exact hno (l2, b2) (ofH_mem q1) (mm.heap.inj _ _ g sl2 sl (by rw [q2]; simp) (by rw [hl]; simp) q3 hs q4 hg)
 -- what stands where
 have cls : ∀ l b, putH (putH s.H (goneU ρ h)) (newU (lift2 ρ n s.nx) h') l = some b → (∃ x ∈ h', lift2 ρ n s.nx x.1 = l ∧ b = x.2.ren (lift2 ρ n s.nx)) ∨ (s.H l = some b ∧ (∀ x ∈ h, ρ x.1 ≠ l)) := fun l b hl => by
  rcases putH_new (lift2 ρ n s.nx) l h' (putH s.H (goneU ρ h)) with ⟨e1, e2⟩ | ⟨x, hx, e1, e2⟩
  ·rw [e1] at hl
   rcases putH_gone ρ l h s.H with ⟨e3, e4⟩ | ⟨e3, _⟩
   ·rw [e3] at hl; exact .inr ⟨hl, e4⟩
   ·rw [e3] at hl; cases hl
  ·rw [e2] at hl
   injection hl with hl
   exact .inl ⟨x, hx, e1, hl.symm⟩
 have mem' : ∀ x ∈ h', (rt.contains x.1 || decide (n ≤ x.1)) = true ∧ x.2.labsBy (fun l => rt.contains l || decide (n ≤ l)) = true := fun x hx => by
  have := List.all_eq_true.1 F.mem x hx
  rwa [Bool.and_eq_true] at this
 have inv : ∀ l, (rt.contains l || decide (n ≤ l)) = true → ∀ sl, σ2 (lift2 ρ n s.nx l) = some sl → σ' l = some sl := fun l hl sl hs => by
  unfold lift2 at hs
  rcases Nat.lt_or_ge l n with q | q
  ·rw [if_pos q] at hs
   have hm : l ∈ rt := by
    rcases Bool.or_eq_true_iff.1 hl with hl | hl
    ·exact List.contains_iff_mem.1 hl
    ·simp at hl; omega
   rw [hroot l hm, σat l q]
   have hc := List.contains_iff_mem.1 (List.all_eq_true.1 F.roots l hm)
   obtain ⟨x, hx, hxl⟩ := List.mem_map.1 hc
   obtain ⟨r1, r2, _⟩ := F.here x hx
   have hlt : ρ l < s.nx := by
    rcases Nat.lt_or_ge (ρ l) s.nx with z | z
    ·exact z
    ·obtain ⟨sl', hsl', _⟩ := (mm.heap.rows _ _ r1).block
     rw [hxl, hn _ z] at hsl'; cases hsl'
   rw [hσ2, if_pos hlt] at hs
   exact hs
  ·rw [if_neg (by omega), hσ2, if_neg (by omega), show n + (s.nx + (l - n) - s.nx) = l by omega] at hs
   exact hs
 have OK : HOK σ2 w' I' (putH (putH s.H (goneU ρ h)) (newU (lift2 ρ n s.nx) h')) w0 X I0 := by
  have rowN : ∀ x ∈ h', repB σ' w' I' x.1 x.2 := fun x hx => hh.rows x.1 x.2 (ofH_of_mem F.dist' hx)
  have neN : ∀ x ∈ h', ofH h' x.1 ≠ none := fun x hx => by rw [ofH_of_mem F.dist' hx]; simp
  have slotF : ∀ l b sl, s.H l = some b → σ2 l = some sl → σ l = some sl := fun l b sl hl hs => by
   obtain ⟨sl', hsl', _⟩ := (mm.heap.rows l b hl).block
   rw [old l sl' hsl'] at hs
   rw [hsl']; exact hs
  refine ⟨fun l b hl => ?_, fun l1 l2 g s1 s2 n1 n2 e1 e2 g1 g2 => ?_, fun l g sl n1 e1 g1 => ?_, fun g hg => ?_, fun g hg => hh.sub g (mm.heap.sub g hg), ⟨hh.fr.os.trans mm.heap.fr.os, hh.fr.tape.trans mm.heap.fr.tape, hh.fr.output.trans mm.heap.fr.output, Nat.le_trans mm.heap.fr.size hh.fr.size, fun b hb hx => ?_, mm.heap.fr.step fun b cur et p hb hc => hh.fr.shape b cur et p hc⟩⟩
  ·rcases cls l b hl with ⟨x, hx, rfl, rfl⟩ | ⟨hl', hno⟩
   ·exact repB_by new (mem' x hx).1 (rowN x hx) (mem' x hx).2
   ·obtain ⟨sl, hsl, hlt⟩ := (mm.heap.rows l b hl').block
    refine (mm.heap.rows l b hl').mono old hI same fun g s' q1 q2 => ?_
    rw [hsl] at q1; injection q1 with q1; subst q1
    exact hh.fr.block g (hlt g q2) (frame l b hl' hno g _ hsl q2)
  ·obtain ⟨b1, hb1⟩ := Option.ne_none_iff_exists'.1 n1
   obtain ⟨b2, hb2⟩ := Option.ne_none_iff_exists'.1 n2
   rcases cls l1 b1 hb1 with ⟨x, hx, rfl, rfl⟩ | ⟨h1, no1⟩
   ·have f1 := inv x.1 (mem' x hx).1 s1 e1
    rcases cls l2 b2 hb2 with ⟨y, hy, rfl, rfl⟩ | ⟨h2, no2⟩
    ·have f2 := inv y.1 (mem' y hy).1 s2 e2
     rw [hh.inj x.1 y.1 g s1 s2 (neN x hx) (neN y hy) f1 f2 g1 g2]
    ·exfalso
     have f2 := slotF l2 b2 s2 h2 e2
     rcases (hh.mine x.1 g s1 (neN x hx) f1 g1).2 with q | q
     ·exact frame l2 b2 h2 no2 g s2 f2 g2 q
     ·have := blk l2 g s2 (by rw [h2]; simp) f2 g2; omega
   ·have f1 := slotF l1 b1 s1 h1 e1
    rcases cls l2 b2 hb2 with ⟨y, hy, rfl, rfl⟩ | ⟨h2, no2⟩
    ·exfalso
     have f2 := inv y.1 (mem' y hy).1 s2 e2
     rcases (hh.mine y.1 g s2 (neN y hy) f2 g2).2 with q | q
     ·exact frame l1 b1 h1 no1 g s1 f1 g1 q
     ·have := blk l1 g s1 (by rw [h1]; simp) f1 g1; omega
    ·exact mm.heap.inj l1 l2 g s1 s2 (by rw [h1]; simp) (by rw [h2]; simp) f1 (slotF l2 b2 s2 h2 e2) g1 g2
  ·obtain ⟨b1, hb1⟩ := Option.ne_none_iff_exists'.1 n1
   rcases cls l b1 hb1 with ⟨x, hx, rfl, rfl⟩ | ⟨h1, no1⟩
   ·have f1 := inv x.1 (mem' x hx).1 sl e1
    obtain ⟨m1, m2⟩ := hh.mine x.1 g sl (neN x hx) f1 g1
    refine ⟨m1, ?_⟩
    rcases m2 with q | q
    ·exact (Xmine g q).2.1
    ·exact .inr (Nat.le_trans mm.heap.fr.size q)
   ·have f1 := slotF l b1 sl h1 e1
    obtain ⟨m1, m2⟩ := mm.heap.mine l g sl (by rw [h1]; simp) f1 g1
    refine ⟨fun hg => ?_, m2⟩
    rcases fresh g hg with q | q | q
    ·exact m1 q
    ·exact frame l b1 h1 no1 g sl f1 g1 q
    ·have := blk l g sl (by rw [h1]; simp) f1 g1; omega
  ·refine ⟨(hh.imm g hg).1, ?_⟩
   rcases fresh g hg with q | q | q
   ·exact (mm.heap.imm g q).2
   ·exact .inr (Xmine g q).2.1
   ·exact .inr (.inr (Nat.le_trans mm.heap.fr.size q))
  ·rw [hh.fr.block b (by have := mm.heap.fr.size; omega) fun hx' => ?_]
   ·exact mm.heap.fr.block b hb hx
   ·rcases (Xmine b hx').2.1 with q | q
    ·exact hx q
    ·omega
 refine hnext ⟨putT s.T o.dst (some (r.ren (lift2 ρ n s.nx))), _, s.nx + m⟩ _ w' ⟨σ2, I', fun l hl => ?_, mm.put hd OK old hI same fun y hy => by injection hy with hy; subst hy; exact repA_by new hrv F.res⟩ hk
 simp only at hl
 rw [hσ2, if_neg (by omega)]
 exact hnew _ (by omega)
end Go.Aw
namespace Go.Aw
open Go.Proofs Go.RowKit
set_option linter.unusedSimpArgs false
set_option linter.unusedVariables false
theorem SeqR.call {P : Program} {nt : Fm} {s : St} {ops : Array Oper} {i : Nat} {K : St → Prop} {d : Tmp} {f : FuncId} {xs : Array Operand} {ts : Array TypeId} {ty : TypeId} {ps : String} {af : Array Edge} {args : List AV} {h : List (Nat × Blk)} {n : Nat} {rt : List Nat} {r : AV} {h' : List (Nat × Blk)} {m : Nat} (ρ : Nat → Nat)
  (ho : ops[i]? = some ⟨some d, .call { callee := .value (.func f), args := xs, argTypes := ts }, ty, ps, af, none⟩) (hd : dstOK nt ⟨some d, .call { callee := .value (.func f), args := xs, argTypes := ts }, ty, ps, af, none⟩ = true) (D : DFn P f args h n rt r h' m) (F : FitD s xs.toList args h n rt r h' ρ)
  (hk : SeqR P nt ops (i + 1) ⟨upd s.T d (some (r.ren (lift2 ρ n s.nx))), putH (putH s.H (goneU ρ h)) (newU (lift2 ρ n s.nx) h'), s.nx + m⟩ K) : SeqR P nt ops i s K :=
 SeqR.op ho rfl (callD_fn ρ rfl hd D F hk)
end Go.Aw
namespace Go.Aw
open Go.RowKit
variable {P : Program}
end Go.Aw
namespace Go.Aw
open Go.RowKit
variable {P : Program}
end Go.Aw
namespace Go.Aw
open Go.RowKit
variable {P : Program}
theorem callD_sig {nt : Fm} {s : St} {o : Oper} {c : Operand} {f : FuncId} {xs : Array Operand} {ts : Array TypeId} {args : List AV} {h : List (Nat × Blk)} {n : Nat} {rt : List Nat} {r : AV} {h' : List (Nat × Blk)} {m : Nat} (ρ : Nat → Nat)
  (ho : o.op = .call { callee := .value c, args := xs, argTypes := ts }) (hcf : fnOf (ev s.T c) = some f) (hd : dstOK nt o = true) (D : DFn P f args h n rt r h' m) (F : FitD s xs.toList args h n rt r h' ρ)
  {w0 : World} {X I0 : Nat → Prop} {a : Act} {w : World} {next : Act → World → Prop} {Q : Exit → Act → World → Prop} {σ : Lab} {I : Nat → Prop} (tx : TabX w0 X I0) (hn : ∀ l, s.nx ≤ l → σ l = none) (mm : Match nt w0 X I0 σ I s.T s.H a w)
  (hnext : ∀ σ' I' a' w', (∀ l, l < s.nx → σ' l = σ l) → (∀ l, s.nx + m ≤ l → σ' l = none) → Match nt w0 X I0 σ' I' (putT s.T o.dst (some (r.ren (lift2 ρ n s.nx)))) (putH (putH s.H (goneU ρ h)) (newU (lift2 ρ n s.nx) h')) a' w' → next a' w') : o.wp P a w next Q := by
 obtain ⟨hen, hp⟩ := D
 have IN : In σ w I s.T s.H w0 X I0 a s.nx := ⟨mm.heap, mm.tmps, hn _ (Nat.le_refl _), tx⟩
 have hrun : (execOp a.eval o).run P w = .ok (.enter f (xs.map a.eval)) w := by
  have he : a.eval c = .func (.func f) #[] #[] := by
   cases hev : ev s.T c with
   | none => rw [hev] at hcf; simp [fnOf] at hcf
   | some x => rw [hev] at hcf; exact fnOf_spec hcf (IN.ev hev)
  simp only [execOp, ho, resolve, he, Deferred.ofValue, Sem.run_bind, Sem.run_pure, Result.andThen_ok, invoke, Array.append_empty, Array.empty_append, run_enter hen]
 obtain ⟨p1, p2⟩ := argD_spec F.opd
 have here : ∀ l b, ofH h l = some b → s.H (ρ l) = some (b.ren ρ) ∧ l < n ∧ b.labsIn n = true := fun l b hl => F.here (l, b) (ofH_mem hl)
 have inj : ∀ l l' b b', ofH h l = some b → ofH h l' = some b' → ρ l = ρ l' → l = l' := fun l l' b b' h1 h2 e => by
  have := distinct_inj F.inj (l, b) (ofH_mem h1) (l', b') (ofH_mem h2) e
  injection this
 generalize hσc : relab ρ n σ = σc
 have σat : ∀ l, l < n → σc l = σ (ρ l) := fun l hl => by rw [← hσc]; unfold relab; rw [if_pos hl]
 have σno : ∀ l, n ≤ l → σc l = none := fun l hl => by rw [← hσc]; unfold relab; rw [if_neg (by omega)]
 have Xof : ∀ g, lentX σc (ofH h) g → ∃ l b sl, ofH h l = some b ∧ s.H (ρ l) = some (b.ren ρ) ∧ σ (ρ l) = some sl ∧ sl.block = some g := fun g ⟨l, sl, q1, q2, q3⟩ => by
  obtain ⟨b, hb⟩ := Option.ne_none_iff_exists'.1 q1
  obtain ⟨r1, r2, _⟩ := here l b hb
  exact ⟨l, b, sl, hb, r1, by rw [← σat l r2]; exact q2, q3⟩
 have hH : HOK σc w I (ofH h) w (lentX σc (ofH h)) I := by
  refine ⟨fun l b hl => ?_, fun l l' g s1 s2 n1 n2 e1 e2 g1 g2 => ?_, fun l g s1 n1 e1 g1 => ?_, fun g hg => ⟨(mm.heap.imm g hg).1, .inl hg⟩, fun _ h => h, Fr.refl _ _⟩
  ·obtain ⟨r1, r2, r3⟩ := here l b hl
   rw [← hσc]
   exact repB_ren r2 (mm.heap.rows _ _ r1) r3
  ·obtain ⟨b1, hb1⟩ := Option.ne_none_iff_exists'.1 n1
   obtain ⟨b2, hb2⟩ := Option.ne_none_iff_exists'.1 n2
   obtain ⟨r1, r2, _⟩ := here l b1 hb1
   obtain ⟨r1', r2', _⟩ := here l' b2 hb2
   rw [σat l r2] at e1
   rw [σat l' r2'] at e2
   exact inj l l' b1 b2 hb1 hb2 (mm.heap.inj _ _ g s1 s2 (by rw [r1]; simp) (by rw [r1']; simp) e1 e2 g1 g2)
  ·obtain ⟨b1, hb1⟩ := Option.ne_none_iff_exists'.1 n1
   obtain ⟨r1, r2, _⟩ := here l b1 hb1
   refine ⟨?_, .inl ⟨l, s1, n1, e1, g1⟩⟩
   rw [σat l r2] at e1
   exact (mm.heap.mine _ g s1 (by rw [r1]; simp) e1 g1).1
 have hargs := hp w I σc (xs.map a.eval) (by simpa using p1) σno (fun j u y q1 q2 => by
  rw [Array.getElem?_map, Option.map_eq_some_iff] at q1
  obtain ⟨x, hx, rfl⟩ := q1
  have hlab : y.labsIn n = true := List.all_eq_true.1 F.labs y (List.mem_of_getElem? q2)
  rcases p2 j x y (by simpa using hx) q2 with ⟨p, v, rfl, hv, hpv⟩ | hv
  ·exact .p (rep_pureA (IN.ev hv) hpv)
  ·rw [← hσc]
   exact repA_ren (IN.ev hv) y rfl hlab) hH IN.tabs
 unfold Oper.wp
 rw [hrun, Oper.upon_enter]
 refine hargs.mono fun e w' he => ?_
 obtain ⟨v, σ', I', rfl, hh, hrv, hroot, hnew⟩ := he
 -- the caller's labels behind the call
 obtain ⟨σ2, hσ2⟩ : ∃ σ2 : Lab, ∀ l, σ2 l = if l < s.nx then σ l else σ' (n + (l - s.nx)) := ⟨fun l => if l < s.nx then σ l else σ' (n + (l - s.nx)), fun _ => rfl⟩
 have old : ∀ l sl, σ l = some sl → σ2 l = some sl := fun l sl hl => by
  rw [hσ2]
  rcases Nat.lt_or_ge l s.nx with q | q
  ·rw [if_pos q]; exact hl
  ·rw [hn l q] at hl; cases hl
 have new : ∀ l, (rt.contains l || decide (n ≤ l)) = true → ∀ sl, σ' l = some sl → σ2 (lift2 ρ n s.nx l) = some sl := fun l hl sl hs => by
  unfold lift2
  rcases Nat.lt_or_ge l n with q | q
  ·rw [if_pos q]
   have hm : l ∈ rt := by
    rcases Bool.or_eq_true_iff.1 hl with hl | hl
    ·exact List.contains_iff_mem.1 hl
    ·simp at hl; omega
   rw [hroot l hm, σat l q] at hs
   exact old _ _ hs
  ·rw [if_neg (by omega), hσ2, if_neg (by omega), show n + (s.nx + (l - n) - s.nx) = l by omega]
   exact hs
 have blk : ∀ l g sl, s.H l ≠ none → σ l = some sl → sl.block = some g → g < w.heap.size := fun l g sl hn hs hg => by
  obtain ⟨b, hb⟩ := Option.ne_none_iff_exists'.1 hn
  obtain ⟨s', hs', hlt⟩ := (mm.heap.rows l b hb).block
  rw [hs] at hs'; injection hs' with hs'; subst hs'
  exact hlt g hg
 have Xmine : ∀ g, lentX σc (ofH h) g → ¬ I g ∧ (X g ∨ w0.heap.size ≤ g) ∧ g < w.heap.size := fun g hg => by
  obtain ⟨l, b, sl, q1, q2, q3, q4⟩ := Xof g hg
  obtain ⟨m1, m2⟩ := mm.heap.mine _ g sl (by rw [q2]; simp) q3 q4
  exact ⟨m1, m2, blk _ g sl (by rw [q2]; simp) q3 q4⟩
 have same : ∀ b, I b → w'.heap[b]? = w.heap[b]? := fun b hb => hh.fr.block b (mm.heap.imm b hb).1 fun hx => (Xmine b hx).1 hb
 have hI : ∀ g, I g → I' g := hh.sub
 have fresh : ∀ g, I' g → I g ∨ lentX σc (ofH h) g ∨ w.heap.size ≤ g := fun g hg => (hh.imm g hg).2
 have frame : ∀ l b, s.H l = some b → (∀ x ∈ h, ρ x.1 ≠ l) → ∀ g sl, σ l = some sl → sl.block = some g → ¬ lentX σc (ofH h) g := fun l b hl hno g sl hs hg hx => by
  obtain ⟨l2, b2, sl2, q1, q2, q3, q4⟩ := Xof g hx
  exact hno (l2, b2) (ofH_mem q1) (mm.heap.inj _ _ g sl2 sl (by rw [q2]; simp) (by rw [hl]; simp) q3 hs q4 hg)
 -- what stands where
 have cls : ∀ l b, putH (putH s.H (goneU ρ h)) (newU (lift2 ρ n s.nx) h') l = some b → (∃ x ∈ h', lift2 ρ n s.nx x.1 = l ∧ b = x.2.ren (lift2 ρ n s.nx)) ∨ (s.H l = some b ∧ (∀ x ∈ h, ρ x.1 ≠ l)) := fun l b hl => by
  rcases putH_new (lift2 ρ n s.nx) l h' (putH s.H (goneU ρ h)) with ⟨e1, e2⟩ | ⟨x, hx, e1, e2⟩
  ·rw [e1] at hl
   rcases putH_gone ρ l h s.H with ⟨e3, e4⟩ | ⟨e3, _⟩
   ·rw [e3] at hl; exact .inr ⟨hl, e4⟩
   ·rw [e3] at hl; cases hl
  ·rw [e2] at hl
   injection hl with hl
   exact .inl ⟨x, hx, e1, hl.symm⟩
 have mem' : ∀ x ∈ h', (rt.contains x.1 || decide (n ≤ x.1)) = true ∧ x.2.labsBy (fun l => rt.contains l || decide (n ≤ l)) = true := fun x hx => by
  have := List.all_eq_true.1 F.mem x hx
  rwa [Bool.and_eq_true] at this
 have inv : ∀ l, (rt.contains l || decide (n ≤ l)) = true → ∀ sl, σ2 (lift2 ρ n s.nx l) = some sl → σ' l = some sl := fun l hl sl hs => by
  unfold lift2 at hs
  rcases Nat.lt_or_ge l n with q | q
  ·rw [if_pos q] at hs
   have hm : l ∈ rt := by
    rcases Bool.or_eq_true_iff.1 hl with hl | hl
    ·exact List.contains_iff_mem.1 hl
    ·simp at hl; omega
   rw [hroot l hm, σat l q]
   have hc := List.contains_iff_mem.1 (List.all_eq_true.1 F.roots l hm)
   obtain ⟨x, hx, hxl⟩ := List.mem_map.1 hc
   obtain ⟨r1, r2, _⟩ := F.here x hx
   have hlt : ρ l < s.nx := by
    rcases Nat.lt_or_ge (ρ l) s.nx with z | z
    ·exact z
    ·obtain ⟨sl', hsl', _⟩ := (mm.heap.rows _ _ r1).block
     rw [hxl, hn _ z] at hsl'; cases hsl'
   rw [hσ2, if_pos hlt] at hs
   exact hs
  ·rw [if_neg (by omega), hσ2, if_neg (by omega), show n + (s.nx + (l - n) - s.nx) = l by omega] at hs
   exact hs
 have OK : HOK σ2 w' I' (putH (putH s.H (goneU ρ h)) (newU (lift2 ρ n s.nx) h')) w0 X I0 := by
  have rowN : ∀ x ∈ h', repB σ' w' I' x.1 x.2 := fun x hx => hh.rows x.1 x.2 (ofH_of_mem F.dist' hx)
  have neN : ∀ x ∈ h', ofH h' x.1 ≠ none := fun x hx => by rw [ofH_of_mem F.dist' hx]; simp
  have slotF : ∀ l b sl, s.H l = some b → σ2 l = some sl → σ l = some sl := fun l b sl hl hs => by
   obtain ⟨sl', hsl', _⟩ := (mm.heap.rows l b hl).block
   rw [old l sl' hsl'] at hs
   rw [hsl']; exact hs
  refine ⟨fun l b hl => ?_, fun l1 l2 g s1 s2 n1 n2 e1 e2 g1 g2 => ?_, fun l g sl n1 e1 g1 => ?_, fun g hg => ?_, fun g hg => hh.sub g (mm.heap.sub g hg), ⟨hh.fr.os.trans mm.heap.fr.os, hh.fr.tape.trans mm.heap.fr.tape, hh.fr.output.trans mm.heap.fr.output, Nat.le_trans mm.heap.fr.size hh.fr.size, fun b hb hx => ?_, mm.heap.fr.step fun b cur et p hb hc => hh.fr.shape b cur et p hc⟩⟩
  ·rcases cls l b hl with ⟨x, hx, rfl, rfl⟩ | ⟨hl', hno⟩
   ·exact repB_by new (mem' x hx).1 (rowN x hx) (mem' x hx).2
   ·obtain ⟨sl, hsl, hlt⟩ := (mm.heap.rows l b hl').block
    refine (mm.heap.rows l b hl').mono old hI same fun g s' q1 q2 => ?_
    rw [hsl] at q1; injection q1 with q1; subst q1
    exact hh.fr.block g (hlt g q2) (frame l b hl' hno g _ hsl q2)
  ·obtain ⟨b1, hb1⟩ := Option.ne_none_iff_exists'.1 n1
   obtain ⟨b2, hb2⟩ := Option.ne_none_iff_exists'.1 n2
   rcases cls l1 b1 hb1 with ⟨x, hx, rfl, rfl⟩ | ⟨h1, no1⟩
   ·have f1 := inv x.1 (mem' x hx).1 s1 e1
    rcases cls l2 b2 hb2 with ⟨y, hy, rfl, rfl⟩ | ⟨h2, no2⟩
    ·have f2 := inv y.1 (mem' y hy).1 s2 e2
     rw [hh.inj x.1 y.1 g s1 s2 (neN x hx) (neN y hy) f1 f2 g1 g2]
    ·exfalso
     have f2 := slotF l2 b2 s2 h2 e2
     rcases (hh.mine x.1 g s1 (neN x hx) f1 g1).2 with q | q
     ·exact frame l2 b2 h2 no2 g s2 f2 g2 q
     ·have := blk l2 g s2 (by rw [h2]; simp) f2 g2; omega
   ·have f1 := slotF l1 b1 s1 h1 e1
    rcases cls l2 b2 hb2 with ⟨y, hy, rfl, rfl⟩ | ⟨h2, no2⟩
    ·exfalso
     have f2 := inv y.1 (mem' y hy).1 s2 e2
     rcases (hh.mine y.1 g s2 (neN y hy) f2 g2).2 with q | q
     ·exact frame l1 b1 h1 no1 g s1 f1 g1 q
     ·have := blk l1 g s1 (by rw [h1]; simp) f1 g1; omega
    ·exact mm.heap.inj l1 l2 g s1 s2 (by rw [h1]; simp) (by rw [h2]; simp) f1 (slotF l2 b2 s2 h2 e2) g1 g2
  ·obtain ⟨b1, hb1⟩ := Option.ne_none_iff_exists'.1 n1
   rcases cls l b1 hb1 with ⟨x, hx, rfl, rfl⟩ | ⟨h1, no1⟩
   ·have f1 := inv x.1 (mem' x hx).1 sl e1
    obtain ⟨m1, m2⟩ := hh.mine x.1 g sl (neN x hx) f1 g1
    refine ⟨m1, ?_⟩
    rcases m2 with q | q
    ·exact (Xmine g q).2.1
    ·exact .inr (Nat.le_trans mm.heap.fr.size q)
   ·have f1 := slotF l b1 sl h1 e1
    obtain ⟨m1, m2⟩ := mm.heap.mine l g sl (by rw [h1]; simp) f1 g1
    refine ⟨fun hg => ?_, m2⟩
    rcases fresh g hg with q | q | q
    ·exact m1 q
    ·exact frame l b1 h1 no1 g sl f1 g1 q
    ·have := blk l g sl (by rw [h1]; simp) f1 g1; omega
  ·refine ⟨(hh.imm g hg).1, ?_⟩
   rcases fresh g hg with q | q | q
   ·exact (mm.heap.imm g q).2
   ·exact .inr (Xmine g q).2.1
   ·exact .inr (.inr (Nat.le_trans mm.heap.fr.size q))
  ·rw [hh.fr.block b (by have := mm.heap.fr.size; omega) fun hx' => ?_]
   ·exact mm.heap.fr.block b hb hx
   ·rcases (Xmine b hx').2.1 with q | q
    ·exact hx q
    ·omega
 refine hnext σ2 I' _ w' (fun l hl => by rw [hσ2, if_pos hl]) (fun l hl => ?_) (mm.put hd OK old hI same fun y hy => by injection hy with hy; subst hy; exact repA_by new hrv F.res)
 rw [hσ2, if_neg (by omega)]
 exact hnew _ (by omega)
theorem argD_pure {T : Nat → Option AV} {ρ : Nat → Nat} : ∀ {xs : List Operand} {l : List PV}, xs.map (ev T) = l.map (fun p => some (.p p)) → argD T ρ xs (l.map AV.p)
 | [], [], _ => trivial
 | [], _ :: _, h => by cases h
 | _ :: _, [], h => by cases h
 | x :: xs, p :: l, h => by
  rw [List.map_cons, List.map_cons] at h
  injection h with h1 h2
  rw [List.map_cons]
  refine ⟨?_, argD_pure h2⟩
  rw [h1]
  rfl
section
variable {nt : Fm} {ops : Array Oper} {L : List (Oper × Rec)} {nx dc ex : Nat} {T0 : Nat → Option AV} {H0 : Nat → Option Blk} {w0 : World} {X I0 : Nat → Prop}
def Inv2 (nt : Fm) (ops : Array Oper) (L : List (Oper × Rec)) (nx dc ex : Nat) (T0 : Nat → Option AV) (H0 : Nat → Option Blk) (w0 : World) (X I0 : Nat → Prop) (D : Nat → Bool) (a : Act) (w : World) : Prop :=
 ∃ σ I, Match nt w0 X I0 σ I (foldT D L 0 T0) (foldH D L 0 H0) a w ∧ ∀ l s, nx ≤ l → σ l = some s → (∃ j, l = nx + j ∧ j < ops.size ∧ D j = true) ∨ (nx + ops.size ≤ l ∧ l < nx + ops.size + ex ∧ D dc = true)
def DeepOK (P : Program) (N ex : Nat) (o : Oper) (r : Rec) (T : Nat → Option AV) : Prop :=
 o.guard = none ∧ ∃ (f : FuncId) (xs : Array Operand) (ts : Array TypeId) (l : List PV) (rr : AV) (h' : List (Nat × Blk)), o.op = .call { callee := .value (.func f), args := xs, argTypes := ts } ∧ xs.toList.map (ev T) = l.map (fun p => some (.p p)) ∧ DFn P f (l.map AV.p) [] 0 [] rr h' ex ∧ distinct (h'.map (·.1)) = true ∧
  rr.labsBy (fun l => ([] : List Nat).contains l || decide (0 ≤ l)) = true ∧ h'.all (fun x => (([] : List Nat).contains x.1 || decide (0 ≤ x.1)) && x.2.labsBy (fun l => ([] : List Nat).contains l || decide (0 ≤ l))) = true ∧
  r.eff = some ⟨some (rr.ren (lift2 (fun k => k) 0 N)), newU (lift2 (fun k => k) 0 N) h'⟩ ∧ r.reads = []
structure Sound2 (P : Program) (nt : Fm) (ops : Array Oper) (L : List (Oper × Rec)) (nx dc ex : Nat) (T0 : Nat → Option AV) (H0 : Nat → Option Blk) : Prop where
 dst : ops.toList.all (dstOK nt) = true
 len : L.length = ops.size
 opers : ∀ (i : Nat) o r, L[i]? = some (o, r) → ops[i]? = some o
 static : staticOK ops.toList = true
 heap : ∀ i j o r o' r', i < j → L[i]? = some (o, r) → L[j]? = some (o', r') → (∀ l, l ∈ r.writes → l ∉ eReads false o'.op r'.reads ∧ l ∉ r'.writes) ∧ (∀ l, l ∈ r'.writes → l ∉ eReads false o.op r.reads) ∨ ahead ops.toList ops.toList.length i j = true
 chain : ∀ i o r, i ≠ dc → L[i]? = some (o, r) → StepOK P ops.toList (nx + i) o r (foldT (fun j => decide (j < i)) L 0 T0) (foldH (fun j => decide (j < i)) L 0 H0)
 deep : ∀ o r, L[dc]? = some (o, r) → DeepOK P (nx + ops.size) ex o r (foldT (fun j => decide (j < dc)) L 0 T0)
theorem Sound2.step (S : Sound2 P nt ops L nx dc ex T0 H0) (tx : TabX w0 X I0) {D : Nat → Bool} {i : Nat} {K : Act → World → Prop} {Q : Exit → Act → World → Prop} {a : Act} {w : World}
  (hcl : ∀ j o e, ops.toList[j]? = some o → D j = true → e ∈ o.after.toList → Region.binds .any e = true → D e.on = true) (hi : i < ops.size) (hDi : D i = false)
  (hdep : ∀ o, ops.toList[i]? = some o → ∀ e ∈ o.after.toList, Region.binds .any e = true → D e.on = true)
  (inv : Inv2 nt ops L nx dc ex T0 H0 w0 X I0 D a w) (hK : ∀ a w, Inv2 nt ops L nx dc ex T0 H0 w0 X I0 (fun j => D j || j == i) a w → K a w) : wpOp P ops Q i K a w := by
 obtain ⟨σ, I, m, hσ⟩ := inv
 obtain ⟨x, hx⟩ : ∃ x, L[i]? = some x := ⟨_, List.getElem?_eq_getElem (by rw [S.len]; exact hi)⟩
 obtain ⟨o, r⟩ := x
 have ho := S.opers i o r hx
 have ho' : ops.toList[i]? = some o := by rw [Array.getElem?_toList]; exact ho
 have hdo : dstOK nt o = true := List.all_eq_true.1 S.dst o (List.mem_of_getElem? ho')
 have hstat := S.static
 simp only [staticOK, Bool.and_eq_true] at hstat
 have hDlab : D i = false → σ (nx + i) = none := by
  intro _
  cases hs : σ (nx + i) with
  | none => rfl
  | some s =>
   rcases hσ _ s (Nat.le_add_right _ _) hs with ⟨j, hj, _, hDj⟩ | ⟨h5, _, _⟩
   ·have : j = i := by omega
    subst this
    rw [hDi] at hDj
    cases hDj
   ·omega
 -- operations that may change places with this one
 have before : ∀ j, ahead ops.toList ops.toList.length j i = true → D j = true := fun j h => ahead_dep hcl ho' (hdep o ho') _ j h
 have after : ∀ j, ahead ops.toList ops.toList.length i j = true → D j = false := fun j h => by
  cases hj : D j with
  | false => rfl
  | true =>
   have := ahead_done hcl _ i j h hj
   rw [hDi] at this
   cases this
 have hlt : ∀ {j : Nat} {y : Oper × Rec}, L[j]? = some y → j < ops.toList.length := fun h => by
  have := (List.getElem?_eq_some_iff.1 h).1
  rw [Array.length_toList, ← S.len]
  exact this
 have apartT : ∀ j o' r', j ≠ i → L[j]? = some (o', r') → (∀ d, o'.dst = some d → d ∉ o.looksAt ops ∧ o.dst ≠ some d) ∨ (j < i ∧ D j = true) ∨ (i < j ∧ D j = false) := by
  intro j o' r' hne hj
  have hoj : ops.toList[j]? = some o' := by rw [Array.getElem?_toList]; exact S.opers j o' r' hj
  have e : ops.toList.toArray = ops := by simp
  rcases Nat.lt_or_gt_of_ne hne with q | q
  ·rcases pairs_spec hstat.2 q (hlt hx) with h | h
   ·left
    simp only [tmpsApart, hoj, ho', e] at h
    obtain ⟨h1, h2, _⟩ := Oper.apart_spec h
    exact fun d hd => ⟨h1 d hd, h2 d hd⟩
   ·exact .inr (.inl ⟨q, before j h⟩)
  ·rcases pairs_spec hstat.2 q (hlt hj) with h | h
   ·left
    simp only [tmpsApart, hoj, ho', e] at h
    obtain ⟨h1, h2, h3⟩ := Oper.apart_spec h
    exact fun d hd => ⟨h3 d hd, fun h => h2 d h hd⟩
   ·exact .inr (.inr ⟨q, after j h⟩)
 have apartH : ∀ j o' r', j ≠ i → L[j]? = some (o', r') → (∀ l, l ∈ r'.writes → l ∉ eReads false o.op r.reads ∧ l ∉ r.writes) ∨ (j < i ∧ D j = true) ∨ (i < j ∧ D j = false) := by
  intro j o' r' hne hj
  rcases Nat.lt_or_gt_of_ne hne with q | q
  ·rcases S.heap j i o' r' o r q hj hx with ⟨h1, h2⟩ | h
   ·exact .inl h1
   ·exact .inr (.inl ⟨q, before j h⟩)
  ·rcases S.heap i j o r o' r' q hx hj with ⟨h1, h2⟩ | h
   ·exact .inl fun l hl => ⟨h2 l hl, fun h => (h1 l h).2 hl⟩
   ·exact .inr (.inr ⟨q, after j h⟩)
 -- what it looks at is what it looks at in the text's order
 have sameT : ∀ t, t ∈ o.looksAt ops → foldT D L 0 T0 t = foldT (fun j => decide (j < i)) L 0 T0 t := by
  intro t ht
  refine foldT_eq L 0 _ _ rfl fun j y hj hy => ?_
  obtain ⟨o', r'⟩ := y
  rw [Nat.zero_add]
  by_cases hne : j = i
  ·subst hne; rw [hDi]; simp
  ·rcases apartT j o' r' hne hj with h | ⟨h1, h2⟩ | ⟨h1, h2⟩
   ·exact absurd ht (h t hy).1
   ·rw [h2]; simp [h1]
   ·rw [h2]; simp; omega
 have sameH : ∀ l, l ∈ eReads false o.op r.reads → foldH D L 0 H0 l = foldH (fun j => decide (j < i)) L 0 H0 l := by
  intro t ht
  refine foldH_eq L 0 _ _ rfl fun j y hj hy => ?_
  obtain ⟨o', r'⟩ := y
  rw [Nat.zero_add]
  by_cases hne : j = i
  ·subst hne; rw [hDi]; simp
  ·rcases apartH j o' r' hne hj with h | ⟨h1, h2⟩ | ⟨h1, h2⟩
   ·exact absurd ht (h t hy).1
   ·rw [h2]; simp [h1]
   ·rw [h2]; simp; omega
 have evSame : ∀ y ∈ o.op.operands.toList, ev (foldT D L 0 T0) y = ev (foldT (fun j => decide (j < i)) L 0 T0) y := by
  intro y hy
  cases y with
  | tmp t => exact sameT t (List.mem_append_left _ (List.mem_filterMap.2 ⟨.tmp t, hy, rfl⟩))
  | _ => rfl
 have guardSame : guardIs ops.toList o (foldT D L 0 T0) = guardIs ops.toList o (foldT (fun j => decide (j < i)) L 0 T0) := by
  unfold guardIs
  cases hg : o.guard with
  | none => rfl
  | some jw =>
   obtain ⟨j, want⟩ := jw
   simp only
   cases hd : (ops.toList[j]?).bind (·.dst) with
   | none => rfl
   | some d =>
    simp only [Option.bind_some]
    rw [sameT d (List.mem_append_right _ (by simp only [hg]; rw [Array.getElem?_toList] at hd; simp [hd]))]
 -- the state behind it
 have newT : putT (foldT D L 0 T0) o.dst r.val = foldT (fun j => D j || j == i) L 0 T0 := by
  funext t
  by_cases ht : o.dst = some t
  ·have e1 : putT (foldT D L 0 T0) o.dst r.val t = r.val := by simp only [ht, putT, upd_same]
   rw [e1]
   refine (foldT_at L 0 T0 i o r hx ht (by simp) fun j y hij hj hy => ?_).symm
   obtain ⟨o', r'⟩ := y
   rw [Nat.zero_add]
   rcases apartT j o' r' (by omega) hj with h | ⟨h1, h2⟩ | ⟨h1, h2⟩
   ·exact absurd ht (h t hy).2
   ·omega
   ·rw [h2]; simp; omega
  ·rw [putT_ne ht]
   refine foldT_eq L 0 _ _ rfl fun j y hj hy => ?_
   rw [Nat.zero_add]
   have : j ≠ i := by
    rintro rfl
    rw [hx] at hj
    injection hj with hj
    subst hj
    exact ht hy
   simp [this]
 have newH : putH (foldH D L 0 H0) r.upds = foldH (fun j => D j || j == i) L 0 H0 := by
  funext t
  by_cases ht : t ∈ r.writes
  ·rw [putH_in _ _ (fun _ => none) ht]
   refine (foldH_at L 0 H0 i o r hx ht (by simp) fun j y hij hj hy => ?_).symm
   obtain ⟨o', r'⟩ := y
   rw [Nat.zero_add]
   rcases apartH j o' r' (by omega) hj with h | ⟨h1, h2⟩ | ⟨h1, h2⟩
   ·exact absurd ht (h t hy).2
   ·omega
   ·rw [h2]; simp; omega
  ·rw [putH_out _ _ ht]
   refine foldH_eq L 0 _ _ rfl fun j y hj hy => ?_
   rw [Nat.zero_add]
   have : j ≠ i := by
    rintro rfl
    rw [hx] at hj
    injection hj with hj
    subst hj
    exact ht hy
   simp [this]
 have hwant : ∀ b, guardIs ops.toList o (foldT D L 0 T0) = some b → Region.wanted o (yielded ops a.tmps) = b := by
  intro b hb
  unfold guardIs at hb
  cases hg : o.guard with
  | none =>
   rw [hg] at hb
   injection hb with hb
   simp [Region.wanted, hg, hb]
  | some jw =>
   obtain ⟨j, want⟩ := jw
   rw [hg] at hb
   simp only at hb
   split at hb
   ·rename_i b' hb'
    injection hb with hb
    obtain ⟨d, hd1, hd2⟩ := Option.bind_eq_some_iff.1 hb'
    rw [Array.getElem?_toList] at hd1
    obtain ⟨u, hu, hru⟩ := m.tmps d _ hd2
    have hy : yielded ops a.tmps j = some b' := by
     cases hru with
     | p h => cases h; simp [yielded, hd1, hu]
    simp only [Region.wanted, hg, hy, ← hb]
    cases b' <;> cases want <;> rfl
   ·cases hb
 unfold wpOp
 rw [ho]
 simp only
 by_cases hic : i = dc
 ·subst hic
  obtain ⟨hg, f, xs, ts, l, rr, h', hop, hxs, hD, hdis, hres, hmem, hre, hrr⟩ := S.deep o r hx
  rw [if_pos (hwant true (by unfold guardIs; rw [hg]))]
  left
  have hxc : xs.toList.map (ev (foldT D L 0 T0)) = l.map fun p => some (.p p) := by
   rw [← hxs]
   refine List.map_congr_left fun y hy => evSame y ?_
   rw [hop]
   simp only [Op.operands, Call.operands]
   simp [hy]
  have hlab : ∀ l', nx + ops.size ≤ l' → σ l' = none := fun l' hl' => by
   cases hs : σ l' with
   | none => rfl
   | some s =>
    rcases hσ l' s (by omega) hs with ⟨j, h1, h0, _⟩ | ⟨_, _, h2⟩
    ·omega
    ·rw [hDi] at h2; cases h2
  refine callD_sig (s := ⟨foldT D L 0 T0, foldH D L 0 H0, nx + ops.size⟩) (fun k => k) hop rfl hdo hD ⟨argD_pure hxc, by simp [AV.labsIn], (fun x hx => by cases hx), rfl, rfl, hdis, rfl, hres, hmem⟩ tx hlab m fun σ' I' a' w' hlo hhi m' => hK _ _ ⟨σ', I', ?_, fun l' s hl hs => ?_⟩
  ·have e1 : r.val = some (rr.ren (lift2 (fun k => k) 0 (nx + ops.size))) := by simp [Rec.val, hre]
   have e2 : r.upds = newU (lift2 (fun k => k) 0 (nx + ops.size)) h' := by simp [Rec.upds, hre]
   rw [← newT, ← newH, e1, e2]
   exact m'
  ·rcases Nat.lt_or_ge l' (nx + ops.size) with q | q
   ·rw [hlo l' q] at hs
    rcases hσ l' s hl hs with ⟨j, h1, h0, h2⟩ | ⟨h1, _, _⟩
    ·exact .inl ⟨j, h1, h0, by simp [h2]⟩
    ·omega
   ·rcases Nat.lt_or_ge l' (nx + ops.size + ex) with q2 | q2
    ·exact .inr ⟨q, q2, by simp⟩
    ·rw [hhi l' q2] at hs; cases hs
 have hst := S.chain i o r hic hx
 unfold StepOK at hst
 cases he : r.eff with
 | some e =>
  rw [he] at hst
  obtain ⟨hg, hop, hr⟩ := hst
  rw [if_pos (hwant true (guardSame.trans hg))]
  have hop' : opW P (nx + i) o.op (foldT D L 0 T0) (foldH D L 0 H0) fun e' => e' = e := by
   rw [loc_op evSame (fun l hl => sameH l (by simp only [eReads, Bool.false_and, Bool.false_eq_true, if_false]; rw [hr]; exact hl))]
   exact hop
  left
  refine snd_op (w0 := w0) (X := X) (I0 := I0) ⟨m.heap, m.tmps, hDlab hDi, tx⟩ hop' _ _ fun e' v w' σ' I' hk out => hK _ _ ?_
  subst hk
  refine ⟨σ', I', ?_, fun l s hl hs => ?_⟩
  ·have := m.put hdo out.heap out.ext out.imm out.same out.val
   have e1 : r.val = e'.val := by simp [Rec.val, he]
   have e2 : r.upds = e'.upd := by simp [Rec.upds, he]
   rw [← newT, ← newH, e1, e2]
   exact this
  ·by_cases hll : l = nx + i
   ·exact .inl ⟨i, hll, hi, by simp⟩
   ·rw [out.lab l hll] at hs
    rcases hσ l s hl hs with ⟨j, h1, h0, h2⟩ | ⟨h1, h0, h2⟩
    ·exact .inl ⟨j, h1, h0, by simp [h2]⟩
    ·exact .inr ⟨h1, h0, by simp [h2]⟩
 | none =>
  rw [he] at hst
  rw [if_neg (by rw [hwant false (guardSame.trans hst)]; simp)]
  refine hK _ _ ⟨σ, I, ?_, fun l s hl hs => ?_⟩
  ·have := m.put (v := undef) (x := none) hdo m.heap (fun _ _ h => h) (fun _ h => h) (fun _ _ => rfl) (fun y hy => by cases hy)
   have e1 : r.val = none := by simp [Rec.val, he]
   have e2 : r.upds = [] := by simp [Rec.upds, he]
   rw [← newT, ← newH, e1, e2]
   exact this
  ·rcases hσ l s hl hs with ⟨j, h1, h0, h2⟩ | ⟨h1, h0, h2⟩
   ·exact .inl ⟨j, h1, h0, by simp [h2]⟩
   ·exact .inr ⟨h1, h0, by simp [h2]⟩
theorem Sound2.any (S : Sound2 P nt ops L nx dc ex T0 H0) (tx : TabX w0 X I0) {Q : Exit → Act → World → Prop} (hQ : ∀ a w, Inv2 nt ops L nx dc ex T0 H0 w0 X I0 (fun j => decide (j < ops.size)) a w → Q .normal a w) :
  ∀ (fuel : Nat) (listed : Array Bool) (a : Act) (w : World), listed.size = ops.size → (open_ ops.size listed).length ≤ fuel →
   (∀ j o e, ops.toList[j]? = some o → listed.getD j false = true → e ∈ o.after.toList → Region.binds .any e = true → listed.getD e.on false = true) →
   Inv2 nt ops L nx dc ex T0 H0 w0 X I0 (fun j => listed.getD j false) a w → wpAny P .any ops Q fuel listed a w := by
 have getD_ne : ∀ (listed : Array Bool) (i : Nat), listed.size = ops.size → i < ops.size → listed.getD i true = listed.getD i false := by
  intro listed i hs hi
  have : i < listed.size := by omega
  simp [Array.getD, this]
 have full : ∀ (listed : Array Bool), listed.size = ops.size → Region.ready .any ops listed = [] → ∀ i, i < ops.size → listed.getD i false = true := by
  intro listed hs hr i
  induction i using Nat.strongRecOn with
  | _ i ih =>
   intro hi
   cases hd : listed.getD i false with
   | true => rfl
   | false =>
    exfalso
    have : i ∈ Region.ready .any ops listed := by
     unfold Region.ready
     refine List.mem_filter.2 ⟨List.mem_range.2 hi, ?_⟩
     rw [getD_ne listed i hs hi, hd, Array.getElem?_eq_getElem hi]
     simp only [Bool.not_false, Bool.true_and, Option.map_some, Option.getD_some]
     rw [Array.all_eq_true_iff_forall_mem]
     intro e he
     cases hb : Region.binds .any e with
     | false => rfl
     | true =>
      simp only [Bool.not_true, Bool.false_or]
      have hst := S.static
      simp only [staticOK, Bool.and_eq_true] at hst
      have h1 := List.all_eq_true.1 hst.1 i (List.mem_range.2 (by simpa using hi))
      rw [Array.getElem?_toList, Array.getElem?_eq_getElem hi] at h1
      simp only at h1
      have h2 := List.all_eq_true.1 h1 e (by simpa using he)
      rw [hb] at h2
      simp only [Bool.not_true, Bool.false_or, decide_eq_true_eq] at h2
      exact ih e.on h2 (by omega)
    rw [hr] at this
    cases this
 have done : ∀ (listed : Array Bool) a w, listed.size = ops.size → Region.ready .any ops listed = [] → Inv2 nt ops L nx dc ex T0 H0 w0 X I0 (fun j => listed.getD j false) a w → Q .normal a w := by
  intro listed a w hs hr inv
  refine hQ a w ?_
  have : (fun j => listed.getD j false) = fun j => decide (j < ops.size) := by
   funext j
   by_cases hj : j < ops.size
   ·rw [full listed hs hr j hj]; simp [hj]
   ·have : ¬ j < listed.size := by omega
    simp [Array.getD, this, hj]
  rw [this] at inv
  exact inv
 intro fuel
 induction fuel with
 | zero =>
  intro listed a w hs hf hcl inv
  have hr : Region.ready .any ops listed = [] := by
   cases h : Region.ready .any ops listed with
   | nil => rfl
   | cons i l =>
    exfalso
    obtain ⟨h1, h2, _⟩ := ready_mem (show i ∈ Region.ready .any ops listed by rw [h]; simp)
    have : i ∈ open_ ops.size listed := List.mem_filter.2 ⟨List.mem_range.2 h1, by rw [h2]; rfl⟩
    have := List.length_pos_of_mem this
    omega
  exact ⟨hr, done listed a w hs hr inv⟩
 | succ fuel ih =>
  intro listed a w hs hf hcl inv
  refine ⟨fun hr => done listed a w hs hr inv, fun i hi => ?_⟩
  obtain ⟨h1, h2, h3⟩ := ready_mem hi
  have hD : (fun j => (listed.setIfInBounds i true).getD j false) = fun j => listed.getD j false || j == i := by
   funext j
   by_cases hj : j = i
   ·subst hj
    have : j < listed.size := by omega
    simp [Array.getD, this]
   ·by_cases hjs : j < listed.size
    ·have e1 : (j == i) = false := by simpa using hj
     have e2 : ¬ i = j := fun h => hj h.symm
     simp [Array.getD, hjs, e1, e2]
    ·have e1 : (j == i) = false := by simpa using hj
     simp [Array.getD, hjs, e1]
  refine S.step tx (D := fun j => listed.getD j false) hcl h1 (by rw [← getD_ne listed i hs h1]; exact h2) h3 inv fun a w inv' => ?_
  ·refine ih _ a w (by simpa using hs) ?_ (fun j o e ho hj he hb => ?_) (by rw [hD]; exact inv')
   ·have hmem : i ∈ open_ ops.size listed := List.mem_filter.2 ⟨List.mem_range.2 h1, by rw [h2]; rfl⟩
    have hsub : open_ ops.size (listed.setIfInBounds i true) = (open_ ops.size listed).filter fun j => j != i := by
     unfold open_
     rw [List.filter_filter]
     apply List.filter_congr
     intro j hj
     have hj' := List.mem_range.1 hj
     rw [getD_ne _ j (by simpa using hs) hj', getD_ne _ j hs hj']
     have := congrFun hD j
     rw [this]
     cases listed.getD j false <;> cases hji : j == i <;> simp [bne, hji]
    rw [hsub]
    have : ((open_ ops.size listed).filter fun j => j != i).length < (open_ ops.size listed).length := by
     rw [List.length_filter_lt_length_iff_exists]
     exact ⟨i, hmem, by simp⟩
    omega
   ·have hh := congrFun hD
    rw [hh] at hj ⊢
    simp only [Bool.or_eq_true, beq_iff_eq] at hj ⊢
    rcases hj with hj | hj
    ·exact .inl (hcl j o e ho hj he hb)
    ·subst hj
     exact .inl (h3 o ho e he hb)
end
end Go.Aw
namespace Go.Aw
open Go.RowKit
variable {P : Program}
end Go.Aw
namespace Go.Aw.T
open Go.Proofs Go.RowKit
set_option linter.unusedSimpArgs false
set_option linter.unusedVariables false
end Go.Aw.T
namespace Go.Aw.T
open Go.Proofs Go.RowKit
set_option linter.unusedSimpArgs false
set_option linter.unusedVariables false
theorem Ghost.exH {nt : Fm} {s : St} {l i j sz : Nat} {es : List (List AV)} {e : List AV} {ps : List (List PV)} (hl : s.H l = some (.row sz es)) (hi : es[i]? = some e) (hj : e[j]? = some (.ex ps)) : Ghost nt s ⟨s.T, upd s.H l (some (.row sz (es.set i (e.set j (.p (.slice ps)))))), s.nx⟩ :=
 Ghost.weakH hl hi hj rfl fun _ _ _ _ h => by
  cases h with
  | ex _ h => exact .p h
end Go.Aw.T
namespace Go.Aw.T
open Go.Proofs
set_option linter.unusedSimpArgs false
set_option linter.unusedVariables false
def yd (S : Sc) (m : Ms) (t : Tr) (i : Nat) (L : List (Nat × AV)) (H : List (Nat × Blk)) (n : Nat) : St :=
 ⟨ofL ((3, .ptr 0 0 0) :: (4, .ptr 1 0 0) :: (6, .ptr 2 0 0) :: (7, .ptr 3 0 0) :: (16, .p (.slice (t.ents.map encEn))) :: (17, .p (.int .i64 (t.ents.length : Int))) :: (18, .p (.int .i64 (i : Int))) :: L),
 ofH ((0, .row 4 [cellsSc S]) :: (1, .row 3 [cellsMs m]) :: (2, .row 5 [[.p (.int .i64 0), .p (.int .i64 0), .p (.str []), .ex [], .ex []]]) :: (3, .row 5 [[.p (.int .i64 3), .p (.int .i64 0), .p (.str []), .own 4, .ex []]]) :: (4, .row 2 (liftE ((prE S m (t.ents.take i)).map encEn))) :: H), n⟩
def yw (es : List (Int × List Tr)) : St := ⟨ofL [(6, .ptr 2 0 0), (7, .ptr 3 0 0)], ofH [(2, .row 5 [[.p (.int .i64 0), .p (.int .i64 0), .p (.str []), .ex [], .ex []]]), (3, .row 5 [[.p (.int .i64 3), .p (.int .i64 0), .p (.str []), .p (.slice (es.map encEn)), .p (.slice [])]])], 4⟩
set_option maxRecDepth 100000 in
set_option maxHeartbeats 8000000 in
theorem project_message (S : Sc) (hS : SizS S) : ∀ (t : Tr) (m : Ms), m.fields.length ≤ 1000000 → lensT t = true → strT t = true → rightT t = true → PFn Tryd.prog 74 [.agg (encSc S), .agg (encMs m), .agg (encTr t)] (.agg (encTr (prM S m t))) := by
 intro t
 induction h : SizeOf.sizeOf t using Nat.strongRecOn generalizing t with
 | _ sz ih =>
 subst h
 intro m hm hlt hst hrt
 obtain ⟨la1, la2, la3⟩ := lensT_mk hlt
 obtain ⟨st1, st2⟩ := strT_mk hst
 have rE := right_ent hrt
 have CF : ∀ k, PFn Tryd.prog 67 [.agg (encMs m), .int .i64 k] (.tuple [.agg (encFd (fldOf m k).1), .bool (fldOf m k).2]) := fun k => check_Field m k hm
 have plen := fun i => prE_len S m (t.ents.take i)
 refine PFn.of Tryd.func74 rfl (by decide) Tryd.ntmps74 Tryd.results74 (Nat.le_of_ble_eq_true rfl) ?_
 simp only [argsT]
 simp only [encMs, encFd] at CF
 refine AW.rT (by rfl) fun K hK => ?_
 simp -implicitDefEqProofs only [go_sem, ↓reduceIte, Nat.reduceAdd, Nat.reduceEqDiff, reduceCtorEq, encTr_eq, encSc, encMs]
 refine hK _ ?_; clear hK K
 refine AW.rT (by rfl) fun K hK => ?_
 simp -implicitDefEqProofs only [go_sem, ↓reduceIte, Nat.reduceAdd, Nat.reduceEqDiff, Nat.reduceLeDiff]
 refine hK _ ?_; clear hK K
 refine AW.seq ?_
 refine AW.rT (by rfl) fun K hK => ?_
 simp -implicitDefEqProofs only [go_sem, ↓reduceIte, Nat.reduceAdd, Nat.reduceEqDiff, List.length_map]
 refine hK _ ?_; clear hK K
 refine AW.block ?_
 refine AW.loop (fun i : Nat => yd S m t i [] [] 5) (fun i => i ≤ t.ents.length) (fun i => t.ents.length - i) 0 ?_ (by simp) fun i hi => ?_
 ·refine Ghost.trans (Ghost.nilH (l := 5) (i := 0) (j := 3) (sz' := 2) rfl rfl rfl) ?_
  simp only [yd, cellsSc, cellsMs, List.take_zero, prE]
  refine Ghost.ent (fun l => if l = 2 then 3 else if l = 3 then 5 else if l = 4 then 11 else l) ?_ ?_ ?_ <;> simp -implicitDefEqProofs only [go_sem, ↓reduceIte, Nat.reduceEqDiff, reduceCtorEq, List.map_nil, liftE_nil, List.set_cons_zero, List.set_cons_succ, List.forall_mem_cons, List.not_mem_nil, false_implies, implies_true, and_self, List.all_cons, List.all_nil, Nat.reduceLT, labsInL, AV.labsIn]
  all_goals first | rfl | skip
 simp only [yd, cellsSc, cellsMs]
 by_cases hil : i < t.ents.length
 case neg =>
  have hc1 : ((i : Int) < (t.ents.length : Int)) = False := eq_false (by omega)
  rw [List.take_of_length_le (by omega)]
  refine AW.rT (by rfl) fun K hK => ?_
  simp -implicitDefEqProofs only [go_sem, ↓reduceIte, Nat.reduceAdd, Nat.reduceEqDiff, hc1]
  refine hK _ ?_; clear hK K
  refine AW.seq ?_
  refine AW.cond _ (by simp -implicitDefEqProofs only [go_sem]; rfl) (fun hc => ?_) (fun hc => ?_)
  ·simp at hc
  refine AW.exit ?_
  simp only [andThen, inBlk, ↓reduceIte]
  refine AW.ghost (s' := yw (prE S m t.ents)) (Ghost.trans (Ghost.freeze (lb := 4) (ps := (prE S m t.ents).map encEn) rfl (unlift_liftE _)) (Ghost.trans (Ghost.exH (l := 3) (i := 0) (j := 4) rfl rfl rfl) ?_)) ?_
  ·simp only [yw]
   refine Ghost.sub ?_ ?_ <;> simp -implicitDefEqProofs only [go_sem, ↓reduceIte, Nat.reduceEqDiff, reduceCtorEq, thaw, thaw1, Option.map_some, List.map_cons, List.map_nil, List.set_cons_zero, List.set_cons_succ, List.forall_mem_cons, List.not_mem_nil, false_implies, implies_true, and_self, List.all_cons, List.all_nil, Nat.reduceLT, labsInL, AV.labsIn]
   done
  have pm : encTr (prM S m t) = [.int .i64 3, .int .i64 0, .str [], .slice ((prE S m t.ents).map encEn), .slice []] := by rw [prM_mk, encTr_eq]; rfl
  simp only [yw]
  refine AW.rT (by rfl) fun K hK => ?_
  simp -implicitDefEqProofs only [go_sem, ↓reduceIte, Nat.reduceAdd, Nat.reduceEqDiff, Nat.reduceLeDiff]
  refine hK _ ?_; clear hK K
  refine AW.ret ?_
  simp -implicitDefEqProofs only [go_sem, ↓reduceIte, Nat.reduceAdd, Nat.reduceEqDiff, Nat.reduceLeDiff, pm]
  done
 obtain ⟨e, he⟩ : ∃ e, t.ents[i]? = some e := ⟨_, List.getElem?_eq_getElem hil⟩
 have ⟨he1, he2, he3⟩ := at_map' encEn he
 have ⟨le1, le2⟩ := lensE_at la3 he
 have hem := List.mem_of_getElem? he
 have ⟨re1, re2⟩ := rE e hem
 have hc1 : ((i : Int) < (t.ents.length : Int)) = True := eq_true (by omega)
 have C1 := CF e.1
 have w1 : IntKind.wrap .i64 ((i : Int) + 1) = ((i + 1 : Nat) : Int) := by rw [w64] <;> omega
 have PT := prE_take (S := S) (m := m) he
 have EP : entP S m e = if (fldOf m e.1).2 = true ∧ (fieldP S (fldOf m e.1).1 e.2).2 = true then [(e.1, (fieldP S (fldOf m e.1).1 e.2).1)] else [] := rfl
 rcases hfo : fldOf m e.1 with ⟨f, b⟩
 rw [hfo] at C1 EP
 simp only at C1 EP
 refine AW.rT (by rfl) fun K hK => ?_
 simp -implicitDefEqProofs only [go_sem, ↓reduceIte, Nat.reduceAdd, Nat.reduceEqDiff, hc1]
 refine hK _ ?_; clear hK K
 refine AW.seq ?_
 refine AW.cond _ (by simp -implicitDefEqProofs only [go_sem]; rfl) (fun hc => ?_) (fun hc => ?_)
 rotate_left
 ·simp at hc
 refine AW.skip ?_
 simp only [andThen]
 refine AW.seq ?_
 refine AW.block ?_
 refine AW.rT (by rfl) fun K hK => ?_
 simp -implicitDefEqProofs only [go_sem, ↓reduceIte, Nat.reduceAdd, Nat.reduceEqDiff, Nat.reduceLeDiff, he1, he3, hc1, encEn, List.length_map]
 refine hK _ ?_; clear hK K
 refine AW.rT (by rfl) fun K hK => ?_
 simp -implicitDefEqProofs only [go_sem, ↓reduceIte, Nat.reduceAdd, Nat.reduceEqDiff, Nat.reduceLeDiff]
 refine ⟨.pure _, C1, ?_⟩
 try simp -implicitDefEqProofs only [go_sem, ↓reduceIte, Nat.reduceAdd, Nat.reduceEqDiff, Nat.reduceLeDiff]
 refine hK _ ?_; clear hK K
 refine AW.seq ?_
 cases b with
 | false =>
  rw [if_neg (by simp)] at EP
  rw [EP, List.append_nil] at PT
  refine AW.rT (by rfl) fun K hK => ?_
  simp -implicitDefEqProofs only [go_sem, Nat.reduceAdd]
  refine hK _ ?_; clear hK K
  refine AW.cond _ (by simp -implicitDefEqProofs only [go_sem]; rfl) (fun hc => ?_) (fun hc => ?_)
  rotate_left
  ·simp at hc
  refine AW.exit ?_
  simp only [andThen, inBlk, ↓reduceIte]
  refine AW.rE (by rfl) fun K hK => ?_
  simp -implicitDefEqProofs only [go_sem, ↓reduceIte, Nat.reduceAdd, Nat.reduceEqDiff, w1]
  refine hK _ ?_; clear hK K
  refine ⟨i + 1, by omega, by omega, ?_⟩
  show Ghost _ _ (yd S m t (i + 1) [] [] 5)
  simp only [yd, cellsSc, cellsMs]
  rw [PT]
  refine Ghost.sub ?_ ?_ <;> simp -implicitDefEqProofs only [go_sem, ↓reduceIte, Nat.reduceEqDiff, reduceCtorEq, List.forall_mem_cons, List.not_mem_nil, false_implies, implies_true, and_self, labsIn_lift, List.all_cons, List.all_nil, Nat.reduceLT, labsInL, AV.labsIn]
  done
 | true =>
 have CP := project_field S hS f e.2 re1 le1 (fun x hx => (strT_mk (st2 e hem x hx)).1) (fun x hx m' hm' => by
  obtain ⟨j, hj⟩ := List.getElem?_of_mem hx
  exact ih _ (size_ent he hj) x rfl m' hm' (lensTs_at le2 hj) (st2 e hem x hx) (re2 x hx))
 simp only [encSc, encFd] at CP
 refine AW.rT (by rfl) fun K hK => ?_
 simp -implicitDefEqProofs only [go_sem, Nat.reduceAdd]
 refine hK _ ?_; clear hK K
 refine AW.cond _ (by simp -implicitDefEqProofs only [go_sem]; rfl) (fun hc => ?_) (fun hc => ?_)
 ·simp at hc
 refine AW.skip ?_
 simp only [andThen]
 rcases hfp : fieldP S f e.2 with ⟨ps, ok⟩
 rw [hfp] at CP EP
 simp only at CP EP
 refine AW.rT (by rfl) fun K hK => ?_
 simp -implicitDefEqProofs only [go_sem, ↓reduceIte, Nat.reduceAdd, Nat.reduceEqDiff, Nat.reduceLeDiff, reduceCtorEq]
 refine ⟨.pure _, CP, ?_⟩
 try simp -implicitDefEqProofs only [go_sem, ↓reduceIte, Nat.reduceAdd, Nat.reduceEqDiff]
 refine hK _ ?_; clear hK K
 refine AW.rT (by rfl) fun K hK => ?_
 simp -implicitDefEqProofs only [go_sem, Nat.reduceAdd]
 refine hK _ ?_; clear hK K
 cases ok with
 | false =>
  rw [if_neg (by simp)] at EP
  rw [EP, List.append_nil] at PT
  refine AW.cond _ (by simp -implicitDefEqProofs only [go_sem]; rfl) (fun hc => ?_) (fun hc => ?_)
  ·simp at hc
  refine AW.skip ?_
  simp only [andThen, inBlk]
  refine AW.rE (by rfl) fun K hK => ?_
  simp -implicitDefEqProofs only [go_sem, ↓reduceIte, Nat.reduceAdd, Nat.reduceEqDiff, w1]
  refine hK _ ?_; clear hK K
  refine ⟨i + 1, by omega, by omega, ?_⟩
  show Ghost _ _ (yd S m t (i + 1) [] [] 5)
  simp only [yd, cellsSc, cellsMs]
  rw [PT]
  refine Ghost.sub ?_ ?_ <;> simp -implicitDefEqProofs only [go_sem, ↓reduceIte, Nat.reduceEqDiff, reduceCtorEq, List.forall_mem_cons, List.not_mem_nil, false_implies, implies_true, and_self, labsIn_lift, List.all_cons, List.all_nil, Nat.reduceLT, labsInL, AV.labsIn]
  done
 | true =>
  rw [if_pos (by simp)] at EP
  rw [EP] at PT
  have pl := plen i
  rw [List.length_take] at pl
  have e8 : liftE ((prE S m (t.ents.take i)).map encEn) ++ [[AV.p (.int .i64 e.1), .p (.slice (ps.map encTr))]] = liftE ((prE S m (t.ents.take (i + 1))).map encEn) := by
   rw [PT]
   simp [liftE, encEn]
  refine AW.cond _ (by simp -implicitDefEqProofs only [go_sem]; rfl) (fun hc => ?_) (fun hc => ?_)
  rotate_left
  ·simp at hc
  refine AW.rE (by rfl) fun K hK => ?_
  simp -implicitDefEqProofs only [go_sem, ↓reduceIte, Nat.reduceAdd, Nat.reduceMul, Nat.reduceEqDiff, Nat.reduceLeDiff, reduceCtorEq]
  refine ⟨⟨by simp, by simp [oneAll, AV.one, PV.one], by simp⟩, by simp [liftE_length]; omega, ?_⟩
  try simp -implicitDefEqProofs only [go_sem, ↓reduceIte, Nat.reduceAdd, Nat.reduceMul, Nat.reduceEqDiff, Nat.reduceLeDiff, reduceCtorEq, Int.reduceToNat]
  refine hK _ ?_; clear hK K
  simp only [andThen, inBlk]
  refine AW.rE (by rfl) fun K hK => ?_
  simp -implicitDefEqProofs only [go_sem, ↓reduceIte, Nat.reduceAdd, Nat.reduceEqDiff, w1]
  refine hK _ ?_; clear hK K
  refine ⟨i + 1, by omega, by omega, ?_⟩
  show Ghost _ _ (yd S m t (i + 1) [] [] 5)
  simp only [yd, cellsSc, cellsMs]
  rw [← e8]
  refine Ghost.ent (fun l => if l = 4 then 40 else l) ?_ ?_ ?_ <;> simp -implicitDefEqProofs only [go_sem, ↓reduceIte, Nat.reduceEqDiff, reduceCtorEq, List.forall_mem_cons, List.not_mem_nil, false_implies, implies_true, and_self, map_renL_lift, labsIn_lift, List.all_append, List.all_cons, List.all_nil, List.map_append, Nat.reduceLT, labsInL, AV.labsIn]
  all_goals first | rfl | skip
set_option maxRecDepth 100000 in
set_option maxHeartbeats 4000000 in
theorem project_Project (S : Sc) (k : List UInt8) (t : Tr) (L : LensS S) (hlt : lensT t = true) (hst : strT t = true) : PFn Tryd.prog 44 [.agg (encSc S), .str k, .agg (encTr t)] (.tuple [.agg (encTr (projP S k t).1), .bool (projP S k t).2]) := by
 have C1 := check_Check S L
 have C2 : PFn Tryd.prog 62 [.agg (encSc S), .str k] (.tuple [.agg (encMs (msOf S k).1), .bool (msOf S k).2]) := check_Message S k L.m
 have C3 := value_Check t hlt
 have C4 := fun h0 : checkC S = 0 => fun hr : rightT t = true => project_message S (siz_right (right_of h0)) t (msOf S k).1 (siz_of (siz_right (right_of h0)) k) hlt hst hr
 have PP : projP S k t = if (msOf S k).2 = false ∨ checkC S ≠ 0 ∨ t.kind ≠ 3 ∨ okT t = false then (zeroTr, false) else (prM S (msOf S k).1 t, true) := rfl
 have zz : encTr zeroTr = [.int .i64 0, .int .i64 0, .str [], .slice [], .slice []] := by rw [encTr_eq]; rfl
 rcases hmo : msOf S k with ⟨m, b⟩
 rw [hmo] at C2 C4 PP
 simp only [encSc, encMs, encTr_eq t] at C1 C2 C3 C4 PP
 refine PFn.of Tryd.func44 rfl (by decide) Tryd.ntmps44 Tryd.results44 (Nat.le_of_ble_eq_true rfl) ?_
 simp only [argsT]
 refine AW.rT (by rfl) fun K hK => ?_
 simp -implicitDefEqProofs only [go_sem, ↓reduceIte, Nat.reduceAdd, Nat.reduceEqDiff, reduceCtorEq, encSc, encTr_eq]
 refine hK _ ?_; clear hK K
 refine AW.rT (by rfl) fun K hK => ?_
 simp -implicitDefEqProofs only [go_sem, ↓reduceIte, Nat.reduceAdd, Nat.reduceEqDiff, Nat.reduceLeDiff, reduceCtorEq]
 refine ⟨.pure _, C2, ?_⟩
 try simp -implicitDefEqProofs only [go_sem, ↓reduceIte, Nat.reduceAdd, Nat.reduceEqDiff, Nat.reduceLeDiff]
 refine hK _ ?_; clear hK K
 refine AW.seq ?_
 cases b with
 | false =>
  have HH : projP S k t = (zeroTr, false) := by rw [PP, if_pos (.inl rfl)]
  refine AW.rT (by rfl) fun K hK => ?_
  simp -implicitDefEqProofs only [go_sem, ↓reduceIte, Nat.reduceAdd, Nat.reduceEqDiff]
  refine hK _ ?_; clear hK K
  refine AW.cond _ (by simp -implicitDefEqProofs only [go_sem]; rfl) (fun hc => ?_) (fun hc => ?_)
  rotate_left
  ·simp at hc
  refine AW.rT (by rfl) fun K hK => ?_
  simp -implicitDefEqProofs only [go_sem, ↓reduceIte, Nat.reduceAdd, Nat.reduceEqDiff, Nat.reduceLeDiff]
  refine hK _ ?_; clear hK K
  rw [HH]
  refine AW.ret ?_
  simp -implicitDefEqProofs only [go_sem, ↓reduceIte, Nat.reduceAdd, Nat.reduceEqDiff, Nat.reduceLeDiff, zz]
  done
 | true =>
 by_cases h0 : checkC S = 0
 case neg =>
  have b0 : (checkC S != 0) = true := by simpa using h0
  have HH : projP S k t = (zeroTr, false) := by rw [PP, if_pos (.inr (.inl h0))]
  refine AW.rT (by rfl) fun K hK => ?_
  simp -implicitDefEqProofs only [go_sem, ↓reduceIte, Nat.reduceAdd, Nat.reduceEqDiff, Nat.reduceLeDiff, reduceCtorEq]
  refine ⟨.pure _, C1, ?_⟩
  try simp -implicitDefEqProofs only [go_sem, ↓reduceIte, Nat.reduceAdd, Nat.reduceEqDiff, b0]
  refine hK _ ?_; clear hK K
  refine AW.cond _ (by simp -implicitDefEqProofs only [go_sem]; rfl) (fun hc => ?_) (fun hc => ?_)
  rotate_left
  ·simp at hc
  refine AW.rT (by rfl) fun K hK => ?_
  simp -implicitDefEqProofs only [go_sem, ↓reduceIte, Nat.reduceAdd, Nat.reduceEqDiff, Nat.reduceLeDiff]
  refine hK _ ?_; clear hK K
  rw [HH]
  refine AW.ret ?_
  simp -implicitDefEqProofs only [go_sem, ↓reduceIte, Nat.reduceAdd, Nat.reduceEqDiff, Nat.reduceLeDiff, zz]
  done
 have b0 : (checkC S != 0) = false := by simp [h0]
 have C4 := C4 h0
 by_cases h3 : t.kind = 3
 case neg =>
  have b3 : (t.kind != 3) = true := by simpa using h3
  have HH : projP S k t = (zeroTr, false) := by rw [PP, if_pos (.inr (.inr (.inl h3)))]
  refine AW.rT (by rfl) fun K hK => ?_
  simp -implicitDefEqProofs only [go_sem, ↓reduceIte, Nat.reduceAdd, Nat.reduceEqDiff, Nat.reduceLeDiff, reduceCtorEq]
  refine ⟨.pure _, C1, ?_⟩
  try simp -implicitDefEqProofs only [go_sem, ↓reduceIte, Nat.reduceAdd, Nat.reduceEqDiff, b0, b3]
  refine hK _ ?_; clear hK K
  refine AW.cond _ (by simp -implicitDefEqProofs only [go_sem]; rfl) (fun hc => ?_) (fun hc => ?_)
  rotate_left
  ·simp at hc
  refine AW.rT (by rfl) fun K hK => ?_
  simp -implicitDefEqProofs only [go_sem, ↓reduceIte, Nat.reduceAdd, Nat.reduceEqDiff, Nat.reduceLeDiff]
  refine hK _ ?_; clear hK K
  rw [HH]
  refine AW.ret ?_
  simp -implicitDefEqProofs only [go_sem, ↓reduceIte, Nat.reduceAdd, Nat.reduceEqDiff, Nat.reduceLeDiff, zz]
  done
 have b3 : (t.kind != 3) = false := by simp [h3]
 cases ho : okT t with
 | false =>
  rw [ho] at C3
  have HH : projP S k t = (zeroTr, false) := by rw [PP, if_pos (.inr (.inr (.inr ho)))]
  refine AW.rT (by rfl) fun K hK => ?_
  simp -implicitDefEqProofs only [go_sem, ↓reduceIte, Nat.reduceAdd, Nat.reduceEqDiff, Nat.reduceLeDiff, reduceCtorEq]
  refine ⟨.pure _, C1, ?_⟩
  try simp -implicitDefEqProofs only [go_sem, ↓reduceIte, Nat.reduceAdd, Nat.reduceEqDiff, Nat.reduceLeDiff, b0, b3]
  refine ⟨.pure _, C3, ?_⟩
  try simp -implicitDefEqProofs only [go_sem, ↓reduceIte, Nat.reduceAdd, Nat.reduceEqDiff]
  refine hK _ ?_; clear hK K
  refine AW.cond _ (by simp -implicitDefEqProofs only [go_sem]; rfl) (fun hc => ?_) (fun hc => ?_)
  rotate_left
  ·simp at hc
  refine AW.rT (by rfl) fun K hK => ?_
  simp -implicitDefEqProofs only [go_sem, ↓reduceIte, Nat.reduceAdd, Nat.reduceEqDiff, Nat.reduceLeDiff]
  refine hK _ ?_; clear hK K
  rw [HH]
  refine AW.ret ?_
  simp -implicitDefEqProofs only [go_sem, ↓reduceIte, Nat.reduceAdd, Nat.reduceEqDiff, Nat.reduceLeDiff, zz]
  done
 | true =>
  rw [ho] at C3
  have HH : projP S k t = (prM S m t, true) := by rw [PP, if_neg (by simp [h0, h3, ho])]
  have C5 := C4 (ok_right ho)
  rw [HH]
  generalize prM S m t = z at C5
  rw [encTr_eq z] at C5 ⊢
  refine AW.rT (by rfl) fun K hK => ?_
  simp -implicitDefEqProofs only [go_sem, ↓reduceIte, Nat.reduceAdd, Nat.reduceEqDiff, Nat.reduceLeDiff, reduceCtorEq]
  refine ⟨.pure _, C1, ?_⟩
  try simp -implicitDefEqProofs only [go_sem, ↓reduceIte, Nat.reduceAdd, Nat.reduceEqDiff, Nat.reduceLeDiff, b0, b3]
  refine ⟨.pure _, C3, ?_⟩
  try simp -implicitDefEqProofs only [go_sem, ↓reduceIte, Nat.reduceAdd, Nat.reduceEqDiff]
  refine hK _ ?_; clear hK K
  refine AW.cond _ (by simp -implicitDefEqProofs only [go_sem]; rfl) (fun hc => ?_) (fun hc => ?_)
  ·simp at hc
  refine AW.skip ?_
  simp only [andThen]
  refine AW.rT (by rfl) fun K hK => ?_
  simp -implicitDefEqProofs only [go_sem, ↓reduceIte, Nat.reduceAdd, Nat.reduceEqDiff, Nat.reduceLeDiff, reduceCtorEq]
  refine ⟨.pure _, C5, ?_⟩
  try simp -implicitDefEqProofs only [go_sem, ↓reduceIte, Nat.reduceAdd, Nat.reduceEqDiff, Nat.reduceLeDiff]
  refine hK _ ?_; clear hK K
  refine AW.ret ?_
  simp -implicitDefEqProofs only [go_sem, ↓reduceIte, Nat.reduceAdd, Nat.reduceEqDiff, Nat.reduceLeDiff]
  done
end Go.Aw.T
namespace Go.Aw.T
open Go.Proofs
set_option linter.unusedSimpArgs false
set_option linter.unusedVariables false
end Go.Aw.T
namespace Go.Aw.T
open Go.Proofs Go.RowKit
set_option linter.unusedSimpArgs false
set_option linter.unusedVariables false
def fz (t : Tr) (b : Nat) : St := ⟨ofL [(3, .ptr 0 0 0), (10, .ptr 2 0 0)], ofH [(0, .row 1 [[.p (.int .i64 (b : Int))]]), (2, .row 5 [cellsT t])], 4⟩
end Go.Aw.T
namespace Go.Aw.T
open Go.Proofs Go.RowKit
set_option linter.unusedSimpArgs false
set_option linter.unusedVariables false
end Go.Aw.T
namespace Go.Aw.T
open Go.Proofs Go.RowKit
set_option linter.unusedSimpArgs false
set_option linter.unusedVariables false
end Go.Aw.T
namespace Go.Aw.T
open Go.Proofs
set_option linter.unusedSimpArgs false
set_option linter.unusedVariables false
theorem dE_bound {b m : Nat} : ∀ {es : List (Int × List Tr)} {d : Nat}, (∀ e ∈ es, ∀ x ∈ e.2, dT x m ≤ b) → d ≤ b → dE es m d ≤ b
 | [], d, _, h => by rw [dE]; exact h
 | (g, l) :: es, d, hl, h => by
  rw [dE]
  exact dE_bound (fun e he => hl e (List.mem_cons_of_mem _ he)) (dTs_bound (hl (g, l) List.mem_cons_self) h)
theorem right_mk {k n : Int} {s : List UInt8} {es : List (Int × List Tr)} {r : List Raw} (hk : k = 3) (hn : n = 0) (hs : s = []) (hr : r = []) (he : rightE es 0 = true) : rightT (.mk k n s es r) = true := by
 subst hk hn hs hr
 rw [rightT, if_neg (by decide), if_neg (by decide), if_pos rfl, he]
 rfl
end Go.Aw.T
namespace Go.Aw.T
open Go.Proofs
set_option linter.unusedSimpArgs false
set_option linter.unusedVariables false
end Go.Aw.T
namespace Go.Aw.T
open Go.Proofs
set_option linter.unusedSimpArgs false
set_option linter.unusedVariables false
end Go.Aw.T
namespace Go.Aw.T
open Go.Proofs
set_option linter.unusedSimpArgs false
set_option linter.unusedVariables false
end Go.Aw.T
namespace Go.Aw.T
open Go.Proofs Go.RowKit
set_option linter.unusedSimpArgs false
set_option linter.unusedVariables false
def lF (k : Int) : Fd := ⟨[120], 5, k, ⟨2, []⟩⟩
def lM (k : Int) : Ms := ⟨[109], [lF k], []⟩
def lS (k : Int) : Sc := ⟨[97], [lM k], [], []⟩
def numT (n : Int) : Tr := .mk 1 n [] [] []
def lT (l : List Int) : Tr := .mk 3 0 [] [(5, l.map numT)] []
theorem l_ok {k : Int} (h1 : 1 ≤ k) (h3 : k ≤ 3) : LensS (lS k) ∧ checkC (lS k) = 0 ∧ msOf (lS k) [109] = (lM k, true) ∧ fldOf (lM k) 5 = (lF k, true) := by
 have : k = 1 ∨ k = 2 ∨ k = 3 := by omega
 rcases this with rfl | rfl | rfl
 ·exact ⟨lens_few (by decide +kernel), by decide +kernel, by rfl, by rfl⟩
 ·exact ⟨lens_few (by decide +kernel), by decide +kernel, by rfl, by rfl⟩
 ·exact ⟨lens_few (by decide +kernel), by decide +kernel, by rfl, by rfl⟩
theorem numT_ok (n : Int) : rightT (numT n) = true ∧ lensT (numT n) = true ∧ strT (numT n) = true ∧ ∀ q, dT (numT n) q = 0 := by
 unfold numT
 exact ⟨by rw [rightT]; rfl, by rw [lensT, lensE]; rfl, by rw [strT, strE]; rfl, fun q => by rw [dT, if_pos (by omega)]⟩
theorem lT_ok {l : List Int} (h1 : 1 ≤ l.length) (h2 : l.length ≤ 64) : okT (lT l) = true ∧ lensT (lT l) = true ∧ strT (lT l) = true := by
 have mem : ∀ x ∈ l.map numT, ∃ n, x = numT n := fun x hx => by
  obtain ⟨n, _, rfl⟩ := List.mem_map.1 hx
  exact ⟨n, rfl⟩
 have hh : headK (l.map numT) = 1 := by
  cases l with
  | nil => simp at h1
  | cons a b => rfl
 refine ⟨?_, ?_, ?_⟩
 ·unfold okT lT
  rw [Bool.and_eq_true, decide_eq_true_eq]
  constructor
  ·rw [dT]
   split
   ·omega
   ·have : dE [(5, l.map numT)] (101 - 1) 0 ≤ 0 := dE_bound (fun e he x hx => by
     simp only [List.mem_singleton] at he
     subst he
     obtain ⟨n, rfl⟩ := mem x hx
     rw [(numT_ok n).2.2.2]; omega) (by omega)
    omega
  ·refine right_mk rfl rfl rfl rfl ?_
   rw [rightE, if_neg (by rw [List.length_map]; omega), hh, if_pos (rightTs_all fun x hx => by obtain ⟨n, rfl⟩ := mem x hx; exact ⟨rfl, (numT_ok n).1⟩), rightE]
 ·unfold lT
  rw [lensT]
  simp only [Bool.and_eq_true, decide_eq_true_eq, List.length_cons, List.length_nil]
  refine ⟨by omega, lensE_iff.2 fun e he => ?_⟩
  simp only [List.mem_singleton] at he
  subst he
  exact ⟨by rw [List.length_map]; omega, lensTs_iff.2 fun x hx => by obtain ⟨n, rfl⟩ := mem x hx; exact (numT_ok n).2.1⟩
 ·unfold lT
  rw [strT]
  simp only [Bool.and_eq_true, decide_eq_true_eq]
  refine ⟨by simp, strE_iff.2 fun e he => ?_⟩
  simp only [List.mem_singleton] at he
  subst he
  exact strTs_iff.2 fun x hx => by obtain ⟨n, rfl⟩ := mem x hx; exact (numT_ok n).2.2.1
theorem l_sees {k : Int} (h1 : 1 ≤ k) (h3 : k ≤ 3) {l : List Int} (hl : 1 ≤ l.length) (hl' : l.length ≤ 64) {n : Int} (hn : l[l.length - 1]? = some n) :
  projP (lS k) [109] (lT l) = (.mk 3 0 [] (if k = 3 then [(5, l.map numT)] else if k = 1 ∧ n = 0 then [] else [(5, [numT n])]) [], true) := by
 obtain ⟨q1, q2, q3, q4⟩ := l_ok h1 h3
 have ho := (lT_ok hl hl').1
 unfold projP
 rw [q3, if_neg (by
  rintro (a | a | a | a)
  ·cases a
  ·exact a q2
  ·exact a rfl
  ·rw [ho] at a; cases a)]
 simp only
 rw [prM_mk]
 have e1 : (lT l).ents = [(5, l.map numT)] := rfl
 rw [e1, prE_cons, prE, List.append_nil]
 have hall : (l.map numT).all (pfit (lF k).ty) = true := List.all_eq_true.2 fun x hx => by
  obtain ⟨n, _, rfl⟩ := List.mem_map.1 hx
  rfl
 have hpr : ∀ r : List Tr, r.map (pr1 (lS k) (lF k)) = r := fun r => by
  conv => rhs; rw [← List.map_id r]
  refine List.map_congr_left fun x _ => ?_
  unfold pr1
  rw [if_neg (by simp [lF]), if_neg (by simp [lF])]
  rfl
 have hfp : fieldP (lS k) (lF k) (l.map numT) = (selL (lF k) (l.map numT), keepL (lF k) (selL (lF k) (l.map numT))) := by unfold fieldP; rw [if_neg (by simp [hall]), hpr]
 have hen : entP (lS k) (lM k) (5, l.map numT) = if keepL (lF k) (selL (lF k) (l.map numT)) = true then [(5, selL (lF k) (l.map numT))] else [] := by
  unfold entP
  simp only
  rw [q4]
  simp only
  rw [hfp]
  by_cases h : keepL (lF k) (selL (lF k) (l.map numT)) = true
  ·simp [h]
  ·simp [h]
 rw [hen]
 by_cases k3 : k = 3
 ·have hs : selL (lF k) (l.map numT) = l.map numT := by unfold selL; rw [if_pos (show (lF k).label = 3 from k3)]
  have hk : keepL (lF k) (l.map numT) = true := by unfold keepL; rw [show ((lF k).label != 1) = true by simp [lF, k3], Bool.true_or]
  rw [hs, hk, if_pos k3, if_pos rfl]
 ·have hs : selL (lF k) (l.map numT) = [numT n] := by
   unfold selL
   rw [if_neg (show ¬ (lF k).label = 3 from k3), ← List.map_drop, List.length_map, List.drop_eq_getElem_cons (by omega : l.length - 1 < l.length), List.drop_of_length_le (by omega)]
   rw [(List.getElem?_eq_some_iff.1 hn).2]
   rfl
  have hz : zeroV (numT n) = decide (n = 0) := by
   unfold zeroV numT
   by_cases h : n = 0
   ·simp [h, Tr.kind, Tr.n, Tr.s, Tr.ents, Tr.rest]
   ·simp [h, Tr.n]
  have hk : keepL (lF k) [numT n] = !(decide (k = 1 ∧ n = 0)) := by
   unfold keepL
   by_cases k1 : k = 1
   ·rw [show ((lF k).label != 1) = false by simp [lF, k1]]
    simp [hz, k1]
   ·rw [show ((lF k).label != 1) = true by simp [lF, k1]]
    simp [k1]
  rw [hs, hk, if_neg k3]
  by_cases hq : k = 1 ∧ n = 0
  ·rw [if_pos hq, decide_eq_true hq, Bool.not_true, if_neg (by decide)]
  ·rw [if_neg hq, decide_eq_false hq, Bool.not_false, if_pos rfl]
def yk (k : Int) (l : List Int) (c : List AV) (H : List (Nat × Blk)) : St := ⟨ofL [(0, .p (.slice (l.map encI))), (5, .p (.int .i64 k)), (6, .ptr 0 0 0)], ofH ((0, .row 4 [c]) :: H), 3⟩
def yz (k : Int) (l : List Int) (L : List (Nat × AV)) (H : List (Nat × Blk)) (n : Nat) : St := ⟨ofL ((0, .p (.slice (l.map encI))) :: (5, .p (.int .i64 k)) :: L), ofH H, n⟩
def numC (n : Int) : List AV := [.p (.int .i64 1), .p (.int .i64 n), .p (.str []), .ex [], .ex []]
theorem unlift_num : ∀ l : List Int, unlift (l.map numC) = some ((l.map numT).map encTr)
 | [] => rfl
 | n :: l => by
  have ih := unlift_num l
  rw [List.map_cons, unlift, ih]
  rfl
theorem numC_labs (l : List Int) (n : Nat) : (l.map numC).all (labsInL n) = true := by
 rw [List.all_eq_true]
 intro x hx
 obtain ⟨m, _, rfl⟩ := List.mem_map.1 hx
 rfl
theorem numC_ren (l : List Int) (ρ : Nat → Nat) : (l.map numC).map (renL ρ) = l.map numC := by
 rw [List.map_map]
 refine List.map_congr_left fun x _ => ?_
 rfl
set_option maxRecDepth 100000 in
set_option maxHeartbeats 8000000 in
theorem law13_ProjectLast (l : List Int) (p : Int) (hp : -9223372036854775808 ≤ p) (hp' : p ≤ 9223372036854775807) : PFn Tryd.prog 13 [.slice (l.map encI), .int .i64 p] (.bool true) := by
 have CK := Go.Aw.law00_Place p 3 (by omega) (by omega) hp hp'
 have hk0 := Int.emod_nonneg p (show (3 : Int) ≠ 0 by omega)
 have hk1 := Int.emod_lt_of_pos p (show (0 : Int) < 3 by omega)
 generalize p % 3 = kk at CK hk0 hk1
 have wk : IntKind.wrap .i64 (1 + kk) = 1 + kk := by rw [w64] <;> omega
 refine PFn.of Tryd.func13 rfl (by decide) Tryd.ntmps13 Tryd.results13 (Nat.le_of_ble_eq_true rfl) ?_
 simp only [argsT]
 refine AW.rT (by rfl) fun K hK => ?_
 simp -implicitDefEqProofs only [go_sem, ↓reduceIte, Nat.reduceAdd, Nat.reduceMul, Nat.reduceEqDiff, Nat.reduceLeDiff, reduceCtorEq, Int.reduceToNat]
 refine hK _ ?_; clear hK K
 refine AW.rT (by rfl) fun K hK => ?_
 simp -implicitDefEqProofs only [go_sem, ↓reduceIte, Nat.reduceAdd, Nat.reduceMul, Nat.reduceEqDiff, Nat.reduceLeDiff, reduceCtorEq, Int.reduceToNat]
 refine ⟨.pure _, CK, ?_⟩
 try simp -implicitDefEqProofs only [go_sem, ↓reduceIte, Nat.reduceAdd, Nat.reduceMul, Nat.reduceEqDiff, Nat.reduceLeDiff, reduceCtorEq, Int.reduceToNat, wk]
 refine hK _ ?_; clear hK K
 generalize hkk : 1 + kk = k
 have h1 : 1 ≤ k := by omega
 have h3 : k ≤ 3 := by omega
 refine AW.rT (by rfl) fun K hK => ?_
 simp -implicitDefEqProofs only [go_sem, ↓reduceIte, Nat.reduceAdd, Nat.reduceMul, Nat.reduceEqDiff, Nat.reduceLeDiff, reduceCtorEq, Int.reduceToNat]
 refine hK _ ?_; clear hK K
 refine AW.ghost (s' := yk k l [.p (.str [97]), .own 1, .ex [], .ex []] [(1, .row 3 [[.p (.str [109]), .own 2, .ex []]]), (2, .row 5 (liftE ([lF k].map encFd)))]) ?_ ?_
 ·simp only [yk]
  refine Ghost.ent (fun l => if l = 0 then 12 else if l = 1 then 10 else 8) ?_ ?_ ?_ <;> simp -implicitDefEqProofs only [go_sem, ↓reduceIte, Nat.reduceAdd, Nat.reduceMul, Nat.reduceEqDiff, Nat.reduceLeDiff, reduceCtorEq, Int.reduceToNat, lF, encFd, liftE_cons, liftE_nil, List.map_cons, List.map_nil, List.forall_mem_cons, List.not_mem_nil, false_implies, implies_true, and_self, map_renL_lift, labsIn_lift, List.all_append, List.all_cons, List.all_nil, List.map_append, Nat.reduceLT, labsInL, AV.labsIn]
  all_goals first | rfl | decide | skip
 refine AW.ghost (s' := yk k l [.p (.str [97]), .own 1, .ex [], .ex []] [(1, .row 3 [[.p (.str [109]), .p (.slice ([lF k].map encFd)), .ex []]])]) (Ghost.trans (Ghost.freeze (lb := 2) (ps := [lF k].map encFd) rfl (unlift_liftE _)) ?_) ?_
 ·simp only [yk]
  refine Ghost.sub ?_ ?_ <;> simp -implicitDefEqProofs only [go_sem, ↓reduceIte, Nat.reduceAdd, Nat.reduceMul, Nat.reduceEqDiff, Nat.reduceLeDiff, reduceCtorEq, Int.reduceToNat, thaw, thaw1, Option.map_some, List.map_cons, List.map_nil, List.forall_mem_cons, List.not_mem_nil, false_implies, implies_true, and_self, labsIn_lift, List.all_append, List.all_cons, List.all_nil, Nat.reduceLT, labsInL, AV.labsIn]
  all_goals first | rfl | decide | skip
 refine AW.ghost (s' := yk k l [.p (.str [97]), .p (.slice [encMs (lM k)]), .p (.slice []), .p (.slice [])] []) (Ghost.trans (Ghost.freeze (lb := 1) (ps := [encMs (lM k)]) rfl (by rfl)) (Ghost.trans (Ghost.exH (l := 0) (i := 0) (j := 2) rfl rfl rfl) (Ghost.trans (Ghost.exH (l := 0) (i := 0) (j := 3) rfl rfl rfl) ?_))) ?_
 ·simp only [yk]
  refine Ghost.sub ?_ ?_ <;> simp -implicitDefEqProofs only [go_sem, ↓reduceIte, Nat.reduceAdd, Nat.reduceMul, Nat.reduceEqDiff, Nat.reduceLeDiff, reduceCtorEq, Int.reduceToNat, thaw, thaw1, Option.map_some, List.map_cons, List.map_nil, List.set_cons_zero, List.set_cons_succ, List.forall_mem_cons, List.not_mem_nil, false_implies, implies_true, and_self, labsIn_lift, List.all_append, List.all_cons, List.all_nil, Nat.reduceLT, labsInL, AV.labsIn]
  all_goals first | rfl | decide | skip
 have SC : encSc (lS k) = [.str [97], .slice [encMs (lM k)], .slice [], .slice []] := rfl
 obtain ⟨o1, o2, o3, o4⟩ := l_ok h1 h3
 generalize hms : encMs (lM k) = ms at SC
 simp only [yk]
 refine AW.seq ?_
 by_cases l1 : l.length < 1
 ·have b1 : ((l.length : Int) < 1) = True := eq_true (by omega)
  refine AW.rT (by rfl) fun K hK => ?_
  simp -implicitDefEqProofs only [go_sem, ↓reduceIte, Nat.reduceAdd, Nat.reduceMul, Nat.reduceEqDiff, Nat.reduceLeDiff, reduceCtorEq, Int.reduceToNat, b1, List.length_map]
  refine hK _ ?_; clear hK K
  refine AW.cond _ (by simp -implicitDefEqProofs only [go_sem, ↓reduceIte, Nat.reduceAdd, Nat.reduceMul, Nat.reduceEqDiff, Nat.reduceLeDiff, reduceCtorEq, Int.reduceToNat]; rfl) (fun hc => ?_) (fun hc => ?_)
  rotate_left
  ·simp at hc
  refine AW.rT (by rfl) fun K hK => ?_
  simp -implicitDefEqProofs only [go_sem, ↓reduceIte, Nat.reduceAdd, Nat.reduceMul, Nat.reduceEqDiff, Nat.reduceLeDiff, reduceCtorEq, Int.reduceToNat]
  refine ⟨.pure _, law13_awake, ?_⟩
  try simp -implicitDefEqProofs only [go_sem, ↓reduceIte, Nat.reduceAdd, Nat.reduceMul, Nat.reduceEqDiff, Nat.reduceLeDiff, reduceCtorEq, Int.reduceToNat]
  refine hK _ ?_; clear hK K
  refine AW.ret ?_
  simp -implicitDefEqProofs only [go_sem, ↓reduceIte, Nat.reduceAdd, Nat.reduceMul, Nat.reduceEqDiff, Nat.reduceLeDiff, reduceCtorEq, Int.reduceToNat]
 have b1 : ((l.length : Int) < 1) = False := eq_false (by omega)
 by_cases l2 : l.length > 64
 ·have b2 : ((l.length : Int) > 64) = True := eq_true (by omega)
  refine AW.rT (by rfl) fun K hK => ?_
  simp -implicitDefEqProofs only [go_sem, ↓reduceIte, Nat.reduceAdd, Nat.reduceMul, Nat.reduceEqDiff, Nat.reduceLeDiff, reduceCtorEq, Int.reduceToNat, b1, b2, List.length_map]
  refine hK _ ?_; clear hK K
  refine AW.cond _ (by simp -implicitDefEqProofs only [go_sem, ↓reduceIte, Nat.reduceAdd, Nat.reduceMul, Nat.reduceEqDiff, Nat.reduceLeDiff, reduceCtorEq, Int.reduceToNat]; rfl) (fun hc => ?_) (fun hc => ?_)
  rotate_left
  ·simp at hc
  refine AW.rT (by rfl) fun K hK => ?_
  simp -implicitDefEqProofs only [go_sem, ↓reduceIte, Nat.reduceAdd, Nat.reduceMul, Nat.reduceEqDiff, Nat.reduceLeDiff, reduceCtorEq, Int.reduceToNat]
  refine ⟨.pure _, law13_awake, ?_⟩
  try simp -implicitDefEqProofs only [go_sem, ↓reduceIte, Nat.reduceAdd, Nat.reduceMul, Nat.reduceEqDiff, Nat.reduceLeDiff, reduceCtorEq, Int.reduceToNat]
  refine hK _ ?_; clear hK K
  refine AW.ret ?_
  simp -implicitDefEqProofs only [go_sem, ↓reduceIte, Nat.reduceAdd, Nat.reduceMul, Nat.reduceEqDiff, Nat.reduceLeDiff, reduceCtorEq, Int.reduceToNat]
 have b2 : ((l.length : Int) > 64) = False := eq_false (by omega)
 refine AW.rT (by rfl) fun K hK => ?_
 simp -implicitDefEqProofs only [go_sem, ↓reduceIte, Nat.reduceAdd, Nat.reduceMul, Nat.reduceEqDiff, Nat.reduceLeDiff, reduceCtorEq, Int.reduceToNat, b1, b2, List.length_map]
 refine hK _ ?_; clear hK K
 refine AW.cond _ (by simp -implicitDefEqProofs only [go_sem, ↓reduceIte, Nat.reduceAdd, Nat.reduceMul, Nat.reduceEqDiff, Nat.reduceLeDiff, reduceCtorEq, Int.reduceToNat]; rfl) (fun hc => ?_) (fun hc => ?_)
 ·simp at hc
 refine AW.skip ?_
 simp only [andThen, inBlk, reduceCtorEq, ↓reduceIte, if_t, if_f]
 refine AW.rT (by rfl) fun K hK => ?_
 simp -implicitDefEqProofs only [go_sem, ↓reduceIte, Nat.reduceAdd, Nat.reduceMul, Nat.reduceEqDiff, Nat.reduceLeDiff, reduceCtorEq, Int.reduceToNat]
 refine hK _ ?_; clear hK K
 refine AW.seq ?_
 refine AW.rT (by rfl) fun K hK => ?_
 simp -implicitDefEqProofs only [go_sem, ↓reduceIte, Nat.reduceAdd, Nat.reduceMul, Nat.reduceEqDiff, Nat.reduceLeDiff, reduceCtorEq, Int.reduceToNat]
 refine hK _ ?_; clear hK K
 refine AW.block ?_
 refine AW.loop (fun i : Nat => yz k l [(6, .ptr 0 0 0), (7, .ptr 1 0 0), (8, .p (.int .i64 (i : Int)))] [(0, .row 4 [[.p (.str [97]), .p (.slice [ms]), .p (.slice []), .p (.slice [])]]), (1, .row 2 [[.p (.int .i64 5), .own 2]]), (2, .row 5 ((l.take i).map numC))] 3) (fun i => i ≤ l.length) (fun i => l.length - i) 0 ?_ (by simp) fun i hi => ?_
 ·refine Ghost.trans (Ghost.nilH (l := 12) (i := 0) (j := 1) (sz' := 5) rfl rfl rfl) ?_
  simp only [yz, List.take_zero, List.map_nil]
  refine Ghost.ent (fun l => if l = 1 then 12 else if l = 2 then 15 else l) ?_ ?_ ?_ <;> simp -implicitDefEqProofs only [go_sem, ↓reduceIte, Nat.reduceAdd, Nat.reduceMul, Nat.reduceEqDiff, Nat.reduceLeDiff, reduceCtorEq, Int.reduceToNat, List.set_cons_zero, List.set_cons_succ, List.forall_mem_cons, List.not_mem_nil, false_implies, implies_true, and_self, map_renL_lift, labsIn_lift, List.all_append, List.all_cons, List.all_nil, List.map_append, Nat.reduceLT, labsInL, AV.labsIn]
  all_goals first | rfl | skip
 have w1 : IntKind.wrap .i64 ((i : Int) + 1) = ((i + 1 : Nat) : Int) := by rw [w64] <;> omega
 simp only [yz]
 refine AW.seq ?_
 by_cases hil : i < l.length
 ·obtain ⟨x, hx⟩ : ∃ x, l[i]? = some x := ⟨_, List.getElem?_eq_getElem hil⟩
  have ⟨hx1, hx2, hx3⟩ := at_map' encI hx
  have hc1 : ((i : Int) < (l.length : Int)) = True := eq_true (by omega)
  have e7 : (l.take i).map numC ++ [[AV.p (.int .i64 1), .p (.int .i64 x), .p (.str []), .ex [], .ex []]] = (l.take (i + 1)).map numC := by
   rw [List.take_add_one, hx]
   simp [numC]
  have rl : ((l.take i).map numC).length ≤ 64 := by simp; omega
  refine AW.rT (by rfl) fun K hK => ?_
  simp -implicitDefEqProofs only [go_sem, ↓reduceIte, Nat.reduceAdd, Nat.reduceMul, Nat.reduceEqDiff, Nat.reduceLeDiff, reduceCtorEq, Int.reduceToNat, hc1, List.length_map]
  refine hK _ ?_; clear hK K
  refine AW.cond _ (by simp -implicitDefEqProofs only [go_sem, ↓reduceIte, Nat.reduceAdd, Nat.reduceMul, Nat.reduceEqDiff, Nat.reduceLeDiff, reduceCtorEq, Int.reduceToNat]; rfl) (fun hc => ?_) (fun hc => ?_)
  rotate_left
  ·simp at hc
  refine AW.skip ?_
  simp only [andThen, inBlk, reduceCtorEq, ↓reduceIte, if_t, if_f]
  refine AW.seq ?_
  refine AW.block ?_
  refine AW.dE mixed (by rfl) (by decide +kernel) fun K hK => ?_
  simp -implicitDefEqProofs only [go_sem, ↓reduceIte, Nat.reduceAdd, Nat.reduceMul, Nat.reduceEqDiff, Nat.reduceLeDiff, reduceCtorEq, Int.reduceToNat, hx1, hx2, hx3, hc1, encI, List.length_map]
  refine ⟨⟨by simp, by simp [oneAll, AV.one, PV.one], by simp⟩, by simp at rl ⊢; omega, ?_⟩
  try simp -implicitDefEqProofs only [go_sem, ↓reduceIte, Nat.reduceAdd, Nat.reduceMul, Nat.reduceEqDiff, Nat.reduceLeDiff, reduceCtorEq, Int.reduceToNat]
  refine ⟨by decide +kernel, ?_⟩
  refine hK _ ?_; clear hK K
  simp only [andThen, inBlk, reduceCtorEq, ↓reduceIte, if_t, if_f]
  refine AW.rE (by rfl) fun K hK => ?_
  simp -implicitDefEqProofs only [go_sem, ↓reduceIte, Nat.reduceAdd, Nat.reduceMul, Nat.reduceEqDiff, Nat.reduceLeDiff, reduceCtorEq, Int.reduceToNat, w1]
  refine hK _ ?_; clear hK K
  simp only [andThen, inBlk, reduceCtorEq, ↓reduceIte, if_t, if_f]
  refine ⟨i + 1, by omega, by omega, ?_⟩
  rw [← e7]
  refine Ghost.ent (fun l => if l = 2 then 15 else l) ?_ ?_ ?_ <;> simp -implicitDefEqProofs only [go_sem, ↓reduceIte, Nat.reduceAdd, Nat.reduceMul, Nat.reduceEqDiff, Nat.reduceLeDiff, reduceCtorEq, Int.reduceToNat, List.set_cons_zero, List.set_cons_succ, numC_ren, numC_labs, renL, AV.ren, List.forall_mem_cons, List.not_mem_nil, false_implies, implies_true, and_self, map_renL_lift, labsIn_lift, List.all_append, List.all_cons, List.all_nil, List.map_append, Nat.reduceLT, labsInL, AV.labsIn]
  all_goals first | rfl | skip
 have hc1 : ((i : Int) < (l.length : Int)) = False := eq_false (by omega)
 rw [List.take_of_length_le (by omega)]
 refine AW.rT (by rfl) fun K hK => ?_
 simp -implicitDefEqProofs only [go_sem, ↓reduceIte, Nat.reduceAdd, Nat.reduceMul, Nat.reduceEqDiff, Nat.reduceLeDiff, reduceCtorEq, Int.reduceToNat, hc1, List.length_map]
 refine hK _ ?_; clear hK K
 refine AW.cond _ (by simp -implicitDefEqProofs only [go_sem, ↓reduceIte, Nat.reduceAdd, Nat.reduceMul, Nat.reduceEqDiff, Nat.reduceLeDiff, reduceCtorEq, Int.reduceToNat]; rfl) (fun hc => ?_) (fun hc => ?_)
 ·simp at hc
 refine AW.exit ?_
 simp only [andThen, inBlk, reduceCtorEq, ↓reduceIte, if_t, if_f]
 obtain ⟨t1, t2, t3⟩ := lT_ok (l := l) (by omega) (by omega)
 obtain ⟨n, hn⟩ : ∃ n, l[l.length - 1]? = some n := ⟨_, List.getElem?_eq_getElem (by omega)⟩
 have ls := l_sees h1 h3 (by omega) (by omega) hn
 have CP := project_Project (lS k) [109] (lT l) o1 t2 t3
 generalize hes : (if k = 3 then [((5 : Int), l.map numT)] else if k = 1 ∧ n = 0 then [] else [(5, [numT n])]) = es at ls
 rw [ls] at CP
 simp only at CP
 have cz : encTr (.mk 3 0 [] es []) = [.int .i64 3, .int .i64 0, .str [], .slice (es.map encEn), .slice []] := by rw [encTr_eq]; rfl
 rw [cz] at CP
 have ct : encTr (lT l) = [.int .i64 3, .int .i64 0, .str [], .slice [[.int .i64 5, .slice ((l.map numT).map encTr)]], .slice []] := by rw [encTr_eq]; rfl
 rw [ct, SC] at CP
 have un := unlift_num l
 have ql : ((l.map numT).map encTr).length = l.length := by simp
 generalize hQ : (l.map numT).map encTr = Qs at CP un ql
 refine AW.ghost (s' := yz k l [(6, .ptr 0 0 0), (7, .ptr 1 0 0)] [(0, .row 4 [[.p (.str [97]), .p (.slice [ms]), .p (.slice []), .p (.slice [])]]), (1, .row 2 [[.p (.int .i64 5), .p (.slice Qs)]])] 2) (Ghost.trans (Ghost.freeze (lb := 2) (ps := Qs) rfl un) ?_) ?_
 ·simp only [yz]
  refine Ghost.sub ?_ ?_ <;> simp -implicitDefEqProofs only [go_sem, ↓reduceIte, Nat.reduceAdd, Nat.reduceMul, Nat.reduceEqDiff, Nat.reduceLeDiff, reduceCtorEq, Int.reduceToNat, thaw, thaw1, Option.map_some, List.map_cons, List.map_nil, List.forall_mem_cons, List.not_mem_nil, false_implies, implies_true, and_self, labsIn_lift, List.all_append, List.all_cons, List.all_nil, Nat.reduceLT, labsInL, AV.labsIn]
  done
 simp only [yz]
 refine AW.rR (SeqR.ev 4 (by rfl) (by decide) ?_)
 simp -implicitDefEqProofs only [go_sem, ↓reduceIte, Nat.reduceAdd, Nat.reduceMul, Nat.reduceEqDiff, Nat.reduceLeDiff, reduceCtorEq, Int.reduceToNat]
 refine SeqR.ghost (s' := yz k l [(6, .ptr 0 0 0), (49, .p (.agg [.str [97], .slice [ms], .slice [], .slice []])), (52, .agg [.p (.int .i64 3), .p (.int .i64 0), .p (.str []), .own 1, .ex []])] [(0, .row 4 [[.p (.str [97]), .p (.slice [ms]), .p (.slice []), .p (.slice [])]]), (1, .row 2 [[.p (.int .i64 5), .p (.slice Qs)]])] 2) ?_ ?_
 ·simp only [yz]
  refine Ghost.ent (fun l => if l = 1 then 4 else l) ?_ ?_ ?_ <;> simp -implicitDefEqProofs only [go_sem, ↓reduceIte, Nat.reduceAdd, Nat.reduceMul, Nat.reduceEqDiff, Nat.reduceLeDiff, reduceCtorEq, Int.reduceToNat,  List.forall_mem_cons, List.not_mem_nil, false_implies, implies_true, and_self, map_renL_lift, labsIn_lift, List.all_append, List.all_cons, List.all_nil, List.map_append, Nat.reduceLT, labsInL, AV.labsIn]
  all_goals first | rfl | skip
 refine SeqR.ghost (s' := yz k l [(6, .ptr 0 0 0), (49, .p (.agg [.str [97], .slice [ms], .slice [], .slice []])), (52, .agg [.p (.int .i64 3), .p (.int .i64 0), .p (.str []), .p (.slice [[.int .i64 5, .slice Qs]]), .ex []])] [(0, .row 4 [[.p (.str [97]), .p (.slice [ms]), .p (.slice []), .p (.slice [])]])] 2) (Ghost.trans (Ghost.freeze (lb := 1) (ps := [[.int .i64 5, .slice Qs]]) rfl (by rfl)) ?_) ?_
 ·simp only [yz]
  refine Ghost.sub ?_ ?_ <;> simp -implicitDefEqProofs only [go_sem, ↓reduceIte, Nat.reduceAdd, Nat.reduceMul, Nat.reduceEqDiff, Nat.reduceLeDiff, reduceCtorEq, Int.reduceToNat, thaw, thaw1, Option.map_some, List.map_cons, List.map_nil, mkAgg, allP, List.forall_mem_cons, List.not_mem_nil, false_implies, implies_true, and_self, labsIn_lift, List.all_append, List.all_cons, List.all_nil, Nat.reduceLT, labsInL, AV.labsIn]
  all_goals first | rfl | skip
 simp only [yz]
 refine SeqR.ev 7 (by rfl) (by decide) ?_
 simp -implicitDefEqProofs only [go_sem, ↓reduceIte, Nat.reduceAdd, Nat.reduceMul, Nat.reduceEqDiff, Nat.reduceLeDiff, reduceCtorEq, Int.reduceToNat]
 refine ⟨.pure _, CP, ?_⟩
 try simp -implicitDefEqProofs only [go_sem, ↓reduceIte, Nat.reduceAdd, Nat.reduceMul, Nat.reduceEqDiff, Nat.reduceLeDiff, reduceCtorEq, Int.reduceToNat]
 refine SeqR.last rfl ?_
 generalize hE : es.map encEn = Es
 refine AW.ghost (s' := yz k l [(9, .ptr 0 0 0), (10, .p (.bool true))] [(0, .row 5 [[.p (.int .i64 3), .p (.int .i64 0), .p (.str []), .p (.slice Es), .p (.slice [])]])] 1) ?_ ?_
 ·simp only [yz]
  refine Ghost.ent (fun _ => 6) ?_ ?_ ?_ <;> simp -implicitDefEqProofs only [go_sem, ↓reduceIte, Nat.reduceAdd, Nat.reduceMul, Nat.reduceEqDiff, Nat.reduceLeDiff, reduceCtorEq, Int.reduceToNat,  List.forall_mem_cons, List.not_mem_nil, false_implies, implies_true, and_self, map_renL_lift, labsIn_lift, List.all_append, List.all_cons, List.all_nil, List.map_append, Nat.reduceLT, labsInL, AV.labsIn]
  all_goals first | rfl | skip
 simp only [yz]
 have w2 : IntKind.wrap .i64 ((l.length : Int) - 1) = ((l.length - 1 : Nat) : Int) := by rw [w64] <;> omega
 have ⟨hx1, hx2, hx3⟩ := at_map' encI hn
 have hx2' : ((l.length - 1 : Nat) : Int) < (l.length : Int) := by omega
 refine AW.rT (by rfl) fun K hK => ?_
 simp -implicitDefEqProofs only [go_sem, ↓reduceIte, Nat.reduceAdd, Nat.reduceMul, Nat.reduceEqDiff, Nat.reduceLeDiff, reduceCtorEq, Int.reduceToNat, w2, hx1, hx2', hx3, List.length_map, encI]
 refine hK _ ?_; clear hK K
 refine AW.seq ?_
 refine AW.block ?_
 refine AW.rT (by rfl) fun K hK => ?_
 simp -implicitDefEqProofs only [go_sem, ↓reduceIte, Nat.reduceAdd, Nat.reduceMul, Nat.reduceEqDiff, Nat.reduceLeDiff, reduceCtorEq, Int.reduceToNat]
 refine hK _ ?_; clear hK K
 refine AW.cond _ (by simp -implicitDefEqProofs only [go_sem, ↓reduceIte, Nat.reduceAdd, Nat.reduceMul, Nat.reduceEqDiff, Nat.reduceLeDiff, reduceCtorEq, Int.reduceToNat]; rfl) (fun hc => ?_) (fun hc => ?_)
 ·simp at hc
 have z1 : ((0 : Int) ≤ 0) = True := eq_true (by omega)
 have z2 : ((0 : Int) < 1) = True := eq_true (by omega)
 by_cases k3 : k = 3
 ·have bk : (k == 3) = true := by simp [k3]
  have hEs : Es = [[.int .i64 5, .slice Qs]] := by rw [← hE, ← hes, if_pos k3, ← hQ]; rfl
  have e1 : (Es.length : Int) = 1 := by rw [hEs]; rfl
  have e2 : Es.getD 0 [] = [.int .i64 5, .slice Qs] := by rw [hEs]; rfl
  have bl : ((l.length : Int) == (l.length : Int)) = true := by simp
  refine AW.rT (by rfl) fun K hK => ?_
  simp -implicitDefEqProofs only [go_sem, ↓reduceIte, Nat.reduceAdd, Nat.reduceMul, Nat.reduceEqDiff, Nat.reduceLeDiff, reduceCtorEq, Int.reduceToNat, bk]
  refine hK _ ?_; clear hK K
  refine AW.cond _ (by simp -implicitDefEqProofs only [go_sem, ↓reduceIte, Nat.reduceAdd, Nat.reduceMul, Nat.reduceEqDiff, Nat.reduceLeDiff, reduceCtorEq, Int.reduceToNat]; rfl) (fun hc => ?_) (fun hc => ?_)
  rotate_left
  ·simp at hc
  refine AW.rT (by rfl) fun K hK => ?_
  simp -implicitDefEqProofs only [go_sem, ↓reduceIte, Nat.reduceAdd, Nat.reduceMul, Nat.reduceEqDiff, Nat.reduceLeDiff, reduceCtorEq, Int.reduceToNat, e1, e2, ql, bl, z1, z2, List.length_map]
  refine ⟨.pure _, law13_awake, ?_⟩
  try simp -implicitDefEqProofs only [go_sem, ↓reduceIte, Nat.reduceAdd, Nat.reduceMul, Nat.reduceEqDiff, Nat.reduceLeDiff, reduceCtorEq, Int.reduceToNat]
  refine hK _ ?_; clear hK K
  refine AW.ret ?_
  simp -implicitDefEqProofs only [go_sem, ↓reduceIte, Nat.reduceAdd, Nat.reduceMul, Nat.reduceEqDiff, Nat.reduceLeDiff, reduceCtorEq, Int.reduceToNat]
 have bk : (k == 3) = false := by simp [k3]
 refine AW.rT (by rfl) fun K hK => ?_
 simp -implicitDefEqProofs only [go_sem, ↓reduceIte, Nat.reduceAdd, Nat.reduceMul, Nat.reduceEqDiff, Nat.reduceLeDiff, reduceCtorEq, Int.reduceToNat, bk]
 refine hK _ ?_; clear hK K
 refine AW.cond _ (by simp -implicitDefEqProofs only [go_sem, ↓reduceIte, Nat.reduceAdd, Nat.reduceMul, Nat.reduceEqDiff, Nat.reduceLeDiff, reduceCtorEq, Int.reduceToNat]; rfl) (fun hc => ?_) (fun hc => ?_)
 ·simp at hc
 by_cases q : k = 1 ∧ n = 0
 ·have b1 : (k == 1) = true := by simp [q.1]
  have b2 : (n == 0) = true := by simp [q.2]
  have hEs : Es = [] := by rw [← hE, ← hes, if_neg k3, if_pos q]; rfl
  have e1 : (Es.length : Int) = 0 := by rw [hEs]; rfl
  refine AW.rT (by rfl) fun K hK => ?_
  simp -implicitDefEqProofs only [go_sem, ↓reduceIte, Nat.reduceAdd, Nat.reduceMul, Nat.reduceEqDiff, Nat.reduceLeDiff, reduceCtorEq, Int.reduceToNat, b1, b2]
  refine hK _ ?_; clear hK K
  refine AW.cond _ (by simp -implicitDefEqProofs only [go_sem, ↓reduceIte, Nat.reduceAdd, Nat.reduceMul, Nat.reduceEqDiff, Nat.reduceLeDiff, reduceCtorEq, Int.reduceToNat]; rfl) (fun hc => ?_) (fun hc => ?_)
  rotate_left
  ·simp at hc
  refine AW.rT (by rfl) fun K hK => ?_
  simp -implicitDefEqProofs only [go_sem, ↓reduceIte, Nat.reduceAdd, Nat.reduceMul, Nat.reduceEqDiff, Nat.reduceLeDiff, reduceCtorEq, Int.reduceToNat, e1]
  refine ⟨.pure _, law13_awake, ?_⟩
  try simp -implicitDefEqProofs only [go_sem, ↓reduceIte, Nat.reduceAdd, Nat.reduceMul, Nat.reduceEqDiff, Nat.reduceLeDiff, reduceCtorEq, Int.reduceToNat]
  refine hK _ ?_; clear hK K
  refine AW.ret ?_
  simp -implicitDefEqProofs only [go_sem, ↓reduceIte, Nat.reduceAdd, Nat.reduceMul, Nat.reduceEqDiff, Nat.reduceLeDiff, reduceCtorEq, Int.reduceToNat]
 have hEs : Es = [[.int .i64 5, .slice [encTr (numT n)]]] := by rw [← hE, ← hes, if_neg k3, if_neg q]; rfl
 have cn : encTr (numT n) = [.int .i64 1, .int .i64 n, .str [], .slice [], .slice []] := by rw [numT, encTr_eq]; rfl
 rw [cn] at hEs
 have e1 : (Es.length : Int) = 1 := by rw [hEs]; rfl
 have e2 : Es.getD 0 [] = [.int .i64 5, .slice [[.int .i64 1, .int .i64 n, .str [], .slice [], .slice []]]] := by rw [hEs]; rfl
 generalize hN : [[PV.int .i64 1, .int .i64 n, .str [], .slice [], .slice []]] = N at e2
 have e3 : (N.length : Int) = 1 := by rw [← hN]; rfl
 have e4 : N.getD 0 [] = [PV.int .i64 1, .int .i64 n, .str [], .slice [], .slice []] := by rw [← hN]; rfl
 have bn : (n == n) = true := by simp
 by_cases k1 : k = 1
 ·have b1 : (k == 1) = true := by simp [k1]
  have b2 : (n == 0) = false := by simp; exact fun h => q ⟨k1, h⟩
  refine AW.rT (by rfl) fun K hK => ?_
  simp -implicitDefEqProofs only [go_sem, ↓reduceIte, Nat.reduceAdd, Nat.reduceMul, Nat.reduceEqDiff, Nat.reduceLeDiff, reduceCtorEq, Int.reduceToNat, b1, b2]
  refine hK _ ?_; clear hK K
  refine AW.cond _ (by simp -implicitDefEqProofs only [go_sem, ↓reduceIte, Nat.reduceAdd, Nat.reduceMul, Nat.reduceEqDiff, Nat.reduceLeDiff, reduceCtorEq, Int.reduceToNat]; rfl) (fun hc => ?_) (fun hc => ?_)
  ·simp at hc
  refine AW.skip ?_
  simp only [andThen, inBlk, reduceCtorEq, ↓reduceIte, if_t, if_f]
  refine AW.rT (by rfl) fun K hK => ?_
  simp -implicitDefEqProofs only [go_sem, ↓reduceIte, Nat.reduceAdd, Nat.reduceMul, Nat.reduceEqDiff, Nat.reduceLeDiff, reduceCtorEq, Int.reduceToNat, e1, e2, e3, e4, z1, z2, bn]
  refine ⟨.pure _, law13_awake, ?_⟩
  try simp -implicitDefEqProofs only [go_sem, ↓reduceIte, Nat.reduceAdd, Nat.reduceMul, Nat.reduceEqDiff, Nat.reduceLeDiff, reduceCtorEq, Int.reduceToNat]
  refine hK _ ?_; clear hK K
  refine AW.ret ?_
  simp -implicitDefEqProofs only [go_sem, ↓reduceIte, Nat.reduceAdd, Nat.reduceMul, Nat.reduceEqDiff, Nat.reduceLeDiff, reduceCtorEq, Int.reduceToNat]
 have b1 : (k == 1) = false := by simp [k1]
 refine AW.rT (by rfl) fun K hK => ?_
 simp -implicitDefEqProofs only [go_sem, ↓reduceIte, Nat.reduceAdd, Nat.reduceMul, Nat.reduceEqDiff, Nat.reduceLeDiff, reduceCtorEq, Int.reduceToNat, b1]
 refine hK _ ?_; clear hK K
 refine AW.cond _ (by simp -implicitDefEqProofs only [go_sem, ↓reduceIte, Nat.reduceAdd, Nat.reduceMul, Nat.reduceEqDiff, Nat.reduceLeDiff, reduceCtorEq, Int.reduceToNat]; rfl) (fun hc => ?_) (fun hc => ?_)
 ·simp at hc
 refine AW.skip ?_
 simp only [andThen, inBlk, reduceCtorEq, ↓reduceIte, if_t, if_f]
 refine AW.rT (by rfl) fun K hK => ?_
 simp -implicitDefEqProofs only [go_sem, ↓reduceIte, Nat.reduceAdd, Nat.reduceMul, Nat.reduceEqDiff, Nat.reduceLeDiff, reduceCtorEq, Int.reduceToNat, e1, e2, e3, e4, z1, z2, bn]
 refine ⟨.pure _, law13_awake, ?_⟩
 try simp -implicitDefEqProofs only [go_sem, ↓reduceIte, Nat.reduceAdd, Nat.reduceMul, Nat.reduceEqDiff, Nat.reduceLeDiff, reduceCtorEq, Int.reduceToNat]
 refine hK _ ?_; clear hK K
 refine AW.ret ?_
 simp -implicitDefEqProofs only [go_sem, ↓reduceIte, Nat.reduceAdd, Nat.reduceMul, Nat.reduceEqDiff, Nat.reduceLeDiff, reduceCtorEq, Int.reduceToNat]
end Go.Aw.T
namespace Go.Aw.T
open Go.RowKit Go.ChangeShapes
open Go.Proofs
variable {P : Program} {w : World}
def OpnB (B : Nat → Prop) (P : Program) (w : World) (t : TypeId) {α : Type} (e : α → List PV) (G : α → Prop) : Prop :=
 (∀ a, ∀ p ∈ e a, p.one = true) ∧ ∀ (H : Type) (enc : TypeId × Value → H) (fuel : Nat), B fuel → ∀ (cs : List Value) (d : DataW H × List MemPlace), DataW.trod enc P w 0 (fun _ => true) true fuel t cs = some d →
  ∃ a, G a ∧ cs.length = (e a).length ∧ ∀ (j : Nat) u p, cs[j]? = some u → (e a)[j]? = some p → rep w (old w) u p
theorem OpnB.mono {B B' : Nat → Prop} {t : TypeId} {α : Type} {e : α → List PV} {G : α → Prop} (h : OpnB B P w t e G) (hb : ∀ n, B' n → B n) : OpnB B' P w t e G := ⟨h.1, fun H enc fuel hB cs d hd => h.2 H enc fuel (hb _ hB) cs d hd⟩
end Go.Aw.T
namespace Go.Aw.T
open Go.Proofs Go.RowKit Go.ChangeShapes
end Go.Aw.T
