/- What the law LawInterpThere leans on, joined (part 3). -/
import Derived.Test.YtpbangopjdlfcaaDoorZinterpThere2
set_option linter.unusedSimpArgs false
set_option linter.unusedVariables false
set_option maxRecDepth 100000
set_option maxHeartbeats 8000000
namespace Go.Aw.T
open Go.Proofs
inductive Tr where
 | mk (kind n : Int) (s : List UInt8) (ents : List (Int × List Tr)) (rest : List Raw)
def Tr.kind : Tr → Int | .mk k _ _ _ _ => k
def Tr.n : Tr → Int | .mk _ n _ _ _ => n
def Tr.s : Tr → List UInt8 | .mk _ _ s _ _ => s
def Tr.ents : Tr → List (Int × List Tr) | .mk _ _ _ e _ => e
def Tr.rest : Tr → List Raw | .mk _ _ _ _ r => r
mutual
def encTr : Tr → List PV
 | .mk k n s es rest => [.int .i64 k, .int .i64 n, .str s, .slice (encEs es), .slice (rest.map encRaw)]
def encEs : List (Int × List Tr) → List (List PV)
 | [] => []
 | (t, l) :: r => [.int .i64 t, .slice (encTs l)] :: encEs r
def encTs : List Tr → List (List PV)
 | [] => []
 | x :: l => encTr x :: encTs l
end
def encEn (e : Int × List Tr) : List PV := [.int .i64 e.1, .slice (e.2.map encTr)]
theorem encTs_map : ∀ l : List Tr, encTs l = l.map encTr
 | [] => by simp [encTs]
 | x :: l => by rw [encTs, encTs_map l]; rfl
theorem encEs_map : ∀ l : List (Int × List Tr), encEs l = l.map encEn
 | [] => by simp [encEs]
 | (t, l) :: r => by rw [encEs, encEs_map r, encTs_map]; rfl
theorem encTr_eq (t : Tr) : encTr t = [.int .i64 t.kind, .int .i64 t.n, .str t.s, .slice (t.ents.map encEn), .slice (t.rest.map encRaw)] := by
 cases t
 rw [encTr, encEs_map]; rfl
theorem size_ent {t : Tr} {i : Nat} {e : Int × List Tr} (h : t.ents[i]? = some e) {k : Nat} {x : Tr} (h' : e.2[k]? = some x) : SizeOf.sizeOf x < SizeOf.sizeOf t := by
 cases t with
 | mk a b c es d =>
  have h1 : SizeOf.sizeOf e < SizeOf.sizeOf es := List.sizeOf_lt_of_mem (List.mem_of_getElem? (h : es[i]? = some e))
  have h2 := List.sizeOf_lt_of_mem (List.mem_of_getElem? h')
  obtain ⟨t0, l0⟩ := e
  simp only [Tr.mk.sizeOf_spec, Prod.mk.sizeOf_spec] at *
  omega
def cellsT (t : Tr) : List AV := [.p (.int .i64 t.kind), .p (.int .i64 t.n), .p (.str t.s), .p (.slice (t.ents.map encEn)), .p (.slice (t.rest.map encRaw))]
end Go.Aw.T
namespace Go.Aw.T
open Go.Proofs
theorem one_nilIface : Value.nilIface.oneCell' = true := rfl
attribute [go_sem] one_nilIface
end Go.Aw.T
namespace Go.Aw.T
open Go.Proofs
mutual
def sameT : Tr → Tr → Bool
 | .mk k n s es r, .mk k' n' s' es' r' => if k = k' ∧ n = n' ∧ s = s' ∧ es.length = es'.length ∧ r.length = r'.length ∧ r = r' then sameE es es' else false
def sameE : List (Int × List Tr) → List (Int × List Tr) → Bool
 | [], [] => true
 | (t, l) :: r, (t', l') :: r' => if t = t' ∧ l.length = l'.length ∧ sameTs l l' = true then sameE r r' else false
 | _, _ => false
def sameTs : List Tr → List Tr → Bool
 | [], [] => true
 | x :: l, x' :: l' => if sameT x x' = true then sameTs l l' else false
 | _, _ => false
end
mutual
theorem sameT_iff : ∀ (a b : Tr), sameT a b = true ↔ a = b
 | .mk k n s es r, .mk k' n' s' es' r' => by
  rw [sameT]
  split
  ·rename_i h
   obtain ⟨rfl, rfl, rfl, _, _, rfl⟩ := h
   rw [sameE_iff es es']
   simp
  ·rename_i h
   simp only [Bool.false_eq_true, false_iff, Tr.mk.injEq]
   rintro ⟨rfl, rfl, rfl, rfl, rfl⟩
   exact h ⟨rfl, rfl, rfl, rfl, rfl, rfl⟩
theorem sameE_iff : ∀ (a b : List (Int × List Tr)), sameE a b = true ↔ a = b
 | [], [] => by simp [sameE]
 | [], _ :: _ => by simp [sameE]
 | _ :: _, [] => by simp [sameE]
 | (t, l) :: r, (t', l') :: r' => by
  rw [sameE]
  split
  ·rename_i h
   obtain ⟨rfl, _, h2⟩ := h
   have := (sameTs_iff l l').1 h2
   subst this
   rw [sameE_iff r r']
   simp
  ·rename_i h
   simp only [Bool.false_eq_true, false_iff, List.cons.injEq, Prod.mk.injEq]
   rintro ⟨⟨rfl, rfl⟩, rfl⟩
   exact h ⟨rfl, rfl, (sameTs_iff l l).2 rfl⟩
theorem sameTs_iff : ∀ (a b : List Tr), sameTs a b = true ↔ a = b
 | [], [] => by simp [sameTs]
 | [], _ :: _ => by simp [sameTs]
 | _ :: _, [] => by simp [sameTs]
 | x :: l, x' :: l' => by
  rw [sameTs]
  split
  ·rename_i h
   have := (sameT_iff x x').1 h
   subst this
   rw [sameTs_iff l l']
   simp
  ·rename_i h
   simp only [Bool.false_eq_true, false_iff, List.cons.injEq]
   rintro ⟨rfl, rfl⟩
   exact h ((sameT_iff x x).2 rfl)
end
mutual
def lensT : Tr → Bool
 | .mk _ _ _ es rest => decide (rest.length ≤ 1000) && decide (es.length ≤ 1000) && lensE es
def lensE : List (Int × List Tr) → Bool
 | [] => true
 | (_, l) :: r => decide (l.length ≤ 1000) && lensTs l && lensE r
def lensTs : List Tr → Bool
 | [] => true
 | x :: l => lensT x && lensTs l
end
theorem lensTs_at : ∀ {l : List Tr} {k : Nat} {x : Tr}, lensTs l = true → l[k]? = some x → lensT x = true := by
 intro l
 induction l with
 | nil => intro k x _ h; simp at h
 | cons y l ih =>
  intro k x h hk
  rw [lensTs, Bool.and_eq_true] at h
  cases k with
  | zero => simp at hk; subst hk; exact h.1
  | succ k => exact ih h.2 (by simpa using hk)
theorem lensE_at : ∀ {es : List (Int × List Tr)} {i : Nat} {e : Int × List Tr}, lensE es = true → es[i]? = some e → e.2.length ≤ 1000 ∧ lensTs e.2 = true := by
 intro es
 induction es with
 | nil => intro i e _ h; simp at h
 | cons y es ih =>
  intro i e h hi
  obtain ⟨t, l⟩ := y
  rw [lensE, Bool.and_eq_true, Bool.and_eq_true] at h
  cases i with
  | zero => simp at hi; subst hi; exact ⟨by simpa using h.1.1, h.1.2⟩
  | succ i => exact ih h.2 (by simpa using hi)
theorem lensT_mk {t : Tr} (h : lensT t = true) : t.rest.length ≤ 1000 ∧ t.ents.length ≤ 1000 ∧ lensE t.ents = true := by
 cases t
 rw [lensT] at h
 simp only [Bool.and_eq_true, decide_eq_true_eq] at h
 exact ⟨h.1.1, h.1.2, h.2⟩
theorem sameT_mk (a b : Tr) : sameT a b = if a.kind = b.kind ∧ a.n = b.n ∧ a.s = b.s ∧ a.ents.length = b.ents.length ∧ a.rest.length = b.rest.length ∧ a.rest = b.rest then sameE a.ents b.ents else false := by
 cases a; cases b; rw [sameT]; rfl
theorem sameE_at {es fs : List (Int × List Tr)} {i : Nat} {e f : Int × List Tr} (h : es[i]? = some e) (h' : fs[i]? = some f) :
  sameE (es.drop i) (fs.drop i) = if e.1 = f.1 ∧ e.2.length = f.2.length ∧ sameTs e.2 f.2 = true then sameE (es.drop (i + 1)) (fs.drop (i + 1)) else false := by
 rw [List.drop_eq_getElem_cons (List.getElem?_eq_some_iff.1 h).1, (List.getElem?_eq_some_iff.1 h).2, List.drop_eq_getElem_cons (List.getElem?_eq_some_iff.1 h').1, (List.getElem?_eq_some_iff.1 h').2]
 obtain ⟨a, l⟩ := e
 obtain ⟨b, m⟩ := f
 rw [sameE]
theorem sameTs_at {l m : List Tr} {k : Nat} {x y : Tr} (h : l[k]? = some x) (h' : m[k]? = some y) :
  sameTs (l.drop k) (m.drop k) = if sameT x y = true then sameTs (l.drop (k + 1)) (m.drop (k + 1)) else false := by
 rw [List.drop_eq_getElem_cons (List.getElem?_eq_some_iff.1 h).1, (List.getElem?_eq_some_iff.1 h).2, List.drop_eq_getElem_cons (List.getElem?_eq_some_iff.1 h').1, (List.getElem?_eq_some_iff.1 h').2, sameTs]
def ss (a b : Tr) (m : List (Nat × AV)) : St := ⟨ofL ([(2, .ptr 0 0 0), (3, .ptr 1 0 0)] ++ m), ofH [(0, .row 5 [cellsT a]), (1, .row 5 [cellsT b])], 2⟩
def st (a b : Tr) (i : Nat) (e f : Int × List Tr) (k : Nat) : St := ⟨ofL [(2, .ptr 0 0 0), (3, .ptr 1 0 0), (6, .p (.int .i64 (i : Int))), (7, .ptr 2 0 0), (8, .ptr 3 0 0), (9, .p (.int .i64 (k : Int)))],
 ofH [(0, .row 5 [cellsT a]), (1, .row 5 [cellsT b]), (2, .row 2 [[.p (.int .i64 e.1), .p (.slice (e.2.map encTr))]]), (3, .row 2 [[.p (.int .i64 f.1), .p (.slice (f.2.map encTr))]])], 4⟩
theorem ref09_Same : ∀ (a b : Tr), lensT a = true → PFn Tryd.prog 33 [.agg (encTr a), .agg (encTr b)] (.bool (sameT a b)) := by
 intro a
 induction h : SizeOf.sizeOf a using Nat.strongRecOn generalizing a with
 | _ sz ih =>
 subst h
 intro b hla
 obtain ⟨la1, la2, la3⟩ := lensT_mk hla
 have sT := sameT_mk a b
 refine PFn.of Tryd.func33 rfl (by decide) Tryd.ntmps33 Tryd.results33 (Nat.le_of_ble_eq_true rfl) ?_
 simp only [argsT]
 refine AW.rT (by rfl) fun K hK => ?_
 simp -implicitDefEqProofs only [go_sem, ↓reduceIte, Nat.reduceAdd, Nat.reduceEqDiff, encTr_eq]
 apply hK; clear hK K
 refine AW.seq ?_
 by_cases c1 : a.kind = b.kind
 case neg =>
  have b1 : (a.kind != b.kind) = true := by simpa using c1
  rw [if_neg (fun h => c1 h.1)] at sT
  refine AW.rT (by rfl) fun K hK => ?_
  simp -implicitDefEqProofs only [go_sem, ↓reduceIte, Nat.reduceAdd, Nat.reduceEqDiff, reduceCtorEq, b1]
  apply hK; clear hK K
  refine AW.cond _ (by simp -implicitDefEqProofs only [go_sem]; rfl) (fun hc => ?_) (fun hc => ?_)
  ·refine AW.rT (by rfl) fun K hK => ?_
   simp -implicitDefEqProofs only [go_sem, Nat.reduceAdd]
   apply hK; clear hK K
   refine AW.ret ?_
   simp -implicitDefEqProofs only [go_sem, sT]
  ·simp at hc
 have b1 : (a.kind != b.kind) = false := by simpa using c1
 by_cases c2 : a.n = b.n
 case neg =>
  have b2 : (a.n != b.n) = true := by simpa using c2
  rw [if_neg (fun h => c2 h.2.1)] at sT
  refine AW.rT (by rfl) fun K hK => ?_
  simp -implicitDefEqProofs only [go_sem, ↓reduceIte, Nat.reduceAdd, Nat.reduceEqDiff, reduceCtorEq, b1, b2]
  apply hK; clear hK K
  refine AW.cond _ (by simp -implicitDefEqProofs only [go_sem]; rfl) (fun hc => ?_) (fun hc => ?_)
  ·refine AW.rT (by rfl) fun K hK => ?_
   simp -implicitDefEqProofs only [go_sem, Nat.reduceAdd]
   apply hK; clear hK K
   refine AW.ret ?_
   simp -implicitDefEqProofs only [go_sem, sT]
  ·simp at hc
 have b2 : (a.n != b.n) = false := by simpa using c2
 by_cases c3 : a.s = b.s
 case neg =>
  have b3 : (a.s == b.s) = false := beqf c3
  rw [if_neg (fun h => c3 h.2.2.1)] at sT
  refine AW.rT (by rfl) fun K hK => ?_
  simp -implicitDefEqProofs only [go_sem, ↓reduceIte, Nat.reduceAdd, Nat.reduceEqDiff, reduceCtorEq, b1, b2, b3]
  apply hK; clear hK K
  refine AW.cond _ (by simp -implicitDefEqProofs only [go_sem]; rfl) (fun hc => ?_) (fun hc => ?_)
  ·refine AW.rT (by rfl) fun K hK => ?_
   simp -implicitDefEqProofs only [go_sem, Nat.reduceAdd]
   apply hK; clear hK K
   refine AW.ret ?_
   simp -implicitDefEqProofs only [go_sem, sT]
  ·simp at hc
 have b3 : (a.s == b.s) = true := by simpa using c3
 by_cases c4 : a.ents.length = b.ents.length
 case neg =>
  have b4 : ((a.ents.length : Int) != (b.ents.length : Int)) = true := by simp; omega
  rw [if_neg (fun h => c4 h.2.2.2.1)] at sT
  refine AW.rT (by rfl) fun K hK => ?_
  simp -implicitDefEqProofs only [go_sem, ↓reduceIte, Nat.reduceAdd, Nat.reduceEqDiff, reduceCtorEq, b1, b2, b3, b4, List.length_map]
  apply hK; clear hK K
  refine AW.cond _ (by simp -implicitDefEqProofs only [go_sem]; rfl) (fun hc => ?_) (fun hc => ?_)
  ·refine AW.rT (by rfl) fun K hK => ?_
   simp -implicitDefEqProofs only [go_sem, Nat.reduceAdd]
   apply hK; clear hK K
   refine AW.ret ?_
   simp -implicitDefEqProofs only [go_sem, sT]
  ·simp at hc
 have b4 : ((a.ents.length : Int) != (b.ents.length : Int)) = false := by simp; omega
 by_cases c5 : a.rest.length = b.rest.length
 case neg =>
  have b5 : ((a.rest.length : Int) != (b.rest.length : Int)) = true := by simp; omega
  rw [if_neg (fun h => c5 h.2.2.2.2.1)] at sT
  refine AW.rT (by rfl) fun K hK => ?_
  simp -implicitDefEqProofs only [go_sem, ↓reduceIte, Nat.reduceAdd, Nat.reduceEqDiff, reduceCtorEq, b1, b2, b3, b4, b5, List.length_map]
  apply hK; clear hK K
  refine AW.cond _ (by simp -implicitDefEqProofs only [go_sem]; rfl) (fun hc => ?_) (fun hc => ?_)
  ·refine AW.rT (by rfl) fun K hK => ?_
   simp -implicitDefEqProofs only [go_sem, Nat.reduceAdd]
   apply hK; clear hK K
   refine AW.ret ?_
   simp -implicitDefEqProofs only [go_sem, sT]
  ·simp at hc
 have b5 : ((a.rest.length : Int) != (b.rest.length : Int)) = false := by simp; omega
 refine AW.rT (by rfl) fun K hK => ?_
 simp -implicitDefEqProofs only [go_sem, ↓reduceIte, Nat.reduceAdd, Nat.reduceEqDiff, reduceCtorEq, b1, b2, b3, b4, b5, List.length_map]
 apply hK; clear hK K
 refine AW.cF rfl ?_
 refine AW.skip ?_
 simp only [andThen]
 clear b1 b2 b3 b4 b5
 refine AW.seq ?_
 refine AW.rT (by rfl) fun K hK => ?_
 simp -implicitDefEqProofs only [go_sem, Nat.reduceAdd]
 apply hK; clear hK K
 refine AW.block ?_
 refine AW.loop (fun i : Nat => ss a b [(5, .p (.int .i64 (i : Int)))]) (fun i => i ≤ a.rest.length ∧ a.rest.take i = b.rest.take i) (fun i => a.rest.length - i) 0 ?_ (by simp) fun i hi => ?_
 ·simp only [ss, cellsT, List.cons_append, List.nil_append]
  refine Ghost.sub ?_ ?_ <;> simp -implicitDefEqProofs only [go_sem, ↓reduceIte, Nat.reduceEqDiff, reduceCtorEq, List.forall_mem_cons, List.not_mem_nil, false_implies, implies_true, and_self, List.all_cons, List.all_nil, Nat.reduceLT, labsInL, AV.labsIn]
  rfl
 obtain ⟨g1, g2⟩ := hi
 simp only [ss, cellsT, List.cons_append, List.nil_append]
 refine AW.seq ?_
 by_cases hil : i < a.rest.length
 ·obtain ⟨x, hx⟩ : ∃ x, a.rest[i]? = some x := ⟨_, List.getElem?_eq_getElem hil⟩
  obtain ⟨y, hy⟩ : ∃ y, b.rest[i]? = some y := ⟨_, List.getElem?_eq_getElem (by omega)⟩
  have ⟨hx1, hx2, hx3⟩ := at_map' encRaw hx
  have ⟨hy1, hy2, hy3⟩ := at_map' encRaw hy
  have ex : (encRaw x).length = 4 := rfl
  have ey : (encRaw y).length = 4 := rfl
  have hc1 : ((i : Int) < (a.rest.length : Int)) = True := by simp; omega
  refine AW.rT (by rfl) fun K hK => ?_
  simp -implicitDefEqProofs only [go_sem, ↓reduceIte, Nat.reduceAdd, Nat.reduceEqDiff, List.length_map, hc1]
  apply hK; clear hK K
  refine AW.cT rfl ?_
  refine AW.skip ?_
  simp only [andThen]
  refine AW.seq ?_
  refine AW.block ?_
  refine AW.dT mixed (by rfl) (by decide +kernel) fun K hK => ?_
  simp -implicitDefEqProofs only [go_sem, ↓reduceIte, Nat.reduceAdd, Nat.reduceEqDiff, Nat.reduceLeDiff, hx1, hx2, hx3, hy2, hy3, ex, ey]
  refine ⟨_, eqP_raw x y, ?_⟩
  simp only [boolE]
  try simp -implicitDefEqProofs only [go_sem, Nat.reduceAdd]
  refine ⟨heapOK_nil rfl, ?_⟩
  apply hK; clear hK K
  by_cases hxy : x = y
  ·have bx : decide (x = y) = true := by simpa using hxy
   rw [bx]
   refine AW.cF rfl ?_
   refine AW.skip ?_
   simp only [andThen, inBlk]
   have w2 : IntKind.wrap .i64 ((i : Int) + 1) = ((i + 1 : Nat) : Int) := by rw [w64] <;> omega
   refine AW.rE (by rfl) fun K hK => ?_
   simp -implicitDefEqProofs only [go_sem, ↓reduceIte, Nat.reduceAdd, Nat.reduceEqDiff, w2]
   apply hK; clear hK K
   refine ⟨i + 1, ⟨by omega, by rw [List.take_add_one, List.take_add_one, hx, hy, g2, hxy]⟩, by omega, ?_⟩
   refine Ghost.sub ?_ ?_ <;> simp -implicitDefEqProofs only [go_sem, ↓reduceIte, Nat.reduceEqDiff, List.forall_mem_cons, List.not_mem_nil, false_implies, implies_true, and_self, List.all_cons, List.all_nil, Nat.reduceLT, labsInL, AV.labsIn]
  ·have bx : decide (x = y) = false := by simpa using hxy
   rw [bx]
   rw [if_neg (fun h => hxy (by have := h.2.2.2.2.2; rw [this, hy] at hx; injection hx with hx; exact hx.symm))] at sT
   refine AW.cond _ (by simp -implicitDefEqProofs only [go_sem]; rfl) (fun hc => ?_) (fun hc => ?_)
   ·refine AW.rT (by rfl) fun K hK => ?_
    simp -implicitDefEqProofs only [go_sem, Nat.reduceAdd]
    apply hK; clear hK K
    refine AW.ret ?_
    simp -implicitDefEqProofs only [go_sem, sT]
   ·simp at hc
 have hc1 : ((i : Int) < (a.rest.length : Int)) = False := by simp; omega
 have hi' : i = a.rest.length := by omega
 subst hi'
 rw [List.take_length, c5, List.take_length] at g2
 rw [if_pos ⟨c1, c2, c3, c4, c5, g2⟩] at sT
 refine AW.rT (by rfl) fun K hK => ?_
 simp -implicitDefEqProofs only [go_sem, ↓reduceIte, Nat.reduceAdd, Nat.reduceEqDiff, List.length_map, hc1]
 apply hK; clear hK K
 refine AW.cF rfl ?_
 refine AW.exit ?_
 simp only [andThen, inBlk, ↓reduceIte]
 refine AW.seq ?_
 refine AW.rT (by rfl) fun K hK => ?_
 simp -implicitDefEqProofs only [go_sem, Nat.reduceAdd]
 apply hK; clear hK K
 refine AW.block ?_
 refine AW.loop (fun i : Nat => ss a b [(6, .p (.int .i64 (i : Int)))]) (fun i => i ≤ a.ents.length ∧ sameT a b = sameE (a.ents.drop i) (b.ents.drop i)) (fun i => a.ents.length - i) 0 ?_ ⟨by simp, by rw [sT, List.drop_zero, List.drop_zero]⟩ fun i hi => ?_
 ·simp only [ss, cellsT, List.cons_append, List.nil_append]
  refine Ghost.sub ?_ ?_ <;> simp -implicitDefEqProofs only [go_sem, ↓reduceIte, Nat.reduceEqDiff, List.forall_mem_cons, List.not_mem_nil, false_implies, implies_true, and_self, List.all_cons, List.all_nil, Nat.reduceLT, labsInL, AV.labsIn]
  rfl
 obtain ⟨e1, e2⟩ := hi
 simp only [ss, cellsT, List.cons_append, List.nil_append]
 refine AW.seq ?_
 by_cases hil : i < a.ents.length
 case neg =>
  have hc1 : ((i : Int) < (a.ents.length : Int)) = False := by simp; omega
  rw [List.drop_of_length_le (by omega), List.drop_of_length_le (by omega), sameE] at e2
  refine AW.rT (by rfl) fun K hK => ?_
  simp -implicitDefEqProofs only [go_sem, ↓reduceIte, Nat.reduceAdd, Nat.reduceEqDiff, List.length_map, hc1]
  apply hK; clear hK K
  refine AW.cF rfl ?_
  refine AW.exit ?_
  simp only [andThen, inBlk, ↓reduceIte]
  refine AW.rT (by rfl) fun K hK => ?_
  simp -implicitDefEqProofs only [go_sem, Nat.reduceAdd]
  apply hK; clear hK K
  refine AW.ret ?_
  simp -implicitDefEqProofs only [go_sem, e2]
 obtain ⟨e, he⟩ : ∃ e, a.ents[i]? = some e := ⟨_, List.getElem?_eq_getElem hil⟩
 obtain ⟨f, hf⟩ : ∃ f, b.ents[i]? = some f := ⟨_, List.getElem?_eq_getElem (by omega)⟩
 have ⟨he1, he2, he3⟩ := at_map' encEn he
 have ⟨hf1, hf2, hf3⟩ := at_map' encEn hf
 have ⟨le1, le2⟩ := lensE_at la3 he
 have sE := sameE_at he hf
 have hc1 : ((i : Int) < (a.ents.length : Int)) = True := by simp; omega
 have hc1' : ((i : Int) < (b.ents.length : Int)) = True := by simp; omega
 refine AW.rT (by rfl) fun K hK => ?_
 simp -implicitDefEqProofs only [go_sem, ↓reduceIte, Nat.reduceAdd, Nat.reduceEqDiff, List.length_map, hc1]
 apply hK; clear hK K
 refine AW.cT rfl ?_
 refine AW.skip ?_
 simp only [andThen]
 refine AW.seq ?_
 refine AW.block ?_
 refine AW.dT mixed (by rfl) (by decide +kernel) fun K hK => ?_
 simp -implicitDefEqProofs only [go_sem, ↓reduceIte, Nat.reduceAdd, Nat.reduceEqDiff, Nat.reduceLeDiff, he1, he3, hf3, encEn, List.length_map, hc1, hc1']
 refine ⟨by decide +kernel, ?_⟩
 apply hK; clear hK K
 refine AW.seq ?_
 by_cases d1 : e.1 = f.1
 case neg =>
  have b1 : (e.1 != f.1) = true := by simpa using d1
  rw [if_neg (fun h => d1 h.1)] at sE
  have HH := e2.trans sE
  refine AW.rT (by rfl) fun K hK => ?_
  simp -implicitDefEqProofs only [go_sem, ↓reduceIte, Nat.reduceAdd, Nat.reduceEqDiff, b1]
  apply hK; clear hK K
  refine AW.cond _ (by simp -implicitDefEqProofs only [go_sem]; rfl) (fun hc => ?_) (fun hc => ?_)
  ·refine AW.rT (by rfl) fun K hK => ?_
   simp -implicitDefEqProofs only [go_sem, Nat.reduceAdd]
   apply hK; clear hK K
   refine AW.ret ?_
   simp -implicitDefEqProofs only [go_sem, HH]
  ·simp at hc
 have b1 : (e.1 != f.1) = false := by simpa using d1
 by_cases d2 : e.2.length = f.2.length
 case neg =>
  have b2 : ((e.2.length : Int) != (f.2.length : Int)) = true := by simp; omega
  rw [if_neg (fun h => d2 h.2.1)] at sE
  have HH := e2.trans sE
  refine AW.rT (by rfl) fun K hK => ?_
  simp -implicitDefEqProofs only [go_sem, ↓reduceIte, Nat.reduceAdd, Nat.reduceEqDiff, b1, b2, List.length_map]
  apply hK; clear hK K
  refine AW.cond _ (by simp -implicitDefEqProofs only [go_sem]; rfl) (fun hc => ?_) (fun hc => ?_)
  ·refine AW.rT (by rfl) fun K hK => ?_
   simp -implicitDefEqProofs only [go_sem, Nat.reduceAdd]
   apply hK; clear hK K
   refine AW.ret ?_
   simp -implicitDefEqProofs only [go_sem, HH]
  ·simp at hc
 have b2 : ((e.2.length : Int) != (f.2.length : Int)) = false := by simp; omega
 refine AW.rT (by rfl) fun K hK => ?_
 simp -implicitDefEqProofs only [go_sem, ↓reduceIte, Nat.reduceAdd, Nat.reduceEqDiff, b1, b2, List.length_map]
 apply hK; clear hK K
 refine AW.cF rfl ?_
 refine AW.skip ?_
 simp only [andThen]
 refine AW.rT (by rfl) fun K hK => ?_
 simp -implicitDefEqProofs only [go_sem, Nat.reduceAdd]
 apply hK; clear hK K
 refine AW.block ?_
 refine AW.loop (fun k : Nat => st a b i e f k) (fun k => k ≤ e.2.length ∧ sameTs e.2 f.2 = sameTs (e.2.drop k) (f.2.drop k)) (fun k => e.2.length - k) 0 ?_ ⟨by simp, by rw [List.drop_zero, List.drop_zero]⟩ fun k hk => ?_
 ·simp only [st, cellsT]
  refine Ghost.ent (fun l => if l = 2 then 17 else if l = 3 then 18 else l) ?_ ?_ ?_ <;> simp -implicitDefEqProofs only [go_sem, ↓reduceIte, Nat.reduceEqDiff, reduceCtorEq, List.forall_mem_cons, List.not_mem_nil, false_implies, implies_true, and_self, List.all_cons, List.all_nil, Nat.reduceLT, labsInL, AV.labsIn]
  rfl
 obtain ⟨k1, k2⟩ := hk
 simp only [st, cellsT]
 refine AW.seq ?_
 by_cases hkl : k < e.2.length
 ·obtain ⟨x, hx⟩ : ∃ x, e.2[k]? = some x := ⟨_, List.getElem?_eq_getElem hkl⟩
  obtain ⟨y, hy⟩ : ∃ y, f.2[k]? = some y := ⟨_, List.getElem?_eq_getElem (by omega)⟩
  have ⟨hx1, hx2, hx3⟩ := at_map' encTr hx
  have ⟨hy1, hy2, hy3⟩ := at_map' encTr hy
  have hc2 : ((k : Int) < (e.2.length : Int)) = True := by simp; omega
  have hc2' : ((k : Int) < (f.2.length : Int)) = True := by simp; omega
  have sK := sameTs_at hx hy
  refine AW.rT (by rfl) fun K hK => ?_
  simp -implicitDefEqProofs only [go_sem, ↓reduceIte, Nat.reduceAdd, Nat.reduceEqDiff, reduceCtorEq, List.length_map, hc2]
  apply hK; clear hK K
  refine AW.cT rfl ?_
  refine AW.skip ?_
  simp only [andThen]
  refine AW.seq ?_
  refine AW.block ?_
  have IH := ih _ (size_ent he hx) x rfl y (lensTs_at le2 hx)
  rw [encTr_eq, encTr_eq] at IH
  refine AW.dT mixed (by rfl) (by decide +kernel) fun K hK => ?_
  simp -implicitDefEqProofs only [go_sem, ↓reduceIte, Nat.reduceAdd, Nat.reduceEqDiff, Nat.reduceLeDiff, reduceCtorEq, hx1, hx3, hy3, hc2, hc2', encTr_eq, List.length_map]
  refine ⟨.pure _, IH, ?_⟩
  try simp -implicitDefEqProofs only [go_sem, ↓reduceIte, Nat.reduceAdd]
  refine ⟨heapOK_nil rfl, ?_⟩
  apply hK; clear hK K
  cases hq : sameT x y with
  | false =>
   rw [if_neg (by rw [hq]; simp)] at sK
   rw [if_neg (by rintro ⟨_, _, h⟩; rw [k2, sK] at h; cases h)] at sE
   have HH := e2.trans sE
   refine AW.cond _ (by simp -implicitDefEqProofs only [go_sem]; rfl) (fun hc => ?_) (fun hc => ?_)
   ·refine AW.rT (by rfl) fun K hK => ?_
    simp -implicitDefEqProofs only [go_sem, Nat.reduceAdd]
    apply hK; clear hK K
    refine AW.ret ?_
    simp -implicitDefEqProofs only [go_sem, HH]
   ·simp at hc
  | true =>
   rw [if_pos hq] at sK
   refine AW.cF rfl ?_
   refine AW.skip ?_
   simp only [andThen, inBlk]
   have w2 : IntKind.wrap .i64 ((k : Int) + 1) = ((k + 1 : Nat) : Int) := by rw [w64] <;> omega
   refine AW.rE (by rfl) fun K hK => ?_
   simp -implicitDefEqProofs only [go_sem, ↓reduceIte, Nat.reduceAdd, Nat.reduceEqDiff, w2]
   apply hK; clear hK K
   refine ⟨k + 1, ⟨by omega, k2.trans sK⟩, by omega, ?_⟩
   refine Ghost.sub ?_ ?_ <;> simp -implicitDefEqProofs only [go_sem, ↓reduceIte, Nat.reduceEqDiff, reduceCtorEq, List.forall_mem_cons, List.not_mem_nil, false_implies, implies_true, and_self, List.all_cons, List.all_nil, Nat.reduceLT, labsInL, AV.labsIn]
 ·have hc2 : ((k : Int) < (e.2.length : Int)) = False := by simp; omega
  rw [List.drop_of_length_le (by omega), List.drop_of_length_le (by omega), sameTs] at k2
  rw [if_pos ⟨d1, d2, k2⟩] at sE
  refine AW.rT (by rfl) fun K hK => ?_
  simp -implicitDefEqProofs only [go_sem, ↓reduceIte, Nat.reduceAdd, Nat.reduceEqDiff, reduceCtorEq, List.length_map, hc2]
  apply hK; clear hK K
  refine AW.cF rfl ?_
  refine AW.exit ?_
  simp only [andThen, inBlk, ↓reduceIte]
  have w2 : IntKind.wrap .i64 ((i : Int) + 1) = ((i + 1 : Nat) : Int) := by rw [w64] <;> omega
  refine AW.rE (by rfl) fun K hK => ?_
  simp -implicitDefEqProofs only [go_sem, ↓reduceIte, Nat.reduceAdd, Nat.reduceEqDiff, w2]
  apply hK; clear hK K
  refine ⟨i + 1, ⟨by omega, e2.trans sE⟩, by omega, ?_⟩
  refine Ghost.sub ?_ ?_ <;> simp -implicitDefEqProofs only [go_sem, ↓reduceIte, Nat.reduceEqDiff, List.forall_mem_cons, List.not_mem_nil, false_implies, implies_true, and_self, List.all_cons, List.all_nil, Nat.reduceLT, labsInL, AV.labsIn]
end Go.Aw.T
namespace Go.Aw.T
open Go.Proofs
end Go.Aw.T
namespace Go.Aw.T
open Go.Proofs
end Go.Aw.T
namespace Go.Aw.T
open Go.Proofs
end Go.Aw.T
namespace Go.Aw.T
open Go.Proofs
end Go.Aw.T
namespace Go.Aw.T
open Go.Proofs
def hS (b : List UInt8) (x : List Raw × Nat) : St := ⟨ofL [(0, .p (.slice (b.map encB))), (4, .own 0), (5, .p (.int .i64 (x.2 : Int)))], ofH [(0, .row 4 (liftE (x.1.map encRaw)))], 1⟩
end Go.Aw.T
namespace Go.Aw.T
open Go.Proofs
theorem Ghost.nilH {nt : Fm} {s : St} {l i j sz sz' : Nat} {es : List (List AV)} {e : List AV} (hl : s.H l = some (.row sz es)) (hi : es[i]? = some e) (hj : e[j]? = some (.ex [])) :
  Ghost nt s ⟨s.T, upd (upd s.H l (some (.row sz (es.set i (e.set j (.own s.nx)))))) s.nx (some (.row sz' [])), s.nx + 1⟩ := by
 rintro w0 X I0 a w ⟨σ, I, hσ, m⟩
 have hb := m.heap.rows l _ hl
 cases hb with
 | emp h => simp at hi
 | row h hg hcur hc hs ho hr =>
  rename_i g c cur et
  obtain ⟨u, hu, hru⟩ := hr i e j _ hi hj
  have hnx := hσ s.nx (Nat.le_refl _)
  have hln : l ≠ s.nx := by rintro rfl; rw [hnx] at h; cases h
  cases hru with
  | ex he hrep =>
   rename_i ad n
   subst he
   have ext : ∀ l' s', σ l' = some s' → upd σ s.nx (some (.emp ad)) l' = some s' := fun l' s' h' => by
    rw [upd_ne _ _ (by rintro rfl; rw [hnx] at h'; cases h')]
    exact h'
   have H2 := m.heap.empty hnx ad sz'
   refine ⟨upd σ s.nx (some (.emp ad)), I, fun l' h' => ?_, m.defers, m.size, m.pins, ⟨fun l' b' h' => ?_, fun l1 l2 g s1 s2 h1 h2 => ?_, fun l' g s' h1 => ?_, H2.imm, H2.sub, H2.fr⟩, fun i' x hx => ?_⟩
   ·simp only at h'
    rw [upd_ne _ _ (by omega)]
    exact hσ l' (by omega)
   ·simp only at h'
    by_cases e1 : l' = s.nx
    ·subst e1
     rw [upd_same] at h'
     exact H2.rows s.nx b' (by rw [upd_same]; exact h')
    ·rw [upd_ne _ _ e1] at h'
     by_cases e2 : l' = l
     ·subst e2
      rw [upd_same] at h'
      injection h' with h'
      subst h'
      refine .row (by rw [List.length_set]; exact ext _ _ h) hg hcur (by rw [List.length_set]; exact hc) (fun e' he' => ?_) (fun e' he' x hx => ?_) fun i' e' j' x q1 q2 => ?_
      ·rcases List.mem_or_eq_of_mem_set he' with he' | rfl
       ·exact hs e' he'
       ·rw [List.length_set]; exact hs e (List.mem_of_getElem? hi)
      ·rcases List.mem_or_eq_of_mem_set he' with he' | rfl
       ·exact ho e' he' x hx
       ·rcases List.mem_or_eq_of_mem_set hx with hx | rfl
        ·exact ho e (List.mem_of_getElem? hi) x hx
        ·rfl
      ·rw [List.getElem?_set] at q1
       split at q1
       ·rename_i e3
        subst e3
        split at q1
        ·injection q1 with q1
         subst q1
         rw [List.getElem?_set] at q2
         split at q2
         ·rename_i e4
          subst e4
          split at q2
          ·injection q2 with q2
           subst q2
           exact ⟨_, hu, .ownE (upd_same _ _ _)⟩
          ·cases q2
         ·obtain ⟨u', hu', hr'⟩ := hr i e j' x hi q2
          exact ⟨u', hu', hr'.mono ext (fun _ h => h) (fun _ _ => rfl)⟩
        ·cases q1
       ·obtain ⟨u', hu', hr'⟩ := hr i' e' j' x q1 q2
        exact ⟨u', hu', hr'.mono ext (fun _ h => h) (fun _ _ => rfl)⟩
     ·rw [upd_ne _ _ e2] at h'
      exact H2.rows l' b' (by rw [upd_ne _ _ e1]; exact h')
   ·refine H2.inj l1 l2 g s1 s2 ?_ ?_
    ·intro h0; apply h1
     show upd (upd s.H l _) s.nx _ l1 = none
     by_cases e1 : l1 = s.nx
     ·subst e1; rw [upd_same] at h0; cases h0
     ·rw [upd_ne _ _ e1] at h0 ⊢
      by_cases e2 : l1 = l
      ·subst e2; rw [hl] at h0; cases h0
      ·rw [upd_ne _ _ e2]; exact h0
    ·intro h0; apply h2
     show upd (upd s.H l _) s.nx _ l2 = none
     by_cases e1 : l2 = s.nx
     ·subst e1; rw [upd_same] at h0; cases h0
     ·rw [upd_ne _ _ e1] at h0 ⊢
      by_cases e2 : l2 = l
      ·subst e2; rw [hl] at h0; cases h0
      ·rw [upd_ne _ _ e2]; exact h0
   ·refine H2.mine l' g s' ?_
    intro h0; apply h1
    show upd (upd s.H l _) s.nx _ l' = none
    by_cases e1 : l' = s.nx
    ·subst e1; rw [upd_same] at h0; cases h0
    ·rw [upd_ne _ _ e1] at h0 ⊢
     by_cases e2 : l' = l
     ·subst e2; rw [hl] at h0; cases h0
     ·rw [upd_ne _ _ e2]; exact h0
   ·obtain ⟨v, hv, hrv⟩ := m.tmps i' x hx
    exact ⟨v, hv, hrv.mono ext (fun _ h => h) (fun _ _ => rfl)⟩
theorem law00_RawsB (l : List Raw) (hl : l.length ≤ 1000000) : PFn Tryd.prog 66 [.slice (l.map encRaw)] (.slice (l.map encRaw)) := by
 refine PFn.of Tryd.func66 rfl (by decide) Tryd.ntmps66 Tryd.results66 (Nat.le_of_ble_eq_true rfl) ?_
 simp only [argsT]
 refine AW.rT (by rfl) fun K hK => ?_
 simp -implicitDefEqProofs only [go_sem]
 apply hK; clear hK K
 refine AW.rT (by rfl) fun K hK => ?_
 simp -implicitDefEqProofs only [go_sem, ↓reduceIte, Nat.reduceAdd, Nat.reduceEqDiff, Nat.reduceLeDiff, reduceCtorEq]
 refine ⟨⟨liftE_len fun e he => by
   obtain ⟨x, _, rfl⟩ := List.mem_map.1 he
   rfl, liftE_one fun e he p hp => by
   obtain ⟨x, _, rfl⟩ := List.mem_map.1 he
   simp [encRaw] at hp
   rcases hp with rfl | rfl | rfl | rfl <;> rfl, by simp⟩, ⟨.inl trivial, by simp, by simp [liftE_length]; omega⟩, ?_⟩
 apply hK; clear hK K
 refine AW.ret ?_
 simp -implicitDefEqProofs only [go_sem]
def tx (t : Tr) (i : Nat) : St := ⟨ofL [(1, .ptr 0 0 0), (2, .ptr 1 0 0), (3, .ptr 2 0 0), (4, .p (.int .i64 (i : Int)))],
 ofH [(0, .row 5 [cellsT t]), (1, .row 5 [[.p (.int .i64 0), .p (.int .i64 0), .p (.str []), .ex [], .ex []]]), (2, .row 5 [[.p (.int .i64 t.kind), .p (.int .i64 t.n), .p (.str t.s), .own 3, .p (.slice (t.rest.map encRaw))]]),
  (3, .row 2 (liftE ((t.ents.take i).map encEn)))], 4⟩
def ty (t : Tr) (i : Nat) (e : Int × List Tr) (k : Nat) : St := ⟨ofL [(1, .ptr 0 0 0), (2, .ptr 1 0 0), (3, .ptr 2 0 0), (4, .p (.int .i64 (i : Int))), (5, .ptr 4 0 0), (6, .p (.int .i64 (k : Int)))],
 ofH [(0, .row 5 [cellsT t]), (1, .row 5 [[.p (.int .i64 0), .p (.int .i64 0), .p (.str []), .ex [], .ex []]]), (2, .row 5 [[.p (.int .i64 t.kind), .p (.int .i64 t.n), .p (.str t.s), .own 3, .p (.slice (t.rest.map encRaw))]]),
  (3, .row 2 (liftE ((t.ents.take i).map encEn))), (4, .row 2 [[.p (.int .i64 e.1), .own 5]]), (5, .row 5 (liftE ((e.2.take k).map encTr)))], 6⟩
theorem thaw_lift (lb : Nat) (qs ps : List (List PV)) : (liftE ps).map (fun e => e.map (thaw1 lb qs)) = liftE ps := by
 simp [liftE, thaw1]
def tz (t : Tr) (i : Nat) (e : Int × List Tr) : St := ⟨ofL [(1, .ptr 0 0 0), (2, .ptr 1 0 0), (3, .ptr 2 0 0), (4, .p (.int .i64 (i : Int))), (5, .ptr 4 0 0)],
 ofH [(0, .row 5 [cellsT t]), (1, .row 5 [[.p (.int .i64 0), .p (.int .i64 0), .p (.str []), .ex [], .ex []]]), (2, .row 5 [[.p (.int .i64 t.kind), .p (.int .i64 t.n), .p (.str t.s), .own 3, .p (.slice (t.rest.map encRaw))]]),
  (3, .row 2 (liftE ((t.ents.take i).map encEn))), (4, .row 2 [[.p (.int .i64 e.1), .p (.slice (e.2.map encTr))]])], 5⟩
def tw (t : Tr) : St := ⟨ofL [(2, .ptr 1 0 0), (3, .ptr 2 0 0)],
 ofH [(1, .row 5 [[.p (.int .i64 0), .p (.int .i64 0), .p (.str []), .ex [], .ex []]]), (2, .row 5 [[.p (.int .i64 t.kind), .p (.int .i64 t.n), .p (.str t.s), .p (.slice (t.ents.map encEn)), .p (.slice (t.rest.map encRaw))]])], 3⟩
theorem law00_Tree : ∀ (t : Tr), lensT t = true → PFn Tryd.prog 26 [.agg (encTr t)] (.agg (encTr t)) := by
 intro t
 induction h : SizeOf.sizeOf t using Nat.strongRecOn generalizing t with
 | _ sz ih =>
 subst h
 intro hlt
 obtain ⟨la1, la2, la3⟩ := lensT_mk hlt
 refine PFn.of Tryd.func26 rfl (by decide) Tryd.ntmps26 Tryd.results26 (Nat.le_of_ble_eq_true rfl) ?_
 simp only [argsT]
 refine AW.rT (by rfl) fun K hK => ?_
 simp -implicitDefEqProofs only [go_sem, Nat.reduceAdd, encTr_eq]
 apply hK; clear hK K
 refine AW.dT mixed (by rfl) (by decide +kernel) fun K hK => ?_
 simp -implicitDefEqProofs only [go_sem, ↓reduceIte, Nat.reduceAdd, Nat.reduceEqDiff, reduceCtorEq]
 refine ⟨.pure _, law00_RawsB t.rest (by omega), ?_⟩
 try simp -implicitDefEqProofs only [go_sem, ↓reduceIte, Nat.reduceAdd, Nat.reduceEqDiff, Nat.reduceLeDiff]
 refine ⟨by decide +kernel, ?_⟩
 apply hK; clear hK K
 refine AW.seq ?_
 refine AW.rT (by rfl) fun K hK => ?_
 simp -implicitDefEqProofs only [go_sem, Nat.reduceAdd]
 apply hK; clear hK K
 refine AW.block ?_
 refine AW.loop (tx t) (fun i => i ≤ t.ents.length) (fun i => t.ents.length - i) 0 ?_ (by simp) fun i hi => ?_
 ·refine Ghost.trans (Ghost.nilH (l := 12) (i := 0) (j := 3) (sz' := 2) rfl rfl rfl) ?_
  simp only [tx, cellsT]
  refine Ghost.ent (fun l => if l = 2 then 12 else if l = 3 then 15 else l) ?_ ?_ ?_ <;> simp -implicitDefEqProofs only [go_sem, ↓reduceIte, Nat.reduceEqDiff, reduceCtorEq, List.take_zero, List.map_nil, liftE_nil, List.set_cons_zero, List.set_cons_succ, List.forall_mem_cons, List.not_mem_nil, false_implies, implies_true, and_self, List.all_cons, List.all_nil, Nat.reduceLT, labsInL, AV.labsIn]
  rfl
 simp only [tx, cellsT]
 refine AW.seq ?_
 by_cases hil : i < t.ents.length
 ·obtain ⟨e, he⟩ : ∃ e, t.ents[i]? = some e := ⟨_, List.getElem?_eq_getElem hil⟩
  have ⟨he1, he2, he3⟩ := at_map' encEn he
  have ⟨le1, le2⟩ := lensE_at la3 he
  have hc1 : ((i : Int) < (t.ents.length : Int)) = True := by simp; omega
  refine AW.rT (by rfl) fun K hK => ?_
  simp -implicitDefEqProofs only [go_sem, ↓reduceIte, Nat.reduceAdd, Nat.reduceEqDiff, List.length_map, hc1]
  apply hK; clear hK K
  refine AW.cT rfl ?_
  refine AW.skip ?_
  simp only [andThen]
  refine AW.seq ?_
  refine AW.block ?_
  refine AW.rT (by rfl) fun K hK => ?_
  simp -implicitDefEqProofs only [go_sem, ↓reduceIte, Nat.reduceAdd, Nat.reduceEqDiff, Nat.reduceLeDiff, he1, he3, hc1, encEn, List.length_map]
  apply hK; clear hK K
  refine AW.seq ?_
  refine AW.rT (by rfl) fun K hK => ?_
  simp -implicitDefEqProofs only [go_sem, Nat.reduceAdd]
  apply hK; clear hK K
  refine AW.block ?_
  refine AW.loop (ty t i e) (fun k => k ≤ e.2.length) (fun k => e.2.length - k) 0 ?_ (by simp) fun k hk => ?_
  ·refine Ghost.trans (Ghost.nilH (l := 16) (i := 0) (j := 1) (sz' := 5) rfl rfl rfl) ?_
   simp only [ty, cellsT]
   refine Ghost.ent (fun l => if l = 4 then 16 else if l = 5 then 19 else l) ?_ ?_ ?_ <;> simp -implicitDefEqProofs only [go_sem, ↓reduceIte, Nat.reduceEqDiff, reduceCtorEq, List.take_zero, List.map_nil, liftE_nil, List.set_cons_zero, List.set_cons_succ, List.forall_mem_cons, List.not_mem_nil, false_implies, implies_true, and_self, map_renL_lift, labsIn_lift, List.all_cons, List.all_nil, Nat.reduceLT, labsInL, AV.labsIn]
   rfl
  simp only [ty, cellsT]
  refine AW.seq ?_
  by_cases hkl : k < e.2.length
  ·obtain ⟨x, hx⟩ : ∃ x, e.2[k]? = some x := ⟨_, List.getElem?_eq_getElem hkl⟩
   have ⟨hx1, hx2, hx3⟩ := at_map' encTr hx
   have hc2 : ((k : Int) < (e.2.length : Int)) = True := by simp; omega
   have IH := ih _ (size_ent he hx) x rfl (lensTs_at le2 hx)
   rw [encTr_eq] at IH
   refine AW.rT (by rfl) fun K hK => ?_
   simp -implicitDefEqProofs only [go_sem, ↓reduceIte, Nat.reduceAdd, Nat.reduceEqDiff, he1, he3, hc1, encEn, List.length_map, hc2]
   apply hK; clear hK K
   refine AW.cT rfl ?_
   refine AW.skip ?_
   simp only [andThen]
   refine AW.seq ?_
   refine AW.block ?_
   refine AW.dE mixed (by rfl) (by decide +kernel) fun K hK => ?_
   simp -implicitDefEqProofs only [go_sem, ↓reduceIte, Nat.reduceAdd, Nat.reduceEqDiff, Nat.reduceLeDiff, reduceCtorEq, he1, he3, hc1, encEn, List.length_map, hc2, hx1, hx3, encTr_eq]
   refine ⟨.pure _, IH, ?_⟩
   try simp -implicitDefEqProofs only [go_sem, ↓reduceIte, Nat.reduceAdd, Nat.reduceMul, Nat.reduceEqDiff, Nat.reduceLeDiff, reduceCtorEq]
   refine ⟨⟨by simp, by simp [oneAll, AV.one, PV.one], by simp⟩, by simp [liftE_length]; omega, by decide +kernel, ?_⟩
   apply hK; clear hK K
   have w1 : IntKind.wrap .i64 ((k : Int) + 1) = ((k + 1 : Nat) : Int) := by rw [w64] <;> omega
   have e7 : liftE ((e.2.take k).map encTr) ++ [[AV.p (.int .i64 x.kind), .p (.int .i64 x.n), .p (.str x.s), .p (.slice (x.ents.map encEn)), .p (.slice (x.rest.map encRaw))]] = liftE ((e.2.take (k + 1)).map encTr) := by
    rw [List.take_add_one, hx]
    simp [liftE, encTr_eq]
   refine AW.rE (by rfl) fun K hK => ?_
   simp -implicitDefEqProofs only [go_sem, ↓reduceIte, Nat.reduceAdd, Nat.reduceEqDiff, w1]
   apply hK; clear hK K
   refine ⟨k + 1, by omega, by omega, ?_⟩
   refine Ghost.ent (fun l => if l = 5 then 28 else l) ?_ ?_ ?_ <;> simp -implicitDefEqProofs only [go_sem, ↓reduceIte, Nat.reduceEqDiff, reduceCtorEq, e7, List.forall_mem_cons, List.not_mem_nil, false_implies, implies_true, and_self, map_renL_lift, labsIn_lift, List.all_cons, List.all_nil, Nat.reduceLT, labsInL, AV.labsIn]
  ·have hc2 : ((k : Int) < (e.2.length : Int)) = False := by simp; omega
   have hk' : k = e.2.length := by omega
   subst hk'
   refine AW.rT (by rfl) fun K hK => ?_
   simp -implicitDefEqProofs only [go_sem, ↓reduceIte, Nat.reduceAdd, Nat.reduceEqDiff, he1, he3, hc1, encEn, List.length_map, hc2]
   apply hK; clear hK K
   refine AW.cF rfl ?_
   refine AW.exit ?_
   simp only [andThen, inBlk, ↓reduceIte]
   refine AW.ghost (s' := tz t i e) (Ghost.trans (Ghost.freeze (lb := 5) (ps := (e.2.take e.2.length).map encTr) rfl (unlift_liftE _)) ?_) ?_
   ·simp only [tz, cellsT]
    refine Ghost.sub ?_ ?_ <;> simp -implicitDefEqProofs only [go_sem, ↓reduceIte, Nat.reduceEqDiff, reduceCtorEq, thaw, thaw1, Option.map_some, List.take_length, List.map_cons, List.map_nil, thaw_lift, List.forall_mem_cons, List.not_mem_nil, false_implies, implies_true, and_self, labsIn_lift, List.all_cons, List.all_nil, Nat.reduceLT, labsInL, AV.labsIn]
   simp only [tz, cellsT]
   refine AW.rE (by rfl) fun K hK => ?_
   simp -implicitDefEqProofs only [go_sem, ↓reduceIte, Nat.reduceAdd, Nat.reduceMul, Nat.reduceEqDiff, Nat.reduceLeDiff, reduceCtorEq]
   refine ⟨⟨by simp, by simp [oneAll, AV.one, PV.one], by simp⟩, by simp [liftE_length]; omega, ?_⟩
   apply hK; clear hK K
   simp only [andThen, inBlk]
   have w1 : IntKind.wrap .i64 ((i : Int) + 1) = ((i + 1 : Nat) : Int) := by rw [w64] <;> omega
   have e8 : liftE ((t.ents.take i).map encEn) ++ [[AV.p (.int .i64 e.1), .p (.slice (e.2.map encTr))]] = liftE ((t.ents.take (i + 1)).map encEn) := by
    rw [List.take_add_one, he]
    simp [liftE, encEn]
   refine AW.rE (by rfl) fun K hK => ?_
   simp -implicitDefEqProofs only [go_sem, ↓reduceIte, Nat.reduceAdd, Nat.reduceEqDiff, w1]
   apply hK; clear hK K
   refine ⟨i + 1, by omega, by omega, ?_⟩
   refine Ghost.ent (fun l => if l = 3 then 9 else l) ?_ ?_ ?_ <;> simp -implicitDefEqProofs only [go_sem, ↓reduceIte, Nat.reduceEqDiff, reduceCtorEq, e8, List.forall_mem_cons, List.not_mem_nil, false_implies, implies_true, and_self, map_renL_lift, labsIn_lift, List.all_cons, List.all_nil, Nat.reduceLT, labsInL, AV.labsIn]
 ·have hc1 : ((i : Int) < (t.ents.length : Int)) = False := by simp; omega
  have hi' : i = t.ents.length := by omega
  subst hi'
  refine AW.rT (by rfl) fun K hK => ?_
  simp -implicitDefEqProofs only [go_sem, ↓reduceIte, Nat.reduceAdd, Nat.reduceEqDiff, List.length_map, hc1]
  apply hK; clear hK K
  refine AW.cF rfl ?_
  refine AW.exit ?_
  simp only [andThen, inBlk, ↓reduceIte]
  refine AW.ghost (s' := tw t) (Ghost.trans (Ghost.freeze (lb := 3) (ps := (t.ents.take t.ents.length).map encEn) rfl (unlift_liftE _)) ?_) ?_
  ·simp only [tw]
   refine Ghost.sub ?_ ?_ <;> simp -implicitDefEqProofs only [go_sem, ↓reduceIte, Nat.reduceEqDiff, reduceCtorEq, thaw, thaw1, Option.map_some, List.take_length, List.map_cons, List.map_nil, List.forall_mem_cons, List.not_mem_nil, false_implies, implies_true, and_self, List.all_cons, List.all_nil, Nat.reduceLT, labsInL, AV.labsIn]
  simp only [tw]
  refine AW.rT (by rfl) fun K hK => ?_
  simp -implicitDefEqProofs only [go_sem, ↓reduceIte, Nat.reduceAdd, Nat.reduceEqDiff, Nat.reduceLeDiff]
  apply hK; clear hK K
  refine AW.ret ?_
  simp -implicitDefEqProofs only [go_sem, ↓reduceIte, Nat.reduceAdd, Nat.reduceEqDiff, Nat.reduceLeDiff, encTr_eq]
end Go.Aw.T
namespace Go.Aw.T
open Go.Proofs
mutual
def dT : Tr → Nat → Nat
 | .mk k _ _ es _, m => if k ≠ 3 ∨ m = 0 then 0 else dE es (m - 1) 0 + 1
def dE : List (Int × List Tr) → Nat → Nat → Nat
 | [], _, d => d
 | (_, l) :: r, m, d => dE r m (dTs l m d)
def dTs : List Tr → Nat → Nat → Nat
 | [], _, d => d
 | x :: l, m, d => dTs l m (max d (dT x m))
end
mutual
theorem dT_le : ∀ (t : Tr) (m : Nat), dT t m ≤ m
 | .mk k _ _ es _, m => by
  rw [dT]
  split
  ·omega
  ·rename_i h
   have := dE_le es (m - 1) 0
   omega
theorem dE_le : ∀ (es : List (Int × List Tr)) (m d : Nat), dE es m d ≤ max d m
 | [], m, d => by rw [dE]; omega
 | (_, l) :: r, m, d => by
  rw [dE]
  have h1 := dE_le r m (dTs l m d)
  have h2 := dTs_le l m d
  omega
theorem dTs_le : ∀ (l : List Tr) (m d : Nat), dTs l m d ≤ max d m
 | [], m, d => by rw [dTs]; omega
 | x :: l, m, d => by
  rw [dTs]
  have h1 := dTs_le l m (max d (dT x m))
  have h2 := dT_le x m
  omega
end
theorem dT_mk (t : Tr) (m : Nat) : dT t m = if t.kind ≠ 3 ∨ m = 0 then 0 else dE t.ents (m - 1) 0 + 1 := by
 cases t; rw [dT]; rfl
theorem dE_at {es : List (Int × List Tr)} {i : Nat} {e : Int × List Tr} (h : es[i]? = some e) (m d : Nat) : dE (es.drop i) m d = dE (es.drop (i + 1)) m (dTs e.2 m d) := by
 rw [List.drop_eq_getElem_cons (List.getElem?_eq_some_iff.1 h).1, (List.getElem?_eq_some_iff.1 h).2]
 obtain ⟨a, l⟩ := e
 rw [dE]
theorem dTs_at {l : List Tr} {k : Nat} {x : Tr} (h : l[k]? = some x) (m d : Nat) : dTs (l.drop k) m d = dTs (l.drop (k + 1)) m (max d (dT x m)) := by
 rw [List.drop_eq_getElem_cons (List.getElem?_eq_some_iff.1 h).1, (List.getElem?_eq_some_iff.1 h).2, dTs]
def dS (t : Tr) (m d : Nat) (l : List (Nat × AV)) : St := ⟨ofL ([(1, .p (.int .i64 (m : Int))), (2, .ptr 0 0 0), (5, .p (.int .i64 (d : Int)))] ++ l), ofH [(0, .row 5 [cellsT t])], 1⟩
theorem value_deep : ∀ (t : Tr) (m : Nat), lensT t = true → m ≤ 1000 → PFn Tryd.prog 128 [.agg (encTr t), .int .i64 (m : Int)] (.int .i64 (dT t m : Int)) := by
 intro t
 induction h : SizeOf.sizeOf t using Nat.strongRecOn generalizing t with
 | _ sz ih =>
 subst h
 intro m hlt hm
 obtain ⟨la1, la2, la3⟩ := lensT_mk hlt
 have sT := dT_mk t m
 refine PFn.of Tryd.func128 rfl (by decide) Tryd.ntmps128 Tryd.results128 (Nat.le_of_ble_eq_true rfl) ?_
 simp only [argsT]
 refine AW.rT (by rfl) fun K hK => ?_
 simp -implicitDefEqProofs only [go_sem, Nat.reduceAdd, encTr_eq]
 apply hK; clear hK K
 refine AW.seq ?_
 by_cases c1 : t.kind = 3
 case neg =>
  have b1 : (t.kind != 3) = true := by simpa using c1
  rw [if_pos (.inl c1)] at sT
  refine AW.rT (by rfl) fun K hK => ?_
  simp -implicitDefEqProofs only [go_sem, ↓reduceIte, Nat.reduceAdd, Nat.reduceEqDiff, b1]
  apply hK; clear hK K
  refine AW.cond _ (by simp -implicitDefEqProofs only [go_sem]; rfl) (fun hc => ?_) (fun hc => ?_)
  ·refine AW.rT (by rfl) fun K hK => ?_
   simp -implicitDefEqProofs only [go_sem, Nat.reduceAdd]
   apply hK; clear hK K
   refine AW.ret ?_
   simp -implicitDefEqProofs only [go_sem, sT]
   rfl
  ·simp at hc
 have b1 : (t.kind != 3) = false := by simpa using c1
 by_cases c2 : m = 0
 case pos =>
  have b2 : ((m : Int) == 0) = true := by simp; exact c2
  rw [if_pos (.inr c2)] at sT
  refine AW.rT (by rfl) fun K hK => ?_
  simp -implicitDefEqProofs only [go_sem, ↓reduceIte, Nat.reduceAdd, Nat.reduceEqDiff, b1, b2]
  apply hK; clear hK K
  refine AW.cond _ (by simp -implicitDefEqProofs only [go_sem]; rfl) (fun hc => ?_) (fun hc => ?_)
  ·refine AW.rT (by rfl) fun K hK => ?_
   simp -implicitDefEqProofs only [go_sem, Nat.reduceAdd]
   apply hK; clear hK K
   refine AW.ret ?_
   simp -implicitDefEqProofs only [go_sem, sT]
   rfl
  ·simp at hc
 have b2 : ((m : Int) == 0) = false := by simp; exact c2
 rw [if_neg (by omega)] at sT
 refine AW.rT (by rfl) fun K hK => ?_
 simp -implicitDefEqProofs only [go_sem, ↓reduceIte, Nat.reduceAdd, Nat.reduceEqDiff, b1, b2]
 apply hK; clear hK K
 refine AW.cF rfl ?_
 refine AW.skip ?_
 simp only [andThen]
 refine AW.rT (by rfl) fun K hK => ?_
 simp -implicitDefEqProofs only [go_sem, Nat.reduceAdd]
 apply hK; clear hK K
 refine AW.seq ?_
 refine AW.rT (by rfl) fun K hK => ?_
 simp -implicitDefEqProofs only [go_sem, ↓reduceIte, Nat.reduceAdd, Nat.reduceEqDiff, List.length_map]
 apply hK; clear hK K
 refine AW.block ?_
 refine AW.loop (fun x : Nat × Nat => dS t m x.2 [(18, .p (.slice (t.ents.map encEn))), (19, .p (.int .i64 (t.ents.length : Int))), (20, .p (.int .i64 (x.1 : Int)))]) (fun x => x.1 ≤ t.ents.length ∧ x.2 ≤ 1000 ∧ dE t.ents (m - 1) 0 = dE (t.ents.drop x.1) (m - 1) x.2) (fun x => t.ents.length - x.1) (0, 0) ?_ ⟨by simp, by simp, by rw [List.drop_zero]⟩ fun x hx => ?_
 ·simp only [dS, cellsT, List.cons_append, List.nil_append]
  refine Ghost.sub ?_ ?_ <;> simp -implicitDefEqProofs only [go_sem, ↓reduceIte, Nat.reduceEqDiff, List.forall_mem_cons, List.not_mem_nil, false_implies, implies_true, and_self, List.all_cons, List.all_nil, Nat.reduceLT, labsInL, AV.labsIn]
  rfl
 obtain ⟨i, d⟩ := x
 obtain ⟨e1, e2, e3⟩ := hx
 dsimp only at e1 e2 e3
 simp only [dS, cellsT, List.cons_append, List.nil_append]
 by_cases hil : i < t.ents.length
 case neg =>
  have hc1 : ((i : Int) < (t.ents.length : Int)) = False := by simp; omega
  rw [List.drop_of_length_le (by omega), dE] at e3
  refine AW.rT (by rfl) fun K hK => ?_
  simp -implicitDefEqProofs only [go_sem, ↓reduceIte, Nat.reduceAdd, Nat.reduceEqDiff, hc1]
  apply hK; clear hK K
  refine AW.seq ?_
  refine AW.cF rfl ?_
  refine AW.exit ?_
  simp only [andThen, inBlk, ↓reduceIte]
  have w1 : IntKind.wrap .i64 ((d : Int) + 1) = ((d + 1 : Nat) : Int) := by rw [w64] <;> omega
  refine AW.rT (by rfl) fun K hK => ?_
  simp -implicitDefEqProofs only [go_sem, ↓reduceIte, Nat.reduceAdd, Nat.reduceEqDiff, w1]
  apply hK; clear hK K
  refine AW.ret ?_
  simp -implicitDefEqProofs only [go_sem, sT, e3]
 obtain ⟨e, he⟩ : ∃ e, t.ents[i]? = some e := ⟨_, List.getElem?_eq_getElem hil⟩
 have ⟨he1, he2, he3⟩ := at_map' encEn he
 have ⟨le1, le2⟩ := lensE_at la3 he
 have hc1 : ((i : Int) < (t.ents.length : Int)) = True := by simp; omega
 have sE := dE_at he (m - 1) d
 refine AW.rT (by rfl) fun K hK => ?_
 simp -implicitDefEqProofs only [go_sem, ↓reduceIte, Nat.reduceAdd, Nat.reduceEqDiff, hc1]
 apply hK; clear hK K
 refine AW.seq ?_
 refine AW.cT rfl ?_
 refine AW.skip ?_
 simp only [andThen]
 refine AW.seq ?_
 refine AW.block ?_
 refine AW.rT (by rfl) fun K hK => ?_
 simp -implicitDefEqProofs only [go_sem, ↓reduceIte, Nat.reduceAdd, Nat.reduceEqDiff, Nat.reduceLeDiff, he1, he3, hc1, encEn, List.length_map]
 apply hK; clear hK K
 refine AW.rT (by rfl) fun K hK => ?_
 simp -implicitDefEqProofs only [go_sem, Nat.reduceAdd, List.length_map]
 apply hK; clear hK K
 refine AW.block ?_
 refine AW.loop (fun y : Nat × Nat => dS t m y.2 [(18, .p (.slice (t.ents.map encEn))), (19, .p (.int .i64 (t.ents.length : Int))), (20, .p (.int .i64 (i : Int))), (25, .p (.slice (e.2.map encTr))), (26, .p (.int .i64 (e.2.length : Int))), (27, .p (.int .i64 (y.1 : Int)))])
  (fun y => y.1 ≤ e.2.length ∧ y.2 ≤ 1000 ∧ dTs e.2 (m - 1) d = dTs (e.2.drop y.1) (m - 1) y.2) (fun y => e.2.length - y.1) (0, d) ?_ ⟨by simp, e2, by rw [List.drop_zero]⟩ fun y hy => ?_
 ·simp only [dS, cellsT, List.cons_append, List.nil_append]
  refine Ghost.sub ?_ ?_ <;> simp -implicitDefEqProofs only [go_sem, ↓reduceIte, Nat.reduceEqDiff, reduceCtorEq, List.forall_mem_cons, List.not_mem_nil, false_implies, implies_true, and_self, List.all_cons, List.all_nil, Nat.reduceLT, labsInL, AV.labsIn]
  rfl
 obtain ⟨k, d'⟩ := y
 obtain ⟨f1, f2, f3⟩ := hy
 dsimp only at f1 f2 f3
 simp only [dS, cellsT, List.cons_append, List.nil_append]
 by_cases hkl : k < e.2.length
 ·obtain ⟨x, hx⟩ : ∃ x, e.2[k]? = some x := ⟨_, List.getElem?_eq_getElem hkl⟩
  have ⟨hx1, hx2, hx3⟩ := at_map' encTr hx
  have hc2 : ((k : Int) < (e.2.length : Int)) = True := by simp; omega
  have sK := dTs_at hx (m - 1) d'
  have IH := ih _ (size_ent he hx) x rfl (m - 1) (lensTs_at le2 hx) (by omega)
  rw [encTr_eq] at IH
  have dl := dT_le x (m - 1)
  refine AW.rT (by rfl) fun K hK => ?_
  simp -implicitDefEqProofs only [go_sem, ↓reduceIte, Nat.reduceAdd, Nat.reduceEqDiff, hc2]
  apply hK; clear hK K
  refine AW.seq ?_
  refine AW.cT rfl ?_
  refine AW.skip ?_
  simp only [andThen]
  refine AW.seq ?_
  refine AW.block ?_
  refine AW.rT (by rfl) fun K hK => ?_
  simp -implicitDefEqProofs only [go_sem, ↓reduceIte, Nat.reduceAdd, Nat.reduceEqDiff, Nat.reduceLeDiff, hx1, hx3, hc2, encTr_eq, List.length_map]
  apply hK; clear hK K
  have wm : IntKind.wrap .i64 ((m : Int) - 1) = ((m - 1 : Nat) : Int) := by rw [w64] <;> omega
  refine AW.rE (by rfl) fun K hK => ?_
  simp -implicitDefEqProofs only [go_sem, ↓reduceIte, Nat.reduceAdd, Nat.reduceEqDiff, Nat.reduceLeDiff, wm]
  refine ⟨.pure _, IH, ?_⟩
  try simp -implicitDefEqProofs only [go_sem, ↓reduceIte, Nat.reduceAdd, Nat.reduceEqDiff]
  have wx : (if ((dT x (m - 1) : Nat) : Int) > (d' : Int) then ((dT x (m - 1) : Nat) : Int) else (d' : Int)) = ((max d' (dT x (m - 1)) : Nat) : Int) := by
   split <;> omega
  simp -implicitDefEqProofs only [go_sem, wx]
  apply hK; clear hK K
  simp only [andThen, inBlk]
  have w1 : IntKind.wrap .i64 ((k : Int) + 1) = ((k + 1 : Nat) : Int) := by rw [w64] <;> omega
  refine AW.rE (by rfl) fun K hK => ?_
  simp -implicitDefEqProofs only [go_sem, ↓reduceIte, Nat.reduceAdd, Nat.reduceEqDiff, w1]
  apply hK; clear hK K
  refine ⟨(k + 1, max d' (dT x (m - 1))), ⟨by show k + 1 ≤ e.2.length; omega, by show max d' (dT x (m - 1)) ≤ 1000; omega, f3.trans sK⟩, by show e.2.length - (k + 1) < e.2.length - k; omega, ?_⟩
  refine Ghost.sub ?_ ?_ <;> simp -implicitDefEqProofs only [go_sem, ↓reduceIte, Nat.reduceEqDiff, reduceCtorEq, List.forall_mem_cons, List.not_mem_nil, false_implies, implies_true, and_self, List.all_cons, List.all_nil, Nat.reduceLT, labsInL, AV.labsIn]
 ·have hc2 : ((k : Int) < (e.2.length : Int)) = False := by simp; omega
  rw [List.drop_of_length_le (by omega), dTs] at f3
  refine AW.rT (by rfl) fun K hK => ?_
  simp -implicitDefEqProofs only [go_sem, ↓reduceIte, Nat.reduceAdd, Nat.reduceEqDiff, hc2]
  apply hK; clear hK K
  refine AW.seq ?_
  refine AW.cF rfl ?_
  refine AW.exit ?_
  simp only [andThen, inBlk, ↓reduceIte]
  have w1 : IntKind.wrap .i64 ((i : Int) + 1) = ((i + 1 : Nat) : Int) := by rw [w64] <;> omega
  refine AW.rE (by rfl) fun K hK => ?_
  simp -implicitDefEqProofs only [go_sem, ↓reduceIte, Nat.reduceAdd, Nat.reduceEqDiff, w1]
  apply hK; clear hK K
  refine ⟨(i + 1, d'), ⟨by show i + 1 ≤ t.ents.length; omega, f2, by show _ = dE (t.ents.drop (i + 1)) (m - 1) d'; rw [e3, sE, f3]⟩, by show t.ents.length - (i + 1) < t.ents.length - i; omega, ?_⟩
  refine Ghost.sub ?_ ?_ <;> simp -implicitDefEqProofs only [go_sem, ↓reduceIte, Nat.reduceEqDiff, List.forall_mem_cons, List.not_mem_nil, false_implies, implies_true, and_self, List.all_cons, List.all_nil, Nat.reduceLT, labsInL, AV.labsIn]
theorem value_Depth (t : Tr) (hl : lensT t = true) : PFn Tryd.prog 96 [.agg (encTr t)] (.int .i64 (dT t 101 : Int)) := by
 have := value_deep t 101 hl (by decide)
 rw [encTr_eq] at this
 refine PFn.of Tryd.func96 rfl (by decide) Tryd.ntmps96 Tryd.results96 (Nat.le_of_ble_eq_true rfl) ?_
 simp only [argsT]
 refine AW.rT (by rfl) fun K hK => ?_
 simp -implicitDefEqProofs only [go_sem, Nat.reduceAdd, encTr_eq]
 apply hK; clear hK K
 refine AW.rT (by rfl) fun K hK => ?_
 simp -implicitDefEqProofs only [go_sem, ↓reduceIte, Nat.reduceAdd, Nat.reduceEqDiff, Nat.reduceLeDiff]
 refine ⟨.pure _, this, ?_⟩
 try simp -implicitDefEqProofs only [go_sem, Nat.reduceAdd]
 apply hK; clear hK K
 refine AW.ret ?_
 simp -implicitDefEqProofs only [go_sem]
end Go.Aw.T
namespace Go.Aw.T
open Go.Proofs
def headK : List Tr → Int
 | [] => 0
 | x :: _ => x.kind
def restT (es : List (Int × List Tr)) (rest : List Raw) : Bool := rest.all (fun r => checkR r && es.all (fun e => e.1 != r.tag)) && rising rest
mutual
def rightT : Tr → Bool
 | .mk k n s es rest => if k = 1 then decide (s = []) && es.isEmpty && decide (rest = []) else if k = 2 then decide (n = 0) && es.isEmpty && decide (rest = []) else if k = 3 then decide (n = 0) && decide (s = []) && rightE es 0 && restT es rest else false
def rightE : List (Int × List Tr) → Int → Bool
 | [], _ => true
 | (t, l) :: r, last => if t ≤ last ∨ 500 < t ∨ l.length < 1 ∨ 64 < l.length then false else if rightTs l (headK l) = true then rightE r t else false
def rightTs : List Tr → Int → Bool
 | [], _ => true
 | x :: l, k => if x.kind ≠ k then false else if rightT x = true then rightTs l k else false
end
theorem rightT_mk (t : Tr) : rightT t = if t.kind = 1 then decide (t.s = []) && t.ents.isEmpty && decide (t.rest = []) else if t.kind = 2 then decide (t.n = 0) && t.ents.isEmpty && decide (t.rest = []) else if t.kind = 3 then decide (t.n = 0) && decide (t.s = []) && rightE t.ents 0 && restT t.ents t.rest else false := by
 cases t; rw [rightT]; rfl
theorem rightE_at {es : List (Int × List Tr)} {i : Nat} {e : Int × List Tr} (h : es[i]? = some e) (last : Int) :
  rightE (es.drop i) last = if e.1 ≤ last ∨ 500 < e.1 ∨ e.2.length < 1 ∨ 64 < e.2.length then false else if rightTs e.2 (headK e.2) = true then rightE (es.drop (i + 1)) e.1 else false := by
 rw [List.drop_eq_getElem_cons (List.getElem?_eq_some_iff.1 h).1, (List.getElem?_eq_some_iff.1 h).2]
 obtain ⟨a, l⟩ := e
 rw [rightE]
theorem rightTs_at {l : List Tr} {k : Nat} {x : Tr} (h : l[k]? = some x) (c : Int) : rightTs (l.drop k) c = if x.kind ≠ c then false else if rightT x = true then rightTs (l.drop (k + 1)) c else false := by
 rw [List.drop_eq_getElem_cons (List.getElem?_eq_some_iff.1 h).1, (List.getElem?_eq_some_iff.1 h).2, rightTs]
def subOK (f : FuncId) (es : List (Int × List Tr)) : Prop := ∀ (i : Nat) e (k : Nat) x, es[i]? = some e → e.2[k]? = some x → PFn Tryd.prog f [.agg (encTr x)] (.bool (rightT x))
def eS (t : Tr) (i : Nat) (last : Int) : St := ⟨ofL [(1, .ptr 0 0 0), (3, .p (.int .i64 last)), (9, .p (.slice (t.ents.map encEn))), (10, .p (.int .i64 (t.ents.length : Int))), (11, .p (.int .i64 (i : Int)))], ofH [(0, .row 5 [cellsT t])], 1⟩
def eT (t : Tr) (i : Nat) (e : Int × List Tr) (k : Nat) : St := ⟨ofL [(1, .ptr 0 0 0), (3, .p (.int .i64 e.1)), (5, .ptr 1 0 0), (9, .p (.slice (t.ents.map encEn))), (10, .p (.int .i64 (t.ents.length : Int))), (11, .p (.int .i64 (i : Int))), (39, .p (.slice (e.2.map encTr))), (40, .p (.int .i64 (e.2.length : Int))), (41, .p (.int .i64 (k : Int)))],
 ofH [(0, .row 5 [cellsT t]), (1, .row 2 [[.p (.int .i64 e.1), .p (.slice (e.2.map encTr))]])], 2⟩
theorem value_entries (t : Tr) (hlt : lensT t = true) (ih : subOK 97 t.ents) : PFn Tryd.prog 129 [.agg (encTr t)] (.bool (rightE t.ents 0)) := by
 obtain ⟨la1, la2, la3⟩ := lensT_mk hlt
 refine PFn.of Tryd.func129 rfl (by decide) Tryd.ntmps129 Tryd.results129 (Nat.le_of_ble_eq_true rfl) ?_
 simp only [argsT]
 refine AW.rT (by rfl) fun K hK => ?_
 simp -implicitDefEqProofs only [go_sem, Nat.reduceAdd, encTr_eq]
 apply hK; clear hK K
 refine AW.rT (by rfl) fun K hK => ?_
 simp -implicitDefEqProofs only [go_sem, Nat.reduceAdd]
 apply hK; clear hK K
 refine AW.seq ?_
 refine AW.rT (by rfl) fun K hK => ?_
 simp -implicitDefEqProofs only [go_sem, ↓reduceIte, Nat.reduceAdd, Nat.reduceEqDiff, List.length_map]
 apply hK; clear hK K
 refine AW.block ?_
 refine AW.loop (fun x : Nat × Int => eS t x.1 x.2) (fun x => x.1 ≤ t.ents.length ∧ rightE t.ents 0 = rightE (t.ents.drop x.1) x.2) (fun x => t.ents.length - x.1) (0, 0) ?_ ⟨by simp, by rw [List.drop_zero]⟩ fun x hx => ?_
 ·simp only [eS, cellsT]
  refine Ghost.sub ?_ ?_ <;> simp -implicitDefEqProofs only [go_sem, ↓reduceIte, Nat.reduceEqDiff, List.forall_mem_cons, List.not_mem_nil, false_implies, implies_true, and_self, List.all_cons, List.all_nil, Nat.reduceLT, labsInL, AV.labsIn]
  rfl
 obtain ⟨i, last⟩ := x
 obtain ⟨e1, e2⟩ := hx
 dsimp only at e1 e2
 simp only [eS, cellsT]
 by_cases hil : i < t.ents.length
 case neg =>
  have hc1 : ((i : Int) < (t.ents.length : Int)) = False := by simp; omega
  rw [List.drop_of_length_le (by omega), rightE] at e2
  refine AW.rT (by rfl) fun K hK => ?_
  simp -implicitDefEqProofs only [go_sem, ↓reduceIte, Nat.reduceAdd, Nat.reduceEqDiff, hc1]
  apply hK; clear hK K
  refine AW.seq ?_
  refine AW.cF rfl ?_
  refine AW.exit ?_
  simp only [andThen, inBlk, ↓reduceIte]
  refine AW.rT (by rfl) fun K hK => ?_
  simp -implicitDefEqProofs only [go_sem, Nat.reduceAdd]
  apply hK; clear hK K
  refine AW.ret ?_
  simp -implicitDefEqProofs only [go_sem, e2]
 obtain ⟨e, he⟩ : ∃ e, t.ents[i]? = some e := ⟨_, List.getElem?_eq_getElem hil⟩
 have ⟨he1, he2, he3⟩ := at_map' encEn he
 have ⟨le1, le2⟩ := lensE_at la3 he
 have hc1 : ((i : Int) < (t.ents.length : Int)) = True := by simp; omega
 have sE := rightE_at he last
 refine AW.rT (by rfl) fun K hK => ?_
 simp -implicitDefEqProofs only [go_sem, ↓reduceIte, Nat.reduceAdd, Nat.reduceEqDiff, hc1]
 apply hK; clear hK K
 refine AW.seq ?_
 refine AW.cT rfl ?_
 refine AW.skip ?_
 simp only [andThen]
 refine AW.seq ?_
 refine AW.block ?_
 refine AW.rT (by rfl) fun K hK => ?_
 simp -implicitDefEqProofs only [go_sem, ↓reduceIte, Nat.reduceAdd, Nat.reduceEqDiff, Nat.reduceLeDiff, he1, he3, hc1, encEn, List.length_map]
 apply hK; clear hK K
 refine AW.seq ?_
 by_cases d1 : e.1 ≤ last
 ·rw [if_pos (.inl d1)] at sE
  have HH := e2.trans sE
  refine AW.rT (by rfl) fun K hK => ?_
  simp -implicitDefEqProofs only [go_sem, ↓reduceIte, Nat.reduceAdd, Nat.reduceEqDiff, d1]
  apply hK; clear hK K
  refine AW.cond _ (by simp -implicitDefEqProofs only [go_sem]; rfl) (fun hc => ?_) (fun hc => ?_)
  ·refine AW.rT (by rfl) fun K hK => ?_
   simp -implicitDefEqProofs only [go_sem, Nat.reduceAdd]
   apply hK; clear hK K
   refine AW.ret ?_
   simp -implicitDefEqProofs only [go_sem, HH]
  ·simp at hc
 by_cases d2 : 500 < e.1
 ·have b2 : (e.1 > 500) = True := by simp; omega
  rw [if_pos (.inr (.inl d2))] at sE
  have HH := e2.trans sE
  refine AW.rT (by rfl) fun K hK => ?_
  simp -implicitDefEqProofs only [go_sem, ↓reduceIte, Nat.reduceAdd, Nat.reduceEqDiff, d1, b2]
  apply hK; clear hK K
  refine AW.cond _ (by simp -implicitDefEqProofs only [go_sem]; rfl) (fun hc => ?_) (fun hc => ?_)
  ·refine AW.rT (by rfl) fun K hK => ?_
   simp -implicitDefEqProofs only [go_sem, Nat.reduceAdd]
   apply hK; clear hK K
   refine AW.ret ?_
   simp -implicitDefEqProofs only [go_sem, HH]
  ·simp at hc
 have b2 : (e.1 > 500) = False := by simp; omega
 by_cases d3 : e.2.length < 1
 ·have b3 : ((e.2.length : Int) < 1) = True := by simp; omega
  rw [if_pos (.inr (.inr (.inl d3)))] at sE
  have HH := e2.trans sE
  refine AW.rT (by rfl) fun K hK => ?_
  simp -implicitDefEqProofs only [go_sem, ↓reduceIte, Nat.reduceAdd, Nat.reduceEqDiff, d1, b2, b3, List.length_map]
  apply hK; clear hK K
  refine AW.cond _ (by simp -implicitDefEqProofs only [go_sem]; rfl) (fun hc => ?_) (fun hc => ?_)
  ·refine AW.rT (by rfl) fun K hK => ?_
   simp -implicitDefEqProofs only [go_sem, Nat.reduceAdd]
   apply hK; clear hK K
   refine AW.ret ?_
   simp -implicitDefEqProofs only [go_sem, HH]
  ·simp at hc
 have b3 : ((e.2.length : Int) < 1) = False := by simp; omega
 by_cases d4 : 64 < e.2.length
 ·have b4 : ((e.2.length : Int) > 64) = True := by simp; omega
  rw [if_pos (.inr (.inr (.inr d4)))] at sE
  have HH := e2.trans sE
  refine AW.rT (by rfl) fun K hK => ?_
  simp -implicitDefEqProofs only [go_sem, ↓reduceIte, Nat.reduceAdd, Nat.reduceEqDiff, d1, b2, b3, b4, List.length_map]
  apply hK; clear hK K
  refine AW.cond _ (by simp -implicitDefEqProofs only [go_sem]; rfl) (fun hc => ?_) (fun hc => ?_)
  ·refine AW.rT (by rfl) fun K hK => ?_
   simp -implicitDefEqProofs only [go_sem, Nat.reduceAdd]
   apply hK; clear hK K
   refine AW.ret ?_
   simp -implicitDefEqProofs only [go_sem, HH]
  ·simp at hc
 have b4 : ((e.2.length : Int) > 64) = False := by simp; omega
 rw [if_neg (by omega)] at sE
 refine AW.rT (by rfl) fun K hK => ?_
 simp -implicitDefEqProofs only [go_sem, ↓reduceIte, Nat.reduceAdd, Nat.reduceEqDiff, d1, b2, b3, b4, List.length_map]
 apply hK; clear hK K
 refine AW.cF rfl ?_
 refine AW.skip ?_
 simp only [andThen]
 refine AW.rT (by rfl) fun K hK => ?_
 simp -implicitDefEqProofs only [go_sem, ↓reduceIte, Nat.reduceAdd, Nat.reduceEqDiff]
 apply hK; clear hK K
 refine AW.rT (by rfl) fun K hK => ?_
 simp -implicitDefEqProofs only [go_sem, ↓reduceIte, Nat.reduceAdd, Nat.reduceEqDiff, List.length_map]
 apply hK; clear hK K
 refine AW.block ?_
 refine AW.loop (fun k : Nat => eT t i e k) (fun k => k ≤ e.2.length ∧ rightTs e.2 (headK e.2) = rightTs (e.2.drop k) (headK e.2)) (fun k => e.2.length - k) 0 ?_ ⟨by simp, by rw [List.drop_zero]⟩ fun k hk => ?_
 ·simp only [eT, cellsT]
  refine Ghost.ent (fun l => if l = 1 then 4 else l) ?_ ?_ ?_ <;> simp -implicitDefEqProofs only [go_sem, ↓reduceIte, Nat.reduceEqDiff, reduceCtorEq, List.forall_mem_cons, List.not_mem_nil, false_implies, implies_true, and_self, List.all_cons, List.all_nil, Nat.reduceLT, labsInL, AV.labsIn]
  rfl
 obtain ⟨f1, f2⟩ := hk
 simp only [eT, cellsT]
 obtain ⟨x0, hx0⟩ : ∃ x, e.2[0]? = some x := ⟨_, List.getElem?_eq_getElem (by omega)⟩
 have ⟨_, _, h03⟩ := at_map' encTr hx0
 have hk0 : headK e.2 = x0.kind := by
  cases hq : e.2 with
  | nil => rw [hq] at hx0; simp at hx0
  | cons y l => rw [hq] at hx0; simp at hx0; subst hx0; rfl
 rw [hk0] at f2 sE
 have hz : ((0 : Int) < (e.2.length : Int)) = True := by simp; omega
 have hz0 : ((0 : Int) ≤ 0) = True := by simp
 by_cases hkl : k < e.2.length
 ·obtain ⟨x, hx⟩ : ∃ x, e.2[k]? = some x := ⟨_, List.getElem?_eq_getElem hkl⟩
  have ⟨hx1, hx2, hx3⟩ := at_map' encTr hx
  have hc2 : ((k : Int) < (e.2.length : Int)) = True := by simp; omega
  have sK := rightTs_at hx x0.kind
  have IH := ih i e k x he hx
  rw [encTr_eq] at IH
  refine AW.rT (by rfl) fun K hK => ?_
  simp -implicitDefEqProofs only [go_sem, ↓reduceIte, Nat.reduceAdd, Nat.reduceEqDiff, hc2]
  apply hK; clear hK K
  refine AW.seq ?_
  refine AW.cT rfl ?_
  refine AW.skip ?_
  simp only [andThen]
  refine AW.seq ?_
  refine AW.block ?_
  refine AW.rT (by rfl) fun K hK => ?_
  simp -implicitDefEqProofs only [go_sem, ↓reduceIte, Nat.reduceAdd, Nat.reduceEqDiff, Nat.reduceLeDiff, hx1, hx3, hc2, encTr_eq, List.length_map]
  apply hK; clear hK K
  by_cases hkk : x.kind = x0.kind
  ·have bk : (x.kind != x0.kind) = false := by simpa using hkk
   rw [if_neg (by simpa using hkk)] at sK
   refine AW.dT mixed (by rfl) (by decide +kernel) fun K hK => ?_
   simp -implicitDefEqProofs only [go_sem, ↓reduceIte, Nat.reduceAdd, Nat.reduceEqDiff, Nat.reduceLeDiff, Int.reduceToNat, h03, hz, hz0, encTr_eq, List.length_map, bk]
   refine ⟨.pure _, IH, ?_⟩
   try simp -implicitDefEqProofs only [go_sem, ↓reduceIte, Nat.reduceAdd, Nat.reduceEqDiff]
   refine ⟨heapOK_nil rfl, ?_⟩
   apply hK; clear hK K
   cases hq : rightT x with
   | false =>
    rw [if_neg (by rw [hq]; simp)] at sK
    rw [if_neg (by rw [f2, sK]; simp)] at sE
    have HH := e2.trans sE
    refine AW.cond _ (by simp -implicitDefEqProofs only [go_sem]; rfl) (fun hc => ?_) (fun hc => ?_)
    ·refine AW.rT (by rfl) fun K hK => ?_
     simp -implicitDefEqProofs only [go_sem, Nat.reduceAdd]
     apply hK; clear hK K
     refine AW.ret ?_
     simp -implicitDefEqProofs only [go_sem, HH]
    ·simp at hc
   | true =>
    rw [if_pos hq] at sK
    refine AW.cF rfl ?_
    refine AW.skip ?_
    simp only [andThen, inBlk]
    have w1 : IntKind.wrap .i64 ((k : Int) + 1) = ((k + 1 : Nat) : Int) := by rw [w64] <;> omega
    refine AW.rE (by rfl) fun K hK => ?_
    simp -implicitDefEqProofs only [go_sem, ↓reduceIte, Nat.reduceAdd, Nat.reduceEqDiff, w1]
    apply hK; clear hK K
    refine ⟨k + 1, ⟨by omega, by rw [hk0]; exact f2.trans sK⟩, by omega, ?_⟩
    refine Ghost.sub ?_ ?_ <;> simp -implicitDefEqProofs only [go_sem, ↓reduceIte, Nat.reduceEqDiff, reduceCtorEq, List.forall_mem_cons, List.not_mem_nil, false_implies, implies_true, and_self, List.all_cons, List.all_nil, Nat.reduceLT, labsInL, AV.labsIn]
  ·have bk : (x.kind != x0.kind) = true := by simpa using hkk
   rw [if_pos hkk] at sK
   rw [if_neg (by rw [f2, sK]; simp)] at sE
   have HH := e2.trans sE
   refine AW.dT mixed (by rfl) (by decide +kernel) fun K hK => ?_
   simp -implicitDefEqProofs only [go_sem, ↓reduceIte, Nat.reduceAdd, Nat.reduceEqDiff, Int.reduceToNat, h03, hz, hz0, encTr_eq, List.length_map, bk]
   refine ⟨heapOK_nil rfl, ?_⟩
   apply hK; clear hK K
   refine AW.cond _ (by simp -implicitDefEqProofs only [go_sem]; rfl) (fun hc => ?_) (fun hc => ?_)
   ·refine AW.rT (by rfl) fun K hK => ?_
    simp -implicitDefEqProofs only [go_sem, Nat.reduceAdd]
    apply hK; clear hK K
    refine AW.ret ?_
    simp -implicitDefEqProofs only [go_sem, HH]
   ·simp at hc
 ·have hc2 : ((k : Int) < (e.2.length : Int)) = False := by simp; omega
  rw [List.drop_of_length_le (by omega), rightTs] at f2
  rw [if_pos f2] at sE
  refine AW.rT (by rfl) fun K hK => ?_
  simp -implicitDefEqProofs only [go_sem, ↓reduceIte, Nat.reduceAdd, Nat.reduceEqDiff, hc2]
  apply hK; clear hK K
  refine AW.seq ?_
  refine AW.cF rfl ?_
  refine AW.exit ?_
  simp only [andThen, inBlk, ↓reduceIte]
  have w1 : IntKind.wrap .i64 ((i : Int) + 1) = ((i + 1 : Nat) : Int) := by rw [w64] <;> omega
  refine AW.rE (by rfl) fun K hK => ?_
  simp -implicitDefEqProofs only [go_sem, ↓reduceIte, Nat.reduceAdd, Nat.reduceEqDiff, w1]
  apply hK; clear hK K
  refine ⟨(i + 1, e.1), ⟨by show i + 1 ≤ t.ents.length; omega, e2.trans sE⟩, by show t.ents.length - (i + 1) < t.ents.length - i; omega, ?_⟩
  refine Ghost.sub ?_ ?_ <;> simp -implicitDefEqProofs only [go_sem, ↓reduceIte, Nat.reduceEqDiff, List.forall_mem_cons, List.not_mem_nil, false_implies, implies_true, and_self, List.all_cons, List.all_nil, Nat.reduceLT, labsInL, AV.labsIn]
end Go.Aw.T
namespace Go.Aw.T
open Go.Proofs
def okRest (es : List (Int × List Tr)) (r : Raw) : Bool := checkR r && es.all (fun e => e.1 != r.tag)
theorem all_next {α : Type} {l : List α} {p : α → Bool} {k : Nat} {r : α} (h : l[k]? = some r) (ha : (l.take k).all p = true) (hr : p r = true) : (l.take (k + 1)).all p = true := by
 rw [List.take_add_one, h, List.all_append, ha]
 simp [hr]
theorem all_not {α : Type} {l : List α} {p : α → Bool} {k : Nat} {r : α} (h : l[k]? = some r) (hr : p r = false) : l.all p = false := by
 rw [List.all_eq_false]
 exact ⟨r, List.mem_of_getElem? h, by simp [hr]⟩
def hS1 (t : Tr) (i : Nat) : St := ⟨ofL [(1, .ptr 0 0 0), (8, .p (.slice (t.rest.map encRaw))), (9, .p (.int .i64 (t.rest.length : Int))), (10, .p (.int .i64 (i : Int)))], ofH [(0, .row 5 [cellsT t])], 1⟩
def hS2 (t : Tr) (i : Nat) (r : Raw) (k : Nat) : St := ⟨ofL [(1, .ptr 0 0 0), (4, .ptr 1 0 0), (8, .p (.slice (t.rest.map encRaw))), (9, .p (.int .i64 (t.rest.length : Int))), (10, .p (.int .i64 (i : Int))), (18, .p (.slice (t.ents.map encEn))), (19, .p (.int .i64 (t.ents.length : Int))), (20, .p (.int .i64 (k : Int)))],
 ofH [(0, .row 5 [cellsT t]), (1, .row 4 [[.p (.int .i64 r.tag), .p (.int .i64 r.wire), .p (.int .i64 r.n), .p (.str r.b)]])], 2⟩
theorem value_rest (t : Tr) (hlt : lensT t = true) : PFn Tryd.prog 130 [.agg (encTr t)] (.bool (restT t.ents t.rest)) := by
 obtain ⟨la1, la2, la3⟩ := lensT_mk hlt
 have hm : maxLen = 9223372036854775807 := by decide
 have RT : restT t.ents t.rest = (t.rest.all (okRest t.ents) && rising t.rest) := rfl
 refine PFn.of Tryd.func130 rfl (by decide) Tryd.ntmps130 Tryd.results130 (Nat.le_of_ble_eq_true rfl) ?_
 simp only [argsT]
 refine AW.rT (by rfl) fun K hK => ?_
 simp -implicitDefEqProofs only [go_sem, Nat.reduceAdd, encTr_eq]
 apply hK; clear hK K
 refine AW.seq ?_
 refine AW.rT (by rfl) fun K hK => ?_
 simp -implicitDefEqProofs only [go_sem, ↓reduceIte, Nat.reduceAdd, Nat.reduceEqDiff, List.length_map]
 apply hK; clear hK K
 refine AW.block ?_
 refine AW.loop (hS1 t) (fun i => i ≤ t.rest.length ∧ (t.rest.take i).all (okRest t.ents) = true) (fun i => t.rest.length - i) 0 ?_ (by simp) fun i hi => ?_
 ·simp only [hS1, cellsT]
  refine Ghost.sub ?_ ?_ <;> simp -implicitDefEqProofs only [go_sem, ↓reduceIte, Nat.reduceEqDiff, List.forall_mem_cons, List.not_mem_nil, false_implies, implies_true, and_self, List.all_cons, List.all_nil, Nat.reduceLT, labsInL, AV.labsIn]
  rfl
 obtain ⟨g1, g2⟩ := hi
 simp only [hS1, cellsT]
 by_cases hil : i < t.rest.length
 case neg =>
  have hc1 : ((i : Int) < (t.rest.length : Int)) = False := by simp; omega
  have hi' : i = t.rest.length := by omega
  subst hi'
  rw [List.take_length] at g2
  refine AW.rT (by rfl) fun K hK => ?_
  simp -implicitDefEqProofs only [go_sem, ↓reduceIte, Nat.reduceAdd, Nat.reduceEqDiff, hc1]
  apply hK; clear hK K
  refine AW.seq ?_
  refine AW.cF rfl ?_
  refine AW.exit ?_
  simp only [andThen, inBlk, ↓reduceIte]
  refine AW.rT (by rfl) fun K hK => ?_
  simp -implicitDefEqProofs only [go_sem, ↓reduceIte, Nat.reduceAdd, Nat.reduceEqDiff]
  refine ⟨.pure _, wire_Rising t.rest (by omega), ?_⟩
  try simp -implicitDefEqProofs only [go_sem, Nat.reduceAdd]
  apply hK; clear hK K
  refine AW.ret ?_
  simp -implicitDefEqProofs only [go_sem]
  rw [RT, g2, Bool.true_and]
 obtain ⟨r, hr⟩ : ∃ r, t.rest[i]? = some r := ⟨_, List.getElem?_eq_getElem hil⟩
 have ⟨hr1, hr2, hr3⟩ := at_map' encRaw hr
 have hc1 : ((i : Int) < (t.rest.length : Int)) = True := by simp; omega
 refine AW.rT (by rfl) fun K hK => ?_
 simp -implicitDefEqProofs only [go_sem, ↓reduceIte, Nat.reduceAdd, Nat.reduceEqDiff, hc1]
 apply hK; clear hK K
 refine AW.seq ?_
 refine AW.cT rfl ?_
 refine AW.skip ?_
 simp only [andThen]
 refine AW.seq ?_
 refine AW.block ?_
 refine AW.rT (by rfl) fun K hK => ?_
 simp -implicitDefEqProofs only [go_sem, ↓reduceIte, Nat.reduceAdd, Nat.reduceEqDiff, Nat.reduceLeDiff, hr1, hr3, hc1, encRaw, List.length_map]
 apply hK; clear hK K
 refine AW.seq ?_
 cases hcr : checkR r with
 | false =>
  have C1 : PFn Tryd.prog 147 [.agg (encRaw r)] (.bool false) := hcr ▸ wire_Check r
  have HH : restT t.ents t.rest = false := by rw [RT, all_not hr (by simp [okRest, hcr])]; rfl
  refine AW.rT (by rfl) fun K hK => ?_
  simp -implicitDefEqProofs only [go_sem, Nat.reduceAdd, Nat.reduceLeDiff]
  refine ⟨.pure _, C1, ?_⟩
  try simp -implicitDefEqProofs only [go_sem, Nat.reduceAdd]
  apply hK; clear hK K
  refine AW.cond _ (by simp -implicitDefEqProofs only [go_sem]; rfl) (fun hc => ?_) (fun hc => ?_)
  ·refine AW.rT (by rfl) fun K hK => ?_
   simp -implicitDefEqProofs only [go_sem, Nat.reduceAdd]
   apply hK; clear hK K
   refine AW.ret ?_
   simp -implicitDefEqProofs only [go_sem, HH]
  ·simp at hc
 | true =>
 have C1 : PFn Tryd.prog 147 [.agg (encRaw r)] (.bool true) := hcr ▸ wire_Check r
 refine AW.rT (by rfl) fun K hK => ?_
 simp -implicitDefEqProofs only [go_sem, Nat.reduceAdd, Nat.reduceLeDiff]
 refine ⟨.pure _, C1, ?_⟩
 try simp -implicitDefEqProofs only [go_sem, Nat.reduceAdd]
 apply hK; clear hK K
 refine AW.cF rfl ?_
 refine AW.skip ?_
 simp only [andThen]
 refine AW.rT (by rfl) fun K hK => ?_
 simp -implicitDefEqProofs only [go_sem, ↓reduceIte, Nat.reduceAdd, Nat.reduceEqDiff, reduceCtorEq, List.length_map]
 apply hK; clear hK K
 refine AW.block ?_
 refine AW.loop (fun k : Nat => hS2 t i r k) (fun k => k ≤ t.ents.length ∧ (t.ents.take k).all (fun e => e.1 != r.tag) = true) (fun k => t.ents.length - k) 0 ?_ (by simp) fun k hk => ?_
 ·simp only [hS2, cellsT]
  refine Ghost.ent (fun l => if l = 1 then 4 else l) ?_ ?_ ?_ <;> simp -implicitDefEqProofs only [go_sem, ↓reduceIte, Nat.reduceEqDiff, reduceCtorEq, List.forall_mem_cons, List.not_mem_nil, false_implies, implies_true, and_self, List.all_cons, List.all_nil, Nat.reduceLT, labsInL, AV.labsIn]
  rfl
 obtain ⟨k1, k2⟩ := hk
 simp only [hS2, cellsT]
 by_cases hkl : k < t.ents.length
 ·obtain ⟨e, he⟩ : ∃ e, t.ents[k]? = some e := ⟨_, List.getElem?_eq_getElem hkl⟩
  have ⟨he1, he2, he3⟩ := at_map' encEn he
  have hc2 : ((k : Int) < (t.ents.length : Int)) = True := by simp; omega
  refine AW.rT (by rfl) fun K hK => ?_
  simp -implicitDefEqProofs only [go_sem, ↓reduceIte, Nat.reduceAdd, Nat.reduceEqDiff, hc2]
  apply hK; clear hK K
  refine AW.seq ?_
  refine AW.cT rfl ?_
  refine AW.skip ?_
  simp only [andThen]
  refine AW.seq ?_
  refine AW.block ?_
  refine AW.rT (by rfl) fun K hK => ?_
  simp -implicitDefEqProofs only [go_sem, ↓reduceIte, Nat.reduceAdd, Nat.reduceEqDiff, Nat.reduceLeDiff, he1, he3, hc2, encEn, List.length_map]
  apply hK; clear hK K
  by_cases heq : e.1 = r.tag
  ·have b1 : (e.1 == r.tag) = true := by simpa using heq
   have HH : restT t.ents t.rest = false := by
    rw [RT, all_not hr (by simp only [okRest]; rw [all_not he (by simpa using heq)]; simp)]; rfl
   refine AW.rT (by rfl) fun K hK => ?_
   simp -implicitDefEqProofs only [go_sem, ↓reduceIte, Nat.reduceAdd, Nat.reduceEqDiff, b1]
   apply hK; clear hK K
   refine AW.cond _ (by simp -implicitDefEqProofs only [go_sem]; rfl) (fun hc => ?_) (fun hc => ?_)
   ·refine AW.rT (by rfl) fun K hK => ?_
    simp -implicitDefEqProofs only [go_sem, Nat.reduceAdd]
    apply hK; clear hK K
    refine AW.ret ?_
    simp -implicitDefEqProofs only [go_sem, HH]
   ·simp at hc
  ·have b1 : (e.1 == r.tag) = false := beqf heq
   refine AW.rT (by rfl) fun K hK => ?_
   simp -implicitDefEqProofs only [go_sem, ↓reduceIte, Nat.reduceAdd, Nat.reduceEqDiff, b1]
   apply hK; clear hK K
   refine AW.cF rfl ?_
   refine AW.skip ?_
   simp only [andThen, inBlk]
   have w1 : IntKind.wrap .i64 ((k : Int) + 1) = ((k + 1 : Nat) : Int) := by rw [w64] <;> omega
   refine AW.rE (by rfl) fun K hK => ?_
   simp -implicitDefEqProofs only [go_sem, ↓reduceIte, Nat.reduceAdd, Nat.reduceEqDiff, w1]
   apply hK; clear hK K
   refine ⟨k + 1, ⟨by omega, all_next he k2 (by simpa using heq)⟩, by omega, ?_⟩
   refine Ghost.sub ?_ ?_ <;> simp -implicitDefEqProofs only [go_sem, ↓reduceIte, Nat.reduceEqDiff, reduceCtorEq, List.forall_mem_cons, List.not_mem_nil, false_implies, implies_true, and_self, List.all_cons, List.all_nil, Nat.reduceLT, labsInL, AV.labsIn]
 ·have hc2 : ((k : Int) < (t.ents.length : Int)) = False := by simp; omega
  have hk' : k = t.ents.length := by omega
  subst hk'
  rw [List.take_length] at k2
  refine AW.rT (by rfl) fun K hK => ?_
  simp -implicitDefEqProofs only [go_sem, ↓reduceIte, Nat.reduceAdd, Nat.reduceEqDiff, hc2]
  apply hK; clear hK K
  refine AW.seq ?_
  refine AW.cF rfl ?_
  refine AW.exit ?_
  simp only [andThen, inBlk, ↓reduceIte]
  have w1 : IntKind.wrap .i64 ((i : Int) + 1) = ((i + 1 : Nat) : Int) := by rw [w64] <;> omega
  refine AW.rE (by rfl) fun K hK => ?_
  simp -implicitDefEqProofs only [go_sem, ↓reduceIte, Nat.reduceAdd, Nat.reduceEqDiff, w1]
  apply hK; clear hK K
  refine ⟨i + 1, ⟨by omega, all_next hr g2 (by simp only [okRest]; rw [hcr, k2]; rfl)⟩, by omega, ?_⟩
  refine Ghost.sub ?_ ?_ <;> simp -implicitDefEqProofs only [go_sem, ↓reduceIte, Nat.reduceEqDiff, List.forall_mem_cons, List.not_mem_nil, false_implies, implies_true, and_self, List.all_cons, List.all_nil, Nat.reduceLT, labsInL, AV.labsIn]
theorem value_right : ∀ (t : Tr), lensT t = true → PFn Tryd.prog 97 [.agg (encTr t)] (.bool (rightT t)) := by
 intro t
 induction h : SizeOf.sizeOf t using Nat.strongRecOn generalizing t with
 | _ sz ih =>
 subst h
 intro hlt
 obtain ⟨la1, la2, la3⟩ := lensT_mk hlt
 have sT := rightT_mk t
 have E1 := value_entries t hlt fun i e k x he hx => ih _ (size_ent he hx) x rfl (lensTs_at (lensE_at la3 he).2 hx)
 have E2 := value_rest t hlt
 rw [encTr_eq] at E1 E2
 have z1 : ((t.ents.length : Int) == 0) = t.ents.isEmpty := by cases t.ents <;> simp; omega
 have z2 : ((t.rest.length : Int) == 0) = decide (t.rest = []) := by cases t.rest <;> simp; omega
 refine PFn.of Tryd.func97 rfl (by decide) Tryd.ntmps97 Tryd.results97 (Nat.le_of_ble_eq_true rfl) ?_
 simp only [argsT]
 refine AW.rT (by rfl) fun K hK => ?_
 simp -implicitDefEqProofs only [go_sem, Nat.reduceAdd, encTr_eq]
 apply hK; clear hK K
 refine AW.seq ?_
 refine AW.rT (by rfl) fun K hK => ?_
 simp -implicitDefEqProofs only [go_sem, ↓reduceIte, Nat.reduceAdd, Nat.reduceEqDiff]
 apply hK; clear hK K
 refine AW.block ?_
 by_cases c1 : t.kind = 1
 ·have b1 : (t.kind == 1) = true := by simpa using c1
  rw [if_pos c1] at sT
  refine AW.rT (by rfl) fun K hK => ?_
  simp -implicitDefEqProofs only [go_sem, ↓reduceIte, Nat.reduceAdd, b1]
  apply hK; clear hK K
  refine AW.cT rfl ?_
  cases hs : decide (t.s = []) <;> cases hz : t.ents.isEmpty
  all_goals
   rw [hs, hz] at sT
   have b2 : (t.s == []) = decide (t.s = []) := by cases t.s <;> simp
   refine AW.rT (by rfl) fun K hK => ?_
   try simp -implicitDefEqProofs only [go_sem, ↓reduceIte, Nat.reduceAdd, Nat.reduceEqDiff, b2, hs, z1, hz, z2, List.length_map]
   apply hK; clear hK K
   refine AW.ret ?_
   try simp -implicitDefEqProofs only [go_sem, sT, Bool.false_and, Bool.true_and]
 ·have b1 : (t.kind == 1) = false := beqf c1
  rw [if_neg c1] at sT
  refine AW.rT (by rfl) fun K hK => ?_
  simp -implicitDefEqProofs only [go_sem, ↓reduceIte, Nat.reduceAdd, b1]
  apply hK; clear hK K
  refine AW.cF rfl ?_
  by_cases c2 : t.kind = 2
  ·have b1 : (t.kind == 2) = true := by simpa using c2
   have hq : (t.n == 0) = decide (t.n = 0) := by by_cases h : t.n = 0 <;> simp [h]
   rw [if_pos c2] at sT
   refine AW.rT (by rfl) fun K hK => ?_
   simp -implicitDefEqProofs only [go_sem, ↓reduceIte, Nat.reduceAdd, Nat.reduceEqDiff, b1]
   apply hK; clear hK K
   refine AW.cT rfl ?_
   cases hs : decide (t.n = 0) <;> cases hz : t.ents.isEmpty
   all_goals
    rw [hs, hz] at sT
    refine AW.rT (by rfl) fun K hK => ?_
    try simp -implicitDefEqProofs only [go_sem, ↓reduceIte, Nat.reduceAdd, Nat.reduceEqDiff, hq, hs, z1, hz, z2, List.length_map]
    apply hK; clear hK K
    refine AW.ret ?_
    try simp -implicitDefEqProofs only [go_sem, sT, Bool.false_and, Bool.true_and]
  ·have b1 : (t.kind == 2) = false := beqf c2
   rw [if_neg c2] at sT
   refine AW.rT (by rfl) fun K hK => ?_
   simp -implicitDefEqProofs only [go_sem, ↓reduceIte, Nat.reduceAdd, Nat.reduceEqDiff, b1]
   apply hK; clear hK K
   refine AW.cF rfl ?_
   by_cases c3 : t.kind = 3
   ·have b1 : (t.kind == 3) = true := by simpa using c3
    have hq : (t.n == 0) = decide (t.n = 0) := by by_cases h : t.n = 0 <;> simp [h]
    have b2 : (t.s == []) = decide (t.s = []) := by cases t.s <;> simp
    rw [if_pos c3] at sT
    refine AW.rT (by rfl) fun K hK => ?_
    simp -implicitDefEqProofs only [go_sem, ↓reduceIte, Nat.reduceAdd, Nat.reduceEqDiff, b1]
    apply hK; clear hK K
    refine AW.cT rfl ?_
    cases hn : decide (t.n = 0)
    ·rw [hn] at sT
     refine AW.rT (by rfl) fun K hK => ?_
     try simp -implicitDefEqProofs only [go_sem, ↓reduceIte, Nat.reduceAdd, Nat.reduceEqDiff, hq, hn]
     apply hK; clear hK K
     refine AW.ret ?_
     try simp -implicitDefEqProofs only [go_sem, sT, Bool.false_and]
    cases hs : decide (t.s = [])
    ·rw [hn, hs] at sT
     refine AW.rT (by rfl) fun K hK => ?_
     try simp -implicitDefEqProofs only [go_sem, ↓reduceIte, Nat.reduceAdd, Nat.reduceEqDiff, hq, hn, b2, hs]
     apply hK; clear hK K
     refine AW.ret ?_
     try simp -implicitDefEqProofs only [go_sem, sT, Bool.false_and, Bool.true_and]
    cases he : rightE t.ents 0
    ·rw [hn, hs, he] at sT
     rw [he] at E1
     refine AW.rT (by rfl) fun K hK => ?_
     try simp -implicitDefEqProofs only [go_sem, ↓reduceIte, Nat.reduceAdd, Nat.reduceEqDiff, Nat.reduceLeDiff, hq, hn, b2, hs]
     refine ⟨.pure _, E1, ?_⟩
     try simp -implicitDefEqProofs only [go_sem, ↓reduceIte, Nat.reduceAdd, Nat.reduceEqDiff]
     apply hK; clear hK K
     refine AW.ret ?_
     try simp -implicitDefEqProofs only [go_sem, sT, Bool.false_and, Bool.true_and]
    ·rw [hn, hs, he] at sT
     rw [he] at E1
     refine AW.rT (by rfl) fun K hK => ?_
     try simp -implicitDefEqProofs only [go_sem, ↓reduceIte, Nat.reduceAdd, Nat.reduceEqDiff, Nat.reduceLeDiff, hq, hn, b2, hs]
     refine ⟨.pure _, E1, ?_⟩
     try simp -implicitDefEqProofs only [go_sem, ↓reduceIte, Nat.reduceAdd, Nat.reduceEqDiff, Nat.reduceLeDiff]
     refine ⟨.pure _, E2, ?_⟩
     try simp -implicitDefEqProofs only [go_sem, ↓reduceIte, Nat.reduceAdd, Nat.reduceEqDiff]
     apply hK; clear hK K
     refine AW.ret ?_
     try simp -implicitDefEqProofs only [go_sem, sT, Bool.true_and]
   ·have b1 : (t.kind == 3) = false := beqf c3
    rw [if_neg c3] at sT
    refine AW.rT (by rfl) fun K hK => ?_
    simp -implicitDefEqProofs only [go_sem, ↓reduceIte, Nat.reduceAdd, Nat.reduceEqDiff, b1]
    apply hK; clear hK K
    refine AW.cF rfl ?_
    refine AW.skip ?_
    simp only [andThen, inBlk]
    refine AW.rT (by rfl) fun K hK => ?_
    simp -implicitDefEqProofs only [go_sem, Nat.reduceAdd]
    apply hK; clear hK K
    refine AW.ret ?_
    simp -implicitDefEqProofs only [go_sem, sT]
def okT (t : Tr) : Bool := decide (dT t 101 ≤ 10) && rightT t
theorem value_Check (t : Tr) (hlt : lensT t = true) : PFn Tryd.prog 63 [.agg (encTr t)] (.bool (okT t)) := by
 have E1 := value_Depth t hlt
 have E2 := value_right t hlt
 rw [encTr_eq] at E1 E2
 have hd : ((dT t 101 : Int) ≤ 10) = (dT t 101 ≤ 10) := by simp; omega
 refine PFn.of Tryd.func63 rfl (by decide) Tryd.ntmps63 Tryd.results63 (Nat.le_of_ble_eq_true rfl) ?_
 simp only [argsT]
 refine AW.rT (by rfl) fun K hK => ?_
 simp -implicitDefEqProofs only [go_sem, Nat.reduceAdd, encTr_eq]
 apply hK; clear hK K
 cases hc : decide (dT t 101 ≤ 10)
 ·refine AW.rT (by rfl) fun K hK => ?_
  try simp -implicitDefEqProofs only [go_sem, ↓reduceIte, Nat.reduceAdd, Nat.reduceEqDiff, Nat.reduceLeDiff]
  refine ⟨.pure _, E1, ?_⟩
  try simp -implicitDefEqProofs only [go_sem, ↓reduceIte, Nat.reduceAdd, Nat.reduceEqDiff, hd, hc]
  apply hK; clear hK K
  refine AW.ret ?_
  try simp -implicitDefEqProofs only [go_sem, okT, hc, Bool.false_and]
 ·refine AW.rT (by rfl) fun K hK => ?_
  try simp -implicitDefEqProofs only [go_sem, ↓reduceIte, Nat.reduceAdd, Nat.reduceEqDiff, Nat.reduceLeDiff]
  refine ⟨.pure _, E1, ?_⟩
  try simp -implicitDefEqProofs only [go_sem, ↓reduceIte, Nat.reduceAdd, Nat.reduceEqDiff, Nat.reduceLeDiff, hd, hc]
  refine ⟨.pure _, E2, ?_⟩
  try simp -implicitDefEqProofs only [go_sem, ↓reduceIte, Nat.reduceAdd, Nat.reduceEqDiff]
  apply hK; clear hK K
  refine AW.ret ?_
  try simp -implicitDefEqProofs only [go_sem, okT, hc, Bool.true_and]
end Go.Aw.T
namespace Go.Aw.T
open Go.Proofs
end Go.Aw.T
namespace Go.Aw.T
open Go.Proofs
def qE (l l' : List Raw) (i : Nat) : St := ⟨ofL [(0, .p (.slice (l.map encRaw))), (1, .p (.slice (l'.map encRaw))), (12, .p (.int .i64 (l.length : Int))), (13, .p (.int .i64 (i : Int)))], ofH [], 0⟩
end Go.Aw.T
namespace Go.Aw
open Go.Proofs
def st26 (s : Sc) (k : List UInt8) (i : Nat) : St := ⟨ofL [(1, .p (.str k)), (2, .ptr 0 0 0), (4, .ptr 1 0 0), (9, .p (.slice (s.msgs.map encMs))), (10, .p (.int .i64 (s.msgs.length : Int))), (11, .p (.int .i64 (i : Int)))], ofH [(0, .row 4 [cellsSc s]), (1, .row 3 [[.p (.str []), .ex [], .ex []]])], 2⟩
theorem check_Message (s : Sc) (k : List UInt8) (hl : s.msgs.length ≤ 1000000) : PFn Tryd.prog 62 [.agg (encSc s), .str k] (.tuple [.agg (encMs (firstP (fun x => x.name == k) zMs s.msgs).1), .bool (firstP (fun x => x.name == k) zMs s.msgs).2]) := by
 refine PFn.of Tryd.func62 rfl (by decide) Tryd.ntmps62 Tryd.results62 (Nat.le_of_ble_eq_true rfl) ?_
 simp only [argsT, encSc]
 refine AW.rT (by rfl) fun K hK => ?_
 simp -implicitDefEqProofs only [go_sem, Nat.reduceAdd]
 apply hK; clear hK K
 refine AW.seq ?_
 refine AW.rT (by rfl) fun K hK => ?_
 simp -implicitDefEqProofs only [go_sem, ↓reduceIte, Nat.reduceAdd, Nat.reduceEqDiff, reduceCtorEq, List.length_map]
 apply hK; clear hK K
 refine AW.block ?_
 refine AW.loop (st26 s k) (fun i => i ≤ s.msgs.length ∧ (s.msgs.take i).all (fun x => !(x.name == k)) = true) (fun i => s.msgs.length - i) 0 ?_ (by simp) fun i hi => ?_
 ·simp only [st26, cellsSc]
  refine Ghost.sub ?_ ?_ <;> simp -implicitDefEqProofs only [go_sem, ↓reduceIte, Nat.reduceEqDiff, reduceCtorEq, List.forall_mem_cons, List.not_mem_nil, false_implies, implies_true, and_self, List.all_cons, List.all_nil, Nat.reduceLT, labsInL, AV.labsIn]
  rfl
 obtain ⟨g1, g2⟩ := hi
 simp only [st26, cellsSc]
 by_cases hil : i < s.msgs.length
 case neg =>
  have hc1 : ((i : Int) < (s.msgs.length : Int)) = False := by simp; omega
  rw [List.take_of_length_le (by omega)] at g2
  have FF := first_not (z := zMs) g2
  refine AW.rT (by rfl) fun K hK => ?_
  simp -implicitDefEqProofs only [go_sem, ↓reduceIte, Nat.reduceAdd, Nat.reduceEqDiff, hc1]
  apply hK; clear hK K
  refine AW.seq ?_
  refine AW.cF rfl ?_
  refine AW.exit ?_
  simp only [andThen, inBlk, ↓reduceIte]
  refine AW.rT (by rfl) fun K hK => ?_
  simp -implicitDefEqProofs only [go_sem, ↓reduceIte, Nat.reduceAdd, Nat.reduceEqDiff, Nat.reduceLeDiff]
  apply hK; clear hK K
  refine AW.ret ?_
  simp -implicitDefEqProofs only [go_sem, ↓reduceIte, Nat.reduceAdd, Nat.reduceEqDiff, Nat.reduceLeDiff, FF]
  rfl
 obtain ⟨e, he⟩ : ∃ e, s.msgs[i]? = some e := ⟨_, List.getElem?_eq_getElem hil⟩
 have ⟨he1, he2, he3⟩ := at_map' encMs he
 have hc1 : ((i : Int) < (s.msgs.length : Int)) = True := by simp; omega
 refine AW.rT (by rfl) fun K hK => ?_
 simp -implicitDefEqProofs only [go_sem, ↓reduceIte, Nat.reduceAdd, Nat.reduceEqDiff, hc1]
 apply hK; clear hK K
 refine AW.seq ?_
 refine AW.cT rfl ?_
 refine AW.skip ?_
 simp only [andThen]
 refine AW.seq ?_
 refine AW.block ?_
 refine AW.rT (by rfl) fun K hK => ?_
 simp -implicitDefEqProofs only [go_sem, ↓reduceIte, Nat.reduceAdd, Nat.reduceEqDiff, Nat.reduceLeDiff, he1, he3, hc1, encMs, List.length_map]
 apply hK; clear hK K
 cases hk : (e.name == k) with
 | true =>
  have FF := first_at (z := zMs) he g2 hk
  refine AW.rT (by rfl) fun K hK => ?_
  simp -implicitDefEqProofs only [go_sem, ↓reduceIte, Nat.reduceAdd, Nat.reduceEqDiff, hk]
  apply hK; clear hK K
  refine AW.cT rfl ?_
  refine AW.rT (by rfl) fun K hK => ?_
  simp -implicitDefEqProofs only [go_sem, ↓reduceIte, Nat.reduceAdd, Nat.reduceEqDiff, Nat.reduceLeDiff]
  apply hK; clear hK K
  refine AW.ret ?_
  simp -implicitDefEqProofs only [go_sem, ↓reduceIte, Nat.reduceAdd, Nat.reduceEqDiff, Nat.reduceLeDiff, FF, encMs]
 | false =>
  refine AW.rT (by rfl) fun K hK => ?_
  simp -implicitDefEqProofs only [go_sem, ↓reduceIte, Nat.reduceAdd, Nat.reduceEqDiff, hk]
  apply hK; clear hK K
  refine AW.cF rfl ?_
  refine AW.skip ?_
  simp only [andThen, inBlk]
  have w1 : IntKind.wrap .i64 ((i : Int) + 1) = ((i + 1 : Nat) : Int) := by rw [w64] <;> omega
  refine AW.rE (by rfl) fun K hK => ?_
  simp -implicitDefEqProofs only [go_sem, ↓reduceIte, Nat.reduceAdd, Nat.reduceEqDiff, w1]
  apply hK; clear hK K
  refine ⟨i + 1, ⟨by omega, all_next he g2 (by rw [hk]; rfl)⟩, by omega, ?_⟩
  refine Ghost.sub ?_ ?_ <;> simp -implicitDefEqProofs only [go_sem, ↓reduceIte, Nat.reduceEqDiff, reduceCtorEq, List.forall_mem_cons, List.not_mem_nil, false_implies, implies_true, and_self, List.all_cons, List.all_nil, Nat.reduceLT, labsInL, AV.labsIn]
def st30 (s : Sc) (k : List UInt8) (i : Nat) : St := ⟨ofL [(1, .p (.str k)), (2, .ptr 0 0 0), (4, .ptr 1 0 0), (6, .p (.int .i64 (i : Int)))], ofH [(0, .row 4 [cellsSc s]), (1, .row 3 [[.p (.str []), .ex [], .ex []]])], 2⟩
theorem ref07_Message (s : Sc) (k : List UInt8) (hl : s.msgs.length ≤ 1000000) : PFn Tryd.prog 55 [.agg (encSc s), .str k] (.tuple [.agg (encMs (firstP (fun x => x.name == k) zMs s.msgs).1), .bool (firstP (fun x => x.name == k) zMs s.msgs).2]) := by
 refine PFn.of Tryd.func55 rfl (by decide) Tryd.ntmps55 Tryd.results55 (Nat.le_of_ble_eq_true rfl) ?_
 simp only [argsT, encSc]
 refine AW.rT (by rfl) fun K hK => ?_
 simp -implicitDefEqProofs only [go_sem, Nat.reduceAdd]
 apply hK; clear hK K
 refine AW.seq ?_
 refine AW.rT (by rfl) fun K hK => ?_
 simp -implicitDefEqProofs only [go_sem, Nat.reduceAdd]
 apply hK; clear hK K
 refine AW.block ?_
 refine AW.loop (st30 s k) (fun i => i ≤ s.msgs.length ∧ (s.msgs.take i).all (fun x => !(x.name == k)) = true) (fun i => s.msgs.length - i) 0 ?_ (by simp) fun i hi => ?_
 ·simp only [st30, cellsSc]
  refine Ghost.sub ?_ ?_ <;> simp -implicitDefEqProofs only [go_sem, ↓reduceIte, Nat.reduceEqDiff, reduceCtorEq, List.forall_mem_cons, List.not_mem_nil, false_implies, implies_true, and_self, List.all_cons, List.all_nil, Nat.reduceLT, labsInL, AV.labsIn]
  rfl
 obtain ⟨g1, g2⟩ := hi
 simp only [st30, cellsSc]
 refine AW.seq ?_
 by_cases hil : i < s.msgs.length
 case neg =>
  have hc1 : ((i : Int) < (s.msgs.length : Int)) = False := by simp; omega
  rw [List.take_of_length_le (by omega)] at g2
  have FF := first_not (z := zMs) g2
  refine AW.rT (by rfl) fun K hK => ?_
  simp -implicitDefEqProofs only [go_sem, ↓reduceIte, Nat.reduceAdd, Nat.reduceEqDiff, hc1, List.length_map]
  apply hK; clear hK K
  refine AW.cF rfl ?_
  refine AW.exit ?_
  simp only [andThen, inBlk, ↓reduceIte]
  refine AW.rT (by rfl) fun K hK => ?_
  simp -implicitDefEqProofs only [go_sem, ↓reduceIte, Nat.reduceAdd, Nat.reduceEqDiff, Nat.reduceLeDiff]
  apply hK; clear hK K
  refine AW.ret ?_
  simp -implicitDefEqProofs only [go_sem, ↓reduceIte, Nat.reduceAdd, Nat.reduceEqDiff, Nat.reduceLeDiff, FF]
  rfl
 obtain ⟨e, he⟩ : ∃ e, s.msgs[i]? = some e := ⟨_, List.getElem?_eq_getElem hil⟩
 have ⟨he1, he2, he3⟩ := at_map' encMs he
 have hc1 : ((i : Int) < (s.msgs.length : Int)) = True := by simp; omega
 refine AW.rT (by rfl) fun K hK => ?_
 simp -implicitDefEqProofs only [go_sem, ↓reduceIte, Nat.reduceAdd, Nat.reduceEqDiff, hc1, List.length_map]
 apply hK; clear hK K
 refine AW.cT rfl ?_
 refine AW.skip ?_
 simp only [andThen]
 refine AW.seq ?_
 refine AW.block ?_
 cases hk : (e.name == k) with
 | true =>
  have FF := first_at (z := zMs) he g2 hk
  refine AW.rT (by rfl) fun K hK => ?_
  simp -implicitDefEqProofs only [go_sem, ↓reduceIte, Nat.reduceAdd, Nat.reduceEqDiff, he1, he3, hc1, encMs, List.length_map, hk]
  apply hK; clear hK K
  refine AW.cT rfl ?_
  refine AW.rT (by rfl) fun K hK => ?_
  simp -implicitDefEqProofs only [go_sem, ↓reduceIte, Nat.reduceAdd, Nat.reduceEqDiff, Nat.reduceLeDiff, he1, he3, hc1, encMs, List.length_map]
  apply hK; clear hK K
  refine AW.ret ?_
  simp -implicitDefEqProofs only [go_sem, ↓reduceIte, Nat.reduceAdd, Nat.reduceEqDiff, Nat.reduceLeDiff, FF, encMs]
 | false =>
  refine AW.rT (by rfl) fun K hK => ?_
  simp -implicitDefEqProofs only [go_sem, ↓reduceIte, Nat.reduceAdd, Nat.reduceEqDiff, he1, he3, hc1, encMs, List.length_map, hk]
  apply hK; clear hK K
  refine AW.cF rfl ?_
  refine AW.skip ?_
  simp only [andThen, inBlk]
  have w1 : IntKind.wrap .i64 ((i : Int) + 1) = ((i + 1 : Nat) : Int) := by rw [w64] <;> omega
  refine AW.rE (by rfl) fun K hK => ?_
  simp -implicitDefEqProofs only [go_sem, ↓reduceIte, Nat.reduceAdd, Nat.reduceEqDiff, w1]
  apply hK; clear hK K
  refine ⟨i + 1, ⟨by omega, all_next he g2 (by rw [hk]; rfl)⟩, by omega, ?_⟩
  refine Ghost.sub ?_ ?_ <;> simp -implicitDefEqProofs only [go_sem, ↓reduceIte, Nat.reduceEqDiff, List.forall_mem_cons, List.not_mem_nil, false_implies, implies_true, and_self, List.all_cons, List.all_nil, Nat.reduceLT, labsInL, AV.labsIn]
def st31 (s : Sc) (k : List UInt8) (i : Nat) : St := ⟨ofL [(1, .p (.str k)), (2, .ptr 0 0 0), (4, .ptr 1 0 0), (9, .p (.slice (s.enums.map encEn))), (10, .p (.int .i64 (s.enums.length : Int))), (11, .p (.int .i64 (i : Int)))], ofH [(0, .row 4 [cellsSc s]), (1, .row 2 [[.p (.str []), .ex []]])], 2⟩
theorem check_Enum (s : Sc) (k : List UInt8) (hl : s.enums.length ≤ 1000000) : PFn Tryd.prog 143 [.agg (encSc s), .str k] (.tuple [.agg (encEn (firstP (fun x => x.name == k) zEn s.enums).1), .bool (firstP (fun x => x.name == k) zEn s.enums).2]) := by
 refine PFn.of Tryd.func143 rfl (by decide) Tryd.ntmps143 Tryd.results143 (Nat.le_of_ble_eq_true rfl) ?_
 simp only [argsT, encSc]
 refine AW.rT (by rfl) fun K hK => ?_
 simp -implicitDefEqProofs only [go_sem, Nat.reduceAdd]
 apply hK; clear hK K
 refine AW.seq ?_
 refine AW.rT (by rfl) fun K hK => ?_
 simp -implicitDefEqProofs only [go_sem, ↓reduceIte, Nat.reduceAdd, Nat.reduceEqDiff, reduceCtorEq, List.length_map]
 apply hK; clear hK K
 refine AW.block ?_
 refine AW.loop (st31 s k) (fun i => i ≤ s.enums.length ∧ (s.enums.take i).all (fun x => !(x.name == k)) = true) (fun i => s.enums.length - i) 0 ?_ (by simp) fun i hi => ?_
 ·simp only [st31, cellsSc]
  refine Ghost.sub ?_ ?_ <;> simp -implicitDefEqProofs only [go_sem, ↓reduceIte, Nat.reduceEqDiff, reduceCtorEq, List.forall_mem_cons, List.not_mem_nil, false_implies, implies_true, and_self, List.all_cons, List.all_nil, Nat.reduceLT, labsInL, AV.labsIn]
  rfl
 obtain ⟨g1, g2⟩ := hi
 simp only [st31, cellsSc]
 by_cases hil : i < s.enums.length
 case neg =>
  have hc1 : ((i : Int) < (s.enums.length : Int)) = False := by simp; omega
  rw [List.take_of_length_le (by omega)] at g2
  have FF := first_not (z := zEn) g2
  refine AW.rT (by rfl) fun K hK => ?_
  simp -implicitDefEqProofs only [go_sem, ↓reduceIte, Nat.reduceAdd, Nat.reduceEqDiff, hc1]
  apply hK; clear hK K
  refine AW.seq ?_
  refine AW.cF rfl ?_
  refine AW.exit ?_
  simp only [andThen, inBlk, ↓reduceIte]
  refine AW.rT (by rfl) fun K hK => ?_
  simp -implicitDefEqProofs only [go_sem, ↓reduceIte, Nat.reduceAdd, Nat.reduceEqDiff, Nat.reduceLeDiff]
  apply hK; clear hK K
  refine AW.ret ?_
  simp -implicitDefEqProofs only [go_sem, ↓reduceIte, Nat.reduceAdd, Nat.reduceEqDiff, Nat.reduceLeDiff, FF]
  rfl
 obtain ⟨e, he⟩ : ∃ e, s.enums[i]? = some e := ⟨_, List.getElem?_eq_getElem hil⟩
 have ⟨he1, he2, he3⟩ := at_map' encEn he
 have hc1 : ((i : Int) < (s.enums.length : Int)) = True := by simp; omega
 refine AW.rT (by rfl) fun K hK => ?_
 simp -implicitDefEqProofs only [go_sem, ↓reduceIte, Nat.reduceAdd, Nat.reduceEqDiff, hc1]
 apply hK; clear hK K
 refine AW.seq ?_
 refine AW.cT rfl ?_
 refine AW.skip ?_
 simp only [andThen]
 refine AW.seq ?_
 refine AW.block ?_
 refine AW.rT (by rfl) fun K hK => ?_
 simp -implicitDefEqProofs only [go_sem, ↓reduceIte, Nat.reduceAdd, Nat.reduceEqDiff, Nat.reduceLeDiff, he1, he3, hc1, encEn, List.length_map]
 apply hK; clear hK K
 cases hk : (e.name == k) with
 | true =>
  have FF := first_at (z := zEn) he g2 hk
  refine AW.rT (by rfl) fun K hK => ?_
  simp -implicitDefEqProofs only [go_sem, ↓reduceIte, Nat.reduceAdd, Nat.reduceEqDiff, hk]
  apply hK; clear hK K
  refine AW.cT rfl ?_
  refine AW.rT (by rfl) fun K hK => ?_
  simp -implicitDefEqProofs only [go_sem, ↓reduceIte, Nat.reduceAdd, Nat.reduceEqDiff, Nat.reduceLeDiff]
  apply hK; clear hK K
  refine AW.ret ?_
  simp -implicitDefEqProofs only [go_sem, ↓reduceIte, Nat.reduceAdd, Nat.reduceEqDiff, Nat.reduceLeDiff, FF, encEn]
 | false =>
  refine AW.rT (by rfl) fun K hK => ?_
  simp -implicitDefEqProofs only [go_sem, ↓reduceIte, Nat.reduceAdd, Nat.reduceEqDiff, hk]
  apply hK; clear hK K
  refine AW.cF rfl ?_
  refine AW.skip ?_
  simp only [andThen, inBlk]
  have w1 : IntKind.wrap .i64 ((i : Int) + 1) = ((i + 1 : Nat) : Int) := by rw [w64] <;> omega
  refine AW.rE (by rfl) fun K hK => ?_
  simp -implicitDefEqProofs only [go_sem, ↓reduceIte, Nat.reduceAdd, Nat.reduceEqDiff, w1]
  apply hK; clear hK K
  refine ⟨i + 1, ⟨by omega, all_next he g2 (by rw [hk]; rfl)⟩, by omega, ?_⟩
  refine Ghost.sub ?_ ?_ <;> simp -implicitDefEqProofs only [go_sem, ↓reduceIte, Nat.reduceEqDiff, reduceCtorEq, List.forall_mem_cons, List.not_mem_nil, false_implies, implies_true, and_self, List.all_cons, List.all_nil, Nat.reduceLT, labsInL, AV.labsIn]
def st33 (s : Sc) (k : List UInt8) (i : Nat) : St := ⟨ofL [(1, .p (.str k)), (2, .ptr 0 0 0), (4, .ptr 1 0 0), (9, .p (.slice (s.meths.map encMt))), (10, .p (.int .i64 (s.meths.length : Int))), (11, .p (.int .i64 (i : Int)))], ofH [(0, .row 4 [cellsSc s]), (1, .row 3 [[.p (.str []), .p (.str []), .p (.str [])]])], 2⟩
theorem check_Method (s : Sc) (k : List UInt8) (hl : s.meths.length ≤ 1000000) : PFn Tryd.prog 81 [.agg (encSc s), .str k] (.tuple [.agg (encMt (firstP (fun x => x.name == k) zMt s.meths).1), .bool (firstP (fun x => x.name == k) zMt s.meths).2]) := by
 refine PFn.of Tryd.func81 rfl (by decide) Tryd.ntmps81 Tryd.results81 (Nat.le_of_ble_eq_true rfl) ?_
 simp only [argsT, encSc]
 refine AW.rT (by rfl) fun K hK => ?_
 simp -implicitDefEqProofs only [go_sem, Nat.reduceAdd]
 apply hK; clear hK K
 refine AW.seq ?_
 refine AW.rT (by rfl) fun K hK => ?_
 simp -implicitDefEqProofs only [go_sem, ↓reduceIte, Nat.reduceAdd, Nat.reduceEqDiff, reduceCtorEq, List.length_map]
 apply hK; clear hK K
 refine AW.block ?_
 refine AW.loop (st33 s k) (fun i => i ≤ s.meths.length ∧ (s.meths.take i).all (fun x => !(x.name == k)) = true) (fun i => s.meths.length - i) 0 ?_ (by simp) fun i hi => ?_
 ·simp only [st33, cellsSc]
  refine Ghost.sub ?_ ?_ <;> simp -implicitDefEqProofs only [go_sem, ↓reduceIte, Nat.reduceEqDiff, reduceCtorEq, List.forall_mem_cons, List.not_mem_nil, false_implies, implies_true, and_self, List.all_cons, List.all_nil, Nat.reduceLT, labsInL, AV.labsIn]
  rfl
 obtain ⟨g1, g2⟩ := hi
 simp only [st33, cellsSc]
 by_cases hil : i < s.meths.length
 case neg =>
  have hc1 : ((i : Int) < (s.meths.length : Int)) = False := by simp; omega
  rw [List.take_of_length_le (by omega)] at g2
  have FF := first_not (z := zMt) g2
  refine AW.rT (by rfl) fun K hK => ?_
  simp -implicitDefEqProofs only [go_sem, ↓reduceIte, Nat.reduceAdd, Nat.reduceEqDiff, hc1]
  apply hK; clear hK K
  refine AW.seq ?_
  refine AW.cF rfl ?_
  refine AW.exit ?_
  simp only [andThen, inBlk, ↓reduceIte]
  refine AW.rT (by rfl) fun K hK => ?_
  simp -implicitDefEqProofs only [go_sem, ↓reduceIte, Nat.reduceAdd, Nat.reduceEqDiff, Nat.reduceLeDiff]
  apply hK; clear hK K
  refine AW.ret ?_
  simp -implicitDefEqProofs only [go_sem, ↓reduceIte, Nat.reduceAdd, Nat.reduceEqDiff, Nat.reduceLeDiff, FF]
  rfl
 obtain ⟨e, he⟩ : ∃ e, s.meths[i]? = some e := ⟨_, List.getElem?_eq_getElem hil⟩
 have ⟨he1, he2, he3⟩ := at_map' encMt he
 have hc1 : ((i : Int) < (s.meths.length : Int)) = True := by simp; omega
 refine AW.rT (by rfl) fun K hK => ?_
 simp -implicitDefEqProofs only [go_sem, ↓reduceIte, Nat.reduceAdd, Nat.reduceEqDiff, hc1]
 apply hK; clear hK K
 refine AW.seq ?_
 refine AW.cT rfl ?_
 refine AW.skip ?_
 simp only [andThen]
 refine AW.seq ?_
 refine AW.block ?_
 refine AW.rT (by rfl) fun K hK => ?_
 simp -implicitDefEqProofs only [go_sem, ↓reduceIte, Nat.reduceAdd, Nat.reduceEqDiff, Nat.reduceLeDiff, he1, he3, hc1, encMt, List.length_map]
 apply hK; clear hK K
 cases hk : (e.name == k) with
 | true =>
  have FF := first_at (z := zMt) he g2 hk
  refine AW.rT (by rfl) fun K hK => ?_
  simp -implicitDefEqProofs only [go_sem, ↓reduceIte, Nat.reduceAdd, Nat.reduceEqDiff, hk]
  apply hK; clear hK K
  refine AW.cT rfl ?_
  refine AW.rT (by rfl) fun K hK => ?_
  simp -implicitDefEqProofs only [go_sem, ↓reduceIte, Nat.reduceAdd, Nat.reduceEqDiff, Nat.reduceLeDiff]
  apply hK; clear hK K
  refine AW.ret ?_
  simp -implicitDefEqProofs only [go_sem, ↓reduceIte, Nat.reduceAdd, Nat.reduceEqDiff, Nat.reduceLeDiff, FF, encMt]
 | false =>
  refine AW.rT (by rfl) fun K hK => ?_
  simp -implicitDefEqProofs only [go_sem, ↓reduceIte, Nat.reduceAdd, Nat.reduceEqDiff, hk]
  apply hK; clear hK K
  refine AW.cF rfl ?_
  refine AW.skip ?_
  simp only [andThen, inBlk]
  have w1 : IntKind.wrap .i64 ((i : Int) + 1) = ((i + 1 : Nat) : Int) := by rw [w64] <;> omega
  refine AW.rE (by rfl) fun K hK => ?_
  simp -implicitDefEqProofs only [go_sem, ↓reduceIte, Nat.reduceAdd, Nat.reduceEqDiff, w1]
  apply hK; clear hK K
  refine ⟨i + 1, ⟨by omega, all_next he g2 (by rw [hk]; rfl)⟩, by omega, ?_⟩
  refine Ghost.sub ?_ ?_ <;> simp -implicitDefEqProofs only [go_sem, ↓reduceIte, Nat.reduceEqDiff, reduceCtorEq, List.forall_mem_cons, List.not_mem_nil, false_implies, implies_true, and_self, List.all_cons, List.all_nil, Nat.reduceLT, labsInL, AV.labsIn]
def st34 (s : Sc) (k : List UInt8) (i : Nat) : St := ⟨ofL [(1, .p (.str k)), (2, .ptr 0 0 0), (4, .ptr 1 0 0), (6, .p (.int .i64 (i : Int)))], ofH [(0, .row 4 [cellsSc s]), (1, .row 3 [[.p (.str []), .p (.str []), .p (.str [])]])], 2⟩
theorem ref07_Method (s : Sc) (k : List UInt8) (hl : s.meths.length ≤ 1000000) : PFn Tryd.prog 54 [.agg (encSc s), .str k] (.tuple [.agg (encMt (firstP (fun x => x.name == k) zMt s.meths).1), .bool (firstP (fun x => x.name == k) zMt s.meths).2]) := by
 refine PFn.of Tryd.func54 rfl (by decide) Tryd.ntmps54 Tryd.results54 (Nat.le_of_ble_eq_true rfl) ?_
 simp only [argsT, encSc]
 refine AW.rT (by rfl) fun K hK => ?_
 simp -implicitDefEqProofs only [go_sem, Nat.reduceAdd]
 apply hK; clear hK K
 refine AW.seq ?_
 refine AW.rT (by rfl) fun K hK => ?_
 simp -implicitDefEqProofs only [go_sem, Nat.reduceAdd]
 apply hK; clear hK K
 refine AW.block ?_
 refine AW.loop (st34 s k) (fun i => i ≤ s.meths.length ∧ (s.meths.take i).all (fun x => !(x.name == k)) = true) (fun i => s.meths.length - i) 0 ?_ (by simp) fun i hi => ?_
 ·simp only [st34, cellsSc]
  refine Ghost.sub ?_ ?_ <;> simp -implicitDefEqProofs only [go_sem, ↓reduceIte, Nat.reduceEqDiff, reduceCtorEq, List.forall_mem_cons, List.not_mem_nil, false_implies, implies_true, and_self, List.all_cons, List.all_nil, Nat.reduceLT, labsInL, AV.labsIn]
  rfl
 obtain ⟨g1, g2⟩ := hi
 simp only [st34, cellsSc]
 refine AW.seq ?_
 by_cases hil : i < s.meths.length
 case neg =>
  have hc1 : ((i : Int) < (s.meths.length : Int)) = False := by simp; omega
  rw [List.take_of_length_le (by omega)] at g2
  have FF := first_not (z := zMt) g2
  refine AW.rT (by rfl) fun K hK => ?_
  simp -implicitDefEqProofs only [go_sem, ↓reduceIte, Nat.reduceAdd, Nat.reduceEqDiff, hc1, List.length_map]
  apply hK; clear hK K
  refine AW.cF rfl ?_
  refine AW.exit ?_
  simp only [andThen, inBlk, ↓reduceIte]
  refine AW.rT (by rfl) fun K hK => ?_
  simp -implicitDefEqProofs only [go_sem, ↓reduceIte, Nat.reduceAdd, Nat.reduceEqDiff, Nat.reduceLeDiff]
  apply hK; clear hK K
  refine AW.ret ?_
  simp -implicitDefEqProofs only [go_sem, ↓reduceIte, Nat.reduceAdd, Nat.reduceEqDiff, Nat.reduceLeDiff, FF]
  rfl
 obtain ⟨e, he⟩ : ∃ e, s.meths[i]? = some e := ⟨_, List.getElem?_eq_getElem hil⟩
 have ⟨he1, he2, he3⟩ := at_map' encMt he
 have hc1 : ((i : Int) < (s.meths.length : Int)) = True := by simp; omega
 refine AW.rT (by rfl) fun K hK => ?_
 simp -implicitDefEqProofs only [go_sem, ↓reduceIte, Nat.reduceAdd, Nat.reduceEqDiff, hc1, List.length_map]
 apply hK; clear hK K
 refine AW.cT rfl ?_
 refine AW.skip ?_
 simp only [andThen]
 refine AW.seq ?_
 refine AW.block ?_
 cases hk : (e.name == k) with
 | true =>
  have FF := first_at (z := zMt) he g2 hk
  refine AW.rT (by rfl) fun K hK => ?_
  simp -implicitDefEqProofs only [go_sem, ↓reduceIte, Nat.reduceAdd, Nat.reduceEqDiff, he1, he3, hc1, encMt, List.length_map, hk]
  apply hK; clear hK K
  refine AW.cT rfl ?_
  refine AW.rT (by rfl) fun K hK => ?_
  simp -implicitDefEqProofs only [go_sem, ↓reduceIte, Nat.reduceAdd, Nat.reduceEqDiff, Nat.reduceLeDiff, he1, he3, hc1, encMt, List.length_map]
  apply hK; clear hK K
  refine AW.ret ?_
  simp -implicitDefEqProofs only [go_sem, ↓reduceIte, Nat.reduceAdd, Nat.reduceEqDiff, Nat.reduceLeDiff, FF, encMt]
 | false =>
  refine AW.rT (by rfl) fun K hK => ?_
  simp -implicitDefEqProofs only [go_sem, ↓reduceIte, Nat.reduceAdd, Nat.reduceEqDiff, he1, he3, hc1, encMt, List.length_map, hk]
  apply hK; clear hK K
  refine AW.cF rfl ?_
  refine AW.skip ?_
  simp only [andThen, inBlk]
  have w1 : IntKind.wrap .i64 ((i : Int) + 1) = ((i + 1 : Nat) : Int) := by rw [w64] <;> omega
  refine AW.rE (by rfl) fun K hK => ?_
  simp -implicitDefEqProofs only [go_sem, ↓reduceIte, Nat.reduceAdd, Nat.reduceEqDiff, w1]
  apply hK; clear hK K
  refine ⟨i + 1, ⟨by omega, all_next he g2 (by rw [hk]; rfl)⟩, by omega, ?_⟩
  refine Ghost.sub ?_ ?_ <;> simp -implicitDefEqProofs only [go_sem, ↓reduceIte, Nat.reduceEqDiff, List.forall_mem_cons, List.not_mem_nil, false_implies, implies_true, and_self, List.all_cons, List.all_nil, Nat.reduceLT, labsInL, AV.labsIn]
def st37 (s : Ms) (k : Int) (i : Nat) : St := ⟨ofL [(1, .p (.int .i64 k)), (2, .ptr 0 0 0), (4, .ptr 1 0 0), (9, .p (.slice (s.fields.map encFd))), (10, .p (.int .i64 (s.fields.length : Int))), (11, .p (.int .i64 (i : Int)))], ofH [(0, .row 3 [cellsMs s]), (1, .row 5 [[.p (.str []), .p (.int .i64 0), .p (.int .i64 0), .p (.int .i64 0), .p (.str [])]])], 2⟩
theorem check_Field (s : Ms) (k : Int) (hl : s.fields.length ≤ 1000000) : PFn Tryd.prog 67 [.agg (encMs s), .int .i64 k] (.tuple [.agg (encFd (firstP (fun x => x.tag == k) zFd s.fields).1), .bool (firstP (fun x => x.tag == k) zFd s.fields).2]) := by
 refine PFn.of Tryd.func67 rfl (by decide) Tryd.ntmps67 Tryd.results67 (Nat.le_of_ble_eq_true rfl) ?_
 simp only [argsT, encMs]
 refine AW.rT (by rfl) fun K hK => ?_
 simp -implicitDefEqProofs only [go_sem, Nat.reduceAdd]
 apply hK; clear hK K
 refine AW.seq ?_
 refine AW.rT (by rfl) fun K hK => ?_
 simp -implicitDefEqProofs only [go_sem, ↓reduceIte, Nat.reduceAdd, Nat.reduceEqDiff, reduceCtorEq, List.length_map]
 apply hK; clear hK K
 refine AW.block ?_
 refine AW.loop (st37 s k) (fun i => i ≤ s.fields.length ∧ (s.fields.take i).all (fun x => !(x.tag == k)) = true) (fun i => s.fields.length - i) 0 ?_ (by simp) fun i hi => ?_
 ·simp only [st37, cellsMs]
  refine Ghost.sub ?_ ?_ <;> simp -implicitDefEqProofs only [go_sem, ↓reduceIte, Nat.reduceEqDiff, reduceCtorEq, List.forall_mem_cons, List.not_mem_nil, false_implies, implies_true, and_self, List.all_cons, List.all_nil, Nat.reduceLT, labsInL, AV.labsIn]
  rfl
 obtain ⟨g1, g2⟩ := hi
 simp only [st37, cellsMs]
 by_cases hil : i < s.fields.length
 case neg =>
  have hc1 : ((i : Int) < (s.fields.length : Int)) = False := by simp; omega
  rw [List.take_of_length_le (by omega)] at g2
  have FF := first_not (z := zFd) g2
  refine AW.rT (by rfl) fun K hK => ?_
  simp -implicitDefEqProofs only [go_sem, ↓reduceIte, Nat.reduceAdd, Nat.reduceEqDiff, hc1]
  apply hK; clear hK K
  refine AW.seq ?_
  refine AW.cF rfl ?_
  refine AW.exit ?_
  simp only [andThen, inBlk, ↓reduceIte]
  refine AW.rT (by rfl) fun K hK => ?_
  simp -implicitDefEqProofs only [go_sem, ↓reduceIte, Nat.reduceAdd, Nat.reduceEqDiff, Nat.reduceLeDiff]
  apply hK; clear hK K
  refine AW.ret ?_
  simp -implicitDefEqProofs only [go_sem, ↓reduceIte, Nat.reduceAdd, Nat.reduceEqDiff, Nat.reduceLeDiff, FF]
  rfl
 obtain ⟨e, he⟩ : ∃ e, s.fields[i]? = some e := ⟨_, List.getElem?_eq_getElem hil⟩
 have ⟨he1, he2, he3⟩ := at_map' encFd he
 have hc1 : ((i : Int) < (s.fields.length : Int)) = True := by simp; omega
 refine AW.rT (by rfl) fun K hK => ?_
 simp -implicitDefEqProofs only [go_sem, ↓reduceIte, Nat.reduceAdd, Nat.reduceEqDiff, hc1]
 apply hK; clear hK K
 refine AW.seq ?_
 refine AW.cT rfl ?_
 refine AW.skip ?_
 simp only [andThen]
 refine AW.seq ?_
 refine AW.block ?_
 refine AW.rT (by rfl) fun K hK => ?_
 simp -implicitDefEqProofs only [go_sem, ↓reduceIte, Nat.reduceAdd, Nat.reduceEqDiff, Nat.reduceLeDiff, he1, he3, hc1, encFd, List.length_map]
 apply hK; clear hK K
 cases hk : (e.tag == k) with
 | true =>
  have FF := first_at (z := zFd) he g2 hk
  refine AW.rT (by rfl) fun K hK => ?_
  simp -implicitDefEqProofs only [go_sem, ↓reduceIte, Nat.reduceAdd, Nat.reduceEqDiff, hk]
  apply hK; clear hK K
  refine AW.cT rfl ?_
  refine AW.rT (by rfl) fun K hK => ?_
  simp -implicitDefEqProofs only [go_sem, ↓reduceIte, Nat.reduceAdd, Nat.reduceEqDiff, Nat.reduceLeDiff]
  apply hK; clear hK K
  refine AW.ret ?_
  simp -implicitDefEqProofs only [go_sem, ↓reduceIte, Nat.reduceAdd, Nat.reduceEqDiff, Nat.reduceLeDiff, FF, encFd]
 | false =>
  refine AW.rT (by rfl) fun K hK => ?_
  simp -implicitDefEqProofs only [go_sem, ↓reduceIte, Nat.reduceAdd, Nat.reduceEqDiff, hk]
  apply hK; clear hK K
  refine AW.cF rfl ?_
  refine AW.skip ?_
  simp only [andThen, inBlk]
  have w1 : IntKind.wrap .i64 ((i : Int) + 1) = ((i + 1 : Nat) : Int) := by rw [w64] <;> omega
  refine AW.rE (by rfl) fun K hK => ?_
  simp -implicitDefEqProofs only [go_sem, ↓reduceIte, Nat.reduceAdd, Nat.reduceEqDiff, w1]
  apply hK; clear hK K
  refine ⟨i + 1, ⟨by omega, all_next he g2 (by rw [hk]; rfl)⟩, by omega, ?_⟩
  refine Ghost.sub ?_ ?_ <;> simp -implicitDefEqProofs only [go_sem, ↓reduceIte, Nat.reduceEqDiff, reduceCtorEq, List.forall_mem_cons, List.not_mem_nil, false_implies, implies_true, and_self, List.all_cons, List.all_nil, Nat.reduceLT, labsInL, AV.labsIn]
def st38 (s : Ms) (k : Int) (i : Nat) : St := ⟨ofL [(1, .p (.int .i64 k)), (2, .ptr 0 0 0), (4, .ptr 1 0 0), (6, .p (.int .i64 (i : Int)))], ofH [(0, .row 3 [cellsMs s]), (1, .row 5 [[.p (.str []), .p (.int .i64 0), .p (.int .i64 0), .p (.int .i64 0), .p (.str [])]])], 2⟩
theorem ref07_Field (s : Ms) (k : Int) (hl : s.fields.length ≤ 1000000) : PFn Tryd.prog 27 [.agg (encMs s), .int .i64 k] (.tuple [.agg (encFd (firstP (fun x => x.tag == k) zFd s.fields).1), .bool (firstP (fun x => x.tag == k) zFd s.fields).2]) := by
 refine PFn.of Tryd.func27 rfl (by decide) Tryd.ntmps27 Tryd.results27 (Nat.le_of_ble_eq_true rfl) ?_
 simp only [argsT, encMs]
 refine AW.rT (by rfl) fun K hK => ?_
 simp -implicitDefEqProofs only [go_sem, Nat.reduceAdd]
 apply hK; clear hK K
 refine AW.seq ?_
 refine AW.rT (by rfl) fun K hK => ?_
 simp -implicitDefEqProofs only [go_sem, Nat.reduceAdd]
 apply hK; clear hK K
 refine AW.block ?_
 refine AW.loop (st38 s k) (fun i => i ≤ s.fields.length ∧ (s.fields.take i).all (fun x => !(x.tag == k)) = true) (fun i => s.fields.length - i) 0 ?_ (by simp) fun i hi => ?_
 ·simp only [st38, cellsMs]
  refine Ghost.sub ?_ ?_ <;> simp -implicitDefEqProofs only [go_sem, ↓reduceIte, Nat.reduceEqDiff, reduceCtorEq, List.forall_mem_cons, List.not_mem_nil, false_implies, implies_true, and_self, List.all_cons, List.all_nil, Nat.reduceLT, labsInL, AV.labsIn]
  rfl
 obtain ⟨g1, g2⟩ := hi
 simp only [st38, cellsMs]
 refine AW.seq ?_
 by_cases hil : i < s.fields.length
 case neg =>
  have hc1 : ((i : Int) < (s.fields.length : Int)) = False := by simp; omega
  rw [List.take_of_length_le (by omega)] at g2
  have FF := first_not (z := zFd) g2
  refine AW.rT (by rfl) fun K hK => ?_
  simp -implicitDefEqProofs only [go_sem, ↓reduceIte, Nat.reduceAdd, Nat.reduceEqDiff, hc1, List.length_map]
  apply hK; clear hK K
  refine AW.cF rfl ?_
  refine AW.exit ?_
  simp only [andThen, inBlk, ↓reduceIte]
  refine AW.rT (by rfl) fun K hK => ?_
  simp -implicitDefEqProofs only [go_sem, ↓reduceIte, Nat.reduceAdd, Nat.reduceEqDiff, Nat.reduceLeDiff]
  apply hK; clear hK K
  refine AW.ret ?_
  simp -implicitDefEqProofs only [go_sem, ↓reduceIte, Nat.reduceAdd, Nat.reduceEqDiff, Nat.reduceLeDiff, FF]
  rfl
 obtain ⟨e, he⟩ : ∃ e, s.fields[i]? = some e := ⟨_, List.getElem?_eq_getElem hil⟩
 have ⟨he1, he2, he3⟩ := at_map' encFd he
 have hc1 : ((i : Int) < (s.fields.length : Int)) = True := by simp; omega
 refine AW.rT (by rfl) fun K hK => ?_
 simp -implicitDefEqProofs only [go_sem, ↓reduceIte, Nat.reduceAdd, Nat.reduceEqDiff, hc1, List.length_map]
 apply hK; clear hK K
 refine AW.cT rfl ?_
 refine AW.skip ?_
 simp only [andThen]
 refine AW.seq ?_
 refine AW.block ?_
 cases hk : (e.tag == k) with
 | true =>
  have FF := first_at (z := zFd) he g2 hk
  refine AW.rT (by rfl) fun K hK => ?_
  simp -implicitDefEqProofs only [go_sem, ↓reduceIte, Nat.reduceAdd, Nat.reduceEqDiff, he1, he3, hc1, encFd, List.length_map, hk]
  apply hK; clear hK K
  refine AW.cT rfl ?_
  refine AW.rT (by rfl) fun K hK => ?_
  simp -implicitDefEqProofs only [go_sem, ↓reduceIte, Nat.reduceAdd, Nat.reduceEqDiff, Nat.reduceLeDiff, he1, he3, hc1, encFd, List.length_map]
  apply hK; clear hK K
  refine AW.ret ?_
  simp -implicitDefEqProofs only [go_sem, ↓reduceIte, Nat.reduceAdd, Nat.reduceEqDiff, Nat.reduceLeDiff, FF, encFd]
 | false =>
  refine AW.rT (by rfl) fun K hK => ?_
  simp -implicitDefEqProofs only [go_sem, ↓reduceIte, Nat.reduceAdd, Nat.reduceEqDiff, he1, he3, hc1, encFd, List.length_map, hk]
  apply hK; clear hK K
  refine AW.cF rfl ?_
  refine AW.skip ?_
  simp only [andThen, inBlk]
  have w1 : IntKind.wrap .i64 ((i : Int) + 1) = ((i + 1 : Nat) : Int) := by rw [w64] <;> omega
  refine AW.rE (by rfl) fun K hK => ?_
  simp -implicitDefEqProofs only [go_sem, ↓reduceIte, Nat.reduceAdd, Nat.reduceEqDiff, w1]
  apply hK; clear hK K
  refine ⟨i + 1, ⟨by omega, all_next he g2 (by rw [hk]; rfl)⟩, by omega, ?_⟩
  refine Ghost.sub ?_ ?_ <;> simp -implicitDefEqProofs only [go_sem, ↓reduceIte, Nat.reduceEqDiff, List.forall_mem_cons, List.not_mem_nil, false_implies, implies_true, and_self, List.all_cons, List.all_nil, Nat.reduceLT, labsInL, AV.labsIn]
end Go.Aw
namespace Go.Aw
open Go.Lib
theorem sget (s : List UInt8) (i : Nat) : (⟨⟨s⟩⟩ : ByteArray).get! i = s.getD i 0 := by
 show (⟨s⟩ : Array UInt8)[i]! = _
 simp [getElem!_def, List.getD]
 cases s[i]? <;> rfl
def bk (s : List UInt8) (i : Nat) : Nat := (s.getD i 0).toNat
theorem runeAt_eq (s : List UInt8) (p : Nat) : runeAt s p = decodeN (s.length - p) (bk s p) (bk s (p + 1)) (bk s (p + 2)) (bk s (p + 3)) := by
 unfold runeAt bk
 rw [decode_at, sget, sget, sget, sget]
 rfl
theorem bk_drop (s : List UInt8) (p i : Nat) : bk (s.drop p) i = bk s (p + i) := by
 unfold bk
 simp [List.getD, List.getElem?_drop]
theorem runeAt_drop (s : List UInt8) (p : Nat) : runeAt (s.drop p) 0 = runeAt s p := by
 rw [runeAt_eq, runeAt_eq, bk_drop, bk_drop, bk_drop, bk_drop, List.length_drop]
 rfl
theorem runeAt_wid (s : List UInt8) (p : Nat) : 1 ≤ (runeAt s p).2 ∧ (runeAt s p).2 ≤ 4 ∧ (runeAt s p).1 ≤ 1114111 := by
 rw [runeAt_eq]
 unfold decodeN
 repeat' split
 all_goals simp
 all_goals omega
theorem runeAt_in (s : List UInt8) (p : Nat) (h : p < s.length) : p + (runeAt s p).2 ≤ s.length := by
 rw [runeAt_eq]
 unfold decodeN
 repeat' split
 all_goals simp only
 all_goals omega
def good (s : List UInt8) (q : Nat) : Prop := q < s.length ∧ 128 ≤ bk s q ∧ bk s q ≤ 191
instance (s : List UInt8) (q : Nat) : Decidable (good s q) := by unfold good; infer_instance
def resN (r : Nat × Nat) : Int × Int × Bool := if r.1 = 65533 ∧ r.2 < 2 then (0, 0, false) else (r.1, r.2, true)
def runesF (s : List UInt8) : Nat → Nat → Option (List Int)
 | 0, _ => some []
 | n + 1, p => if p < s.length then (if (resN (runeAt s p)).2.2 = true then (match runesF s n (p + (runeAt s p).2) with | some l => some (((runeAt s p).1 : Int) :: l) | none => none) else none) else some []
def runesO (s : List UInt8) (p : Nat) : Option (List Int) := runesF s (s.length - p) p
theorem runesF_fuel (s : List UInt8) : ∀ (n m p : Nat), s.length - p ≤ n → s.length - p ≤ m → runesF s n p = runesF s m p
 | 0, 0, p, _, _ => rfl
 | 0, m + 1, p, h, _ => by rw [runesF, runesF, if_neg (by omega)]
 | n + 1, 0, p, _, h => by rw [runesF, runesF, if_neg (by omega)]
 | n + 1, m + 1, p, h1, h2 => by
  rw [runesF, runesF]
  have := runeAt_wid s p
  by_cases h : p < s.length
  ·rw [if_pos h, if_pos h, runesF_fuel s n m (p + (runeAt s p).2) (by omega) (by omega)]
  ·rw [if_neg h, if_neg h]
theorem runesO_step (s : List UInt8) (p : Nat) : runesO s p = if p < s.length then (if (resN (runeAt s p)).2.2 = true then (match runesO s (p + (runeAt s p).2) with | some l => some (((runeAt s p).1 : Int) :: l) | none => none) else none) else some [] := by
 unfold runesO
 by_cases h : p < s.length
 ·have := runeAt_wid s p
  rw [if_pos h, show s.length - p = (s.length - p - 1) + 1 by omega, runesF, if_pos h, runesF_fuel s (s.length - p - 1) (s.length - (p + (runeAt s p).2)) (p + (runeAt s p).2) (by omega) (by omega)]
 ·rw [if_neg h, show s.length - p = 0 by omega, runesF]
def letterB (r : Int) : Bool := decide (97 ≤ r ∧ r ≤ 122 ∨ 65 ≤ r ∧ r ≤ 90 ∨ r = 95 ∨ 192 ≤ r ∧ r ≤ 591 ∧ r ≠ 215 ∧ r ≠ 247 ∨ 913 ≤ r ∧ r ≤ 969 ∧ r ≠ 930)
def digitB (r : Int) : Bool := decide (48 ≤ r ∧ r ≤ 57)
def keyWords : List (List UInt8) := [[115, 99, 104, 101, 109, 97], [109, 101, 115, 115, 97, 103, 101], [101, 110, 117, 109], [99, 97, 108, 108], [114, 101, 116, 117, 114, 110, 115], [114, 101, 115, 101, 114, 118, 101, 100], [111, 112, 116, 105, 111, 110, 97, 108], [114, 101, 112, 101, 97, 116, 101, 100], [105, 110, 116, 51, 50], [105, 110, 116, 54, 52], [98, 111, 111, 108], [116, 101, 120, 116], [98, 121, 116, 101, 115]]
def keyB (s : List UInt8) : Bool := keyWords.contains s
def wordB : List Int → Bool
 | [] => false
 | r :: l => letterB r && l.all fun x => letterB x || digitB x
def nameB (s : List UInt8) : Bool := match runesO s 0 with
 | none => false
 | some l => decide (l.length ≤ 20) && !keyB s && wordB l
end Go.Aw
namespace Go.Aw
open Go.Proofs
theorem runes_in (r a b : Int) : PFn Tryd.prog 146 [.int .i32 r, .int .i32 a, .int .i32 b] (.bool (decide (a ≤ r ∧ r ≤ b))) := by
 refine PFn.of Tryd.func146 rfl (by decide) Tryd.ntmps146 Tryd.results146 (Nat.le_of_ble_eq_true rfl) ?_
 simp only [argsT]
 refine AW.rT (by rfl) fun K hK => ?_
 simp -implicitDefEqProofs only [go_sem, Nat.reduceAdd]
 apply hK; clear hK K
 by_cases h1 : r ≥ a
 ·have f1 : (r ≥ a) = True := eq_true h1
  by_cases h2 : r ≤ b
  ·have f2 : (r ≤ b) = True := eq_true h2
   have e : decide (a ≤ r ∧ r ≤ b) = true := decide_eq_true ⟨h1, h2⟩
   refine AW.rT (by rfl) fun K hK => ?_
   simp -implicitDefEqProofs only [go_sem, ↓reduceIte, Nat.reduceAdd, Nat.reduceEqDiff, reduceCtorEq, f1, f2]
   apply hK; clear hK K
   refine AW.ret ?_
   simp -implicitDefEqProofs only [go_sem, e]
  ·have f2 : (r ≤ b) = False := eq_false h2
   have e : decide (a ≤ r ∧ r ≤ b) = false := decide_eq_false (fun h => h2 h.2)
   refine AW.rT (by rfl) fun K hK => ?_
   simp -implicitDefEqProofs only [go_sem, ↓reduceIte, Nat.reduceAdd, Nat.reduceEqDiff, reduceCtorEq, f1, f2]
   apply hK; clear hK K
   refine AW.ret ?_
   simp -implicitDefEqProofs only [go_sem, e]
 ·have f1 : (r ≥ a) = False := eq_false h1
  have e : decide (a ≤ r ∧ r ≤ b) = false := decide_eq_false (fun h => h1 h.1)
  refine AW.rT (by rfl) fun K hK => ?_
  simp -implicitDefEqProofs only [go_sem, ↓reduceIte, Nat.reduceAdd, Nat.reduceEqDiff, reduceCtorEq, f1]
  apply hK; clear hK K
  refine AW.ret ?_
  simp -implicitDefEqProofs only [go_sem, e]
theorem runes_Digit (r : Int) : PFn Tryd.prog 125 [.int .i32 r] (.bool (digitB r)) := by
 refine PFn.of Tryd.func125 rfl (by decide) Tryd.ntmps125 Tryd.results125 (Nat.le_of_ble_eq_true rfl) ?_
 simp only [argsT]
 refine AW.rT (by rfl) fun K hK => ?_
 simp -implicitDefEqProofs only [go_sem]
 apply hK; clear hK K
 refine AW.rT (by rfl) fun K hK => ?_
 simp -implicitDefEqProofs only [go_sem, ↓reduceIte, Nat.reduceAdd, reduceCtorEq]
 refine ⟨.pure _, runes_in r 48 57, ?_⟩
 try simp -implicitDefEqProofs only [go_sem, Nat.reduceAdd]
 apply hK; clear hK K
 refine AW.ret ?_
 simp -implicitDefEqProofs only [go_sem, digitB]
theorem runes_Letter (r : Int) : PFn Tryd.prog 124 [.int .i32 r] (.bool (letterB r)) := by
 refine PFn.of Tryd.func124 rfl (by decide) Tryd.ntmps124 Tryd.results124 (Nat.le_of_ble_eq_true rfl) ?_
 simp only [argsT]
 refine AW.rT (by rfl) fun K hK => ?_
 simp -implicitDefEqProofs only [go_sem]
 apply hK; clear hK K
 have B := fun (n : Int) (h : r ≠ n) => (beq_eq_false_iff_ne.2 h : (r == n) = false)
 refine AW.cut (fun _ : Unit => ⟨ofL [(0, .p (.int .i32 r))], ofH [], 0⟩) (fun _ => r ≠ 95 ∧ r ≠ 215 ∧ r ≠ 247 ∧ r ≠ 930) ?_ fun _ hh => ?_
 ·refine AW.rT (by rfl) fun K hK => ?_
  simp -implicitDefEqProofs only [go_sem, ↓reduceIte, Nat.reduceAdd, reduceCtorEq]
  apply hK; clear hK K
  refine AW.block ?_
  by_cases h0 : r = 95
  ·subst h0
   have e : letterB 95 = true := rfl
   have q : ((95 : Int) == 95) = true := rfl
   refine AW.rT (by rfl) fun K hK => ?_
   simp -implicitDefEqProofs only [go_sem, ↓reduceIte, Nat.reduceAdd, q]
   apply hK; clear hK K
   refine AW.cT rfl ?_
   refine AW.rT (by rfl) fun K hK => ?_
   simp -implicitDefEqProofs only [go_sem, Nat.reduceAdd]
   apply hK; clear hK K
   refine AW.ret ?_
   simp -implicitDefEqProofs only [go_sem, e]
  have f0 := B 95 h0
  refine AW.rT (by rfl) fun K hK => ?_
  simp -implicitDefEqProofs only [go_sem, ↓reduceIte, Nat.reduceAdd, f0]
  apply hK; clear hK K
  refine AW.cF rfl ?_
  refine AW.seq ?_
  by_cases h1 : r = 215
  ·subst h1
   have e : letterB 215 = false := rfl
   have q : ((215 : Int) == 215) = true := rfl
   refine AW.rT (by rfl) fun K hK => ?_
   simp -implicitDefEqProofs only [go_sem, ↓reduceIte, Nat.reduceAdd, Nat.reduceEqDiff, q]
   apply hK; clear hK K
   refine AW.cT rfl ?_
   refine AW.skip ?_
   simp only [andThen]
   refine AW.cT rfl ?_
   refine AW.rT (by rfl) fun K hK => ?_
   simp -implicitDefEqProofs only [go_sem, Nat.reduceAdd]
   apply hK; clear hK K
   refine AW.ret ?_
   simp -implicitDefEqProofs only [go_sem, e]
  have f1 := B 215 h1
  refine AW.rT (by rfl) fun K hK => ?_
  simp -implicitDefEqProofs only [go_sem, ↓reduceIte, Nat.reduceAdd, Nat.reduceEqDiff, f1]
  apply hK; clear hK K
  refine AW.cF rfl ?_
  by_cases h2 : r = 247
  ·subst h2
   have e : letterB 247 = false := rfl
   have q : ((247 : Int) == 247) = true := rfl
   refine AW.rT (by rfl) fun K hK => ?_
   simp -implicitDefEqProofs only [go_sem, ↓reduceIte, Nat.reduceAdd, Nat.reduceEqDiff, q]
   apply hK; clear hK K
   refine AW.cT rfl ?_
   refine AW.skip ?_
   simp only [andThen]
   refine AW.cT rfl ?_
   refine AW.rT (by rfl) fun K hK => ?_
   simp -implicitDefEqProofs only [go_sem, Nat.reduceAdd]
   apply hK; clear hK K
   refine AW.ret ?_
   simp -implicitDefEqProofs only [go_sem, e]
  have f2 := B 247 h2
  refine AW.rT (by rfl) fun K hK => ?_
  simp -implicitDefEqProofs only [go_sem, ↓reduceIte, Nat.reduceAdd, Nat.reduceEqDiff, f2]
  apply hK; clear hK K
  refine AW.cF rfl ?_
  by_cases h3 : r = 930
  ·subst h3
   have e : letterB 930 = false := rfl
   have q : ((930 : Int) == 930) = true := rfl
   refine AW.rE (by rfl) fun K hK => ?_
   simp -implicitDefEqProofs only [go_sem, ↓reduceIte, Nat.reduceAdd, Nat.reduceEqDiff, q]
   apply hK; clear hK K
   simp only [andThen]
   refine AW.cT rfl ?_
   refine AW.rT (by rfl) fun K hK => ?_
   simp -implicitDefEqProofs only [go_sem, Nat.reduceAdd]
   apply hK; clear hK K
   refine AW.ret ?_
   simp -implicitDefEqProofs only [go_sem, e]
  have f3 := B 930 h3
  refine AW.rE (by rfl) fun K hK => ?_
  simp -implicitDefEqProofs only [go_sem, ↓reduceIte, Nat.reduceAdd, Nat.reduceEqDiff, f3]
  apply hK; clear hK K
  simp only [andThen]
  refine AW.cF rfl ?_
  refine AW.skip ?_
  simp only [andThen, inBlk]
  refine ⟨(), ⟨h0, h1, h2, h3⟩, ?_⟩
  refine Ghost.sub ?_ ?_ <;> simp -implicitDefEqProofs only [go_sem, ↓reduceIte, reduceCtorEq, List.forall_mem_cons, List.not_mem_nil, false_implies, implies_true, and_self, AV.labsIn]
 have e : letterB r = (decide (97 ≤ r ∧ r ≤ 122) || decide (65 ≤ r ∧ r ≤ 90) || decide (192 ≤ r ∧ r ≤ 591) || decide (913 ≤ r ∧ r ≤ 969)) := by
  unfold letterB
  rw [← Bool.decide_or, ← Bool.decide_or, ← Bool.decide_or]
  exact decide_eq_decide.2 (by omega)
 have C1 := runes_in r 97 122
 have C2 := runes_in r 65 90
 have C3 := runes_in r 192 591
 have C4 := runes_in r 913 969
 generalize decide (97 ≤ r ∧ r ≤ 122) = b1 at *
 generalize decide (65 ≤ r ∧ r ≤ 90) = b2 at *
 generalize decide (192 ≤ r ∧ r ≤ 591) = b3 at *
 generalize decide (913 ≤ r ∧ r ≤ 969) = b4 at *
 rw [e]
 cases b1 with
 | true =>
  refine AW.rT (by rfl) fun K hK => ?_
  simp -implicitDefEqProofs only [go_sem, ↓reduceIte]
  refine ⟨.pure _, C1, ?_⟩
  try simp -implicitDefEqProofs only [go_sem, ↓reduceIte, Nat.reduceAdd, Nat.reduceEqDiff]
  apply hK; clear hK K
  refine AW.ret ?_
  simp -implicitDefEqProofs only [go_sem]
  rfl
 | false =>
 cases b2 with
 | true =>
  refine AW.rT (by rfl) fun K hK => ?_
  simp -implicitDefEqProofs only [go_sem, ↓reduceIte]
  refine ⟨.pure _, C1, ?_⟩
  try simp -implicitDefEqProofs only [go_sem, ↓reduceIte, Nat.reduceAdd, Nat.reduceEqDiff, reduceCtorEq]
  refine ⟨.pure _, C2, ?_⟩
  try simp -implicitDefEqProofs only [go_sem, ↓reduceIte, Nat.reduceAdd, Nat.reduceEqDiff]
  apply hK; clear hK K
  refine AW.ret ?_
  simp -implicitDefEqProofs only [go_sem]
  rfl
 | false =>
 cases b3 with
 | true =>
  refine AW.rT (by rfl) fun K hK => ?_
  simp -implicitDefEqProofs only [go_sem, ↓reduceIte]
  refine ⟨.pure _, C1, ?_⟩
  try simp -implicitDefEqProofs only [go_sem, ↓reduceIte, Nat.reduceAdd, Nat.reduceEqDiff, reduceCtorEq]
  refine ⟨.pure _, C2, ?_⟩
  try simp -implicitDefEqProofs only [go_sem, ↓reduceIte, Nat.reduceAdd, Nat.reduceEqDiff, reduceCtorEq]
  refine ⟨.pure _, C3, ?_⟩
  try simp -implicitDefEqProofs only [go_sem, ↓reduceIte, Nat.reduceAdd, Nat.reduceEqDiff]
  apply hK; clear hK K
  refine AW.ret ?_
  simp -implicitDefEqProofs only [go_sem]
  rfl
 | false =>
  refine AW.rT (by rfl) fun K hK => ?_
  simp -implicitDefEqProofs only [go_sem, ↓reduceIte]
  refine ⟨.pure _, C1, ?_⟩
  try simp -implicitDefEqProofs only [go_sem, ↓reduceIte, Nat.reduceAdd, Nat.reduceEqDiff, reduceCtorEq]
  refine ⟨.pure _, C2, ?_⟩
  try simp -implicitDefEqProofs only [go_sem, ↓reduceIte, Nat.reduceAdd, Nat.reduceEqDiff, reduceCtorEq]
  refine ⟨.pure _, C3, ?_⟩
  try simp -implicitDefEqProofs only [go_sem, ↓reduceIte, Nat.reduceAdd, Nat.reduceEqDiff, reduceCtorEq]
  refine ⟨.pure _, C4, ?_⟩
  try simp -implicitDefEqProofs only [go_sem, ↓reduceIte, Nat.reduceAdd, Nat.reduceEqDiff]
  apply hK; clear hK K
  refine AW.ret ?_
  simp -implicitDefEqProofs only [go_sem]
  rfl
def kS80 (s : List UInt8) : St := ⟨ofL [(4, .p (.bool (keyB s)))], ofH [], 0⟩
theorem runes_Key (s : List UInt8) : PFn Tryd.prog 123 [.str s] (.bool (keyB s)) := by
 refine PFn.of Tryd.func123 rfl (by decide) Tryd.ntmps123 Tryd.results123 (Nat.le_of_ble_eq_true rfl) ?_
 simp only [argsT]
 refine AW.rT (by rfl) fun K hK => ?_
 simp -implicitDefEqProofs only [go_sem]
 apply hK; clear hK K
 refine AW.seq ?_
 refine AW.rT (by rfl) fun K hK => ?_
 simp -implicitDefEqProofs only [go_sem, ↓reduceIte, Nat.reduceAdd, reduceCtorEq]
 apply hK; clear hK K
 refine AW.block ?_
 refine AW.cut (fun _ : Unit => kS80 s) (fun _ => True) ?_ fun _ _ => ?_
 ·refine AW.rT (by rfl) fun K hK => ?_
  simp -implicitDefEqProofs only [go_sem, ↓reduceIte, Nat.reduceAdd]
  apply hK; clear hK K
  refine AW.cond _ (by simp -implicitDefEqProofs only [go_sem]; rfl) (fun hc => ?_) (fun hc => ?_)
  ·have e : keyB s = true := by simp only [keyB, keyWords, List.contains_cons, List.contains_nil, Bool.true_or, Bool.or_false, hc]
   refine AW.skip ?_
   simp only [andThen]
   refine ⟨(), trivial, ?_⟩
   simp only [kS80]
   refine Ghost.sub ?_ ?_ <;> simp -implicitDefEqProofs only [go_sem, ↓reduceIte, reduceCtorEq, e, hc, List.forall_mem_cons, List.not_mem_nil, false_implies, implies_true, and_self, AV.labsIn]
  have h0 : (s == ([115, 99, 104, 101, 109, 97] : List UInt8)) = false := hc
  clear hc
  refine AW.rT (by rfl) fun K hK => ?_
  simp -implicitDefEqProofs only [go_sem, ↓reduceIte, Nat.reduceAdd, Nat.reduceEqDiff]
  apply hK; clear hK K
  refine AW.cond _ (by simp -implicitDefEqProofs only [go_sem]; rfl) (fun hc => ?_) (fun hc => ?_)
  ·have e : keyB s = true := by simp only [keyB, keyWords, List.contains_cons, List.contains_nil, Bool.true_or, Bool.or_false, Bool.or_true, h0, hc]
   refine AW.skip ?_
   simp only [andThen]
   refine ⟨(), trivial, ?_⟩
   simp only [kS80]
   refine Ghost.sub ?_ ?_ <;> simp -implicitDefEqProofs only [go_sem, ↓reduceIte, reduceCtorEq, e, hc, List.forall_mem_cons, List.not_mem_nil, false_implies, implies_true, and_self, AV.labsIn]
  have h1 : (s == ([109, 101, 115, 115, 97, 103, 101] : List UInt8)) = false := hc
  clear hc
  refine AW.rT (by rfl) fun K hK => ?_
  simp -implicitDefEqProofs only [go_sem, ↓reduceIte, Nat.reduceAdd, Nat.reduceEqDiff]
  apply hK; clear hK K
  refine AW.cond _ (by simp -implicitDefEqProofs only [go_sem]; rfl) (fun hc => ?_) (fun hc => ?_)
  ·have e : keyB s = true := by simp only [keyB, keyWords, List.contains_cons, List.contains_nil, Bool.true_or, Bool.or_false, Bool.or_true, h0, h1, hc]
   refine AW.skip ?_
   simp only [andThen]
   refine ⟨(), trivial, ?_⟩
   simp only [kS80]
   refine Ghost.sub ?_ ?_ <;> simp -implicitDefEqProofs only [go_sem, ↓reduceIte, reduceCtorEq, e, hc, List.forall_mem_cons, List.not_mem_nil, false_implies, implies_true, and_self, AV.labsIn]
  have h2 : (s == ([101, 110, 117, 109] : List UInt8)) = false := hc
  clear hc
  refine AW.rT (by rfl) fun K hK => ?_
  simp -implicitDefEqProofs only [go_sem, ↓reduceIte, Nat.reduceAdd, Nat.reduceEqDiff]
  apply hK; clear hK K
  refine AW.cond _ (by simp -implicitDefEqProofs only [go_sem]; rfl) (fun hc => ?_) (fun hc => ?_)
  ·have e : keyB s = true := by simp only [keyB, keyWords, List.contains_cons, List.contains_nil, Bool.true_or, Bool.or_false, Bool.or_true, h0, h1, h2, hc]
   refine AW.skip ?_
   simp only [andThen]
   refine ⟨(), trivial, ?_⟩
   simp only [kS80]
   refine Ghost.sub ?_ ?_ <;> simp -implicitDefEqProofs only [go_sem, ↓reduceIte, reduceCtorEq, e, hc, List.forall_mem_cons, List.not_mem_nil, false_implies, implies_true, and_self, AV.labsIn]
  have h3 : (s == ([99, 97, 108, 108] : List UInt8)) = false := hc
  clear hc
  refine AW.rT (by rfl) fun K hK => ?_
  simp -implicitDefEqProofs only [go_sem, ↓reduceIte, Nat.reduceAdd, Nat.reduceEqDiff]
  apply hK; clear hK K
  refine AW.cond _ (by simp -implicitDefEqProofs only [go_sem]; rfl) (fun hc => ?_) (fun hc => ?_)
  ·have e : keyB s = true := by simp only [keyB, keyWords, List.contains_cons, List.contains_nil, Bool.true_or, Bool.or_false, Bool.or_true, h0, h1, h2, h3, hc]
   refine AW.skip ?_
   simp only [andThen]
   refine ⟨(), trivial, ?_⟩
   simp only [kS80]
   refine Ghost.sub ?_ ?_ <;> simp -implicitDefEqProofs only [go_sem, ↓reduceIte, reduceCtorEq, e, hc, List.forall_mem_cons, List.not_mem_nil, false_implies, implies_true, and_self, AV.labsIn]
  have h4 : (s == ([114, 101, 116, 117, 114, 110, 115] : List UInt8)) = false := hc
  clear hc
  refine AW.rT (by rfl) fun K hK => ?_
  simp -implicitDefEqProofs only [go_sem, ↓reduceIte, Nat.reduceAdd, Nat.reduceEqDiff]
  apply hK; clear hK K
  refine AW.cond _ (by simp -implicitDefEqProofs only [go_sem]; rfl) (fun hc => ?_) (fun hc => ?_)
  ·have e : keyB s = true := by simp only [keyB, keyWords, List.contains_cons, List.contains_nil, Bool.true_or, Bool.or_false, Bool.or_true, h0, h1, h2, h3, h4, hc]
   refine AW.skip ?_
   simp only [andThen]
   refine ⟨(), trivial, ?_⟩
   simp only [kS80]
   refine Ghost.sub ?_ ?_ <;> simp -implicitDefEqProofs only [go_sem, ↓reduceIte, reduceCtorEq, e, hc, List.forall_mem_cons, List.not_mem_nil, false_implies, implies_true, and_self, AV.labsIn]
  have h5 : (s == ([114, 101, 115, 101, 114, 118, 101, 100] : List UInt8)) = false := hc
  clear hc
  refine AW.rT (by rfl) fun K hK => ?_
  simp -implicitDefEqProofs only [go_sem, ↓reduceIte, Nat.reduceAdd, Nat.reduceEqDiff]
  apply hK; clear hK K
  refine AW.cond _ (by simp -implicitDefEqProofs only [go_sem]; rfl) (fun hc => ?_) (fun hc => ?_)
  ·have e : keyB s = true := by simp only [keyB, keyWords, List.contains_cons, List.contains_nil, Bool.true_or, Bool.or_false, Bool.or_true, h0, h1, h2, h3, h4, h5, hc]
   refine AW.skip ?_
   simp only [andThen]
   refine ⟨(), trivial, ?_⟩
   simp only [kS80]
   refine Ghost.sub ?_ ?_ <;> simp -implicitDefEqProofs only [go_sem, ↓reduceIte, reduceCtorEq, e, hc, List.forall_mem_cons, List.not_mem_nil, false_implies, implies_true, and_self, AV.labsIn]
  have h6 : (s == ([111, 112, 116, 105, 111, 110, 97, 108] : List UInt8)) = false := hc
  clear hc
  refine AW.rT (by rfl) fun K hK => ?_
  simp -implicitDefEqProofs only [go_sem, ↓reduceIte, Nat.reduceAdd, Nat.reduceEqDiff]
  apply hK; clear hK K
  refine AW.cond _ (by simp -implicitDefEqProofs only [go_sem]; rfl) (fun hc => ?_) (fun hc => ?_)
  ·have e : keyB s = true := by simp only [keyB, keyWords, List.contains_cons, List.contains_nil, Bool.true_or, Bool.or_false, Bool.or_true, h0, h1, h2, h3, h4, h5, h6, hc]
   refine AW.skip ?_
   simp only [andThen]
   refine ⟨(), trivial, ?_⟩
   simp only [kS80]
   refine Ghost.sub ?_ ?_ <;> simp -implicitDefEqProofs only [go_sem, ↓reduceIte, reduceCtorEq, e, hc, List.forall_mem_cons, List.not_mem_nil, false_implies, implies_true, and_self, AV.labsIn]
  have h7 : (s == ([114, 101, 112, 101, 97, 116, 101, 100] : List UInt8)) = false := hc
  clear hc
  refine AW.rT (by rfl) fun K hK => ?_
  simp -implicitDefEqProofs only [go_sem, ↓reduceIte, Nat.reduceAdd, Nat.reduceEqDiff]
  apply hK; clear hK K
  refine AW.cond _ (by simp -implicitDefEqProofs only [go_sem]; rfl) (fun hc => ?_) (fun hc => ?_)
  ·have e : keyB s = true := by simp only [keyB, keyWords, List.contains_cons, List.contains_nil, Bool.true_or, Bool.or_false, Bool.or_true, h0, h1, h2, h3, h4, h5, h6, h7, hc]
   refine AW.skip ?_
   simp only [andThen]
   refine ⟨(), trivial, ?_⟩
   simp only [kS80]
   refine Ghost.sub ?_ ?_ <;> simp -implicitDefEqProofs only [go_sem, ↓reduceIte, reduceCtorEq, e, hc, List.forall_mem_cons, List.not_mem_nil, false_implies, implies_true, and_self, AV.labsIn]
  have h8 : (s == ([105, 110, 116, 51, 50] : List UInt8)) = false := hc
  clear hc
  refine AW.rT (by rfl) fun K hK => ?_
  simp -implicitDefEqProofs only [go_sem, ↓reduceIte, Nat.reduceAdd, Nat.reduceEqDiff]
  apply hK; clear hK K
  refine AW.cond _ (by simp -implicitDefEqProofs only [go_sem]; rfl) (fun hc => ?_) (fun hc => ?_)
  ·have e : keyB s = true := by simp only [keyB, keyWords, List.contains_cons, List.contains_nil, Bool.true_or, Bool.or_false, Bool.or_true, h0, h1, h2, h3, h4, h5, h6, h7, h8, hc]
   refine AW.skip ?_
   simp only [andThen]
   refine ⟨(), trivial, ?_⟩
   simp only [kS80]
   refine Ghost.sub ?_ ?_ <;> simp -implicitDefEqProofs only [go_sem, ↓reduceIte, reduceCtorEq, e, hc, List.forall_mem_cons, List.not_mem_nil, false_implies, implies_true, and_self, AV.labsIn]
  have h9 : (s == ([105, 110, 116, 54, 52] : List UInt8)) = false := hc
  clear hc
  refine AW.rT (by rfl) fun K hK => ?_
  simp -implicitDefEqProofs only [go_sem, ↓reduceIte, Nat.reduceAdd, Nat.reduceEqDiff]
  apply hK; clear hK K
  refine AW.cond _ (by simp -implicitDefEqProofs only [go_sem]; rfl) (fun hc => ?_) (fun hc => ?_)
  ·have e : keyB s = true := by simp only [keyB, keyWords, List.contains_cons, List.contains_nil, Bool.true_or, Bool.or_false, Bool.or_true, h0, h1, h2, h3, h4, h5, h6, h7, h8, h9, hc]
   refine AW.skip ?_
   simp only [andThen]
   refine ⟨(), trivial, ?_⟩
   simp only [kS80]
   refine Ghost.sub ?_ ?_ <;> simp -implicitDefEqProofs only [go_sem, ↓reduceIte, reduceCtorEq, e, hc, List.forall_mem_cons, List.not_mem_nil, false_implies, implies_true, and_self, AV.labsIn]
  have h10 : (s == ([98, 111, 111, 108] : List UInt8)) = false := hc
  clear hc
  refine AW.rT (by rfl) fun K hK => ?_
  simp -implicitDefEqProofs only [go_sem, ↓reduceIte, Nat.reduceAdd, Nat.reduceEqDiff]
  apply hK; clear hK K
  refine AW.cond _ (by simp -implicitDefEqProofs only [go_sem]; rfl) (fun hc => ?_) (fun hc => ?_)
  ·have e : keyB s = true := by simp only [keyB, keyWords, List.contains_cons, List.contains_nil, Bool.true_or, Bool.or_false, Bool.or_true, h0, h1, h2, h3, h4, h5, h6, h7, h8, h9, h10, hc]
   refine AW.skip ?_
   simp only [andThen]
   refine ⟨(), trivial, ?_⟩
   simp only [kS80]
   refine Ghost.sub ?_ ?_ <;> simp -implicitDefEqProofs only [go_sem, ↓reduceIte, reduceCtorEq, e, hc, List.forall_mem_cons, List.not_mem_nil, false_implies, implies_true, and_self, AV.labsIn]
  have h11 : (s == ([116, 101, 120, 116] : List UInt8)) = false := hc
  clear hc
  have e : keyB s = (s == ([98, 121, 116, 101, 115] : List UInt8)) := by simp only [keyB, keyWords, List.contains_cons, List.contains_nil, Bool.false_or, Bool.or_false, h0, h1, h2, h3, h4, h5, h6, h7, h8, h9, h10, h11]
  refine AW.rE (by rfl) fun K hK => ?_
  simp -implicitDefEqProofs only [go_sem, ↓reduceIte, Nat.reduceAdd, Nat.reduceEqDiff]
  apply hK; clear hK K
  simp only [andThen]
  refine ⟨(), trivial, ?_⟩
  simp only [kS80]
  refine Ghost.sub ?_ ?_ <;> simp -implicitDefEqProofs only [go_sem, ↓reduceIte, reduceCtorEq, e, List.forall_mem_cons, List.not_mem_nil, false_implies, implies_true, and_self, AV.labsIn]
 simp only [kS80]
 refine AW.cond _ (by simp -implicitDefEqProofs only [go_sem, ↓reduceIte]; rfl) (fun hc => ?_) (fun hc => ?_)
 ·refine AW.rT (by rfl) fun K hK => ?_
  simp -implicitDefEqProofs only [go_sem]
  apply hK; clear hK K
  refine AW.ret ?_
  simp -implicitDefEqProofs only [go_sem, hc]
 ·refine AW.skip ?_
  simp only [andThen, inBlk]
  refine AW.rT (by rfl) fun K hK => ?_
  simp -implicitDefEqProofs only [go_sem]
  apply hK; clear hK K
  refine AW.ret ?_
  simp -implicitDefEqProofs only [go_sem, hc]
end Go.Aw
namespace Go.Aw
open Go.Proofs
def nextT (s : List UInt8) (p : Nat) : PV := .tuple [.int .i32 (resN (runeAt s p)).1, .int .i64 (resN (runeAt s p)).2.1, .bool (resN (runeAt s p)).2.2]
end Go.Aw
namespace Go.Aw
open Go.Proofs Go.RowKit
theorem Fr.ofBelow {w w' : World} (h : Below w.heap.size w w') : Fr w (fun _ => False) w' :=
 ⟨h.os, h.tape, h.output, h.size, fun b hb _ => h.block b hb, fun b cur et p hb => ⟨cur, et, p, by
  rw [h.block b (Array.getElem?_eq_some_iff.1 hb).1]; exact hb, rfl⟩⟩
theorem utf8_decode (s : List UInt8) (h : s ≠ []) : PFn Tryd.prog 158 [.str s] (.tuple [.int .i32 ((runeAt s 0).1 : Int), .int .i64 ((runeAt s 0).2 : Int)]) := by
 refine ⟨by kernel_rfl, fun w I vals hs hr hI ht => ?_⟩
 have hs1 : vals.size = 1 := by rw [hs]; rfl
 have h0 := hr 0 _ _ (Array.getElem?_eq_getElem (by omega)) rfl
 have hv : vals = #[.string ⟨⟨s⟩⟩] := by
  generalize e1 : vals[0] = v1 at h0
  cases h0
  apply Array.ext
  ·rw [hs1]; rfl
  ·intro i hi hi'
   have : i < 1 := by omega
   match i, this with
   | 0, _ => exact e1
 subst hv
 have hne : (⟨⟨s⟩⟩ : ByteArray).size ≠ 0 := by
  show s.length ≠ 0
  intro e
  exact h (List.length_eq_zero_iff.1 e)
 have e : Lib.decodeGo ⟨⟨s⟩⟩ = runeAt s 0 := by
  unfold Lib.decodeGo runeAt
  rw [if_neg hne]
 refine (Tryd.utf8_DecodeRuneInString ⟨⟨s⟩⟩ w ht.1).mono fun x w' ⟨he, hb⟩ => ⟨_, he, Fr.ofBelow hb, ?_⟩
 rw [e]
 refine .tuple rfl fun j u' q h1 h2 => ?_
 match j, h1, h2 with
 | 0, h1, h2 => simp at h1 h2; subst h1; subst h2; exact .int _ _
 | 1, h1, h2 => simp at h1 h2; subst h1; subst h2; exact .int _ _
 | n + 2, h1, _ => simp at h1
theorem resN_cases (x : Nat × Nat) : (resN x = (0, 0, false) ∧ x.1 = 65533 ∧ x.2 < 2) ∨ (resN x = ((x.1 : Int), (x.2 : Int), true) ∧ ¬ (x.1 = 65533 ∧ x.2 < 2)) := by
 unfold resN
 split
 ·rename_i h; exact .inl ⟨rfl, h⟩
 ·rename_i h; exact .inr ⟨rfl, h⟩
theorem runes_Next (s : List UInt8) (p : Nat) (hp : p < s.length) (hl : s.length ≤ 1000000000) : PFn Tryd.prog 149 [.str s, .int .i64 (p : Int)] (nextT s p) := by
 refine PFn.of Tryd.func149 rfl (by decide) Tryd.ntmps149 Tryd.results149 (Nat.le_of_ble_eq_true rfl) ?_
 simp only [argsT, nextT]
 have g0 : ((p : Int) < 0) = False := eq_false (by omega)
 have g1 : 0 ≤ (p : Int) := by omega
 have g2 : (p : Int) ≤ (s.length : Int) := by omega
 have g3 : ((p : Int) ≥ (s.length : Int)) = False := eq_false (by omega)
 have U := utf8_decode (s.drop p) (by rw [Ne, List.drop_eq_nil_iff]; omega)
 rw [runeAt_drop] at U
 refine AW.rT (by rfl) fun K hK => ?_
 simp -implicitDefEqProofs only [go_sem, Nat.reduceAdd]
 apply hK; clear hK K
 refine AW.seq ?_
 refine AW.rT (by rfl) fun K hK => ?_
 simp -implicitDefEqProofs only [go_sem, ↓reduceIte, Nat.reduceAdd, Nat.reduceEqDiff, reduceCtorEq, g0, g3]
 apply hK; clear hK K
 refine AW.cF rfl ?_
 refine AW.skip ?_
 simp only [andThen]
 refine AW.rT (by rfl) fun K hK => ?_
 simp -implicitDefEqProofs only [go_sem, ↓reduceIte, Nat.reduceAdd, Nat.reduceEqDiff, reduceCtorEq, g1, g2, List.take_length, Int.le_refl]
 refine ⟨.pure _, U, ?_⟩
 try simp -implicitDefEqProofs only [go_sem, ↓reduceIte, Nat.reduceAdd, Nat.reduceEqDiff]
 apply hK; clear hK K
 refine AW.seq ?_
 generalize runeAt s p = x
 rcases resN_cases x with ⟨e, e1, e2⟩ | ⟨e, en⟩
 ·have f1 : ((x.1 : Int) == 65533) = true := by simp; omega
  have f2 : ((x.2 : Int) < 2) = True := eq_true (by omega)
  refine AW.rT (by rfl) fun K hK => ?_
  simp -implicitDefEqProofs only [go_sem, ↓reduceIte, Nat.reduceAdd, Nat.reduceEqDiff, f1, f2]
  apply hK; clear hK K
  refine AW.cT rfl ?_
  refine AW.rT (by rfl) fun K hK => ?_
  simp -implicitDefEqProofs only [go_sem, Nat.reduceAdd]
  apply hK; clear hK K
  refine AW.ret ?_
  simp -implicitDefEqProofs only [go_sem, ↓reduceIte, Nat.reduceEqDiff, e]
 ·by_cases e1 : x.1 = 65533
  ·have f1 : ((x.1 : Int) == 65533) = true := by simp; omega
   have f2 : ((x.2 : Int) < 2) = False := eq_false (by omega)
   refine AW.rT (by rfl) fun K hK => ?_
   simp -implicitDefEqProofs only [go_sem, ↓reduceIte, Nat.reduceAdd, Nat.reduceEqDiff, f1, f2]
   apply hK; clear hK K
   refine AW.cF rfl ?_
   refine AW.skip ?_
   simp only [andThen]
   refine AW.rT (by rfl) fun K hK => ?_
   simp -implicitDefEqProofs only [go_sem, ↓reduceIte, Nat.reduceAdd, Nat.reduceEqDiff]
   apply hK; clear hK K
   refine AW.ret ?_
   simp -implicitDefEqProofs only [go_sem, ↓reduceIte, Nat.reduceEqDiff, e]
  ·have f1 : ((x.1 : Int) == 65533) = false := by simp; omega
   refine AW.rT (by rfl) fun K hK => ?_
   simp -implicitDefEqProofs only [go_sem, ↓reduceIte, Nat.reduceAdd, Nat.reduceEqDiff, f1]
   apply hK; clear hK K
   refine AW.cF rfl ?_
   refine AW.skip ?_
   simp only [andThen]
   refine AW.rT (by rfl) fun K hK => ?_
   simp -implicitDefEqProofs only [go_sem, ↓reduceIte, Nat.reduceAdd, Nat.reduceEqDiff]
   apply hK; clear hK K
   refine AW.ret ?_
   simp -implicitDefEqProofs only [go_sem, ↓reduceIte, Nat.reduceEqDiff, e]
def vaS (s : List UInt8) (p : Nat) : St := ⟨ofL [(0, .p (.str s)), (9, .it 0)], ofH [(0, .iter s p)], 1⟩
theorem runes_end {s : List UInt8} {p : Nat} (h : ¬ p < s.length) : runesO s p = some [] := by rw [runesO_step, if_neg h]
theorem runes_bad {s : List UInt8} {p : Nat} (h : p < s.length) (hr : (resN (runeAt s p)).2.2 = false) : runesO s p = none := by rw [runesO_step, if_pos h, if_neg (by rw [hr]; simp)]
theorem runes_ok {s : List UInt8} {p : Nat} (h : p < s.length) (hr : (resN (runeAt s p)).2.2 = true) : runesO s p = (runesO s (p + (runeAt s p).2)).map (((runeAt s p).1 : Int) :: ·) := by
 rw [runesO_step, if_pos h, if_pos hr]
 cases runesO s (p + (runeAt s p).2) <;> rfl
theorem runes_Valid (s : List UInt8) (hl : s.length ≤ 1000000000) : PFn Tryd.prog 131 [.str s] (.bool (runesO s 0).isSome) := by
 refine PFn.of Tryd.func131 rfl (by decide) Tryd.ntmps131 Tryd.results131 (Nat.le_of_ble_eq_true rfl) ?_
 simp only [argsT]
 refine AW.rT (by rfl) fun K hK => ?_
 simp -implicitDefEqProofs only [go_sem]
 apply hK; clear hK K
 refine AW.seq ?_
 refine AW.rT (by rfl) fun K hK => ?_
 simp -implicitDefEqProofs only [go_sem, ↓reduceIte, Nat.reduceAdd, reduceCtorEq]
 apply hK; clear hK K
 refine AW.block ?_
 refine AW.loop (vaS s) (fun p => p ≤ s.length ∧ (runesO s 0).isSome = (runesO s p).isSome) (fun p => s.length - p) 0 ?_ ⟨by omega, rfl⟩ fun p hp => ?_
 ·simp only [vaS]
  refine Ghost.ent (fun _ => 2) ?_ ?_ ?_ <;> simp -implicitDefEqProofs only [go_sem, ↓reduceIte, reduceCtorEq, List.forall_mem_cons, List.not_mem_nil, false_implies, implies_true, and_self, Nat.reduceLT, AV.labsIn]
 obtain ⟨p1, p2⟩ := hp
 simp only [vaS]
 have wid := runeAt_wid s p
 by_cases hp : p < s.length
 case neg =>
  have e : (runesO s 0).isSome = true := by rw [p2, runes_end hp]; rfl
  refine AW.rT (by rfl) fun K hK => ?_
  simp -implicitDefEqProofs only [go_sem, ↓reduceIte, Nat.reduceAdd, reduceCtorEq, hp]
  apply hK; clear hK K
  refine AW.seq ?_
  refine AW.cF rfl ?_
  refine AW.exit ?_
  simp only [andThen, inBlk, ↓reduceIte]
  refine AW.rT (by rfl) fun K hK => ?_
  simp -implicitDefEqProofs only [go_sem, Nat.reduceAdd]
  apply hK; clear hK K
  refine AW.ret ?_
  simp -implicitDefEqProofs only [go_sem, e]
 have hin := runeAt_in s p hp
 refine AW.rT (by rfl) fun K hK => ?_
 simp -implicitDefEqProofs only [go_sem, ↓reduceIte, Nat.reduceAdd, reduceCtorEq, hp]
 apply hK; clear hK K
 refine AW.seq ?_
 refine AW.cT rfl ?_
 refine AW.skip ?_
 simp only [andThen]
 refine AW.block ?_
 refine AW.rT (by rfl) fun K hK => ?_
 simp -implicitDefEqProofs only [go_sem, ↓reduceIte, Nat.reduceAdd, Nat.reduceEqDiff]
 apply hK; clear hK K
 refine AW.seq ?_
 have next : (resN (runeAt s p)).2.2 = true → (runesO s 0).isSome = (runesO s (p + (runeAt s p).2)).isSome := fun h => by rw [p2, runes_ok hp h, Option.isSome_map]
 by_cases h1 : (runeAt s p).1 = 65533
 case neg =>
  have f1 : (((runeAt s p).1 : Int) != 65533) = true := by simp; omega
  have ok : (resN (runeAt s p)).2.2 = true := by
   rcases resN_cases (runeAt s p) with ⟨e, e1, e2⟩ | ⟨e, en⟩
   ·exact absurd e1 h1
   ·rw [e]
  refine AW.rT (by rfl) fun K hK => ?_
  simp -implicitDefEqProofs only [go_sem, ↓reduceIte, Nat.reduceAdd, f1]
  apply hK; clear hK K
  refine AW.cT rfl ?_
  refine AW.exit ?_
  simp only [andThen, inBlk, ↓reduceIte]
  refine ⟨p + (runeAt s p).2, ⟨hin, next ok⟩, by omega, ?_⟩
  refine Ghost.sub ?_ ?_ <;> simp -implicitDefEqProofs only [go_sem, ↓reduceIte, Nat.reduceEqDiff, reduceCtorEq, List.forall_mem_cons, List.not_mem_nil, false_implies, implies_true, and_self, Nat.reduceLT, AV.labsIn]
 have f1 : (((runeAt s p).1 : Int) != 65533) = false := by simp; omega
 refine AW.rT (by rfl) fun K hK => ?_
 simp -implicitDefEqProofs only [go_sem, ↓reduceIte, Nat.reduceAdd, f1]
 apply hK; clear hK K
 refine AW.cF rfl ?_
 refine AW.skip ?_
 simp only [andThen]
 have N := runes_Next s p hp hl
 unfold nextT at N
 refine AW.rT (by rfl) fun K hK => ?_
 simp -implicitDefEqProofs only [go_sem, ↓reduceIte, Nat.reduceAdd, Nat.reduceEqDiff, reduceCtorEq]
 refine ⟨.pure _, N, ?_⟩
 try simp -implicitDefEqProofs only [go_sem, ↓reduceIte, Nat.reduceAdd, Nat.reduceEqDiff]
 apply hK; clear hK K
 cases hb : (resN (runeAt s p)).2.2 with
 | true =>
  refine AW.rT (by rfl) fun K hK => ?_
  simp -implicitDefEqProofs only [go_sem, Nat.reduceAdd]
  apply hK; clear hK K
  refine AW.cF rfl ?_
  refine AW.skip ?_
  simp only [andThen, inBlk]
  refine ⟨p + (runeAt s p).2, ⟨hin, next hb⟩, by omega, ?_⟩
  refine Ghost.sub ?_ ?_ <;> simp -implicitDefEqProofs only [go_sem, ↓reduceIte, Nat.reduceEqDiff, reduceCtorEq, List.forall_mem_cons, List.not_mem_nil, false_implies, implies_true, and_self, Nat.reduceLT, AV.labsIn]
 | false =>
  have e : (runesO s 0).isSome = false := by rw [p2, runes_bad hp hb]; rfl
  refine AW.rT (by rfl) fun K hK => ?_
  simp -implicitDefEqProofs only [go_sem, Nat.reduceAdd]
  apply hK; clear hK K
  refine AW.cT rfl ?_
  refine AW.rT (by rfl) fun K hK => ?_
  simp -implicitDefEqProofs only [go_sem, Nat.reduceAdd]
  apply hK; clear hK K
  refine AW.ret ?_
  simp -implicitDefEqProofs only [go_sem, e]
def coS (s : List UInt8) (x : Nat × Nat) : St := ⟨ofL [(0, .p (.str s)), (8, .it 0), (3, .p (.int .i64 (x.2 : Int)))], ofH [(0, .iter s x.1)], 1⟩
def countN (s : List UInt8) : Nat := match runesO s 0 with | none => 0 | some l => l.length
theorem runes_len (s : List UInt8) : ∀ (n p : Nat) (l : List Int), runesF s n p = some l → l.length ≤ n
 | 0, p, l, h => by simp [runesF] at h; simp [h]
 | n + 1, p, l, h => by
  rw [runesF] at h
  split at h
  ·split at h
   ·split at h
    ·rename_i l' hl
     injection h with h
     subst h
     have := runes_len s n _ _ hl
     simp; omega
    ·cases h
   ·cases h
  ·injection h with h; subst h; simp
theorem runes_Count (s : List UInt8) (hl : s.length ≤ 1000000000) : PFn Tryd.prog 122 [.str s] (.int .i64 (countN s : Int)) := by
 refine PFn.of Tryd.func122 rfl (by decide) Tryd.ntmps122 Tryd.results122 (Nat.le_of_ble_eq_true rfl) ?_
 simp only [argsT]
 refine AW.rT (by rfl) fun K hK => ?_
 simp -implicitDefEqProofs only [go_sem]
 apply hK; clear hK K
 refine AW.seq ?_
 refine AW.rT (by rfl) fun K hK => ?_
 simp -implicitDefEqProofs only [go_sem, ↓reduceIte, Nat.reduceAdd, reduceCtorEq]
 refine ⟨.pure _, runes_Valid s hl, ?_⟩
 try simp -implicitDefEqProofs only [go_sem, Nat.reduceAdd]
 apply hK; clear hK K
 cases hr : runesO s 0 with
 | none =>
  have e : countN s = 0 := by unfold countN; rw [hr]
  have ei : (none : Option (List Int)).isSome = false := rfl
  simp only [ei]
  refine AW.cT rfl ?_
  refine AW.rT (by rfl) fun K hK => ?_
  simp -implicitDefEqProofs only [go_sem, Nat.reduceAdd]
  apply hK; clear hK K
  refine AW.ret ?_
  simp -implicitDefEqProofs only [go_sem, e]
  rfl
 | some L =>
  have e : countN s = L.length := by unfold countN; rw [hr]
  have hLl : L.length ≤ s.length := by unfold runesO at hr; exact runes_len s _ _ _ hr
  have ei : (some L : Option (List Int)).isSome = true := rfl
  simp only [ei]
  refine AW.cF rfl ?_
  refine AW.skip ?_
  simp only [andThen]
  refine AW.rT (by rfl) fun K hK => ?_
  simp -implicitDefEqProofs only [go_sem, Nat.reduceAdd]
  apply hK; clear hK K
  refine AW.seq ?_
  refine AW.rT (by rfl) fun K hK => ?_
  simp -implicitDefEqProofs only [go_sem, ↓reduceIte, Nat.reduceAdd, reduceCtorEq]
  apply hK; clear hK K
  refine AW.block ?_
  refine AW.loop (coS s) (fun x => x.1 ≤ s.length ∧ ∃ l, runesO s x.1 = some l ∧ x.2 + l.length = L.length) (fun x => s.length - x.1) (0, 0) ?_ ⟨by simp, L, hr, by simp⟩ fun x hx => ?_
  ·simp only [coS]
   refine Ghost.ent (fun _ => 6) ?_ ?_ ?_ <;> simp -implicitDefEqProofs only [go_sem, ↓reduceIte, Nat.reduceEqDiff, reduceCtorEq, List.forall_mem_cons, List.not_mem_nil, false_implies, implies_true, and_self, Nat.reduceLT, AV.labsIn]
   rfl
  obtain ⟨p, c⟩ := x
  obtain ⟨p1, l, p2, p3⟩ := hx
  dsimp only at p1 p2 p3
  simp only [coS]
  have wid := runeAt_wid s p
  by_cases hp : p < s.length
  case neg =>
   rw [runes_end hp] at p2
   injection p2 with p2
   subst p2
   have e' : countN s = c := by rw [e, ← p3]; simp
   refine AW.rT (by rfl) fun K hK => ?_
   simp -implicitDefEqProofs only [go_sem, ↓reduceIte, Nat.reduceAdd, reduceCtorEq, hp]
   apply hK; clear hK K
   refine AW.seq ?_
   refine AW.cF rfl ?_
   refine AW.exit ?_
   simp only [andThen, inBlk, ↓reduceIte]
   refine AW.rT (by rfl) fun K hK => ?_
   simp -implicitDefEqProofs only [go_sem, ↓reduceIte, Nat.reduceAdd, Nat.reduceEqDiff, reduceCtorEq]
   apply hK; clear hK K
   refine AW.ret ?_
   simp -implicitDefEqProofs only [go_sem, e']
  have hin := runeAt_in s p hp
  refine AW.rT (by rfl) fun K hK => ?_
  simp -implicitDefEqProofs only [go_sem, ↓reduceIte, Nat.reduceAdd, reduceCtorEq, hp]
  apply hK; clear hK K
  refine AW.seq ?_
  refine AW.cT rfl ?_
  refine AW.skip ?_
  simp only [andThen]
  refine AW.block ?_
  cases hb : (resN (runeAt s p)).2.2 with
  | false => rw [runes_bad hp hb] at p2; cases p2
  | true =>
   rw [runes_ok hp hb, Option.map_eq_some_iff] at p2
   obtain ⟨l', q1, rfl⟩ := p2
   rw [List.length_cons] at p3
   have w1 : IntKind.wrap .i64 ((c : Int) + 1) = ((c + 1 : Nat) : Int) := by rw [w64] <;> omega
   refine AW.rE (by rfl) fun K hK => ?_
   simp -implicitDefEqProofs only [go_sem, ↓reduceIte, Nat.reduceAdd, Nat.reduceEqDiff, reduceCtorEq, w1]
   apply hK; clear hK K
   simp only [andThen, inBlk]
   refine ⟨(p + (runeAt s p).2, c + 1), ⟨hin, l', q1, by show c + 1 + l'.length = L.length; omega⟩, by show s.length - (p + (runeAt s p).2) < s.length - p; omega, ?_⟩
   refine Ghost.sub ?_ ?_ <;> simp -implicitDefEqProofs only [go_sem, ↓reduceIte, Nat.reduceEqDiff, reduceCtorEq, List.forall_mem_cons, List.not_mem_nil, false_implies, implies_true, and_self, Nat.reduceLT, AV.labsIn]
end Go.Aw
namespace Go.Aw
open Go.Proofs
theorem word_app (a : Int) (pre l : List Int) : wordB ((a :: pre) ++ l) = (wordB (a :: pre) && l.all fun x => letterB x || digitB x) := by
 simp [wordB, List.all_append, Bool.and_assoc]
theorem word_next {pre : List Int} {r : Int} (h : pre = [] ∨ wordB pre = true) (hr : letterB r = true ∨ (pre ≠ [] ∧ digitB r = true)) : wordB (pre ++ [r]) = true := by
 cases pre with
 | nil =>
  rcases hr with hr | ⟨hr, _⟩
  ·simp [wordB, hr]
  ·exact absurd rfl hr
 | cons a pre =>
  have h' : wordB (a :: pre) = true := by
   rcases h with h | h
   ·cases h
   ·exact h
  rw [word_app, h']
  rcases hr with hr | ⟨_, hr⟩ <;> simp [hr]
theorem word_bad {pre l : List Int} {r : Int} (hr : letterB r = false) (hd : pre = [] ∨ digitB r = false) : wordB (pre ++ r :: l) = false := by
 cases pre with
 | nil => simp [wordB, hr]
 | cons a pre =>
  rw [word_app]
  rcases hd with hd | hd
  ·cases hd
  ·simp [hr, hd]
def naS (s : List UInt8) (p : Nat) : St := ⟨ofL [(0, .p (.str s)), (19, .it 0)], ofH [(0, .iter s p)], 1⟩
theorem runes_Name (s : List UInt8) (hl : s.length ≤ 1000000000) : PFn Tryd.prog 92 [.str s] (.bool (nameB s)) := by
 refine PFn.of Tryd.func92 rfl (by decide) Tryd.ntmps92 Tryd.results92 (Nat.le_of_ble_eq_true rfl) ?_
 simp only [argsT]
 refine AW.rT (by rfl) fun K hK => ?_
 simp -implicitDefEqProofs only [go_sem]
 apply hK; clear hK K
 refine AW.rT (by rfl) fun K hK => ?_
 simp -implicitDefEqProofs only [go_sem, ↓reduceIte, Nat.reduceAdd, reduceCtorEq]
 refine ⟨.pure _, runes_Count s hl, ?_⟩
 try simp -implicitDefEqProofs only [go_sem, Nat.reduceAdd]
 apply hK; clear hK K
 refine AW.seq ?_
 by_cases h1 : countN s < 1
 ·have f1 : ((countN s : Int) < 1) = True := eq_true (by omega)
  have e : nameB s = false := by
   unfold countN at h1
   unfold nameB
   cases hr : runesO s 0 with
   | none => rfl
   | some l =>
    rw [hr] at h1
    have : l = [] := List.length_eq_zero_iff.1 (by simpa using h1)
    subst this
    simp [wordB]
  refine AW.rT (by rfl) fun K hK => ?_
  simp -implicitDefEqProofs only [go_sem, ↓reduceIte, Nat.reduceAdd, Nat.reduceEqDiff, f1]
  apply hK; clear hK K
  refine AW.cT rfl ?_
  refine AW.rT (by rfl) fun K hK => ?_
  simp -implicitDefEqProofs only [go_sem, Nat.reduceAdd]
  apply hK; clear hK K
  refine AW.ret ?_
  simp -implicitDefEqProofs only [go_sem, e]
 obtain ⟨L, hL⟩ : ∃ L, runesO s 0 = some L := by
  unfold countN at h1
  cases hr : runesO s 0 with
  | none => rw [hr] at h1; simp at h1
  | some l => exact ⟨l, rfl⟩
 have hc0 : countN s = L.length := by unfold countN; rw [hL]
 have eN : nameB s = (decide (L.length ≤ 20) && !keyB s && wordB L) := by unfold nameB; rw [hL]
 rw [hc0] at h1
 rw [hc0]
 have f1 : ((L.length : Int) < 1) = False := eq_false (by omega)
 by_cases h2 : L.length > 20
 ·have f2 : ((L.length : Int) > 20) = True := eq_true (by omega)
  have e : nameB s = false := by rw [eN, decide_eq_false (by omega)]; rfl
  refine AW.rT (by rfl) fun K hK => ?_
  simp -implicitDefEqProofs only [go_sem, ↓reduceIte, Nat.reduceAdd, Nat.reduceEqDiff, f1, f2]
  apply hK; clear hK K
  refine AW.cT rfl ?_
  refine AW.rT (by rfl) fun K hK => ?_
  simp -implicitDefEqProofs only [go_sem, Nat.reduceAdd]
  apply hK; clear hK K
  refine AW.ret ?_
  simp -implicitDefEqProofs only [go_sem, e]
 have f2 : ((L.length : Int) > 20) = False := eq_false (by omega)
 rw [decide_eq_true (by omega), Bool.true_and] at eN
 refine AW.rT (by rfl) fun K hK => ?_
 simp -implicitDefEqProofs only [go_sem, ↓reduceIte, Nat.reduceAdd, Nat.reduceEqDiff, reduceCtorEq, f1, f2]
 refine ⟨.pure _, runes_Key s, ?_⟩
 try simp -implicitDefEqProofs only [go_sem, ↓reduceIte, Nat.reduceAdd, Nat.reduceEqDiff]
 apply hK; clear hK K
 cases hk : keyB s with
 | true =>
  rw [hk] at eN
  have e : nameB s = false := eN
  refine AW.cT rfl ?_
  refine AW.rT (by rfl) fun K hK => ?_
  simp -implicitDefEqProofs only [go_sem, Nat.reduceAdd]
  apply hK; clear hK K
  refine AW.ret ?_
  simp -implicitDefEqProofs only [go_sem, e]
 | false =>
  rw [hk] at eN
  have eN : nameB s = wordB L := eN
  refine AW.cF rfl ?_
  refine AW.skip ?_
  simp only [andThen]
  refine AW.seq ?_
  refine AW.rT (by rfl) fun K hK => ?_
  simp -implicitDefEqProofs only [go_sem, ↓reduceIte, Nat.reduceAdd, reduceCtorEq]
  apply hK; clear hK K
  refine AW.block ?_
  refine AW.loop (naS s) (fun p => p ≤ s.length ∧ ∃ pre l, L = pre ++ l ∧ runesO s p = some l ∧ (p = 0 ↔ pre = []) ∧ (pre = [] ∨ wordB pre = true)) (fun p => s.length - p) 0 ?_ ⟨by omega, [], L, rfl, hL, by simp, .inl rfl⟩ fun p hp => ?_
  ·simp only [naS]
   refine Ghost.ent (fun _ => 15) ?_ ?_ ?_ <;> simp -implicitDefEqProofs only [go_sem, ↓reduceIte, reduceCtorEq, List.forall_mem_cons, List.not_mem_nil, false_implies, implies_true, and_self, Nat.reduceLT, AV.labsIn]
  obtain ⟨p1, pre, l, p2, p3, p4, p5⟩ := hp
  simp only [naS]
  have wid := runeAt_wid s p
  by_cases hp : p < s.length
  case neg =>
   rw [runes_end hp] at p3
   injection p3 with p3
   subst p3
   have e : nameB s = true := by
    rw [eN, p2]
    rcases p5 with rfl | h
    ·rw [p2] at h1; simp at h1
    ·simpa using h
   refine AW.rT (by rfl) fun K hK => ?_
   simp -implicitDefEqProofs only [go_sem, ↓reduceIte, Nat.reduceAdd, reduceCtorEq, hp]
   apply hK; clear hK K
   refine AW.seq ?_
   refine AW.cF rfl ?_
   refine AW.exit ?_
   simp only [andThen, inBlk, ↓reduceIte]
   refine AW.rT (by rfl) fun K hK => ?_
   simp -implicitDefEqProofs only [go_sem, Nat.reduceAdd]
   apply hK; clear hK K
   refine AW.ret ?_
   simp -implicitDefEqProofs only [go_sem, e]
  have hin := runeAt_in s p hp
  obtain ⟨l', q1, rfl⟩ : ∃ l', runesO s (p + (runeAt s p).2) = some l' ∧ ((runeAt s p).1 : Int) :: l' = l := by
   cases hb : (resN (runeAt s p)).2.2 with
   | false => rw [runes_bad hp hb] at p3; cases p3
   | true => rwa [runes_ok hp hb, Option.map_eq_some_iff] at p3
  have again : letterB ((runeAt s p).1 : Int) = true ∨ (pre ≠ [] ∧ digitB ((runeAt s p).1 : Int) = true) → (p + (runeAt s p).2 ≤ s.length ∧ ∃ pre l, L = pre ++ l ∧ runesO s (p + (runeAt s p).2) = some l ∧ (p + (runeAt s p).2 = 0 ↔ pre = []) ∧ (pre = [] ∨ wordB pre = true)) :=
   fun h => ⟨hin, pre ++ [((runeAt s p).1 : Int)], l', by rw [p2]; simp, q1, ⟨fun h => by omega, fun h => by simp at h⟩, .inr (word_next p5 h)⟩
  refine AW.rT (by rfl) fun K hK => ?_
  simp -implicitDefEqProofs only [go_sem, ↓reduceIte, Nat.reduceAdd, reduceCtorEq, hp]
  apply hK; clear hK K
  refine AW.seq ?_
  refine AW.cT rfl ?_
  refine AW.skip ?_
  simp only [andThen]
  refine AW.block ?_
  refine AW.rT (by rfl) fun K hK => ?_
  simp -implicitDefEqProofs only [go_sem, ↓reduceIte, Nat.reduceAdd, Nat.reduceEqDiff]
  apply hK; clear hK K
  cases h3 : letterB ((runeAt s p).1 : Int) with
  | true =>
   refine AW.rT (by rfl) fun K hK => ?_
   simp -implicitDefEqProofs only [go_sem, Nat.reduceAdd]
   refine ⟨.pure _, runes_Letter ((runeAt s p).1 : Int), ?_⟩
   try simp -implicitDefEqProofs only [go_sem, ↓reduceIte, Nat.reduceAdd, Nat.reduceEqDiff, h3]
   apply hK; clear hK K
   refine AW.cF rfl ?_
   refine AW.skip ?_
   simp only [andThen, inBlk]
   refine ⟨p + (runeAt s p).2, again (.inl h3), by omega, ?_⟩
   refine Ghost.sub ?_ ?_ <;> simp -implicitDefEqProofs only [go_sem, ↓reduceIte, Nat.reduceEqDiff, reduceCtorEq, List.forall_mem_cons, List.not_mem_nil, false_implies, implies_true, and_self, Nat.reduceLT, AV.labsIn]
  | false =>
   by_cases h4 : p = 0
   ·have f4 : ((p : Int) == 0) = true := by simp; omega
    have e : nameB s = false := by rw [eN, p2]; exact word_bad h3 (.inl (p4.1 h4))
    refine AW.rT (by rfl) fun K hK => ?_
    simp -implicitDefEqProofs only [go_sem, Nat.reduceAdd]
    refine ⟨.pure _, runes_Letter ((runeAt s p).1 : Int), ?_⟩
    try simp -implicitDefEqProofs only [go_sem, ↓reduceIte, Nat.reduceAdd, Nat.reduceEqDiff, h3, f4]
    apply hK; clear hK K
    refine AW.cT rfl ?_
    refine AW.rT (by rfl) fun K hK => ?_
    simp -implicitDefEqProofs only [go_sem, Nat.reduceAdd]
    apply hK; clear hK K
    refine AW.ret ?_
    simp -implicitDefEqProofs only [go_sem, e]
   ·have f4 : ((p : Int) == 0) = false := by simp; omega
    cases h5 : digitB ((runeAt s p).1 : Int) with
    | true =>
     refine AW.rT (by rfl) fun K hK => ?_
     simp -implicitDefEqProofs only [go_sem, Nat.reduceAdd]
     refine ⟨.pure _, runes_Letter ((runeAt s p).1 : Int), ?_⟩
     try simp -implicitDefEqProofs only [go_sem, ↓reduceIte, Nat.reduceAdd, Nat.reduceEqDiff, h3, f4]
     refine ⟨.pure _, runes_Digit ((runeAt s p).1 : Int), ?_⟩
     try simp -implicitDefEqProofs only [go_sem, ↓reduceIte, Nat.reduceAdd, Nat.reduceEqDiff, h5]
     apply hK; clear hK K
     refine AW.cF rfl ?_
     refine AW.skip ?_
     simp only [andThen, inBlk]
     refine ⟨p + (runeAt s p).2, again (.inr ⟨fun h => h4 (p4.2 h), h5⟩), by omega, ?_⟩
     refine Ghost.sub ?_ ?_ <;> simp -implicitDefEqProofs only [go_sem, ↓reduceIte, Nat.reduceEqDiff, reduceCtorEq, List.forall_mem_cons, List.not_mem_nil, false_implies, implies_true, and_self, Nat.reduceLT, AV.labsIn]
    | false =>
     have e : nameB s = false := by rw [eN, p2]; exact word_bad h3 (.inr h5)
     refine AW.rT (by rfl) fun K hK => ?_
     simp -implicitDefEqProofs only [go_sem, Nat.reduceAdd]
     refine ⟨.pure _, runes_Letter ((runeAt s p).1 : Int), ?_⟩
     try simp -implicitDefEqProofs only [go_sem, ↓reduceIte, Nat.reduceAdd, Nat.reduceEqDiff, h3, f4]
     refine ⟨.pure _, runes_Digit ((runeAt s p).1 : Int), ?_⟩
     try simp -implicitDefEqProofs only [go_sem, ↓reduceIte, Nat.reduceAdd, Nat.reduceEqDiff, h5]
     apply hK; clear hK K
     refine AW.cT rfl ?_
     refine AW.rT (by rfl) fun K hK => ?_
     simp -implicitDefEqProofs only [go_sem, Nat.reduceAdd]
     apply hK; clear hK K
     refine AW.ret ?_
     simp -implicitDefEqProofs only [go_sem, e]
end Go.Aw
namespace Go.Aw
open Go.Proofs Go.RowKit
theorem first_of {α : Type} {q : α → Bool} : ∀ {l : List α}, l.any q = true → ∃ i a, l[i]? = some a ∧ q a = true ∧ ∀ (j : Nat) b, j < i → l[j]? = some b → q b = false
 | [], h => by simp at h
 | a :: l, h => by
  cases hq : q a with
  | true => exact ⟨0, a, rfl, hq, fun j b hj => by omega⟩
  | false =>
   rw [List.any_cons, hq, Bool.false_or] at h
   obtain ⟨i, x, h1, h2, h3⟩ := first_of h
   refine ⟨i + 1, x, by simpa using h1, h2, fun j b hj hb => ?_⟩
   cases j with
   | zero => simp at hb; subst hb; exact hq
   | succ j => exact h3 j b (by omega) (by simpa using hb)
theorem mapAt_none {α : Type} {f : α → PV × AV} {l : List α} {p : PV} {q : α → Bool} (hq : ∀ a, keyEq p (f a).1 = some (q a)) (h : l.any q = false) : MapAt (l.map f) p none := by
 intro e he
 obtain ⟨a, ha, rfl⟩ := List.mem_map.1 he
 rw [hq]
 have := List.any_eq_false.1 h a ha
 simpa using this
theorem mapAt_some {α : Type} {f : α → PV × AV} {l : List α} {p : PV} {q : α → Bool} (hq : ∀ a, keyEq p (f a).1 = some (q a)) {i : Nat} {a : α} (h1 : l[i]? = some a) (h2 : q a = true) (h3 : ∀ (j : Nat) b, j < i → l[j]? = some b → q b = false) : MapAt (l.map f) p (some (i, (f a).2)) := by
 refine ⟨f a, by simp [h1], rfl, by rw [hq, h2], fun j e' hj he => ?_⟩
 rw [List.getElem?_map, Option.map_eq_some_iff] at he
 obtain ⟨b, hb, rfl⟩ := he
 rw [hq, h3 j b hj hb]
def setM (ns : List (List UInt8)) : List (PV × PV) := ns.map fun k => (.str k, .bool true)
def mS (ns : List (List UInt8)) : List (PV × AV) := ns.map fun k => (.str k, .p (.bool true))
theorem lift_setM (ns : List (List UInt8)) : liftM (setM ns) = mS ns := by simp [liftM, setM, mS]
theorem contains_any {α : Type} [BEq α] (l : List α) (k : α) : l.contains k = l.any (k == ·) := by
 induction l with
 | nil => rfl
 | cons a l ih => rw [List.contains_cons, List.any_cons, ih]
theorem mS_no {ns : List (List UInt8)} {k : List UInt8} (h : ns.contains k = false) : MapAt (mS ns) (.str k) none :=
 mapAt_none (q := fun a => k == a) (fun a => rfl) (by rw [← contains_any]; exact h)
theorem mS_yes {ns : List (List UInt8)} {k : List UInt8} (h : ns.contains k = true) : ∃ i : Nat, MapAt (mS ns) (.str k) (some (i, .p (.bool true))) := by
 rw [contains_any] at h
 obtain ⟨i, a, h1, h2, h3⟩ := first_of h
 exact ⟨i, mapAt_some (q := fun a => k == a) (fun a => rfl) h1 h2 h3⟩
theorem mS_add (ns : List (List UInt8)) (k : List UInt8) : mS ns ++ [(.str k, .p (.bool true))] = mS (ns ++ [k]) := by simp [mS]
theorem mS_nil : mS [] = [] := rfl
theorem mS_ren (ns : List (List UInt8)) (ρ : Nat → Nat) : (mS ns).map (fun e => (e.1, AV.ren ρ e.2)) = mS ns := by
 simp [mS, AV.ren]
theorem mS_labs (ns : List (List UInt8)) (n : Nat) : (mS ns).all (fun e => AV.labsIn n e.2) = true := by
 simp [mS, AV.labsIn]
def mI (ts : List Int) : List (PV × AV) := ts.map fun k => (.int .i64 k, .p (.bool true))
theorem mI_no {ts : List Int} {k : Int} (h : ts.contains k = false) : MapAt (mI ts) (.int .i64 k) none :=
 mapAt_none (q := fun a => k == a) (fun a => by simp [keyEq]) (by rw [← contains_any]; exact h)
theorem mI_yes {ts : List Int} {k : Int} (h : ts.contains k = true) : ∃ i : Nat, MapAt (mI ts) (.int .i64 k) (some (i, .p (.bool true))) := by
 rw [contains_any] at h
 obtain ⟨i, a, h1, h2, h3⟩ := first_of h
 exact ⟨i, mapAt_some (q := fun a => k == a) (fun a => by simp [keyEq]) h1 h2 h3⟩
theorem mI_add (ts : List Int) (k : Int) : mI ts ++ [(.int .i64 k, .p (.bool true))] = mI (ts ++ [k]) := by simp [mI]
theorem mI_nil : mI [] = [] := rfl
theorem mI_ren (ts : List Int) (ρ : Nat → Nat) : (mI ts).map (fun e => (e.1, AV.ren ρ e.2)) = mI ts := by
 simp [mI, AV.ren]
theorem mI_labs (ts : List Int) (n : Nat) : (mI ts).all (fun e => AV.labsIn n e.2) = true := by
 simp [mI, AV.labsIn]
attribute [go_sem] mS_ren mS_labs mI_ren mI_labs
theorem keyS (k : List UInt8) : KeyT Tryd.prog 9 (.str k) := key_str Tryd.underlying9 k
theorem keyI (k : Int) : KeyT Tryd.prog 3 (.int .i64 k) := key_int Tryd.underlying3 k
def takesB (ns : List (List UInt8)) (k : List UInt8) : Bool := nameB k && !ns.contains k
def tagB (t : Int) : Bool := decide (1 ≤ t ∧ t ≤ 500)
theorem check_tag (t : Int) : PFn Tryd.prog 126 [.int .i64 t] (.bool (tagB t)) := by
 refine PFn.of Tryd.func126 rfl (by decide) Tryd.ntmps126 Tryd.results126 (Nat.le_of_ble_eq_true rfl) ?_
 simp only [argsT]
 refine AW.rT (by rfl) fun K hK => ?_
 simp -implicitDefEqProofs only [go_sem]
 apply hK; clear hK K
 by_cases h1 : t ≥ 1
 ·have f1 : (t ≥ 1) = True := eq_true h1
  by_cases h2 : t ≤ 500
  ·have f2 : (t ≤ 500) = True := eq_true h2
   have e : tagB t = true := decide_eq_true ⟨h1, h2⟩
   refine AW.rT (by rfl) fun K hK => ?_
   simp -implicitDefEqProofs only [go_sem, ↓reduceIte, Nat.reduceAdd, Nat.reduceEqDiff, reduceCtorEq, f1, f2]
   apply hK; clear hK K
   refine AW.ret ?_
   simp -implicitDefEqProofs only [go_sem, e]
  ·have f2 : (t ≤ 500) = False := eq_false h2
   have e : tagB t = false := decide_eq_false (fun h => h2 h.2)
   refine AW.rT (by rfl) fun K hK => ?_
   simp -implicitDefEqProofs only [go_sem, ↓reduceIte, Nat.reduceAdd, Nat.reduceEqDiff, reduceCtorEq, f1, f2]
   apply hK; clear hK K
   refine AW.ret ?_
   simp -implicitDefEqProofs only [go_sem, e]
 ·have f1 : (t ≥ 1) = False := eq_false h1
  have e : tagB t = false := decide_eq_false (fun h => h1 h.1)
  refine AW.rT (by rfl) fun K hK => ?_
  simp -implicitDefEqProofs only [go_sem, ↓reduceIte, Nat.reduceAdd, Nat.reduceEqDiff, reduceCtorEq, f1]
  apply hK; clear hK K
  refine AW.ret ?_
  simp -implicitDefEqProofs only [go_sem, e]
def takeN (ns : List (List UInt8)) (k : List UInt8) : List (List UInt8) := if takesB ns k = true then ns ++ [k] else ns
theorem check_takes (ns : List (List UInt8)) (k : List UInt8) (hl : k.length ≤ 1000000000) :
  LFn Tryd.prog 95 [.map (setM ns), .v (.str k)] [some (.map (setM (takeN ns k))), none] (.bool (takesB ns k)) := by
 refine LFn.of Tryd.func95 rfl (by decide) Tryd.ntmps95 Tryd.results95 (Nat.le_of_ble_eq_true rfl) rfl fun val => ?_
 simp only [laT, laH, laPins, LA.av, List.length_cons, List.length_nil, lift_setM]
 refine AW.rT (by rfl) fun K hK => ?_
 simp -implicitDefEqProofs only [go_sem, Nat.reduceAdd]
 apply hK; clear hK K
 refine AW.seq ?_
 cases hk : nameB k with
 | false =>
  have e : takesB ns k = false := by unfold takesB; rw [hk]; rfl
  have e2 : takeN ns k = ns := by unfold takeN; rw [e]; rfl
  refine AW.rT (by rfl) fun K hK => ?_
  simp -implicitDefEqProofs only [go_sem, ↓reduceIte, Nat.reduceAdd, Nat.reduceEqDiff]
  refine ⟨.pure _, runes_Name k hl, ?_⟩
  try simp -implicitDefEqProofs only [go_sem, ↓reduceIte, Nat.reduceAdd, Nat.reduceEqDiff, hk]
  apply hK; clear hK K
  refine AW.cT rfl ?_
  refine AW.rT (by rfl) fun K hK => ?_
  simp -implicitDefEqProofs only [go_sem, Nat.reduceAdd]
  apply hK; clear hK K
  refine AW.ret (show _ ∧ ((∃ l, _ ∧ _) ∧ True) from ⟨?_, ⟨0, ?_, ?_⟩, trivial⟩) <;> simp -implicitDefEqProofs only [go_sem, ↓reduceIte, reduceCtorEq, e, e2, lift_setM]
 | true =>
 cases hn : ns.contains k with
 | true =>
  have e : takesB ns k = false := by unfold takesB; rw [hk, hn]; rfl
  have e2 : takeN ns k = ns := by unfold takeN; rw [e]; rfl
  obtain ⟨i, hm⟩ := mS_yes hn
  refine AW.rT (by rfl) fun K hK => ?_
  simp -implicitDefEqProofs only [go_sem, ↓reduceIte, Nat.reduceAdd, Nat.reduceEqDiff]
  refine ⟨.pure _, runes_Name k hl, ?_⟩
  try simp -implicitDefEqProofs only [go_sem, ↓reduceIte, Nat.reduceAdd, Nat.reduceEqDiff, reduceCtorEq, hk]
  refine ⟨keyS k, _, hm, _, rfl, ?_⟩
  try simp -implicitDefEqProofs only [go_sem, ↓reduceIte, Nat.reduceAdd, Nat.reduceMul, Nat.reduceEqDiff, Nat.reduceLeDiff, reduceCtorEq, Int.reduceToNat]
  apply hK; clear hK K
  refine AW.cT rfl ?_
  refine AW.rT (by rfl) fun K hK => ?_
  simp -implicitDefEqProofs only [go_sem, Nat.reduceAdd]
  apply hK; clear hK K
  refine AW.ret (show _ ∧ ((∃ l, _ ∧ _) ∧ True) from ⟨?_, ⟨0, ?_, ?_⟩, trivial⟩) <;> simp -implicitDefEqProofs only [go_sem, ↓reduceIte, reduceCtorEq, e, e2, lift_setM]
 | false =>
  have e : takesB ns k = true := by unfold takesB; rw [hk, hn]; rfl
  have e2 : takeN ns k = ns ++ [k] := by unfold takeN; rw [e]; rfl
  have hm := mS_no hn
  refine AW.rT (by rfl) fun K hK => ?_
  simp -implicitDefEqProofs only [go_sem, ↓reduceIte, Nat.reduceAdd, Nat.reduceEqDiff]
  refine ⟨.pure _, runes_Name k hl, ?_⟩
  try simp -implicitDefEqProofs only [go_sem, ↓reduceIte, Nat.reduceAdd, Nat.reduceEqDiff, reduceCtorEq, hk]
  refine ⟨keyS k, _, hm, _, rfl, ?_⟩
  try simp -implicitDefEqProofs only [go_sem, ↓reduceIte, Nat.reduceAdd, Nat.reduceMul, Nat.reduceEqDiff, Nat.reduceLeDiff, reduceCtorEq, Int.reduceToNat]
  apply hK; clear hK K
  refine AW.cF rfl ?_
  refine AW.skip ?_
  simp only [andThen]
  refine AW.rT (by rfl) fun K hK => ?_
  simp -implicitDefEqProofs only [go_sem, ↓reduceIte, Nat.reduceAdd, Nat.reduceEqDiff, reduceCtorEq]
  refine ⟨keyS k, _, hm, ?_⟩
  try simp -implicitDefEqProofs only [go_sem]
  apply hK; clear hK K
  refine AW.rT (by rfl) fun K hK => ?_
  simp -implicitDefEqProofs only [go_sem, Nat.reduceAdd]
  apply hK; clear hK K
  refine AW.ret (show _ ∧ ((∃ l, _ ∧ _) ∧ True) from ⟨?_, ⟨0, ?_, ?_⟩, trivial⟩) <;> simp -implicitDefEqProofs only [go_sem, ↓reduceIte, reduceCtorEq, e, e2, lift_setM, mS_add]
end Go.Aw
namespace Go.Aw
open Go.Proofs Go.RowKit
def st39 (m : Ms) (k : Int) (i : Nat) : St := ⟨ofL [(1, .p (.int .i64 k)), (2, .ptr 0 0 0), (8, .p (.slice (m.res.map encI))), (9, .p (.int .i64 (m.res.length : Int))), (10, .p (.int .i64 (i : Int)))], ofH [(0, .row 3 [cellsMs m])], 1⟩
theorem res_no {l : List Int} {k : Int} (h : l.all (fun n => !(n == k)) = true) : l.contains k = false := by
 rw [contains_any, List.any_eq_false]
 intro x hx
 have := List.all_eq_true.1 h x hx
 simp at this ⊢
 intro e
 exact this e.symm
theorem check_Reserved (m : Ms) (k : Int) (hl : m.res.length ≤ 1000000) : PFn Tryd.prog 117 [.agg (encMs m), .int .i64 k] (.bool (m.res.contains k)) := by
 refine PFn.of Tryd.func117 rfl (by decide) Tryd.ntmps117 Tryd.results117 (Nat.le_of_ble_eq_true rfl) ?_
 simp only [argsT, encMs]
 refine AW.rT (by rfl) fun K hK => ?_
 simp -implicitDefEqProofs only [go_sem, Nat.reduceAdd]
 apply hK; clear hK K
 refine AW.seq ?_
 refine AW.rT (by rfl) fun K hK => ?_
 simp -implicitDefEqProofs only [go_sem, ↓reduceIte, Nat.reduceAdd, Nat.reduceEqDiff, List.length_map]
 apply hK; clear hK K
 refine AW.block ?_
 refine AW.loop (st39 m k) (fun i => i ≤ m.res.length ∧ (m.res.take i).all (fun n => !(n == k)) = true) (fun i => m.res.length - i) 0 ?_ (by simp) fun i hi => ?_
 ·simp only [st39, cellsMs]
  refine Ghost.sub ?_ ?_ <;> simp -implicitDefEqProofs only [go_sem, ↓reduceIte, Nat.reduceEqDiff, List.forall_mem_cons, List.not_mem_nil, false_implies, implies_true, and_self, List.all_cons, List.all_nil, Nat.reduceLT, labsInL, AV.labsIn]
  rfl
 obtain ⟨g1, g2⟩ := hi
 simp only [st39, cellsMs]
 by_cases hil : i < m.res.length
 case neg =>
  have hc1 : ((i : Int) < (m.res.length : Int)) = False := eq_false (by omega)
  rw [List.take_of_length_le (by omega)] at g2
  have e := res_no g2
  refine AW.rT (by rfl) fun K hK => ?_
  simp -implicitDefEqProofs only [go_sem, ↓reduceIte, Nat.reduceAdd, Nat.reduceEqDiff, hc1]
  apply hK; clear hK K
  refine AW.seq ?_
  refine AW.cF rfl ?_
  refine AW.exit ?_
  simp only [andThen, inBlk, ↓reduceIte]
  refine AW.rT (by rfl) fun K hK => ?_
  simp -implicitDefEqProofs only [go_sem, Nat.reduceAdd]
  apply hK; clear hK K
  refine AW.ret ?_
  simp -implicitDefEqProofs only [go_sem, e]
 obtain ⟨e, he⟩ : ∃ e, m.res[i]? = some e := ⟨_, List.getElem?_eq_getElem hil⟩
 have ⟨he1, he2, he3⟩ := at_map' encI he
 have he3' : (m.res.map encI).getD i [] = [.int .i64 e] := he3
 have hc1 : ((i : Int) < (m.res.length : Int)) = True := eq_true (by omega)
 refine AW.rT (by rfl) fun K hK => ?_
 simp -implicitDefEqProofs only [go_sem, ↓reduceIte, Nat.reduceAdd, Nat.reduceEqDiff, hc1]
 apply hK; clear hK K
 refine AW.seq ?_
 refine AW.cT rfl ?_
 refine AW.skip ?_
 simp only [andThen]
 refine AW.seq ?_
 refine AW.block ?_
 refine AW.rT (by rfl) fun K hK => ?_
 simp -implicitDefEqProofs only [go_sem, ↓reduceIte, Nat.reduceAdd, Nat.reduceEqDiff, he1, he3', hc1, List.length_map]
 apply hK; clear hK K
 cases hk : (e == k) with
 | true =>
  have ek : m.res.contains k = true := by
   have : e = k := by simpa using hk
   subst this
   rw [List.contains_iff_mem]
   exact List.mem_of_getElem? he
  refine AW.rT (by rfl) fun K hK => ?_
  simp -implicitDefEqProofs only [go_sem, ↓reduceIte, Nat.reduceAdd, Nat.reduceEqDiff, hk]
  apply hK; clear hK K
  refine AW.cT rfl ?_
  refine AW.rT (by rfl) fun K hK => ?_
  simp -implicitDefEqProofs only [go_sem, Nat.reduceAdd]
  apply hK; clear hK K
  refine AW.ret ?_
  simp -implicitDefEqProofs only [go_sem, ek]
 | false =>
  refine AW.rT (by rfl) fun K hK => ?_
  simp -implicitDefEqProofs only [go_sem, ↓reduceIte, Nat.reduceAdd, Nat.reduceEqDiff, hk]
  apply hK; clear hK K
  refine AW.cF rfl ?_
  refine AW.skip ?_
  simp only [andThen, inBlk]
  have w1 : IntKind.wrap .i64 ((i : Int) + 1) = ((i + 1 : Nat) : Int) := by rw [w64] <;> omega
  refine AW.rE (by rfl) fun K hK => ?_
  simp -implicitDefEqProofs only [go_sem, ↓reduceIte, Nat.reduceAdd, Nat.reduceEqDiff, w1]
  apply hK; clear hK K
  refine ⟨i + 1, ⟨by omega, all_next he g2 (by rw [hk]; rfl)⟩, by omega, ?_⟩
  refine Ghost.sub ?_ ?_ <;> simp -implicitDefEqProofs only [go_sem, ↓reduceIte, Nat.reduceEqDiff, List.forall_mem_cons, List.not_mem_nil, false_implies, implies_true, and_self, List.all_cons, List.all_nil, Nat.reduceLT, labsInL, AV.labsIn]
theorem rep_ty {w : World} {I : Nat → Prop} {u : Value} {r : Ty} (h : rep w I u (.agg (encTy r))) : u = .agg #[.int .i64 r.kind, .string ⟨⟨r.name⟩⟩] := by
 cases h with
 | agg hs hr =>
 rename_i vs
 have hsz : vs.size = 2 := by rw [hs]; rfl
 have h0 := hr 0 _ _ (Array.getElem?_eq_getElem (by omega)) rfl
 have h1 := hr 1 _ _ (Array.getElem?_eq_getElem (by omega)) rfl
 generalize e0 : vs[0] = v0 at h0
 generalize e1 : vs[1] = v1 at h1
 cases h0; cases h1
 congr 1
 apply Array.ext
 ·rw [hsz]; rfl
 ·intro i hi hi'
  have : i < 2 := by simpa using hi'
  match i, this with
  | 0, _ => exact e0
  | 1, _ => exact e1
theorem eq46 (x y : Ty) (w : World) : (Op.equalIn 10000 45 (.agg #[.int .i64 x.kind, .string ⟨⟨x.name⟩⟩]) (.agg #[.int .i64 y.kind, .string ⟨⟨y.name⟩⟩])).run Tryd.prog w = .ok (decide (x = y)) w := by
 have u3 := Tryd.underlying3
 have u9 := Tryd.underlying9
 have a3 := Tryd.isAgg3
 have a9 := Tryd.isAgg9
 have z3 := Tryd.sizeOf3
 have z9 := Tryd.sizeOf9
 have hS : Tryd.prog.underlying 45 = some (.struct (Tryd.prog.fieldsOf 45)) := by kernel_rfl
 have hp : Tryd.prog.stoodInHeld 45 = false := by kernel_rfl
 rw [show (10000 : Nat) = 9999 + 1 from rfl, run_equalIn_agg w 9999 45 _ _ hS hp]
 simp only [Program.fieldsOf, Tryd.underlying45]
 go_simp
 obtain ⟨a0, a1⟩ := x
 obtain ⟨b0, b1⟩ := y
 simp only [Ty.mk.injEq]
 by_cases h0 : a0 = b0 <;> by_cases h1 : a1 = b1 <;> simp [h0, h1]
theorem eqP_ty (x y : Ty) : EqP Tryd.prog 45 (.agg (encTy x)) (.agg (encTy y)) (decide (x = y)) := by
 intro w I u v hu hv
 rw [rep_ty hu, rep_ty hv]
 refine ⟨?_, ?_, fun op a b => run_eqGuard_agg _ op 45 a b _ _ (by kernel_rfl)⟩
 ·rw [run_eql_struct, eq46]; rfl
 ·rw [run_neq_struct, eq46]; rfl
def labelB (n : Int) : Bool := decide (1 ≤ n ∧ n ≤ 3)
def kindB (S : Sc) (y : Ty) : Bool := if y.kind = 6 then (firstP (fun x => x.name == y.name) zEn S.enums).2 else if y.kind = 7 then (firstP (fun x => x.name == y.name) zMs S.msgs).2 else decide (1 ≤ y.kind ∧ y.kind ≤ 5) && (y.name == [])
def fieldB (S : Sc) (f : Fd) : Bool := labelB f.label && kindB S f.ty
theorem label_cases (k : Int) : k < 1 ∨ (1 ≤ k ∧ k ≤ 3) ∨ 3 < k := by omega
def fiS (S : Sc) (f : Fd) : St := ⟨ofL [(2, .ptr 0 0 0), (3, .ptr 1 0 0), (5, .p (.bool (labelB f.label)))], ofH [(0, .row 4 [cellsSc S]), (1, .row 5 [[.p (.str f.name), .p (.int .i64 f.tag), .p (.int .i64 f.label), .p (.int .i64 f.ty.kind), .p (.str f.ty.name)]])], 2⟩
theorem check_field (S : Sc) (f : Fd) (h1 : S.msgs.length ≤ 1000000) (h2 : S.enums.length ≤ 1000000) : PFn Tryd.prog 127 [.agg (encSc S), .agg (encFd f)] (.bool (fieldB S f)) := by
 refine PFn.of Tryd.func127 rfl (by decide) Tryd.ntmps127 Tryd.results127 (Nat.le_of_ble_eq_true rfl) ?_
 simp only [argsT, encSc, encFd]
 refine AW.rT (by rfl) fun K hK => ?_
 simp -implicitDefEqProofs only [go_sem, ↓reduceIte, Nat.reduceAdd, Nat.reduceEqDiff]
 apply hK; clear hK K
 refine AW.cut (fun _ : Unit => fiS S f) (fun _ => True) ?_ fun _ _ => ?_
 ·rcases label_cases f.label with hl | hl | hl
  ·have f1 : (f.label ≥ 1) = False := eq_false (by omega)
   have e : labelB f.label = false := decide_eq_false (by omega)
   refine AW.rE (by rfl) fun K hK => ?_
   simp -implicitDefEqProofs only [go_sem, ↓reduceIte, Nat.reduceAdd, Nat.reduceEqDiff, f1]
   apply hK; clear hK K
   simp only [andThen]
   refine ⟨(), trivial, ?_⟩
   simp only [fiS, cellsSc]
   refine Ghost.sub ?_ ?_ <;> simp -implicitDefEqProofs only [go_sem, ↓reduceIte, Nat.reduceEqDiff, reduceCtorEq, e, List.forall_mem_cons, List.not_mem_nil, false_implies, implies_true, and_self, List.all_cons, List.all_nil, Nat.reduceLT, labsInL, AV.labsIn]
  ·have f1 : (f.label ≥ 1) = True := eq_true (by omega)
   have f2 : (f.label ≤ 3) = True := eq_true (by omega)
   have e : labelB f.label = true := decide_eq_true (by omega)
   refine AW.rE (by rfl) fun K hK => ?_
   simp -implicitDefEqProofs only [go_sem, ↓reduceIte, Nat.reduceAdd, Nat.reduceEqDiff, f1, f2]
   apply hK; clear hK K
   simp only [andThen]
   refine ⟨(), trivial, ?_⟩
   simp only [fiS, cellsSc]
   refine Ghost.sub ?_ ?_ <;> simp -implicitDefEqProofs only [go_sem, ↓reduceIte, Nat.reduceEqDiff, reduceCtorEq, e, List.forall_mem_cons, List.not_mem_nil, false_implies, implies_true, and_self, List.all_cons, List.all_nil, Nat.reduceLT, labsInL, AV.labsIn]
  ·have f1 : (f.label ≥ 1) = True := eq_true (by omega)
   have f2 : (f.label ≤ 3) = False := eq_false (by omega)
   have e : labelB f.label = false := decide_eq_false (by omega)
   refine AW.rE (by rfl) fun K hK => ?_
   simp -implicitDefEqProofs only [go_sem, ↓reduceIte, Nat.reduceAdd, Nat.reduceEqDiff, f1, f2]
   apply hK; clear hK K
   simp only [andThen]
   refine ⟨(), trivial, ?_⟩
   simp only [fiS, cellsSc]
   refine Ghost.sub ?_ ?_ <;> simp -implicitDefEqProofs only [go_sem, ↓reduceIte, Nat.reduceEqDiff, reduceCtorEq, e, List.forall_mem_cons, List.not_mem_nil, false_implies, implies_true, and_self, List.all_cons, List.all_nil, Nat.reduceLT, labsInL, AV.labsIn]
 simp only [fiS, cellsSc]
 refine AW.seq ?_
 refine AW.rT (by rfl) fun K hK => ?_
 simp -implicitDefEqProofs only [go_sem, ↓reduceIte, Nat.reduceAdd]
 apply hK; clear hK K
 refine AW.block ?_
 by_cases h6 : f.ty.kind = 6
 ·have k6 : (f.ty.kind == 6) = true := by simp; omega
  have e : fieldB S f = (labelB f.label && (firstP (fun x => x.name == f.ty.name) zEn S.enums).2) := by unfold fieldB kindB; rw [if_pos h6]
  have C := check_Enum S f.ty.name h2
  simp only [encSc, encEn] at C
  refine AW.rT (by rfl) fun K hK => ?_
  simp -implicitDefEqProofs only [go_sem, ↓reduceIte, Nat.reduceAdd, k6]
  apply hK; clear hK K
  refine AW.cT rfl ?_
  refine AW.rT (by rfl) fun K hK => ?_
  simp -implicitDefEqProofs only [go_sem, ↓reduceIte, Nat.reduceAdd, Nat.reduceEqDiff, Nat.reduceLeDiff]
  refine ⟨.pure _, C, ?_⟩
  try simp -implicitDefEqProofs only [go_sem, ↓reduceIte, Nat.reduceAdd, Nat.reduceEqDiff, Nat.reduceLeDiff]
  apply hK; clear hK K
  cases hb : labelB f.label with
  | true =>
   rw [hb, Bool.true_and] at e
   refine AW.rT (by rfl) fun K hK => ?_
   simp -implicitDefEqProofs only [go_sem, ↓reduceIte, Nat.reduceAdd, Nat.reduceEqDiff]
   apply hK; clear hK K
   refine AW.ret ?_
   simp -implicitDefEqProofs only [go_sem, e]
  | false =>
   rw [hb, Bool.false_and] at e
   refine AW.rT (by rfl) fun K hK => ?_
   simp -implicitDefEqProofs only [go_sem, ↓reduceIte, Nat.reduceAdd, Nat.reduceEqDiff]
   apply hK; clear hK K
   refine AW.ret ?_
   simp -implicitDefEqProofs only [go_sem, e]
 have k6 : (f.ty.kind == 6) = false := by simp; omega
 refine AW.rT (by rfl) fun K hK => ?_
 simp -implicitDefEqProofs only [go_sem, ↓reduceIte, Nat.reduceAdd, k6]
 apply hK; clear hK K
 refine AW.cF rfl ?_
 by_cases h7 : f.ty.kind = 7
 ·have k7 : (f.ty.kind == 7) = true := by simp; omega
  have e : fieldB S f = (labelB f.label && (firstP (fun x => x.name == f.ty.name) zMs S.msgs).2) := by unfold fieldB kindB; rw [if_neg h6, if_pos h7]
  have C := check_Message S f.ty.name h1
  simp only [encSc, encMs] at C
  refine AW.rT (by rfl) fun K hK => ?_
  simp -implicitDefEqProofs only [go_sem, ↓reduceIte, Nat.reduceAdd, Nat.reduceEqDiff, k7]
  apply hK; clear hK K
  refine AW.cT rfl ?_
  refine AW.rT (by rfl) fun K hK => ?_
  simp -implicitDefEqProofs only [go_sem, ↓reduceIte, Nat.reduceAdd, Nat.reduceEqDiff, Nat.reduceLeDiff]
  refine ⟨.pure _, C, ?_⟩
  try simp -implicitDefEqProofs only [go_sem, ↓reduceIte, Nat.reduceAdd, Nat.reduceEqDiff, Nat.reduceLeDiff]
  apply hK; clear hK K
  cases hb : labelB f.label with
  | true =>
   rw [hb, Bool.true_and] at e
   refine AW.rT (by rfl) fun K hK => ?_
   simp -implicitDefEqProofs only [go_sem, ↓reduceIte, Nat.reduceAdd, Nat.reduceEqDiff]
   apply hK; clear hK K
   refine AW.ret ?_
   simp -implicitDefEqProofs only [go_sem, e]
  | false =>
   rw [hb, Bool.false_and] at e
   refine AW.rT (by rfl) fun K hK => ?_
   simp -implicitDefEqProofs only [go_sem, ↓reduceIte, Nat.reduceAdd, Nat.reduceEqDiff]
   apply hK; clear hK K
   refine AW.ret ?_
   simp -implicitDefEqProofs only [go_sem, e]
 have k7 : (f.ty.kind == 7) = false := by simp; omega
 have e : fieldB S f = (labelB f.label && (decide (1 ≤ f.ty.kind ∧ f.ty.kind ≤ 5) && (f.ty.name == []))) := by unfold fieldB kindB; rw [if_neg h6, if_neg h7]
 refine AW.rT (by rfl) fun K hK => ?_
 simp -implicitDefEqProofs only [go_sem, ↓reduceIte, Nat.reduceAdd, Nat.reduceEqDiff, k7]
 apply hK; clear hK K
 refine AW.cF rfl ?_
 refine AW.skip ?_
 simp only [andThen, inBlk]
 cases hb : labelB f.label with
 | false =>
  rw [hb, Bool.false_and] at e
  refine AW.rT (by rfl) fun K hK => ?_
  simp -implicitDefEqProofs only [go_sem, ↓reduceIte, Nat.reduceAdd, Nat.reduceEqDiff]
  apply hK; clear hK K
  refine AW.ret ?_
  simp -implicitDefEqProofs only [go_sem, e]
 | true =>
 rw [hb, Bool.true_and] at e
 by_cases h3 : f.ty.kind ≥ 1
 case neg =>
  have f1 : (f.ty.kind ≥ 1) = False := eq_false h3
  rw [decide_eq_false (by omega), Bool.false_and] at e
  refine AW.rT (by rfl) fun K hK => ?_
  simp -implicitDefEqProofs only [go_sem, ↓reduceIte, Nat.reduceAdd, Nat.reduceEqDiff, f1]
  apply hK; clear hK K
  refine AW.ret ?_
  simp -implicitDefEqProofs only [go_sem, e]
 have f1 : (f.ty.kind ≥ 1) = True := eq_true h3
 have E := eqP_ty f.ty ⟨f.ty.kind, []⟩
 simp only [encTy] at E
 have ee : decide (f.ty = ⟨f.ty.kind, []⟩) = (f.ty.name == []) := by
  rw [Bool.eq_iff_iff]
  cases f with
  | mk a b c d => cases d; simp
 rw [ee] at E
 cases hn : (f.ty.name == ([] : List UInt8)) with
 | false =>
  rw [hn] at E
  rw [hn, Bool.and_false] at e
  refine AW.rT (by rfl) fun K hK => ?_
  simp -implicitDefEqProofs only [go_sem, ↓reduceIte, Nat.reduceAdd, Nat.reduceEqDiff, Nat.reduceLeDiff, f1]
  refine ⟨_, E, ?_⟩
  try simp -implicitDefEqProofs only [go_sem, ↓reduceIte, Nat.reduceAdd, Nat.reduceEqDiff]
  apply hK; clear hK K
  refine AW.ret ?_
  simp -implicitDefEqProofs only [go_sem, e]
 | true =>
  rw [hn] at E
  rw [hn, Bool.and_true] at e
  by_cases h4 : f.ty.kind < 6
  ·have f2 : (f.ty.kind < 6) = True := eq_true h4
   rw [decide_eq_true (by omega)] at e
   refine AW.rT (by rfl) fun K hK => ?_
   simp -implicitDefEqProofs only [go_sem, ↓reduceIte, Nat.reduceAdd, Nat.reduceEqDiff, Nat.reduceLeDiff, f1]
   refine ⟨_, E, ?_⟩
   try simp -implicitDefEqProofs only [go_sem, ↓reduceIte, Nat.reduceAdd, Nat.reduceEqDiff, f2]
   apply hK; clear hK K
   refine AW.ret ?_
   simp -implicitDefEqProofs only [go_sem, e]
  ·have f2 : (f.ty.kind < 6) = False := eq_false h4
   rw [decide_eq_false (by omega)] at e
   refine AW.rT (by rfl) fun K hK => ?_
   simp -implicitDefEqProofs only [go_sem, ↓reduceIte, Nat.reduceAdd, Nat.reduceEqDiff, Nat.reduceLeDiff, f1]
   refine ⟨_, E, ?_⟩
   try simp -implicitDefEqProofs only [go_sem, ↓reduceIte, Nat.reduceAdd, Nat.reduceEqDiff, f2]
   apply hK; clear hK K
   refine AW.ret ?_
   simp -implicitDefEqProofs only [go_sem, e]
end Go.Aw
namespace Go.Aw
open Go.Proofs Go.RowKit
def resBad (us : List Int) : List Int → Bool
 | [] => false
 | t :: l => if (tagB t && !us.contains t) = true then resBad (us ++ [t]) l else true
theorem resBad_at {l : List Int} {i : Nat} {t : Int} {us : List Int} (h : l[i]? = some t) : resBad us (l.drop i) = if (tagB t && !us.contains t) = true then resBad (us ++ [t]) (l.drop (i + 1)) else true := by
 rw [List.drop_eq_getElem_cons (List.getElem?_eq_some_iff.1 h).1, (List.getElem?_eq_some_iff.1 h).2, resBad]
def fldsC (S : Sc) (ns : List (List UInt8)) (us : List Int) : List Fd → Int
 | [] => 0
 | f :: l => if takesB ns f.name = true then (if (tagB f.tag && !us.contains f.tag) = true then (if fieldB S f = true then fldsC S (ns ++ [f.name]) (us ++ [f.tag]) l else 8) else 7) else 6
theorem fldsC_at {S : Sc} {l : List Fd} {i : Nat} {f : Fd} {ns : List (List UInt8)} {us : List Int} (h : l[i]? = some f) :
  fldsC S ns us (l.drop i) = if takesB ns f.name = true then (if (tagB f.tag && !us.contains f.tag) = true then (if fieldB S f = true then fldsC S (ns ++ [f.name]) (us ++ [f.tag]) (l.drop (i + 1)) else 8) else 7) else 6 := by
 rw [List.drop_eq_getElem_cons (List.getElem?_eq_some_iff.1 h).1, (List.getElem?_eq_some_iff.1 h).2, fldsC]
def bodyC (S : Sc) (m : Ms) : Int := if m.fields.length > 16 ∨ m.res.length > 32 then 4 else if resBad [] m.res = true then 7 else fldsC S [] m.res m.fields
def msgC (S : Sc) (ns : List (List UInt8)) (m : Ms) : Int := if takesB ns m.name = true then bodyC S m else 6
def cellsFd (f : Fd) : List AV := [.p (.str f.name), .p (.int .i64 f.tag), .p (.int .i64 f.label), .p (.int .i64 f.ty.kind), .p (.str f.ty.name)]
theorem take_map_next {α β : Type} (g : α → β) {l : List α} {i : Nat} {a : α} (h : l[i]? = some a) : (l.take (i + 1)).map g = (l.take i).map g ++ [g a] := by
 rw [List.take_add_one, h]; simp
def me1 (S : Sc) (m : Ms) (ns : List (List UInt8)) (i : Nat) : St := ⟨ofL [(1, .map 1), (3, .ptr 0 0 0), (5, .ptr 2 0 0), (7, .map 3), (32, .p (.slice (m.res.map encI))), (33, .p (.int .i64 (m.res.length : Int))), (34, .p (.int .i64 (i : Int)))],
 ofH [(0, .row 4 [cellsSc S]), (1, .map (mS ns)), (2, .row 3 [cellsMs m]), (3, .map (mI (m.res.take i)))], 4⟩
def me2 (S : Sc) (m : Ms) (ns : List (List UInt8)) (i : Nat) : St := ⟨ofL [(1, .map 1), (3, .ptr 0 0 0), (7, .map 3), (10, .map 4), (51, .p (.slice (m.fields.map encFd))), (52, .p (.int .i64 (m.fields.length : Int))), (53, .p (.int .i64 (i : Int)))],
 ofH [(0, .row 4 [cellsSc S]), (1, .map (mS ns)), (3, .map (mI (m.res ++ (m.fields.take i).map Fd.tag))), (4, .map (mS ((m.fields.take i).map Fd.name)))], 5⟩
def lensF (m : Ms) : Prop := m.name.length ≤ 1000000000 ∧ ∀ f ∈ m.fields, f.name.length ≤ 1000000000
theorem check_message (S : Sc) (ns : List (List UInt8)) (m : Ms) (h1 : S.msgs.length ≤ 1000000) (h2 : S.enums.length ≤ 1000000) (hm : lensF m) :
  LFn Tryd.prog 93 [.v (.agg (encSc S)), .map (setM ns), .v (.agg (encMs m))] [none, some (.map (setM (takeN ns m.name))), none] (.int .i64 (msgC S ns m)) := by
 refine LFn.of Tryd.func93 rfl (by decide) Tryd.ntmps93 Tryd.results93 (Nat.le_of_ble_eq_true rfl) rfl fun val => ?_
 simp only [laT, laH, laPins, LA.av, List.length_cons, List.length_nil, lift_setM, encSc, encMs]
 refine AW.rT (by rfl) fun K hK => ?_
 simp -implicitDefEqProofs only [go_sem, ↓reduceIte, Nat.reduceAdd, Nat.reduceEqDiff, reduceCtorEq]
 apply hK; clear hK K
 refine AW.seq ?_
 refine AW.block ?_
 have TK := check_takes ns m.name hm.1
 cases ht : takesB ns m.name with
 | false =>
  have e : msgC S ns m = 6 := by unfold msgC; rw [ht]; rfl
  have e2 : takeN ns m.name = ns := by unfold takeN; rw [ht]; rfl
  rw [ht, e2] at TK
  refine AW.rT (by rfl) fun K hK => ?_
  simp -implicitDefEqProofs only [go_sem, ↓reduceIte, Nat.reduceAdd, Nat.reduceEqDiff]
  refine ⟨.lend [some 1, none] [.map (setM ns), .v (.str m.name)] [some (.map (setM ns)), none] (.bool false), ⟨TK, rfl, ?_⟩, ?_⟩
  ·simp -implicitDefEqProofs only [go_sem, ↓reduceIte, Nat.reduceEqDiff, lift_setM]
  try simp -implicitDefEqProofs only [go_sem, Nat.reduceAdd, lift_setM]
  apply hK; clear hK K
  refine AW.cond _ (by simp -implicitDefEqProofs only [go_sem]; rfl) (fun hc => ?_) (fun hc => ?_)
  rotate_left
  ·simp at hc
  refine AW.rT (by rfl) fun K hK => ?_
  simp -implicitDefEqProofs only [go_sem, Nat.reduceAdd]
  apply hK; clear hK K
  refine AW.ret (show _ ∧ ((∃ l, _ ∧ _) ∧ True) from ⟨?_, ⟨1, ?_, ?_⟩, trivial⟩) <;> simp -implicitDefEqProofs only [go_sem, ↓reduceIte, Nat.reduceEqDiff, e, e2, lift_setM]
 | true =>
 have e0 : msgC S ns m = bodyC S m := by unfold msgC; rw [ht]; rfl
 have e2 : takeN ns m.name = ns ++ [m.name] := by unfold takeN; rw [ht]; rfl
 rw [ht, e2] at TK
 refine AW.rT (by rfl) fun K hK => ?_
 simp -implicitDefEqProofs only [go_sem, ↓reduceIte, Nat.reduceAdd, Nat.reduceEqDiff]
 refine ⟨.lend [some 1, none] [.map (setM ns), .v (.str m.name)] [some (.map (setM (ns ++ [m.name]))), none] (.bool true), ⟨TK, rfl, ?_⟩, ?_⟩
 ·simp -implicitDefEqProofs only [go_sem, ↓reduceIte, Nat.reduceEqDiff, lift_setM]
 try simp -implicitDefEqProofs only [go_sem, Nat.reduceAdd, lift_setM]
 apply hK; clear hK K
 refine AW.cond _ (by simp -implicitDefEqProofs only [go_sem]; rfl) (fun hc => ?_) (fun hc => ?_)
 ·simp at hc
 generalize ns ++ [m.name] = ns' at *
 by_cases c1 : m.fields.length > 16
 ·have b1 : ((m.fields.length : Int) > 16) = True := eq_true (by omega)
  have e : msgC S ns m = 4 := by rw [e0]; unfold bodyC; rw [if_pos (.inl c1)]
  refine AW.rT (by rfl) fun K hK => ?_
  simp -implicitDefEqProofs only [go_sem, ↓reduceIte, Nat.reduceAdd, Nat.reduceEqDiff, b1, List.length_map]
  apply hK; clear hK K
  refine AW.cond _ (by simp -implicitDefEqProofs only [go_sem]; rfl) (fun hc => ?_) (fun hc => ?_)
  rotate_left
  ·simp at hc
  refine AW.rT (by rfl) fun K hK => ?_
  simp -implicitDefEqProofs only [go_sem, Nat.reduceAdd]
  apply hK; clear hK K
  refine AW.ret (show _ ∧ ((∃ l, _ ∧ _) ∧ True) from ⟨?_, ⟨1, ?_, ?_⟩, trivial⟩) <;> simp -implicitDefEqProofs only [go_sem, ↓reduceIte, Nat.reduceEqDiff, e, e2, lift_setM]
 have b1 : ((m.fields.length : Int) > 16) = False := eq_false (by omega)
 by_cases c2 : m.res.length > 32
 ·have b2 : ((m.res.length : Int) > 32) = True := eq_true (by omega)
  have e : msgC S ns m = 4 := by rw [e0]; unfold bodyC; rw [if_pos (.inr c2)]
  refine AW.rT (by rfl) fun K hK => ?_
  simp -implicitDefEqProofs only [go_sem, ↓reduceIte, Nat.reduceAdd, Nat.reduceEqDiff, b1, b2, List.length_map]
  apply hK; clear hK K
  refine AW.cond _ (by simp -implicitDefEqProofs only [go_sem]; rfl) (fun hc => ?_) (fun hc => ?_)
  rotate_left
  ·simp at hc
  refine AW.rT (by rfl) fun K hK => ?_
  simp -implicitDefEqProofs only [go_sem, Nat.reduceAdd]
  apply hK; clear hK K
  refine AW.ret (show _ ∧ ((∃ l, _ ∧ _) ∧ True) from ⟨?_, ⟨1, ?_, ?_⟩, trivial⟩) <;> simp -implicitDefEqProofs only [go_sem, ↓reduceIte, Nat.reduceEqDiff, e, e2, lift_setM]
 have b2 : ((m.res.length : Int) > 32) = False := eq_false (by omega)
 refine AW.rT (by rfl) fun K hK => ?_
 simp -implicitDefEqProofs only [go_sem, ↓reduceIte, Nat.reduceAdd, Nat.reduceEqDiff, b1, b2, List.length_map]
 apply hK; clear hK K
 refine AW.cond _ (by simp -implicitDefEqProofs only [go_sem]; rfl) (fun hc => ?_) (fun hc => ?_)
 ·simp at hc
 refine AW.skip ?_
 simp only [andThen, inBlk]
 have e0 : msgC S ns m = if resBad [] m.res = true then 7 else fldsC S [] m.res m.fields := by rw [e0]; unfold bodyC; rw [if_neg (by omega)]
 refine AW.rT (by rfl) fun K hK => ?_
 simp -implicitDefEqProofs only [go_sem, Nat.reduceAdd]
 apply hK; clear hK K
 refine AW.seq ?_
 refine AW.rT (by rfl) fun K hK => ?_
 simp -implicitDefEqProofs only [go_sem, ↓reduceIte, Nat.reduceAdd, Nat.reduceEqDiff, List.length_map]
 apply hK; clear hK K
 refine AW.block ?_
 refine AW.loop (me1 S m ns') (fun i => i ≤ m.res.length ∧ resBad [] m.res = resBad (m.res.take i) (m.res.drop i)) (fun i => m.res.length - i) 0 ?_ ⟨by omega, by rw [List.drop_zero, List.take_zero]⟩ fun i hi => ?_
 ·simp only [me1, cellsSc, cellsMs]
  refine Ghost.ent (fun l => if l = 0 then 3 else if l = 1 then 1 else if l = 2 then 4 else 23) ?_ ?_ ?_ <;> simp -implicitDefEqProofs only [go_sem, ↓reduceIte, Nat.reduceEqDiff, reduceCtorEq, List.take_zero, mI_nil, List.forall_mem_cons, List.not_mem_nil, false_implies, implies_true, and_self, List.all_cons, List.all_nil, Nat.reduceLT, labsInL, AV.labsIn]
  all_goals first | rfl | decide | skip
 obtain ⟨i1, i2⟩ := hi
 simp only [me1, cellsSc, cellsMs]
 by_cases hil : i < m.res.length
 case neg =>
  have hc1 : ((i : Int) < (m.res.length : Int)) = False := eq_false (by omega)
  rw [List.take_of_length_le (by omega), List.drop_of_length_le (by omega), resBad] at i2
  rw [i2, if_neg (by simp)] at e0
  refine AW.rT (by rfl) fun K hK => ?_
  simp -implicitDefEqProofs only [go_sem, ↓reduceIte, Nat.reduceAdd, Nat.reduceEqDiff, hc1]
  apply hK; clear hK K
  refine AW.seq ?_
  refine AW.cond _ (by simp -implicitDefEqProofs only [go_sem]; rfl) (fun hc => ?_) (fun hc => ?_)
  ·simp at hc
  refine AW.exit ?_
  simp only [andThen, inBlk, ↓reduceIte]
  refine AW.rT (by rfl) fun K hK => ?_
  simp -implicitDefEqProofs only [go_sem, Nat.reduceAdd]
  apply hK; clear hK K
  refine AW.seq ?_
  refine AW.rT (by rfl) fun K hK => ?_
  simp -implicitDefEqProofs only [go_sem, ↓reduceIte, Nat.reduceAdd, Nat.reduceEqDiff, reduceCtorEq, List.length_map]
  apply hK; clear hK K
  refine AW.block ?_
  refine AW.loop (me2 S m ns') (fun i => i ≤ m.fields.length ∧ fldsC S [] m.res m.fields = fldsC S ((m.fields.take i).map Fd.name) (m.res ++ (m.fields.take i).map Fd.tag) (m.fields.drop i)) (fun i => m.fields.length - i) 0 ?_ ⟨by omega, by simp⟩ fun i hi => ?_
  ·simp only [me2, cellsSc]
   have er : m.res.take i = m.res := List.take_of_length_le (by omega)
   refine Ghost.ent (fun l => if l = 0 then 0 else if l = 1 then 1 else if l = 3 then 3 else 5) ?_ ?_ ?_ <;> simp -implicitDefEqProofs only [go_sem, ↓reduceIte, Nat.reduceEqDiff, reduceCtorEq, List.take_zero, List.map_nil, List.append_nil, mS_nil, er, List.forall_mem_cons, List.not_mem_nil, false_implies, implies_true, and_self, List.all_cons, List.all_nil, Nat.reduceLT, labsInL, AV.labsIn]
   all_goals first | rfl | decide | skip
  rename_i i0 _ _ _
  obtain ⟨j1, j2⟩ := hi
  simp only [me2, cellsSc]
  by_cases hjl : i < m.fields.length
  case neg =>
   have hc1 : ((i : Int) < (m.fields.length : Int)) = False := eq_false (by omega)
   rw [List.drop_of_length_le (by omega), fldsC] at j2
   rw [j2] at e0
   refine AW.rT (by rfl) fun K hK => ?_
   simp -implicitDefEqProofs only [go_sem, ↓reduceIte, Nat.reduceAdd, Nat.reduceEqDiff, hc1]
   apply hK; clear hK K
   refine AW.seq ?_
   refine AW.cond _ (by simp -implicitDefEqProofs only [go_sem]; rfl) (fun hc => ?_) (fun hc => ?_)
   ·simp at hc
   refine AW.exit ?_
   simp only [andThen, inBlk, ↓reduceIte]
   refine AW.rT (by rfl) fun K hK => ?_
   simp -implicitDefEqProofs only [go_sem, Nat.reduceAdd]
   apply hK; clear hK K
   refine AW.ret (show _ ∧ ((∃ l, _ ∧ _) ∧ True) from ⟨?_, ⟨1, ?_, ?_⟩, trivial⟩) <;> simp -implicitDefEqProofs only [go_sem, ↓reduceIte, Nat.reduceEqDiff, e0, e2, lift_setM]
  obtain ⟨f, hf⟩ : ∃ f, m.fields[i]? = some f := ⟨_, List.getElem?_eq_getElem hjl⟩
  have ⟨hf1, hf2, hf3⟩ := at_map' encFd hf
  have hc1 : ((i : Int) < (m.fields.length : Int)) = True := eq_true (by omega)
  have w1 : IntKind.wrap .i64 ((i : Int) + 1) = ((i + 1 : Nat) : Int) := by rw [w64] <;> omega
  rw [fldsC_at hf] at j2
  have hnx := take_map_next Fd.name hf
  have htx := take_map_next Fd.tag hf
  generalize hN : (m.fields.take i).map Fd.name = N at *
  generalize hT : m.res ++ (m.fields.take i).map Fd.tag = T at *
  have TK := check_takes N f.name (hm.2 f (List.mem_of_getElem? hf))
  refine AW.rT (by rfl) fun K hK => ?_
  simp -implicitDefEqProofs only [go_sem, ↓reduceIte, Nat.reduceAdd, Nat.reduceEqDiff, hc1]
  apply hK; clear hK K
  refine AW.seq ?_
  refine AW.cond _ (by simp -implicitDefEqProofs only [go_sem]; rfl) (fun hc => ?_) (fun hc => ?_)
  rotate_left
  ·simp at hc
  refine AW.skip ?_
  simp only [andThen]
  refine AW.seq ?_
  refine AW.block ?_
  refine AW.rT (by rfl) fun K hK => ?_
  simp -implicitDefEqProofs only [go_sem, ↓reduceIte, Nat.reduceAdd, Nat.reduceEqDiff, Nat.reduceLeDiff, hf1, hf3, hc1, encFd, List.length_map]
  apply hK; clear hK K
  refine AW.seq ?_
  refine AW.block ?_
  cases ht2 : takesB N f.name with
  | false =>
   have e3 : takeN N f.name = N := by unfold takeN; rw [ht2]; rfl
   rw [ht2, e3] at TK
   rw [ht2, if_neg (by simp)] at j2
   rw [j2] at e0
   refine AW.rT (by rfl) fun K hK => ?_
   simp -implicitDefEqProofs only [go_sem, ↓reduceIte, Nat.reduceAdd, Nat.reduceEqDiff]
   refine ⟨.lend [some 4, none] [.map (setM N), .v (.str f.name)] [some (.map (setM N)), none] (.bool false), ⟨TK, rfl, ?_⟩, ?_⟩
   ·simp -implicitDefEqProofs only [go_sem, ↓reduceIte, Nat.reduceEqDiff, reduceCtorEq, lift_setM]
   try simp -implicitDefEqProofs only [go_sem, Nat.reduceAdd, lift_setM]
   apply hK; clear hK K
   refine AW.cond _ (by simp -implicitDefEqProofs only [go_sem]; rfl) (fun hc => ?_) (fun hc => ?_)
   rotate_left
   ·simp at hc
   refine AW.rT (by rfl) fun K hK => ?_
   simp -implicitDefEqProofs only [go_sem, Nat.reduceAdd]
   apply hK; clear hK K
   refine AW.ret (show _ ∧ ((∃ l, _ ∧ _) ∧ True) from ⟨?_, ⟨1, ?_, ?_⟩, trivial⟩) <;> simp -implicitDefEqProofs only [go_sem, ↓reduceIte, Nat.reduceEqDiff, e0, e2, lift_setM]
  | true =>
  have e3 : takeN N f.name = N ++ [f.name] := by unfold takeN; rw [ht2]; rfl
  rw [ht2, e3] at TK
  rw [ht2, if_pos rfl] at j2
  refine AW.rT (by rfl) fun K hK => ?_
  simp -implicitDefEqProofs only [go_sem, ↓reduceIte, Nat.reduceAdd, Nat.reduceEqDiff]
  refine ⟨.lend [some 4, none] [.map (setM N), .v (.str f.name)] [some (.map (setM (N ++ [f.name]))), none] (.bool true), ⟨TK, rfl, ?_⟩, ?_⟩
  ·simp -implicitDefEqProofs only [go_sem, ↓reduceIte, Nat.reduceEqDiff, reduceCtorEq, lift_setM]
  try simp -implicitDefEqProofs only [go_sem, Nat.reduceAdd, lift_setM]
  apply hK; clear hK K
  refine AW.cond _ (by simp -implicitDefEqProofs only [go_sem]; rfl) (fun hc => ?_) (fun hc => ?_)
  ·simp at hc
  cases htg : tagB f.tag with
  | false =>
   rw [htg, Bool.false_and, if_neg (by simp)] at j2
   rw [j2] at e0
   refine AW.rT (by rfl) fun K hK => ?_
   simp -implicitDefEqProofs only [go_sem, ↓reduceIte, Nat.reduceAdd, Nat.reduceEqDiff]
   refine ⟨.pure _, check_tag f.tag, ?_⟩
   try simp -implicitDefEqProofs only [go_sem, ↓reduceIte, Nat.reduceAdd, Nat.reduceEqDiff, htg]
   apply hK; clear hK K
   refine AW.cond _ (by simp -implicitDefEqProofs only [go_sem]; rfl) (fun hc => ?_) (fun hc => ?_)
   rotate_left
   ·simp at hc
   refine AW.rT (by rfl) fun K hK => ?_
   simp -implicitDefEqProofs only [go_sem, Nat.reduceAdd]
   apply hK; clear hK K
   refine AW.ret (show _ ∧ ((∃ l, _ ∧ _) ∧ True) from ⟨?_, ⟨1, ?_, ?_⟩, trivial⟩) <;> simp -implicitDefEqProofs only [go_sem, ↓reduceIte, Nat.reduceEqDiff, e0, e2, lift_setM]
  | true =>
  cases hus : T.contains f.tag with
  | true =>
   rw [htg, hus, if_neg (by simp)] at j2
   rw [j2] at e0
   obtain ⟨q, hq⟩ := mI_yes hus
   refine AW.rT (by rfl) fun K hK => ?_
   simp -implicitDefEqProofs only [go_sem, ↓reduceIte, Nat.reduceAdd, Nat.reduceEqDiff]
   refine ⟨.pure _, check_tag f.tag, ?_⟩
   try simp -implicitDefEqProofs only [go_sem, ↓reduceIte, Nat.reduceAdd, Nat.reduceEqDiff, reduceCtorEq, htg]
   refine ⟨keyI f.tag, _, hq, _, rfl, ?_⟩
   try simp -implicitDefEqProofs only [go_sem, ↓reduceIte, Nat.reduceAdd, Nat.reduceMul, Nat.reduceEqDiff, Nat.reduceLeDiff, reduceCtorEq, Int.reduceToNat]
   apply hK; clear hK K
   refine AW.cond _ (by simp -implicitDefEqProofs only [go_sem]; rfl) (fun hc => ?_) (fun hc => ?_)
   rotate_left
   ·simp at hc
   refine AW.rT (by rfl) fun K hK => ?_
   simp -implicitDefEqProofs only [go_sem, Nat.reduceAdd]
   apply hK; clear hK K
   refine AW.ret (show _ ∧ ((∃ l, _ ∧ _) ∧ True) from ⟨?_, ⟨1, ?_, ?_⟩, trivial⟩) <;> simp -implicitDefEqProofs only [go_sem, ↓reduceIte, Nat.reduceEqDiff, e0, e2, lift_setM]
  | false =>
  rw [htg, hus, if_pos (by simp)] at j2
  have hq := mI_no hus
  refine AW.rT (by rfl) fun K hK => ?_
  simp -implicitDefEqProofs only [go_sem, ↓reduceIte, Nat.reduceAdd, Nat.reduceEqDiff]
  refine ⟨.pure _, check_tag f.tag, ?_⟩
  try simp -implicitDefEqProofs only [go_sem, ↓reduceIte, Nat.reduceAdd, Nat.reduceEqDiff, reduceCtorEq, htg]
  refine ⟨keyI f.tag, _, hq, _, rfl, ?_⟩
  try simp -implicitDefEqProofs only [go_sem, ↓reduceIte, Nat.reduceAdd, Nat.reduceMul, Nat.reduceEqDiff, Nat.reduceLeDiff, reduceCtorEq, Int.reduceToNat]
  apply hK; clear hK K
  refine AW.cond _ (by simp -implicitDefEqProofs only [go_sem]; rfl) (fun hc => ?_) (fun hc => ?_)
  ·simp at hc
  have CF := check_field S f h1 h2
  simp only [encSc, encFd] at CF
  refine AW.rT (by rfl) fun K hK => ?_
  simp -implicitDefEqProofs only [go_sem, ↓reduceIte, Nat.reduceAdd, Nat.reduceEqDiff, Nat.reduceLeDiff, reduceCtorEq]
  refine ⟨.pure _, CF, ?_⟩
  try simp -implicitDefEqProofs only [go_sem, Nat.reduceAdd]
  apply hK; clear hK K
  cases hfb : fieldB S f with
  | false =>
   rw [hfb, if_neg (by simp)] at j2
   rw [j2] at e0
   refine AW.cond _ (by simp -implicitDefEqProofs only [go_sem]; rfl) (fun hc => ?_) (fun hc => ?_)
   rotate_left
   ·simp at hc
   refine AW.rT (by rfl) fun K hK => ?_
   simp -implicitDefEqProofs only [go_sem, Nat.reduceAdd]
   apply hK; clear hK K
   refine AW.ret (show _ ∧ ((∃ l, _ ∧ _) ∧ True) from ⟨?_, ⟨1, ?_, ?_⟩, trivial⟩) <;> simp -implicitDefEqProofs only [go_sem, ↓reduceIte, Nat.reduceEqDiff, e0, e2, lift_setM]
  | true =>
   rw [hfb, if_pos rfl] at j2
   refine AW.cond _ (by simp -implicitDefEqProofs only [go_sem]; rfl) (fun hc => ?_) (fun hc => ?_)
   ·simp at hc
   refine AW.skip ?_
   simp only [andThen, inBlk]
   refine AW.rE (by rfl) fun K hK => ?_
   simp -implicitDefEqProofs only [go_sem, ↓reduceIte, Nat.reduceAdd, Nat.reduceEqDiff, reduceCtorEq]
   refine ⟨keyI f.tag, _, hq, ?_⟩
   try simp -implicitDefEqProofs only [go_sem]
   apply hK; clear hK K
   simp only [andThen, inBlk]
   refine AW.rE (by rfl) fun K hK => ?_
   simp -implicitDefEqProofs only [go_sem, ↓reduceIte, Nat.reduceAdd, Nat.reduceEqDiff, w1]
   apply hK; clear hK K
   refine ⟨i + 1, ⟨by omega, by rw [hnx, htx, ← List.append_assoc, hT]; exact j2⟩, by omega, ?_⟩
   rw [hnx, htx, ← List.append_assoc, hT]
   refine Ghost.sub ?_ ?_ <;> simp -implicitDefEqProofs only [go_sem, ↓reduceIte, Nat.reduceEqDiff, reduceCtorEq, mI_add, List.forall_mem_cons, List.not_mem_nil, false_implies, implies_true, and_self, List.all_cons, List.all_nil, Nat.reduceLT, labsInL, AV.labsIn]
 obtain ⟨t, ht⟩ : ∃ t, m.res[i]? = some t := ⟨_, List.getElem?_eq_getElem hil⟩
 have ⟨ht1, ht2, ht3⟩ := at_map' encI ht
 have ht3' : (m.res.map encI).getD i [] = [.int .i64 t] := ht3
 have hc1 : ((i : Int) < (m.res.length : Int)) = True := eq_true (by omega)
 have w1 : IntKind.wrap .i64 ((i : Int) + 1) = ((i + 1 : Nat) : Int) := by rw [w64] <;> omega
 rw [resBad_at ht] at i2
 have hnx : m.res.take (i + 1) = m.res.take i ++ [t] := by rw [List.take_add_one, ht]; rfl
 refine AW.rT (by rfl) fun K hK => ?_
 simp -implicitDefEqProofs only [go_sem, ↓reduceIte, Nat.reduceAdd, Nat.reduceEqDiff, hc1]
 apply hK; clear hK K
 refine AW.seq ?_
 refine AW.cond _ (by simp -implicitDefEqProofs only [go_sem]; rfl) (fun hc => ?_) (fun hc => ?_)
 rotate_left
 ·simp at hc
 refine AW.skip ?_
 simp only [andThen]
 refine AW.seq ?_
 refine AW.block ?_
 refine AW.rT (by rfl) fun K hK => ?_
 simp -implicitDefEqProofs only [go_sem, ↓reduceIte, Nat.reduceAdd, Nat.reduceEqDiff, ht1, ht3', hc1, List.length_map]
 apply hK; clear hK K
 refine AW.seq ?_
 cases htg : tagB t with
 | false =>
  rw [htg, Bool.false_and, if_neg (by simp)] at i2
  rw [i2, if_pos rfl] at e0
  refine AW.rT (by rfl) fun K hK => ?_
  simp -implicitDefEqProofs only [go_sem, Nat.reduceAdd]
  refine ⟨.pure _, check_tag t, ?_⟩
  try simp -implicitDefEqProofs only [go_sem, ↓reduceIte, Nat.reduceAdd, Nat.reduceEqDiff, htg]
  apply hK; clear hK K
  refine AW.cond _ (by simp -implicitDefEqProofs only [go_sem]; rfl) (fun hc => ?_) (fun hc => ?_)
  rotate_left
  ·simp at hc
  refine AW.rT (by rfl) fun K hK => ?_
  simp -implicitDefEqProofs only [go_sem, Nat.reduceAdd]
  apply hK; clear hK K
  refine AW.ret (show _ ∧ ((∃ l, _ ∧ _) ∧ True) from ⟨?_, ⟨1, ?_, ?_⟩, trivial⟩) <;> simp -implicitDefEqProofs only [go_sem, ↓reduceIte, Nat.reduceEqDiff, e0, e2, lift_setM]
 | true =>
 cases hus : (m.res.take i).contains t with
 | true =>
  rw [htg, hus, if_neg (by simp)] at i2
  rw [i2, if_pos rfl] at e0
  obtain ⟨q, hq⟩ := mI_yes hus
  refine AW.rT (by rfl) fun K hK => ?_
  simp -implicitDefEqProofs only [go_sem, Nat.reduceAdd]
  refine ⟨.pure _, check_tag t, ?_⟩
  try simp -implicitDefEqProofs only [go_sem, ↓reduceIte, Nat.reduceAdd, Nat.reduceEqDiff, reduceCtorEq, htg]
  refine ⟨keyI t, _, hq, _, rfl, ?_⟩
  try simp -implicitDefEqProofs only [go_sem, ↓reduceIte, Nat.reduceAdd, Nat.reduceMul, Nat.reduceEqDiff, Nat.reduceLeDiff, reduceCtorEq, Int.reduceToNat]
  apply hK; clear hK K
  refine AW.cond _ (by simp -implicitDefEqProofs only [go_sem]; rfl) (fun hc => ?_) (fun hc => ?_)
  rotate_left
  ·simp at hc
  refine AW.rT (by rfl) fun K hK => ?_
  simp -implicitDefEqProofs only [go_sem, Nat.reduceAdd]
  apply hK; clear hK K
  refine AW.ret (show _ ∧ ((∃ l, _ ∧ _) ∧ True) from ⟨?_, ⟨1, ?_, ?_⟩, trivial⟩) <;> simp -implicitDefEqProofs only [go_sem, ↓reduceIte, Nat.reduceEqDiff, e0, e2, lift_setM]
 | false =>
  rw [htg, hus, if_pos (by simp)] at i2
  have hq := mI_no hus
  refine AW.rT (by rfl) fun K hK => ?_
  simp -implicitDefEqProofs only [go_sem, Nat.reduceAdd]
  refine ⟨.pure _, check_tag t, ?_⟩
  try simp -implicitDefEqProofs only [go_sem, ↓reduceIte, Nat.reduceAdd, Nat.reduceEqDiff, reduceCtorEq, htg]
  refine ⟨keyI t, _, hq, _, rfl, ?_⟩
  try simp -implicitDefEqProofs only [go_sem, ↓reduceIte, Nat.reduceAdd, Nat.reduceMul, Nat.reduceEqDiff, Nat.reduceLeDiff, reduceCtorEq, Int.reduceToNat]
  apply hK; clear hK K
  refine AW.cond _ (by simp -implicitDefEqProofs only [go_sem]; rfl) (fun hc => ?_) (fun hc => ?_)
  ·simp at hc
  refine AW.skip ?_
  simp only [andThen]
  refine AW.rE (by rfl) fun K hK => ?_
  simp -implicitDefEqProofs only [go_sem, ↓reduceIte, Nat.reduceAdd, Nat.reduceEqDiff, reduceCtorEq]
  refine ⟨keyI t, _, hq, ?_⟩
  try simp -implicitDefEqProofs only [go_sem]
  apply hK; clear hK K
  simp only [andThen, inBlk]
  refine AW.rE (by rfl) fun K hK => ?_
  simp -implicitDefEqProofs only [go_sem, ↓reduceIte, Nat.reduceAdd, Nat.reduceEqDiff, w1]
  apply hK; clear hK K
  refine ⟨i + 1, ⟨by omega, by rw [hnx]; exact i2⟩, by omega, ?_⟩
  rw [hnx]
  refine Ghost.sub ?_ ?_ <;> simp -implicitDefEqProofs only [go_sem, ↓reduceIte, Nat.reduceEqDiff, reduceCtorEq, mI_add, List.forall_mem_cons, List.not_mem_nil, false_implies, implies_true, and_self, List.all_cons, List.all_nil, Nat.reduceLT, labsInL, AV.labsIn]
end Go.Aw
namespace Go.Aw
open Go.Proofs Go.RowKit
end Go.Aw
namespace Go.Aw
open Go.Proofs Go.RowKit
def numB (n : Int) : Bool := decide (0 ≤ n ∧ n ≤ 2147483647)
def valsC (ns : List (List UInt8)) (us : List Int) : List Nm → Int
 | [] => 0
 | v :: l => if takesB ns v.name = true then (if (numB v.n && !us.contains v.n) = true then valsC (ns ++ [v.name]) (us ++ [v.n]) l else 11) else 6
theorem valsC_at {l : List Nm} {i : Nat} {v : Nm} {ns : List (List UInt8)} {us : List Int} (h : l[i]? = some v) :
  valsC ns us (l.drop i) = if takesB ns v.name = true then (if (numB v.n && !us.contains v.n) = true then valsC (ns ++ [v.name]) (us ++ [v.n]) (l.drop (i + 1)) else 11) else 6 := by
 rw [List.drop_eq_getElem_cons (List.getElem?_eq_some_iff.1 h).1, (List.getElem?_eq_some_iff.1 h).2, valsC]
def enumBody (e : En) : Int := if e.vals.length > 16 then 4 else if (e.vals.any fun v => v.n == 0) = true then valsC [] [] e.vals else 12
def enumC (ns : List (List UInt8)) (e : En) : Int := if takesB ns e.name = true then enumBody e else 6
def lensV (e : En) : Prop := e.name.length ≤ 1000000000 ∧ ∀ v ∈ e.vals, v.name.length ≤ 1000000000
def zeroB (e : En) (i : Nat) : Bool := (e.vals.take i).any fun v => v.n == 0
theorem zeroB_next {e : En} {i : Nat} {v : Nm} (h : e.vals[i]? = some v) : zeroB e (i + 1) = (zeroB e i || v.n == 0) := by
 unfold zeroB
 rw [List.take_add_one, h, List.any_append]
 simp
theorem num_split (n : Int) : n < 0 ∨ 2147483647 < n ∨ (0 ≤ n ∧ n ≤ 2147483647) := by omega
def en1 (e : En) (ns : List (List UInt8)) (i : Nat) : St := ⟨ofL [(0, .map 0), (3, .ptr 1 0 0), (5, .p (.bool (zeroB e i))), (24, .p (.slice (e.vals.map encNm))), (25, .p (.int .i64 (e.vals.length : Int))), (26, .p (.int .i64 (i : Int)))],
 ofH [(0, .map (mS ns)), (1, .row 2 [cellsEn e])], 2⟩
def en2 (e : En) (ns : List (List UInt8)) (i : Nat) : St := ⟨ofL [(0, .map 0), (8, .map 1), (9, .map 2), (42, .p (.slice (e.vals.map encNm))), (43, .p (.int .i64 (e.vals.length : Int))), (44, .p (.int .i64 (i : Int)))],
 ofH [(0, .map (mS ns)), (1, .map (mS ((e.vals.take i).map Nm.name))), (2, .map (mI ((e.vals.take i).map Nm.n)))], 3⟩
theorem check_enum (ns : List (List UInt8)) (e : En) (hm : lensV e) :
  LFn Tryd.prog 94 [.map (setM ns), .v (.agg (encEn e))] [some (.map (setM (takeN ns e.name))), none] (.int .i64 (enumC ns e)) := by
 refine LFn.of Tryd.func94 rfl (by decide) Tryd.ntmps94 Tryd.results94 (Nat.le_of_ble_eq_true rfl) rfl fun val => ?_
 simp only [laT, laH, laPins, LA.av, List.length_cons, List.length_nil, lift_setM, encEn]
 refine AW.rT (by rfl) fun K hK => ?_
 simp -implicitDefEqProofs only [go_sem, ↓reduceIte, Nat.reduceAdd]
 apply hK; clear hK K
 refine AW.seq ?_
 refine AW.block ?_
 have TK := check_takes ns e.name hm.1
 cases ht : takesB ns e.name with
 | false =>
  have er : enumC ns e = 6 := by unfold enumC; rw [ht]; rfl
  have e2 : takeN ns e.name = ns := by unfold takeN; rw [ht]; rfl
  rw [ht, e2] at TK
  refine AW.rT (by rfl) fun K hK => ?_
  simp -implicitDefEqProofs only [go_sem, ↓reduceIte, Nat.reduceAdd, Nat.reduceEqDiff, reduceCtorEq]
  refine ⟨.lend [some 0, none] [.map (setM ns), .v (.str e.name)] [some (.map (setM ns)), none] (.bool false), ⟨TK, rfl, ?_⟩, ?_⟩
  ·simp -implicitDefEqProofs only [go_sem, ↓reduceIte, Nat.reduceEqDiff, reduceCtorEq, lift_setM]
  try simp -implicitDefEqProofs only [go_sem, Nat.reduceAdd, lift_setM]
  apply hK; clear hK K
  refine AW.cT rfl ?_
  refine AW.rT (by rfl) fun K hK => ?_
  simp -implicitDefEqProofs only [go_sem, Nat.reduceAdd]
  apply hK; clear hK K
  refine AW.ret (show _ ∧ ((∃ l, _ ∧ _) ∧ True) from ⟨?_, ⟨0, ?_, ?_⟩, trivial⟩) <;> simp -implicitDefEqProofs only [go_sem, ↓reduceIte, reduceCtorEq, er, e2, lift_setM]
 | true =>
 have e0 : enumC ns e = enumBody e := by unfold enumC; rw [ht]; rfl
 have e2 : takeN ns e.name = ns ++ [e.name] := by unfold takeN; rw [ht]; rfl
 rw [ht, e2] at TK
 refine AW.rT (by rfl) fun K hK => ?_
 simp -implicitDefEqProofs only [go_sem, ↓reduceIte, Nat.reduceAdd, Nat.reduceEqDiff, reduceCtorEq]
 refine ⟨.lend [some 0, none] [.map (setM ns), .v (.str e.name)] [some (.map (setM (ns ++ [e.name]))), none] (.bool true), ⟨TK, rfl, ?_⟩, ?_⟩
 ·simp -implicitDefEqProofs only [go_sem, ↓reduceIte, Nat.reduceEqDiff, reduceCtorEq, lift_setM]
 try simp -implicitDefEqProofs only [go_sem, Nat.reduceAdd, lift_setM]
 apply hK; clear hK K
 refine AW.cF rfl ?_
 generalize ns ++ [e.name] = ns' at *
 by_cases c1 : e.vals.length > 16
 ·have b1 : ((e.vals.length : Int) > 16) = True := eq_true (by omega)
  have er : enumC ns e = 4 := by rw [e0]; unfold enumBody; rw [if_pos c1]
  refine AW.rT (by rfl) fun K hK => ?_
  simp -implicitDefEqProofs only [go_sem, ↓reduceIte, Nat.reduceAdd, Nat.reduceEqDiff, reduceCtorEq, b1, List.length_map]
  apply hK; clear hK K
  refine AW.cT rfl ?_
  refine AW.rT (by rfl) fun K hK => ?_
  simp -implicitDefEqProofs only [go_sem, Nat.reduceAdd]
  apply hK; clear hK K
  refine AW.ret (show _ ∧ ((∃ l, _ ∧ _) ∧ True) from ⟨?_, ⟨0, ?_, ?_⟩, trivial⟩) <;> simp -implicitDefEqProofs only [go_sem, ↓reduceIte, reduceCtorEq, er, e2, lift_setM]
 have b1 : ((e.vals.length : Int) > 16) = False := eq_false (by omega)
 have e0 : enumC ns e = if (e.vals.any fun v => v.n == 0) = true then valsC [] [] e.vals else 12 := by rw [e0]; unfold enumBody; rw [if_neg c1]
 refine AW.rT (by rfl) fun K hK => ?_
 simp -implicitDefEqProofs only [go_sem, ↓reduceIte, Nat.reduceAdd, Nat.reduceEqDiff, reduceCtorEq, b1, List.length_map]
 apply hK; clear hK K
 refine AW.cF rfl ?_
 refine AW.skip ?_
 simp only [andThen, inBlk]
 refine AW.rT (by rfl) fun K hK => ?_
 simp -implicitDefEqProofs only [go_sem, Nat.reduceAdd]
 apply hK; clear hK K
 refine AW.seq ?_
 refine AW.rT (by rfl) fun K hK => ?_
 simp -implicitDefEqProofs only [go_sem, ↓reduceIte, Nat.reduceAdd, Nat.reduceEqDiff, reduceCtorEq, List.length_map]
 apply hK; clear hK K
 refine AW.block ?_
 refine AW.loop (en1 e ns') (fun i => i ≤ e.vals.length) (fun i => e.vals.length - i) 0 ?_ (by omega) fun i i1 => ?_
 ·simp only [en1, cellsEn]
  refine Ghost.ent (fun l => if l = 0 then 0 else 2) ?_ ?_ ?_ <;> simp -implicitDefEqProofs only [go_sem, ↓reduceIte, Nat.reduceEqDiff, reduceCtorEq, zeroB, List.take_zero, List.any_nil, List.forall_mem_cons, List.not_mem_nil, false_implies, implies_true, and_self, List.all_cons, List.all_nil, Nat.reduceLT, labsInL, AV.labsIn]
  all_goals first | rfl | decide | skip
 simp only [en1, cellsEn]
 by_cases hil : i < e.vals.length
 case neg =>
  have hc1 : ((i : Int) < (e.vals.length : Int)) = False := eq_false (by omega)
  have ez : zeroB e i = e.vals.any fun v => v.n == 0 := by unfold zeroB; rw [List.take_of_length_le (by omega)]
  rw [← ez] at e0
  clear hil
  refine AW.rT (by rfl) fun K hK => ?_
  simp -implicitDefEqProofs only [go_sem, ↓reduceIte, Nat.reduceAdd, Nat.reduceEqDiff, reduceCtorEq, hc1]
  apply hK; clear hK K
  refine AW.seq ?_
  refine AW.cF rfl ?_
  refine AW.exit ?_
  simp only [andThen, inBlk, ↓reduceIte]
  refine AW.seq ?_
  cases hz : zeroB e i with
  | false =>
   rw [hz, if_neg (by simp)] at e0
   refine AW.rT (by rfl) fun K hK => ?_
   simp -implicitDefEqProofs only [go_sem, ↓reduceIte, Nat.reduceAdd, Nat.reduceEqDiff, reduceCtorEq]
   apply hK; clear hK K
   refine AW.cT rfl ?_
   refine AW.rT (by rfl) fun K hK => ?_
   simp -implicitDefEqProofs only [go_sem, Nat.reduceAdd]
   apply hK; clear hK K
   refine AW.ret (show _ ∧ ((∃ l, _ ∧ _) ∧ True) from ⟨?_, ⟨0, ?_, ?_⟩, trivial⟩) <;> simp -implicitDefEqProofs only [go_sem, ↓reduceIte, reduceCtorEq, e0, e2, lift_setM]
  | true =>
  rw [hz, if_pos rfl] at e0
  refine AW.rT (by rfl) fun K hK => ?_
  simp -implicitDefEqProofs only [go_sem, ↓reduceIte, Nat.reduceAdd, Nat.reduceEqDiff, reduceCtorEq]
  apply hK; clear hK K
  refine AW.cF rfl ?_
  refine AW.skip ?_
  simp only [andThen]
  refine AW.rT (by rfl) fun K hK => ?_
  simp -implicitDefEqProofs only [go_sem, ↓reduceIte, Nat.reduceAdd, Nat.reduceEqDiff]
  apply hK; clear hK K
  refine AW.seq ?_
  refine AW.rT (by rfl) fun K hK => ?_
  simp -implicitDefEqProofs only [go_sem, ↓reduceIte, Nat.reduceAdd, Nat.reduceEqDiff, reduceCtorEq, List.length_map]
  apply hK; clear hK K
  refine AW.block ?_
  refine AW.loop (en2 e ns') (fun i => i ≤ e.vals.length ∧ valsC [] [] e.vals = valsC ((e.vals.take i).map Nm.name) ((e.vals.take i).map Nm.n) (e.vals.drop i)) (fun i => e.vals.length - i) 0 ?_ ⟨by omega, by simp⟩ fun j hj => ?_
  ·simp only [en2]
   refine Ghost.ent (fun l => if l = 0 then 0 else if l = 1 then 5 else 6) ?_ ?_ ?_ <;> simp -implicitDefEqProofs only [go_sem, ↓reduceIte, Nat.reduceEqDiff, reduceCtorEq, List.take_zero, List.map_nil, mS_nil, mI_nil, List.forall_mem_cons, List.not_mem_nil, false_implies, implies_true, and_self, List.all_nil, Nat.reduceLT, AV.labsIn]
   all_goals first | rfl | decide | skip
  obtain ⟨j1, j2⟩ := hj
  simp only [en2]
  by_cases hjl : j < e.vals.length
  case neg =>
   have hc1 : ((j : Int) < (e.vals.length : Int)) = False := eq_false (by omega)
   rw [List.drop_of_length_le (by omega), valsC] at j2
   rw [j2] at e0
   refine AW.rT (by rfl) fun K hK => ?_
   simp -implicitDefEqProofs only [go_sem, ↓reduceIte, Nat.reduceAdd, Nat.reduceEqDiff, reduceCtorEq, hc1]
   apply hK; clear hK K
   refine AW.seq ?_
   refine AW.cF rfl ?_
   refine AW.exit ?_
   simp only [andThen, inBlk, ↓reduceIte]
   refine AW.rT (by rfl) fun K hK => ?_
   simp -implicitDefEqProofs only [go_sem, Nat.reduceAdd]
   apply hK; clear hK K
   refine AW.ret (show _ ∧ ((∃ l, _ ∧ _) ∧ True) from ⟨?_, ⟨0, ?_, ?_⟩, trivial⟩) <;> simp -implicitDefEqProofs only [go_sem, ↓reduceIte, reduceCtorEq, e0, e2, lift_setM]
  obtain ⟨v, hv⟩ : ∃ v, e.vals[j]? = some v := ⟨_, List.getElem?_eq_getElem hjl⟩
  have ⟨hv1, hv2, hv3⟩ := at_map' encNm hv
  have hc1 : ((j : Int) < (e.vals.length : Int)) = True := eq_true (by omega)
  have w1 : IntKind.wrap .i64 ((j : Int) + 1) = ((j + 1 : Nat) : Int) := by rw [w64] <;> omega
  rw [valsC_at hv] at j2
  have hnx := take_map_next Nm.name hv
  have htx := take_map_next Nm.n hv
  generalize hN : (e.vals.take j).map Nm.name = N at *
  generalize hT : (e.vals.take j).map Nm.n = T at *
  have TK := check_takes N v.name (hm.2 v (List.mem_of_getElem? hv))
  refine AW.rT (by rfl) fun K hK => ?_
  simp -implicitDefEqProofs only [go_sem, ↓reduceIte, Nat.reduceAdd, Nat.reduceEqDiff, reduceCtorEq, hc1]
  apply hK; clear hK K
  refine AW.seq ?_
  refine AW.cT rfl ?_
  refine AW.skip ?_
  simp only [andThen]
  refine AW.seq ?_
  refine AW.block ?_
  refine AW.rT (by rfl) fun K hK => ?_
  simp -implicitDefEqProofs only [go_sem, ↓reduceIte, Nat.reduceAdd, Nat.reduceEqDiff, Nat.reduceLeDiff, reduceCtorEq, hv1, hv3, hc1, encNm, List.length_map]
  apply hK; clear hK K
  refine AW.seq ?_
  refine AW.block ?_
  cases ht2 : takesB N v.name with
  | false =>
   have e3 : takeN N v.name = N := by unfold takeN; rw [ht2]; rfl
   rw [ht2, e3] at TK
   rw [ht2, if_neg (by simp)] at j2
   rw [j2] at e0
   refine AW.rT (by rfl) fun K hK => ?_
   simp -implicitDefEqProofs only [go_sem, ↓reduceIte, Nat.reduceAdd, Nat.reduceEqDiff, reduceCtorEq]
   refine ⟨.lend [some 1, none] [.map (setM N), .v (.str v.name)] [some (.map (setM N)), none] (.bool false), ⟨TK, rfl, ?_⟩, ?_⟩
   ·simp -implicitDefEqProofs only [go_sem, ↓reduceIte, Nat.reduceEqDiff, lift_setM]
   try simp -implicitDefEqProofs only [go_sem, Nat.reduceAdd, lift_setM]
   apply hK; clear hK K
   refine AW.cT rfl ?_
   refine AW.rT (by rfl) fun K hK => ?_
   simp -implicitDefEqProofs only [go_sem, Nat.reduceAdd]
   apply hK; clear hK K
   refine AW.ret (show _ ∧ ((∃ l, _ ∧ _) ∧ True) from ⟨?_, ⟨0, ?_, ?_⟩, trivial⟩) <;> simp -implicitDefEqProofs only [go_sem, ↓reduceIte, reduceCtorEq, e0, e2, lift_setM]
  | true =>
  have e3 : takeN N v.name = N ++ [v.name] := by unfold takeN; rw [ht2]; rfl
  rw [ht2, e3] at TK
  rw [ht2, if_pos rfl] at j2
  refine AW.rT (by rfl) fun K hK => ?_
  simp -implicitDefEqProofs only [go_sem, ↓reduceIte, Nat.reduceAdd, Nat.reduceEqDiff, reduceCtorEq]
  refine ⟨.lend [some 1, none] [.map (setM N), .v (.str v.name)] [some (.map (setM (N ++ [v.name]))), none] (.bool true), ⟨TK, rfl, ?_⟩, ?_⟩
  ·simp -implicitDefEqProofs only [go_sem, ↓reduceIte, Nat.reduceEqDiff, lift_setM]
  try simp -implicitDefEqProofs only [go_sem, Nat.reduceAdd, lift_setM]
  apply hK; clear hK K
  refine AW.cF rfl ?_
  rcases num_split v.n with hnb | hnb | hnb
  ·have hb : numB v.n = false := decide_eq_false (by omega)
   rw [hb, Bool.false_and, if_neg (by simp)] at j2
   rw [j2] at e0
   have f1 : (v.n < 0) = True := eq_true hnb
   refine AW.rT (by rfl) fun K hK => ?_
   simp -implicitDefEqProofs only [go_sem, ↓reduceIte, Nat.reduceAdd, Nat.reduceEqDiff, f1]
   apply hK; clear hK K
   refine AW.cT rfl ?_
   refine AW.rT (by rfl) fun K hK => ?_
   simp -implicitDefEqProofs only [go_sem, Nat.reduceAdd]
   apply hK; clear hK K
   refine AW.ret (show _ ∧ ((∃ l, _ ∧ _) ∧ True) from ⟨?_, ⟨0, ?_, ?_⟩, trivial⟩) <;> simp -implicitDefEqProofs only [go_sem, ↓reduceIte, reduceCtorEq, e0, e2, lift_setM]
  ·have hb : numB v.n = false := decide_eq_false (by omega)
   rw [hb, Bool.false_and, if_neg (by simp)] at j2
   rw [j2] at e0
   have f1 : (v.n < 0) = False := eq_false (by omega)
   have f2 : (v.n > 2147483647) = True := eq_true hnb
   refine AW.rT (by rfl) fun K hK => ?_
   simp -implicitDefEqProofs only [go_sem, ↓reduceIte, Nat.reduceAdd, Nat.reduceEqDiff, f1, f2]
   apply hK; clear hK K
   refine AW.cT rfl ?_
   refine AW.rT (by rfl) fun K hK => ?_
   simp -implicitDefEqProofs only [go_sem, Nat.reduceAdd]
   apply hK; clear hK K
   refine AW.ret (show _ ∧ ((∃ l, _ ∧ _) ∧ True) from ⟨?_, ⟨0, ?_, ?_⟩, trivial⟩) <;> simp -implicitDefEqProofs only [go_sem, ↓reduceIte, reduceCtorEq, e0, e2, lift_setM]
  have hb : numB v.n = true := decide_eq_true hnb
  rw [hb, Bool.true_and] at j2
  have f1 : (v.n < 0) = False := eq_false (by omega)
  have f2 : (v.n > 2147483647) = False := eq_false (by omega)
  cases hus : T.contains v.n with
  | true =>
   rw [hus, if_neg (by simp)] at j2
   rw [j2] at e0
   obtain ⟨q, hq⟩ := mI_yes hus
   refine AW.rT (by rfl) fun K hK => ?_
   simp -implicitDefEqProofs only [go_sem, ↓reduceIte, Nat.reduceAdd, Nat.reduceEqDiff, reduceCtorEq, f1, f2]
   refine ⟨keyI v.n, _, hq, _, rfl, ?_⟩
   try simp -implicitDefEqProofs only [go_sem, ↓reduceIte, Nat.reduceAdd, Nat.reduceMul, Nat.reduceEqDiff, Nat.reduceLeDiff, reduceCtorEq, Int.reduceToNat]
   apply hK; clear hK K
   refine AW.cT rfl ?_
   refine AW.rT (by rfl) fun K hK => ?_
   simp -implicitDefEqProofs only [go_sem, Nat.reduceAdd]
   apply hK; clear hK K
   refine AW.ret (show _ ∧ ((∃ l, _ ∧ _) ∧ True) from ⟨?_, ⟨0, ?_, ?_⟩, trivial⟩) <;> simp -implicitDefEqProofs only [go_sem, ↓reduceIte, reduceCtorEq, e0, e2, lift_setM]
  | false =>
   rw [hus, if_pos (by simp)] at j2
   have hq := mI_no hus
   refine AW.rT (by rfl) fun K hK => ?_
   simp -implicitDefEqProofs only [go_sem, ↓reduceIte, Nat.reduceAdd, Nat.reduceEqDiff, reduceCtorEq, f1, f2]
   refine ⟨keyI v.n, _, hq, _, rfl, ?_⟩
   try simp -implicitDefEqProofs only [go_sem, ↓reduceIte, Nat.reduceAdd, Nat.reduceMul, Nat.reduceEqDiff, Nat.reduceLeDiff, reduceCtorEq, Int.reduceToNat]
   apply hK; clear hK K
   refine AW.cF rfl ?_
   refine AW.skip ?_
   simp only [andThen, inBlk]
   refine AW.rE (by rfl) fun K hK => ?_
   simp -implicitDefEqProofs only [go_sem, ↓reduceIte, Nat.reduceAdd, Nat.reduceEqDiff, reduceCtorEq]
   refine ⟨keyI v.n, _, hq, ?_⟩
   try simp -implicitDefEqProofs only [go_sem]
   apply hK; clear hK K
   simp only [andThen, inBlk]
   refine AW.rE (by rfl) fun K hK => ?_
   simp -implicitDefEqProofs only [go_sem, ↓reduceIte, Nat.reduceAdd, Nat.reduceEqDiff, reduceCtorEq, w1]
   apply hK; clear hK K
   refine ⟨j + 1, ⟨by omega, by rw [hnx, htx]; exact j2⟩, by omega, ?_⟩
   rw [hnx, htx]
   refine Ghost.sub ?_ ?_ <;> simp -implicitDefEqProofs only [go_sem, ↓reduceIte, Nat.reduceEqDiff, reduceCtorEq, mI_add, List.forall_mem_cons, List.not_mem_nil, false_implies, implies_true, and_self, Nat.reduceLT, AV.labsIn]
 obtain ⟨v, hv⟩ : ∃ v, e.vals[i]? = some v := ⟨_, List.getElem?_eq_getElem hil⟩
 have ⟨hv1, hv2, hv3⟩ := at_map' encNm hv
 have hc1 : ((i : Int) < (e.vals.length : Int)) = True := eq_true (by omega)
 have w1 : IntKind.wrap .i64 ((i : Int) + 1) = ((i + 1 : Nat) : Int) := by rw [w64] <;> omega
 have hz := zeroB_next hv
 refine AW.rT (by rfl) fun K hK => ?_
 simp -implicitDefEqProofs only [go_sem, ↓reduceIte, Nat.reduceAdd, Nat.reduceEqDiff, reduceCtorEq, hc1]
 apply hK; clear hK K
 refine AW.seq ?_
 refine AW.cT rfl ?_
 refine AW.skip ?_
 simp only [andThen]
 refine AW.seq ?_
 refine AW.block ?_
 refine AW.rT (by rfl) fun K hK => ?_
 simp -implicitDefEqProofs only [go_sem, ↓reduceIte, Nat.reduceAdd, Nat.reduceEqDiff, Nat.reduceLeDiff, reduceCtorEq, hv1, hv3, hc1, encNm, List.length_map]
 apply hK; clear hK K
 cases hb : zeroB e i with
 | true =>
  rw [hb, Bool.true_or] at hz
  refine AW.rE (by rfl) fun K hK => ?_
  simp -implicitDefEqProofs only [go_sem, ↓reduceIte, Nat.reduceAdd, Nat.reduceEqDiff, reduceCtorEq]
  apply hK; clear hK K
  simp only [andThen, inBlk]
  refine AW.rE (by rfl) fun K hK => ?_
  simp -implicitDefEqProofs only [go_sem, ↓reduceIte, Nat.reduceAdd, Nat.reduceEqDiff, reduceCtorEq, w1]
  apply hK; clear hK K
  refine ⟨i + 1, by omega, by omega, ?_⟩
  refine Ghost.sub ?_ ?_ <;> simp -implicitDefEqProofs only [go_sem, ↓reduceIte, Nat.reduceEqDiff, reduceCtorEq, hz, List.forall_mem_cons, List.not_mem_nil, false_implies, implies_true, and_self, List.all_cons, List.all_nil, Nat.reduceLT, labsInL, AV.labsIn]
 | false =>
  rw [hb, Bool.false_or] at hz
  refine AW.rE (by rfl) fun K hK => ?_
  simp -implicitDefEqProofs only [go_sem, ↓reduceIte, Nat.reduceAdd, Nat.reduceEqDiff, reduceCtorEq]
  apply hK; clear hK K
  simp only [andThen, inBlk]
  refine AW.rE (by rfl) fun K hK => ?_
  simp -implicitDefEqProofs only [go_sem, ↓reduceIte, Nat.reduceAdd, Nat.reduceEqDiff, reduceCtorEq, w1]
  apply hK; clear hK K
  refine ⟨i + 1, by omega, by omega, ?_⟩
  refine Ghost.sub ?_ ?_ <;> simp -implicitDefEqProofs only [go_sem, ↓reduceIte, Nat.reduceEqDiff, reduceCtorEq, hz, List.forall_mem_cons, List.not_mem_nil, false_implies, implies_true, and_self, List.all_cons, List.all_nil, Nat.reduceLT, labsInL, AV.labsIn]
end Go.Aw
namespace Go.Aw
open Go.Proofs Go.RowKit
def msgsC (S : Sc) (K : List (List UInt8) → Int) (ns : List (List UInt8)) : List Ms → Int
 | [] => K ns
 | m :: l => if msgC S ns m = 0 then msgsC S K (ns ++ [m.name]) l else msgC S ns m
def enumsC (ns : List (List UInt8)) : List En → Int
 | [] => 0
 | e :: l => if enumC ns e = 0 then enumsC (ns ++ [e.name]) l else enumC ns e
def partsC (S : Sc) : Int := msgsC S (fun ns => enumsC ns S.enums) [] S.msgs
def hasM (S : Sc) (k : List UInt8) : Bool := (firstP (fun x => x.name == k) zMs S.msgs).2
def methsC (S : Sc) (ns : List (List UInt8)) : List Mt → Int
 | [] => 0
 | t :: l => if takesB ns t.name = true then (if (hasM S t.inn && hasM S t.out) = true then methsC S (ns ++ [t.name]) l else 8) else 6
def checkC (S : Sc) : Int := if nameB S.name = true then (if S.msgs.length = 0 then 12 else if S.msgs.length > 10 ∨ S.enums.length > 6 ∨ S.meths.length > 6 then 4 else if partsC S = 0 then methsC S [] S.meths else partsC S) else 6
theorem msgsC_at {S : Sc} {K : List (List UInt8) → Int} {l : List Ms} {i : Nat} {m : Ms} {ns : List (List UInt8)} (h : l[i]? = some m) :
  msgsC S K ns (l.drop i) = if msgC S ns m = 0 then msgsC S K (ns ++ [m.name]) (l.drop (i + 1)) else msgC S ns m := by
 rw [List.drop_eq_getElem_cons (List.getElem?_eq_some_iff.1 h).1, (List.getElem?_eq_some_iff.1 h).2, msgsC]
theorem enumsC_at {l : List En} {i : Nat} {e : En} {ns : List (List UInt8)} (h : l[i]? = some e) :
  enumsC ns (l.drop i) = if enumC ns e = 0 then enumsC (ns ++ [e.name]) (l.drop (i + 1)) else enumC ns e := by
 rw [List.drop_eq_getElem_cons (List.getElem?_eq_some_iff.1 h).1, (List.getElem?_eq_some_iff.1 h).2, enumsC]
theorem methsC_at {S : Sc} {l : List Mt} {i : Nat} {t : Mt} {ns : List (List UInt8)} (h : l[i]? = some t) :
  methsC S ns (l.drop i) = if takesB ns t.name = true then (if (hasM S t.inn && hasM S t.out) = true then methsC S (ns ++ [t.name]) (l.drop (i + 1)) else 8) else 6 := by
 rw [List.drop_eq_getElem_cons (List.getElem?_eq_some_iff.1 h).1, (List.getElem?_eq_some_iff.1 h).2, methsC]
theorem takes_msg {S : Sc} {ns : List (List UInt8)} {m : Ms} (h : msgC S ns m = 0) : takeN ns m.name = ns ++ [m.name] := by
 unfold msgC at h
 unfold takeN
 cases ht : takesB ns m.name with
 | true => rfl
 | false => rw [ht] at h; simp at h
theorem takes_enum {ns : List (List UInt8)} {e : En} (h : enumC ns e = 0) : takeN ns e.name = ns ++ [e.name] := by
 unfold enumC at h
 unfold takeN
 cases ht : takesB ns e.name with
 | true => rfl
 | false => rw [ht] at h; simp at h
structure LensS (S : Sc) : Prop where
 name : S.name.length ≤ 1000000000
 msgs : ∀ m ∈ S.msgs, lensF m
 enums : ∀ e ∈ S.enums, lensV e
 meths : ∀ t ∈ S.meths, t.name.length ≤ 1000000000
 m : S.msgs.length ≤ 1000000
 e : S.enums.length ≤ 1000000
 t : S.meths.length ≤ 1000000
def cellsMt (t : Mt) : List AV := [.p (.str t.name), .p (.str t.inn), .p (.str t.out)]
def ck1 (S : Sc) (i : Nat) : St := ⟨ofL [(1, .ptr 0 0 0), (3, .map 1), (46, .p (.slice (S.msgs.map encMs))), (47, .p (.int .i64 (S.msgs.length : Int))), (48, .p (.int .i64 (i : Int)))],
 ofH [(0, .row 4 [cellsSc S]), (1, .map (mS ((S.msgs.take i).map Ms.name)))], 2⟩
def ck2 (S : Sc) (i : Nat) : St := ⟨ofL [(1, .ptr 0 0 0), (3, .map 1), (61, .p (.slice (S.enums.map encEn))), (62, .p (.int .i64 (S.enums.length : Int))), (63, .p (.int .i64 (i : Int)))],
 ofH [(0, .row 4 [cellsSc S]), (1, .map (mS (S.msgs.map Ms.name ++ (S.enums.take i).map En.name)))], 2⟩
def ck3 (S : Sc) (i : Nat) : St := ⟨ofL [(1, .ptr 0 0 0), (10, .map 1), (76, .p (.slice (S.meths.map encMt))), (77, .p (.int .i64 (S.meths.length : Int))), (78, .p (.int .i64 (i : Int)))],
 ofH [(0, .row 4 [cellsSc S]), (1, .map (mS ((S.meths.take i).map Mt.name)))], 2⟩
theorem check_Check (S : Sc) (L : LensS S) : PFn Tryd.prog 61 [.agg (encSc S)] (.int .i64 (checkC S)) := by
 refine PFn.of Tryd.func61 rfl (by decide) Tryd.ntmps61 Tryd.results61 (Nat.le_of_ble_eq_true rfl) ?_
 simp only [argsT, encSc]
 refine AW.rT (by rfl) fun K hK => ?_
 simp -implicitDefEqProofs only [go_sem, Nat.reduceAdd]
 apply hK; clear hK K
 refine AW.seq ?_
 refine AW.block ?_
 cases hn : nameB S.name with
 | false =>
  have e : checkC S = 6 := by unfold checkC; rw [hn]; rfl
  refine AW.rT (by rfl) fun K hK => ?_
  simp -implicitDefEqProofs only [go_sem, ↓reduceIte, Nat.reduceAdd, Nat.reduceEqDiff]
  refine ⟨.pure _, runes_Name S.name L.name, ?_⟩
  try simp -implicitDefEqProofs only [go_sem, Nat.reduceAdd, hn]
  apply hK; clear hK K
  refine AW.cT rfl ?_
  refine AW.rT (by rfl) fun K hK => ?_
  simp -implicitDefEqProofs only [go_sem, Nat.reduceAdd]
  apply hK; clear hK K
  refine AW.ret ?_
  simp -implicitDefEqProofs only [go_sem, e]
 | true =>
 have e0 : checkC S = if S.msgs.length = 0 then 12 else if S.msgs.length > 10 ∨ S.enums.length > 6 ∨ S.meths.length > 6 then 4 else if partsC S = 0 then methsC S [] S.meths else partsC S := by unfold checkC; rw [hn, if_pos rfl]
 refine AW.rT (by rfl) fun K hK => ?_
 simp -implicitDefEqProofs only [go_sem, ↓reduceIte, Nat.reduceAdd, Nat.reduceEqDiff]
 refine ⟨.pure _, runes_Name S.name L.name, ?_⟩
 try simp -implicitDefEqProofs only [go_sem, Nat.reduceAdd, hn]
 apply hK; clear hK K
 refine AW.cF rfl ?_
 by_cases c0 : S.msgs.length = 0
 ·have b0 : ((S.msgs.length : Int) == 0) = true := by rw [beq_iff_eq]; omega
  rw [if_pos c0] at e0
  refine AW.rT (by rfl) fun K hK => ?_
  simp -implicitDefEqProofs only [go_sem, ↓reduceIte, Nat.reduceAdd, Nat.reduceEqDiff, b0, List.length_map]
  apply hK; clear hK K
  refine AW.cT rfl ?_
  refine AW.rT (by rfl) fun K hK => ?_
  simp -implicitDefEqProofs only [go_sem, Nat.reduceAdd]
  apply hK; clear hK K
  refine AW.ret ?_
  simp -implicitDefEqProofs only [go_sem, e0]
 rw [if_neg c0] at e0
 have b0 : ((S.msgs.length : Int) == 0) = false := beq_eq_false_iff_ne.2 (by omega)
 refine AW.rT (by rfl) fun K hK => ?_
 simp -implicitDefEqProofs only [go_sem, ↓reduceIte, Nat.reduceAdd, Nat.reduceEqDiff, b0, List.length_map]
 apply hK; clear hK K
 refine AW.cF rfl ?_
 by_cases c1 : S.msgs.length > 10
 ·have b1 : ((S.msgs.length : Int) > 10) = True := eq_true (by omega)
  rw [if_pos (.inl c1)] at e0
  refine AW.rT (by rfl) fun K hK => ?_
  simp -implicitDefEqProofs only [go_sem, ↓reduceIte, Nat.reduceAdd, Nat.reduceEqDiff, b1, List.length_map]
  apply hK; clear hK K
  refine AW.cT rfl ?_
  refine AW.rT (by rfl) fun K hK => ?_
  simp -implicitDefEqProofs only [go_sem, Nat.reduceAdd]
  apply hK; clear hK K
  refine AW.ret ?_
  simp -implicitDefEqProofs only [go_sem, e0]
 have b1 : ((S.msgs.length : Int) > 10) = False := eq_false (by omega)
 by_cases c2 : S.enums.length > 6
 ·have b2 : ((S.enums.length : Int) > 6) = True := eq_true (by omega)
  rw [if_pos (.inr (.inl c2))] at e0
  refine AW.rT (by rfl) fun K hK => ?_
  simp -implicitDefEqProofs only [go_sem, ↓reduceIte, Nat.reduceAdd, Nat.reduceEqDiff, b1, b2, List.length_map]
  apply hK; clear hK K
  refine AW.cT rfl ?_
  refine AW.rT (by rfl) fun K hK => ?_
  simp -implicitDefEqProofs only [go_sem, Nat.reduceAdd]
  apply hK; clear hK K
  refine AW.ret ?_
  simp -implicitDefEqProofs only [go_sem, e0]
 have b2 : ((S.enums.length : Int) > 6) = False := eq_false (by omega)
 by_cases c3 : S.meths.length > 6
 ·have b3 : ((S.meths.length : Int) > 6) = True := eq_true (by omega)
  rw [if_pos (.inr (.inr c3))] at e0
  refine AW.rT (by rfl) fun K hK => ?_
  simp -implicitDefEqProofs only [go_sem, ↓reduceIte, Nat.reduceAdd, Nat.reduceEqDiff, b1, b2, b3, List.length_map]
  apply hK; clear hK K
  refine AW.cT rfl ?_
  refine AW.rT (by rfl) fun K hK => ?_
  simp -implicitDefEqProofs only [go_sem, Nat.reduceAdd]
  apply hK; clear hK K
  refine AW.ret ?_
  simp -implicitDefEqProofs only [go_sem, e0]
 have b3 : ((S.meths.length : Int) > 6) = False := eq_false (by omega)
 rw [if_neg (by omega)] at e0
 refine AW.rT (by rfl) fun K hK => ?_
 simp -implicitDefEqProofs only [go_sem, ↓reduceIte, Nat.reduceAdd, Nat.reduceEqDiff, b1, b2, b3, List.length_map]
 apply hK; clear hK K
 refine AW.cF rfl ?_
 refine AW.skip ?_
 simp only [andThen, inBlk]
 clear b1 b2 b3
 refine AW.rT (by rfl) fun K hK => ?_
 simp -implicitDefEqProofs only [go_sem, Nat.reduceAdd]
 apply hK; clear hK K
 refine AW.seq ?_
 refine AW.rT (by rfl) fun K hK => ?_
 simp -implicitDefEqProofs only [go_sem, ↓reduceIte, Nat.reduceAdd, Nat.reduceEqDiff, reduceCtorEq, List.length_map]
 apply hK; clear hK K
 refine AW.block ?_
 refine AW.loop (ck1 S) (fun i => i ≤ S.msgs.length ∧ partsC S = msgsC S (fun ns => enumsC ns S.enums) ((S.msgs.take i).map Ms.name) (S.msgs.drop i)) (fun i => S.msgs.length - i) 0 ?_ ⟨by omega, by simp [partsC]⟩ fun i hi => ?_
 ·simp only [ck1, cellsSc]
  refine Ghost.ent (fun l => if l = 0 then 0 else 29) ?_ ?_ ?_ <;> simp -implicitDefEqProofs only [go_sem, ↓reduceIte, Nat.reduceEqDiff, reduceCtorEq, List.take_zero, List.map_nil, mS_nil, List.forall_mem_cons, List.not_mem_nil, false_implies, implies_true, and_self, List.all_cons, List.all_nil, Nat.reduceLT, labsInL, AV.labsIn]
  all_goals first | rfl | decide | skip
 obtain ⟨i1, i2⟩ := hi
 simp only [ck1, cellsSc]
 by_cases hil : i < S.msgs.length
 ·obtain ⟨m, hm⟩ : ∃ m, S.msgs[i]? = some m := ⟨_, List.getElem?_eq_getElem hil⟩
  have ⟨hm1, hm2, hm3⟩ := at_map' encMs hm
  have hc1 : ((i : Int) < (S.msgs.length : Int)) = True := eq_true (by omega)
  have w1 : IntKind.wrap .i64 ((i : Int) + 1) = ((i + 1 : Nat) : Int) := by rw [w64] <;> omega
  rw [msgsC_at hm] at i2
  have hnx := take_map_next Ms.name hm
  generalize hN : (S.msgs.take i).map Ms.name = N at *
  have CM := check_message S N m L.m L.e (L.msgs m (List.mem_of_getElem? hm))
  refine AW.rT (by rfl) fun K hK => ?_
  simp -implicitDefEqProofs only [go_sem, ↓reduceIte, Nat.reduceAdd, Nat.reduceEqDiff, hc1]
  apply hK; clear hK K
  refine AW.seq ?_
  refine AW.cT rfl ?_
  refine AW.skip ?_
  simp only [andThen]
  refine AW.seq ?_
  refine AW.block ?_
  refine AW.rT (by rfl) fun K hK => ?_
  simp -implicitDefEqProofs only [go_sem, ↓reduceIte, Nat.reduceAdd, Nat.reduceEqDiff, Nat.reduceLeDiff, hm1, hm3, hc1, encMs, List.length_map]
  apply hK; clear hK K
  refine AW.rT (by rfl) fun K hK => ?_
  simp -implicitDefEqProofs only [go_sem, ↓reduceIte, Nat.reduceAdd, Nat.reduceEqDiff, Nat.reduceLeDiff, reduceCtorEq]
  refine ⟨.lend [none, some 1, none] [.v (.agg (encSc S)), .map (setM N), .v (.agg (encMs m))] [none, some (.map (setM (takeN N m.name))), none] (.int .i64 (msgC S N m)), ⟨CM, rfl, ?_⟩, ?_⟩
  ·simp -implicitDefEqProofs only [go_sem, ↓reduceIte, Nat.reduceEqDiff, lift_setM, encSc, encMs]
  try simp -implicitDefEqProofs only [go_sem, Nat.reduceAdd, lift_setM]
  apply hK; clear hK K
  by_cases hz : msgC S N m = 0
  ·have bz : (msgC S N m != 0) = false := by simp [hz]
   rw [if_pos hz] at i2
   rw [takes_msg hz]
   refine AW.rT (by rfl) fun K hK => ?_
   simp -implicitDefEqProofs only [go_sem, ↓reduceIte, Nat.reduceAdd, bz]
   apply hK; clear hK K
   refine AW.cF rfl ?_
   refine AW.skip ?_
   simp only [andThen, inBlk]
   refine AW.rE (by rfl) fun K hK => ?_
   simp -implicitDefEqProofs only [go_sem, ↓reduceIte, Nat.reduceAdd, Nat.reduceEqDiff, w1]
   apply hK; clear hK K
   refine ⟨i + 1, ⟨by omega, by rw [hnx]; exact i2⟩, by omega, ?_⟩
   rw [hnx]
   refine Ghost.sub ?_ ?_ <;> simp -implicitDefEqProofs only [go_sem, ↓reduceIte, Nat.reduceEqDiff, reduceCtorEq, List.forall_mem_cons, List.not_mem_nil, false_implies, implies_true, and_self, List.all_cons, List.all_nil, Nat.reduceLT, labsInL, AV.labsIn]
  ·have bz : (msgC S N m != 0) = true := by simp [hz]
   rw [if_neg hz] at i2
   rw [if_neg (by rw [i2]; exact hz), i2] at e0
   refine AW.rT (by rfl) fun K hK => ?_
   simp -implicitDefEqProofs only [go_sem, ↓reduceIte, Nat.reduceAdd, bz]
   apply hK; clear hK K
   refine AW.cT rfl ?_
   refine AW.rT (by rfl) fun K hK => ?_
   simp -implicitDefEqProofs only [go_sem, ↓reduceIte, Nat.reduceAdd, Nat.reduceEqDiff]
   apply hK; clear hK K
   refine AW.ret ?_
   simp -implicitDefEqProofs only [go_sem, e0]
 have hc1 : ((i : Int) < (S.msgs.length : Int)) = False := eq_false (by omega)
 have ea : S.msgs.take i = S.msgs := List.take_of_length_le (by omega)
 rw [List.drop_of_length_le (by omega), msgsC, ea] at i2
 rw [ea]
 clear ea hil
 refine AW.rT (by rfl) fun K hK => ?_
 simp -implicitDefEqProofs only [go_sem, ↓reduceIte, Nat.reduceAdd, Nat.reduceEqDiff, hc1]
 apply hK; clear hK K
 refine AW.seq ?_
 refine AW.cF rfl ?_
 refine AW.exit ?_
 simp only [andThen, inBlk, ↓reduceIte]
 refine AW.seq ?_
 refine AW.rT (by rfl) fun K hK => ?_
 simp -implicitDefEqProofs only [go_sem, ↓reduceIte, Nat.reduceAdd, Nat.reduceEqDiff, List.length_map]
 apply hK; clear hK K
 refine AW.block ?_
 refine AW.loop (ck2 S) (fun i => i ≤ S.enums.length ∧ partsC S = enumsC (S.msgs.map Ms.name ++ (S.enums.take i).map En.name) (S.enums.drop i)) (fun i => S.enums.length - i) 0 ?_ ⟨by omega, by simpa using i2⟩ fun j hj => ?_
 ·simp only [ck2, cellsSc]
  refine Ghost.sub ?_ ?_ <;> simp -implicitDefEqProofs only [go_sem, ↓reduceIte, Nat.reduceEqDiff, List.take_zero, List.map_nil, List.append_nil, List.forall_mem_cons, List.not_mem_nil, false_implies, implies_true, and_self, List.all_cons, List.all_nil, Nat.reduceLT, labsInL, AV.labsIn]
  all_goals first | rfl | decide | skip
 clear i2 i1 hc1
 obtain ⟨j1, j2⟩ := hj
 simp only [ck2, cellsSc]
 by_cases hjl : j < S.enums.length
 ·obtain ⟨m, hm⟩ : ∃ m, S.enums[j]? = some m := ⟨_, List.getElem?_eq_getElem hjl⟩
  have ⟨hm1, hm2, hm3⟩ := at_map' encEn hm
  have hc1 : ((j : Int) < (S.enums.length : Int)) = True := eq_true (by omega)
  have w1 : IntKind.wrap .i64 ((j : Int) + 1) = ((j + 1 : Nat) : Int) := by rw [w64] <;> omega
  rw [enumsC_at hm] at j2
  have hnx : S.msgs.map Ms.name ++ (S.enums.take (j + 1)).map En.name = (S.msgs.map Ms.name ++ (S.enums.take j).map En.name) ++ [m.name] := by rw [take_map_next En.name hm, List.append_assoc]
  generalize hN : S.msgs.map Ms.name ++ (S.enums.take j).map En.name = N at *
  have CM := check_enum N m (L.enums m (List.mem_of_getElem? hm))
  refine AW.rT (by rfl) fun K hK => ?_
  simp -implicitDefEqProofs only [go_sem, ↓reduceIte, Nat.reduceAdd, Nat.reduceEqDiff, hc1]
  apply hK; clear hK K
  refine AW.seq ?_
  refine AW.cT rfl ?_
  refine AW.skip ?_
  simp only [andThen]
  refine AW.seq ?_
  refine AW.block ?_
  refine AW.rT (by rfl) fun K hK => ?_
  simp -implicitDefEqProofs only [go_sem, ↓reduceIte, Nat.reduceAdd, Nat.reduceEqDiff, Nat.reduceLeDiff, hm1, hm3, hc1, encEn, List.length_map]
  apply hK; clear hK K
  refine AW.rT (by rfl) fun K hK => ?_
  simp -implicitDefEqProofs only [go_sem, ↓reduceIte, Nat.reduceAdd, Nat.reduceEqDiff, Nat.reduceLeDiff]
  refine ⟨.lend [some 1, none] [.map (setM N), .v (.agg (encEn m))] [some (.map (setM (takeN N m.name))), none] (.int .i64 (enumC N m)), ⟨CM, rfl, ?_⟩, ?_⟩
  ·simp -implicitDefEqProofs only [go_sem, ↓reduceIte, Nat.reduceEqDiff, lift_setM, encEn]
  try simp -implicitDefEqProofs only [go_sem, Nat.reduceAdd, lift_setM]
  apply hK; clear hK K
  by_cases hz : enumC N m = 0
  ·have bz : (enumC N m != 0) = false := by simp [hz]
   rw [if_pos hz] at j2
   rw [takes_enum hz]
   refine AW.rT (by rfl) fun K hK => ?_
   simp -implicitDefEqProofs only [go_sem, ↓reduceIte, Nat.reduceAdd, bz]
   apply hK; clear hK K
   refine AW.cF rfl ?_
   refine AW.skip ?_
   simp only [andThen, inBlk]
   refine AW.rE (by rfl) fun K hK => ?_
   simp -implicitDefEqProofs only [go_sem, ↓reduceIte, Nat.reduceAdd, Nat.reduceEqDiff, w1]
   apply hK; clear hK K
   refine ⟨j + 1, ⟨by omega, by rw [hnx]; exact j2⟩, by omega, ?_⟩
   rw [hnx]
   refine Ghost.sub ?_ ?_ <;> simp -implicitDefEqProofs only [go_sem, ↓reduceIte, Nat.reduceEqDiff, reduceCtorEq, List.forall_mem_cons, List.not_mem_nil, false_implies, implies_true, and_self, List.all_cons, List.all_nil, Nat.reduceLT, labsInL, AV.labsIn]
  ·have bz : (enumC N m != 0) = true := by simp [hz]
   rw [if_neg hz] at j2
   rw [if_neg (by rw [j2]; exact hz), j2] at e0
   refine AW.rT (by rfl) fun K hK => ?_
   simp -implicitDefEqProofs only [go_sem, ↓reduceIte, Nat.reduceAdd, bz]
   apply hK; clear hK K
   refine AW.cT rfl ?_
   refine AW.rT (by rfl) fun K hK => ?_
   simp -implicitDefEqProofs only [go_sem, ↓reduceIte, Nat.reduceAdd, Nat.reduceEqDiff]
   apply hK; clear hK K
   refine AW.ret ?_
   simp -implicitDefEqProofs only [go_sem, e0]
 have hc1 : ((j : Int) < (S.enums.length : Int)) = False := eq_false (by omega)
 rw [List.drop_of_length_le (by omega), enumsC] at j2
 rw [if_pos j2] at e0
 clear hjl
 refine AW.rT (by rfl) fun K hK => ?_
 simp -implicitDefEqProofs only [go_sem, ↓reduceIte, Nat.reduceAdd, Nat.reduceEqDiff, hc1]
 apply hK; clear hK K
 refine AW.seq ?_
 refine AW.cF rfl ?_
 refine AW.exit ?_
 simp only [andThen, inBlk, ↓reduceIte]
 refine AW.rT (by rfl) fun K hK => ?_
 simp -implicitDefEqProofs only [go_sem, Nat.reduceAdd]
 apply hK; clear hK K
 refine AW.seq ?_
 refine AW.rT (by rfl) fun K hK => ?_
 simp -implicitDefEqProofs only [go_sem, ↓reduceIte, Nat.reduceAdd, Nat.reduceEqDiff, reduceCtorEq, List.length_map]
 apply hK; clear hK K
 refine AW.block ?_
 refine AW.loop (ck3 S) (fun i => i ≤ S.meths.length ∧ methsC S [] S.meths = methsC S ((S.meths.take i).map Mt.name) (S.meths.drop i)) (fun i => S.meths.length - i) 0 ?_ ⟨by omega, by simp⟩ fun k hk => ?_
 ·simp only [ck3, cellsSc]
  refine Ghost.ent (fun l => if l = 0 then 0 else 3) ?_ ?_ ?_ <;> simp -implicitDefEqProofs only [go_sem, ↓reduceIte, Nat.reduceEqDiff, reduceCtorEq, List.take_zero, List.map_nil, mS_nil, List.forall_mem_cons, List.not_mem_nil, false_implies, implies_true, and_self, List.all_cons, List.all_nil, Nat.reduceLT, labsInL, AV.labsIn]
  all_goals first | rfl | decide | skip
 obtain ⟨k1, k2⟩ := hk
 simp only [ck3, cellsSc]
 by_cases hkl : k < S.meths.length
 case neg =>
  have hc1 : ((k : Int) < (S.meths.length : Int)) = False := eq_false (by omega)
  rw [List.drop_of_length_le (by omega), methsC] at k2
  rw [k2] at e0
  refine AW.rT (by rfl) fun K hK => ?_
  simp -implicitDefEqProofs only [go_sem, ↓reduceIte, Nat.reduceAdd, Nat.reduceEqDiff, hc1]
  apply hK; clear hK K
  refine AW.seq ?_
  refine AW.cF rfl ?_
  refine AW.exit ?_
  simp only [andThen, inBlk, ↓reduceIte]
  refine AW.rT (by rfl) fun K hK => ?_
  simp -implicitDefEqProofs only [go_sem, Nat.reduceAdd]
  apply hK; clear hK K
  refine AW.ret ?_
  simp -implicitDefEqProofs only [go_sem, e0]
 obtain ⟨m, hm⟩ : ∃ m, S.meths[k]? = some m := ⟨_, List.getElem?_eq_getElem hkl⟩
 have ⟨hm1, hm2, hm3⟩ := at_map' encMt hm
 have hc1 : ((k : Int) < (S.meths.length : Int)) = True := eq_true (by omega)
 have w1 : IntKind.wrap .i64 ((k : Int) + 1) = ((k + 1 : Nat) : Int) := by rw [w64] <;> omega
 rw [methsC_at hm] at k2
 have hnx := take_map_next Mt.name hm
 generalize hN : (S.meths.take k).map Mt.name = N at *
 have TK := check_takes N m.name (L.meths m (List.mem_of_getElem? hm))
 have M1 := check_Message S m.inn L.m
 have M2 := check_Message S m.out L.m
 simp only [encSc, encMs] at M1 M2
 refine AW.rT (by rfl) fun K hK => ?_
 simp -implicitDefEqProofs only [go_sem, ↓reduceIte, Nat.reduceAdd, Nat.reduceEqDiff, hc1]
 apply hK; clear hK K
 refine AW.seq ?_
 refine AW.cT rfl ?_
 refine AW.skip ?_
 simp only [andThen]
 refine AW.seq ?_
 refine AW.block ?_
 refine AW.rT (by rfl) fun K hK => ?_
 simp -implicitDefEqProofs only [go_sem, ↓reduceIte, Nat.reduceAdd, Nat.reduceEqDiff, Nat.reduceLeDiff, hm1, hm3, hc1, encMt, List.length_map]
 apply hK; clear hK K
 refine AW.rT (by rfl) fun K hK => ?_
 simp -implicitDefEqProofs only [go_sem, ↓reduceIte, Nat.reduceAdd, Nat.reduceEqDiff, Nat.reduceLeDiff, reduceCtorEq]
 refine ⟨.pure _, M1, ?_⟩
 try simp -implicitDefEqProofs only [go_sem, ↓reduceIte, Nat.reduceAdd, Nat.reduceEqDiff, Nat.reduceLeDiff]
 apply hK; clear hK K
 refine AW.rT (by rfl) fun K hK => ?_
 simp -implicitDefEqProofs only [go_sem, ↓reduceIte, Nat.reduceAdd, Nat.reduceEqDiff, Nat.reduceLeDiff, reduceCtorEq]
 refine ⟨.pure _, M2, ?_⟩
 try simp -implicitDefEqProofs only [go_sem, ↓reduceIte, Nat.reduceAdd, Nat.reduceEqDiff, Nat.reduceLeDiff]
 apply hK; clear hK K
 refine AW.block ?_
 have h1 : hasM S m.inn = (firstP (fun x => x.name == m.inn) zMs S.msgs).2 := rfl
 have h2 : hasM S m.out = (firstP (fun x => x.name == m.out) zMs S.msgs).2 := rfl
 rw [← h1, ← h2]
 cases ht2 : takesB N m.name with
 | false =>
  have e3 : takeN N m.name = N := by unfold takeN; rw [ht2]; rfl
  rw [ht2, e3] at TK
  rw [ht2, if_neg (by simp)] at k2
  rw [k2] at e0
  refine AW.rT (by rfl) fun K hK => ?_
  simp -implicitDefEqProofs only [go_sem, ↓reduceIte, Nat.reduceAdd, Nat.reduceEqDiff]
  refine ⟨.lend [some 1, none] [.map (setM N), .v (.str m.name)] [some (.map (setM N)), none] (.bool false), ⟨TK, rfl, ?_⟩, ?_⟩
  ·simp -implicitDefEqProofs only [go_sem, ↓reduceIte, Nat.reduceEqDiff, lift_setM]
  try simp -implicitDefEqProofs only [go_sem, Nat.reduceAdd, lift_setM]
  apply hK; clear hK K
  refine AW.cT rfl ?_
  refine AW.rT (by rfl) fun K hK => ?_
  simp -implicitDefEqProofs only [go_sem, Nat.reduceAdd]
  apply hK; clear hK K
  refine AW.ret ?_
  simp -implicitDefEqProofs only [go_sem, e0]
 | true =>
 have e3 : takeN N m.name = N ++ [m.name] := by unfold takeN; rw [ht2]; rfl
 rw [ht2, e3] at TK
 rw [ht2, if_pos rfl] at k2
 refine AW.rT (by rfl) fun K hK => ?_
 simp -implicitDefEqProofs only [go_sem, ↓reduceIte, Nat.reduceAdd, Nat.reduceEqDiff]
 refine ⟨.lend [some 1, none] [.map (setM N), .v (.str m.name)] [some (.map (setM (N ++ [m.name]))), none] (.bool true), ⟨TK, rfl, ?_⟩, ?_⟩
 ·simp -implicitDefEqProofs only [go_sem, ↓reduceIte, Nat.reduceEqDiff, lift_setM]
 try simp -implicitDefEqProofs only [go_sem, Nat.reduceAdd, lift_setM]
 apply hK; clear hK K
 refine AW.cF rfl ?_
 cases hi : hasM S m.inn with
 | false =>
  rw [hi, Bool.false_and, if_neg (by simp)] at k2
  rw [k2] at e0
  refine AW.rT (by rfl) fun K hK => ?_
  simp -implicitDefEqProofs only [go_sem, ↓reduceIte, Nat.reduceAdd, Nat.reduceEqDiff]
  apply hK; clear hK K
  refine AW.cT rfl ?_
  refine AW.rT (by rfl) fun K hK => ?_
  simp -implicitDefEqProofs only [go_sem, Nat.reduceAdd]
  apply hK; clear hK K
  refine AW.ret ?_
  simp -implicitDefEqProofs only [go_sem, e0]
 | true =>
 cases ho : hasM S m.out with
 | false =>
  rw [hi, ho, if_neg (by simp)] at k2
  rw [k2] at e0
  refine AW.rT (by rfl) fun K hK => ?_
  simp -implicitDefEqProofs only [go_sem, ↓reduceIte, Nat.reduceAdd, Nat.reduceEqDiff]
  apply hK; clear hK K
  refine AW.cT rfl ?_
  refine AW.rT (by rfl) fun K hK => ?_
  simp -implicitDefEqProofs only [go_sem, Nat.reduceAdd]
  apply hK; clear hK K
  refine AW.ret ?_
  simp -implicitDefEqProofs only [go_sem, e0]
 | true =>
  rw [hi, ho, if_pos (by rfl)] at k2
  refine AW.rT (by rfl) fun K hK => ?_
  simp -implicitDefEqProofs only [go_sem, ↓reduceIte, Nat.reduceAdd, Nat.reduceEqDiff]
  apply hK; clear hK K
  refine AW.cF rfl ?_
  refine AW.skip ?_
  simp only [andThen, inBlk]
  refine AW.rE (by rfl) fun K hK => ?_
  simp -implicitDefEqProofs only [go_sem, ↓reduceIte, Nat.reduceAdd, Nat.reduceEqDiff, w1]
  apply hK; clear hK K
  refine ⟨k + 1, ⟨by omega, by rw [hnx]; exact k2⟩, by omega, ?_⟩
  rw [hnx]
  refine Ghost.sub ?_ ?_ <;> simp -implicitDefEqProofs only [go_sem, ↓reduceIte, Nat.reduceEqDiff, reduceCtorEq, List.forall_mem_cons, List.not_mem_nil, false_implies, implies_true, and_self, List.all_cons, List.all_nil, Nat.reduceLT, labsInL, AV.labsIn]
end Go.Aw
namespace Go.Aw
open Go.Proofs Go.RowKit
end Go.Aw
