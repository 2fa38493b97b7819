/- The document's Sorted. -/
import Derived.Test.YtmeplhcfjihafaaAwW5
namespace Go.Aw
open Go.Proofs
set_option linter.unusedSimpArgs false
set_option linter.unusedVariables false
theorem sortL_app (s l : List Raw) (r : Raw) : sortL s (l ++ [r]) = insR (sortL s l) r (placeR (sortL s l) r (sortL s l).length) := by
  induction l generalizing s with
  | nil => rfl
  | cons a l ih => exact ih _
theorem sortL_length' : ∀ (l s : List Raw), (sortL s l).length = s.length + l.length := by
  intro l
  induction l with
  | nil => intro s; simp [sortL]
  | cons r l ih =>
    intro s
    rw [sortL, ih]
    simp only [insR, List.length_append, List.length_take, List.length_cons, List.length_drop]
    omega
def roS (l : List Raw) (i : Nat) : St :=
  ⟨ofL [(0, .p (.slice (l.map encRaw))), (3, .own 0), (4, .p (.int .i64 (i : Int)))], ofH [(0, .row 4 (liftE ((sortL [] (l.take i)).map encRaw)))], 1⟩
def riS (l : List Raw) (i : Nat) (s : List Raw) (r : Raw) (k : Nat) : St :=
  ⟨ofL [(0, .p (.slice (l.map encRaw))), (3, .own 0), (4, .p (.int .i64 (i : Int))), (5, .p (.int .i64 (k : Int)))], ofH [(0, .row 4 (liftE ((insR s r k).map encRaw)))], 1⟩
theorem insR_at (s : List Raw) (r : Raw) (k : Nat) (h : k ≤ s.length) : (insR s r k)[k]? = some r := by
  unfold insR
  rw [List.getElem?_append_right (by rw [List.length_take]; omega)]
  simp only [List.length_take, Nat.min_eq_left h, Nat.sub_self, List.getElem?_cons_zero]
theorem insR_before (s : List Raw) (r x : Raw) (k : Nat) (h : s[k]? = some x) : (insR s r (k + 1))[k]? = some x := by
  have := (List.getElem?_eq_some_iff.1 h).1
  unfold insR
  rw [List.getElem?_append_left (by simp; omega), List.getElem?_take, if_pos (by omega)]
  exact h
theorem insR_swap (s : List Raw) (r x : Raw) (k : Nat) (h : s[k]? = some x) : ((insR s r (k + 1)).set k r).set (k + 1) x = insR s r k := by
  obtain ⟨h1, h2⟩ := List.getElem?_eq_some_iff.1 h
  apply List.ext_getElem?
  intro i
  unfold insR
  simp only [List.getElem?_set, List.getElem?_append, List.getElem?_take, List.length_set, List.length_append, List.length_take, List.length_cons, List.length_drop, List.getElem?_cons, List.getElem?_drop]
  have m1 : min (k + 1) s.length = k + 1 := by omega
  have m2 : min k s.length = k := by omega
  rw [m1, m2]
  by_cases e1 : k + 1 = i
  · subst e1
    rw [if_pos rfl, if_pos (by omega), if_neg (by omega), if_neg (by omega), show k + (k + 1 - k - 1) = k by omega, h]
  · rw [if_neg e1]
    by_cases e2 : k = i
    · subst e2
      rw [if_pos rfl, if_pos (by omega), if_neg (by omega), if_pos (by omega)]
    · rw [if_neg e2]
      by_cases e3 : i < k
      · rw [if_pos (by omega), if_pos (by omega), if_pos e3, if_pos e3]
      · rw [if_neg (by omega), if_neg (by omega), if_neg e3, if_neg (by omega)]
        congr 1; omega
theorem at_ins {l : List Raw} {n : Nat} {a : Raw} (h : l[n]? = some a) : (liftE (l.map encRaw))[n]? = some [.p (.int .i64 a.tag), .p (.int .i64 a.wire), .p (.int .i64 a.n), .p (.str a.b)] := at_lift encRaw h
theorem set_lift (l : List Raw) (n : Nat) (a : Raw) : (liftE (l.map encRaw)).set n [.p (.int .i64 a.tag), .p (.int .i64 a.wire), .p (.int .i64 a.n), .p (.str a.b)] = liftE ((l.set n a).map encRaw) := by
  unfold liftE
  rw [List.map_set, List.map_set]; rfl
set_option maxRecDepth 100000 in
theorem ref04_Sorted (l : List Raw) (hl : l.length ≤ 60) : PFn Try.prog 38 [.slice (l.map encRaw)] (.slice ((sortL [] l).map encRaw)) := by
  refine PFn.of Try.func38 rfl (by decide) Try.ntmps38 Try.results38 (Nat.le_of_ble_eq_true rfl) ?_
  simp only [argsT]
  refine AW.rT (by rfl) fun K hK => ?_
  simp -implicitDefEqProofs only [go_sem, decide_true, decide_false, not_true_eq_false, not_false_eq_true, Bool.false_eq_true, Bool.true_eq_false, ↓reduceIte, Nat.reduceAdd, Nat.reduceSub, Nat.reduceMul, Nat.reduceEqDiff, Nat.reduceLeDiff, Int.reduceNeg, reduceCtorEq, Int.reduceToNat, Int.toNat_natCast, Nat.reduceDiv, Nat.reduceMod, Nat.succ_ne_self, beq_self_eq_true, Bool.not_true, Bool.not_false, Option.some.injEq, exists_eq_left']
  refine hK _ ?_; clear hK K
  refine AW.rT (by rfl) fun K hK => ?_
  simp -implicitDefEqProofs only [go_sem, decide_true, decide_false, not_true_eq_false, not_false_eq_true, Bool.false_eq_true, Bool.true_eq_false, ↓reduceIte, Nat.reduceAdd, Nat.reduceSub, Nat.reduceMul, Nat.reduceEqDiff, Nat.reduceLeDiff, Int.reduceNeg, reduceCtorEq, Int.reduceToNat, Int.toNat_natCast, Nat.reduceDiv, Nat.reduceMod, Nat.succ_ne_self, beq_self_eq_true, Bool.not_true, Bool.not_false, Option.some.injEq, exists_eq_left']
  refine hK _ ?_; clear hK K
  refine AW.seq ?_
  refine AW.rT (by rfl) fun K hK => ?_
  simp -implicitDefEqProofs only [go_sem, decide_true, decide_false, not_true_eq_false, not_false_eq_true, Bool.false_eq_true, Bool.true_eq_false, ↓reduceIte, Nat.reduceAdd, Nat.reduceSub, Nat.reduceMul, Nat.reduceEqDiff, Nat.reduceLeDiff, Int.reduceNeg, reduceCtorEq, Int.reduceToNat, Int.toNat_natCast, Nat.reduceDiv, Nat.reduceMod, Nat.succ_ne_self, beq_self_eq_true, Bool.not_true, Bool.not_false, Option.some.injEq, exists_eq_left']
  refine hK _ ?_; clear hK K
  refine AW.block ?_
  refine AW.loop (roS l) (fun i => i ≤ l.length) (fun i => l.length - i) 0 ?_ (by simp) fun i hi => ?_
  · refine Ghost.trans (Ghost.nil (t := 3) (sz := 4) (by simp -implicitDefEqProofs only [go_sem, decide_true, decide_false, not_true_eq_false, not_false_eq_true, Bool.false_eq_true, Bool.true_eq_false, ↓reduceIte, Nat.reduceAdd, Nat.reduceSub, Nat.reduceMul, Nat.reduceEqDiff, Nat.reduceLeDiff, Int.reduceNeg, reduceCtorEq, Int.reduceToNat, Int.toNat_natCast, Nat.reduceDiv, Nat.reduceMod, Nat.succ_ne_self, beq_self_eq_true, Bool.not_true, Bool.not_false, Option.some.injEq, exists_eq_left'])) ?_
    simp only [roS]
    refine Ghost.ent (fun _ => 3) ?_ ?_ ?_ <;> simp -implicitDefEqProofs only [go_sem, decide_true, decide_false, not_true_eq_false, not_false_eq_true, Bool.false_eq_true, Bool.true_eq_false, ↓reduceIte, Nat.reduceAdd, Nat.reduceSub, Nat.reduceMul, Nat.reduceEqDiff, Nat.reduceLeDiff, Int.reduceNeg, reduceCtorEq, Int.reduceToNat, Int.toNat_natCast, Nat.reduceDiv, Nat.reduceMod, Nat.succ_ne_self, beq_self_eq_true, Bool.not_true, Bool.not_false, Option.some.injEq, exists_eq_left', List.take_zero, sortL, List.map_nil, liftE_nil, List.forall_mem_cons, List.not_mem_nil, false_implies, implies_true, and_self, map_renL_lift, labsIn_lift, List.all_append, List.all_cons, List.all_nil, List.map_append, Nat.reduceLT, labsInL, AV.labsIn]
    rfl
  simp only [roS]
  refine AW.seq ?_
  refine AW.rT (by rfl) fun K hK => ?_
  simp -implicitDefEqProofs only [go_sem, decide_true, decide_false, not_true_eq_false, not_false_eq_true, Bool.false_eq_true, Bool.true_eq_false, ↓reduceIte, Nat.reduceAdd, Nat.reduceSub, Nat.reduceMul, Nat.reduceEqDiff, Nat.reduceLeDiff, Int.reduceNeg, reduceCtorEq, Int.reduceToNat, Int.toNat_natCast, Nat.reduceDiv, Nat.reduceMod, Nat.succ_ne_self, beq_self_eq_true, Bool.not_true, Bool.not_false, Option.some.injEq, exists_eq_left']
  refine hK _ ?_; clear hK K
  refine AW.cond _ (by simp -implicitDefEqProofs only [go_sem, decide_true, decide_false, not_true_eq_false, not_false_eq_true, Bool.false_eq_true, Bool.true_eq_false, ↓reduceIte, Nat.reduceAdd, Nat.reduceSub, Nat.reduceMul, Nat.reduceEqDiff, Nat.reduceLeDiff, Int.reduceNeg, reduceCtorEq, Int.reduceToNat, Int.toNat_natCast, Nat.reduceDiv, Nat.reduceMod, Nat.succ_ne_self, beq_self_eq_true, Bool.not_true, Bool.not_false, Option.some.injEq, exists_eq_left']; rfl) (fun hc => ?_) (fun hc => ?_)
  · refine AW.skip ?_
    simp only [andThen, inBlk, reduceCtorEq, ↓reduceIte, if_t, if_f]
    simp at hc
    obtain ⟨r, hr⟩ : ∃ a, l[i]? = some a := ⟨_, List.getElem?_eq_getElem (by omega)⟩
    have ⟨hr1, hr2, hr3⟩ := at_map' encRaw hr
    have hta : sortL [] (l.take (i + 1)) = insR (sortL [] (l.take i)) r (placeR (sortL [] (l.take i)) r (sortL [] (l.take i)).length) := by
      rw [List.take_add_one, hr]
      exact sortL_app _ _ _
    have hsl : (sortL [] (l.take i)).length = i := by rw [sortL_length']; simp; omega
    generalize sortL [] (l.take i) = s at hta hsl
    refine AW.seq ?_
    refine AW.block ?_
    refine AW.rT (by rfl) fun K hK => ?_
    simp -implicitDefEqProofs only [go_sem, decide_true, decide_false, not_true_eq_false, not_false_eq_true, Bool.false_eq_true, Bool.true_eq_false, ↓reduceIte, Nat.reduceAdd, Nat.reduceSub, Nat.reduceMul, Nat.reduceEqDiff, Nat.reduceLeDiff, Int.reduceNeg, reduceCtorEq, Int.reduceToNat, Int.toNat_natCast, Nat.reduceDiv, Nat.reduceMod, Nat.succ_ne_self, beq_self_eq_true, Bool.not_true, Bool.not_false, Option.some.injEq, exists_eq_left', liftE_length, List.length_map]
    refine hK _ ?_; clear hK K
    refine AW.rT (by rfl) fun K hK => ?_
    simp -implicitDefEqProofs only [go_sem, decide_true, decide_false, not_true_eq_false, not_false_eq_true, Bool.false_eq_true, Bool.true_eq_false, ↓reduceIte, Nat.reduceAdd, Nat.reduceSub, Nat.reduceMul, Nat.reduceEqDiff, Nat.reduceLeDiff, Int.reduceNeg, reduceCtorEq, Int.reduceToNat, Int.toNat_natCast, Nat.reduceDiv, Nat.reduceMod, Nat.succ_ne_self, beq_self_eq_true, Bool.not_true, Bool.not_false, Option.some.injEq, exists_eq_left', hr1, hr2, hr3, encRaw]
    refine ⟨⟨by simp, by simp [oneAll, AV.one, PV.one], fun h => h.elim⟩, ⟨by rw [liftE_length, List.length_map]; omega, ?_⟩⟩
    refine hK _ ?_; clear hK K
    have w2 : IntKind.wrap .i64 ((i : Int) + 1) = ((i + 1 : Nat) : Int) := by rw [w64] <;> omega
    refine AW.block ?_
    refine AW.loop (riS l i s r) (fun k => k ≤ s.length ∧ placeR s r s.length = placeR s r k) (fun k => k) s.length ?_ (by simp) fun k hk => ?_
    · simp only [riS]
      have e : insR s r s.length = s ++ [r] := by simp [insR]
      refine Ghost.ent (fun _ => 14) ?_ ?_ ?_ <;> simp -implicitDefEqProofs only [go_sem, decide_true, decide_false, not_true_eq_false, not_false_eq_true, Bool.false_eq_true, Bool.true_eq_false, ↓reduceIte, Nat.reduceAdd, Nat.reduceSub, Nat.reduceMul, Nat.reduceEqDiff, Nat.reduceLeDiff, Int.reduceNeg, reduceCtorEq, Int.reduceToNat, Int.toNat_natCast, Nat.reduceDiv, Nat.reduceMod, Nat.succ_ne_self, beq_self_eq_true, Bool.not_true, Bool.not_false, Option.some.injEq, exists_eq_left', e, encRaw, List.map_append, liftE_append, liftE_cons, liftE_nil, List.forall_mem_cons, List.not_mem_nil, false_implies, implies_true, and_self, map_renL_lift, labsIn_lift, List.all_append, List.all_cons, List.all_nil, List.map_append, Nat.reduceLT, labsInL, AV.labsIn]
    obtain ⟨hk, hp⟩ := hk
    try simp only [riS]
    refine AW.seq ?_
    have fin : ∀ k, k ≤ s.length → placeR s r s.length = k → sortL [] (l.take (i + 1)) = insR s r k := fun k _ h => by rw [hta, h]
    cases k with
    | zero =>
      have i0 : (((0 : Nat) : Int) > 0) = False := by simp
      refine AW.dT mixed (by rfl) (by decide +kernel) fun K hK => ?_
      simp -implicitDefEqProofs only [go_sem, decide_true, decide_false, not_true_eq_false, not_false_eq_true, Bool.false_eq_true, Bool.true_eq_false, ↓reduceIte, Nat.reduceAdd, Nat.reduceSub, Nat.reduceMul, Nat.reduceEqDiff, Nat.reduceLeDiff, Int.reduceNeg, reduceCtorEq, Int.reduceToNat, Int.toNat_natCast, Nat.reduceDiv, Nat.reduceMod, Nat.succ_ne_self, beq_self_eq_true, Bool.not_true, Bool.not_false, Option.some.injEq, exists_eq_left', i0]
      refine ⟨heapOK_nil rfl, ?_⟩
      refine hK _ ?_; clear hK K
      refine AW.cond _ (by simp -implicitDefEqProofs only [go_sem, decide_true, decide_false, not_true_eq_false, not_false_eq_true, Bool.false_eq_true, Bool.true_eq_false, ↓reduceIte, Nat.reduceAdd, Nat.reduceSub, Nat.reduceMul, Nat.reduceEqDiff, Nat.reduceLeDiff, Int.reduceNeg, reduceCtorEq, Int.reduceToNat, Int.toNat_natCast, Nat.reduceDiv, Nat.reduceMod, Nat.succ_ne_self, beq_self_eq_true, Bool.not_true, Bool.not_false, Option.some.injEq, exists_eq_left']; rfl) (fun hc => ?_) (fun hc => ?_)
      · simp at hc
      refine AW.exit ?_
      simp only [andThen, inBlk, reduceCtorEq, ↓reduceIte, if_t, if_f]
      refine AW.rE (by rfl) fun K hK => ?_
      simp -implicitDefEqProofs only [go_sem, decide_true, decide_false, not_true_eq_false, not_false_eq_true, Bool.false_eq_true, Bool.true_eq_false, ↓reduceIte, Nat.reduceAdd, Nat.reduceSub, Nat.reduceMul, Nat.reduceEqDiff, Nat.reduceLeDiff, Int.reduceNeg, reduceCtorEq, Int.reduceToNat, Int.toNat_natCast, Nat.reduceDiv, Nat.reduceMod, Nat.succ_ne_self, beq_self_eq_true, Bool.not_true, Bool.not_false, Option.some.injEq, exists_eq_left', w2]
      refine hK _ ?_; clear hK K
      refine ⟨i + 1, by omega, by omega, ?_⟩
      rw [fin 0 (by omega) (by rw [hp]; rfl)]
      refine Ghost.sub ?_ ?_ <;> simp -implicitDefEqProofs only [go_sem, decide_true, decide_false, not_true_eq_false, not_false_eq_true, Bool.false_eq_true, Bool.true_eq_false, ↓reduceIte, Nat.reduceAdd, Nat.reduceSub, Nat.reduceMul, Nat.reduceEqDiff, Nat.reduceLeDiff, Int.reduceNeg, reduceCtorEq, Int.reduceToNat, Int.toNat_natCast, Nat.reduceDiv, Nat.reduceMod, Nat.succ_ne_self, beq_self_eq_true, Bool.not_true, Bool.not_false, Option.some.injEq, exists_eq_left',  List.forall_mem_cons, List.not_mem_nil, false_implies, implies_true, and_self, labsIn_lift, List.all_append, List.all_cons, List.all_nil, Nat.reduceLT, labsInL, AV.labsIn]
    | succ k =>
      obtain ⟨x, hx⟩ : ∃ x, s[k]? = some x := ⟨_, List.getElem?_eq_getElem (by omega)⟩
      have g1 := at_ins (insR_at s r (k + 1) hk)
      have g2 := at_ins (insR_before s r x k hx)
      have li : (liftE ((insR s r (k + 1)).map encRaw)).length = s.length + 1 := by
        rw [liftE_length, List.length_map]; unfold insR; simp; omega
      have w1 : IntKind.wrap .i64 (((k + 1 : Nat) : Int) - 1) = (k : Int) := by rw [w64] <;> omega
      have i1 : (((k + 1 : Nat) : Int) > 0) = True := by simp
      have b1 : (0 ≤ (k : Int)) = True := by simp
      have b2 : ((k : Int) < ((s.length + 1 : Nat) : Int)) = True := by simp; omega
      have b3 : (0 ≤ ((k + 1 : Nat) : Int)) = True := eq_true (by omega)
      have b4 : (((k + 1 : Nat) : Int) < ((s.length + 1 : Nat) : Int)) = True := by simp; omega
      refine AW.dT mixed (by rfl) (by decide +kernel) fun K hK => ?_
      simp -implicitDefEqProofs only [go_sem, decide_true, decide_false, not_true_eq_false, not_false_eq_true, Bool.false_eq_true, Bool.true_eq_false, ↓reduceIte, Nat.reduceAdd, Nat.reduceSub, Nat.reduceMul, Nat.reduceEqDiff, Nat.reduceLeDiff, Int.reduceNeg, reduceCtorEq, Int.reduceToNat, Int.toNat_natCast, Nat.reduceDiv, Nat.reduceMod, Nat.succ_ne_self, beq_self_eq_true, Bool.not_true, Bool.not_false, Option.some.injEq, exists_eq_left', i1, w1, g1, g2, li, b1, b2, b3, b4]
      refine ⟨heapOK_nil rfl, ?_⟩
      refine hK _ ?_; clear hK K
      have hpl : placeR s r (k + 1) = if r.tag < x.tag then placeR s r k else k + 1 := by
        simp only [placeR, hx]
      refine AW.cond _ (by simp -implicitDefEqProofs only [go_sem, decide_true, decide_false, not_true_eq_false, not_false_eq_true, Bool.false_eq_true, Bool.true_eq_false, ↓reduceIte, Nat.reduceAdd, Nat.reduceSub, Nat.reduceMul, Nat.reduceEqDiff, Nat.reduceLeDiff, Int.reduceNeg, reduceCtorEq, Int.reduceToNat, Int.toNat_natCast, Nat.reduceDiv, Nat.reduceMod, Nat.succ_ne_self, beq_self_eq_true, Bool.not_true, Bool.not_false, Option.some.injEq, exists_eq_left']; rfl) (fun hc => ?_) (fun hc => ?_)
      · refine AW.skip ?_
        simp only [andThen, inBlk, reduceCtorEq, ↓reduceIte, if_t, if_f]
        simp at hc
        rw [if_pos hc] at hpl
        refine AW.block ?_
        have g3 : (liftE (((insR s r (k + 1)).set k r).map encRaw))[k + 1]? = some [.p (.int .i64 r.tag), .p (.int .i64 r.wire), .p (.int .i64 r.n), .p (.str r.b)] :=
          at_ins (by rw [List.getElem?_set_ne (by omega)]; exact insR_at s r (k + 1) hk)
        have l3 : (liftE (((insR s r (k + 1)).set k r).map encRaw)).length = s.length + 1 := by
          rw [liftE_length, List.length_map, List.length_set]; unfold insR; simp; omega
        have sw := insR_swap s r x k hx
        refine AW.dT mixed (by rfl) (by decide +kernel) fun K hK => ?_
        simp -implicitDefEqProofs only [go_sem, decide_true, decide_false, not_true_eq_false, not_false_eq_true, Bool.false_eq_true, Bool.true_eq_false, ↓reduceIte, Nat.reduceAdd, Nat.reduceSub, Nat.reduceMul, Nat.reduceEqDiff, Nat.reduceLeDiff, Int.reduceNeg, reduceCtorEq, Int.reduceToNat, Int.toNat_natCast, Nat.reduceDiv, Nat.reduceMod, Nat.succ_ne_self, beq_self_eq_true, Bool.not_true, Bool.not_false, Option.some.injEq, exists_eq_left', i1, w1, g1, g2, g3, li, l3, b1, b2, b3, b4, set_lift, sw]
        refine ⟨by decide +kernel, ?_⟩
        refine hK _ ?_; clear hK K
        refine AW.rE (by rfl) fun K hK => ?_
        simp -implicitDefEqProofs only [go_sem, decide_true, decide_false, not_true_eq_false, not_false_eq_true, Bool.false_eq_true, Bool.true_eq_false, ↓reduceIte, Nat.reduceAdd, Nat.reduceSub, Nat.reduceMul, Nat.reduceEqDiff, Nat.reduceLeDiff, Int.reduceNeg, reduceCtorEq, Int.reduceToNat, Int.toNat_natCast, Nat.reduceDiv, Nat.reduceMod, Nat.succ_ne_self, beq_self_eq_true, Bool.not_true, Bool.not_false, Option.some.injEq, exists_eq_left', w1]
        refine hK _ ?_; clear hK K
        refine ⟨k, ⟨by omega, by rw [hp, hpl]⟩, by omega, ?_⟩
        try simp only [riS]
        refine Ghost.sub ?_ ?_ <;> simp -implicitDefEqProofs only [go_sem, decide_true, decide_false, not_true_eq_false, not_false_eq_true, Bool.false_eq_true, Bool.true_eq_false, ↓reduceIte, Nat.reduceAdd, Nat.reduceSub, Nat.reduceMul, Nat.reduceEqDiff, Nat.reduceLeDiff, Int.reduceNeg, reduceCtorEq, Int.reduceToNat, Int.toNat_natCast, Nat.reduceDiv, Nat.reduceMod, Nat.succ_ne_self, beq_self_eq_true, Bool.not_true, Bool.not_false, Option.some.injEq, exists_eq_left',  List.forall_mem_cons, List.not_mem_nil, false_implies, implies_true, and_self, labsIn_lift, List.all_append, List.all_cons, List.all_nil, Nat.reduceLT, labsInL, AV.labsIn]
      · refine AW.exit ?_
        simp only [andThen, inBlk, reduceCtorEq, ↓reduceIte, if_t, if_f]
        simp at hc
        rw [if_neg (by omega)] at hpl
        refine AW.rE (by rfl) fun K hK => ?_
        simp -implicitDefEqProofs only [go_sem, decide_true, decide_false, not_true_eq_false, not_false_eq_true, Bool.false_eq_true, Bool.true_eq_false, ↓reduceIte, Nat.reduceAdd, Nat.reduceSub, Nat.reduceMul, Nat.reduceEqDiff, Nat.reduceLeDiff, Int.reduceNeg, reduceCtorEq, Int.reduceToNat, Int.toNat_natCast, Nat.reduceDiv, Nat.reduceMod, Nat.succ_ne_self, beq_self_eq_true, Bool.not_true, Bool.not_false, Option.some.injEq, exists_eq_left', w2]
        refine hK _ ?_; clear hK K
        refine ⟨i + 1, by omega, by omega, ?_⟩
        rw [fin (k + 1) (by omega) (by rw [hp, hpl])]
        refine Ghost.sub ?_ ?_ <;> simp -implicitDefEqProofs only [go_sem, decide_true, decide_false, not_true_eq_false, not_false_eq_true, Bool.false_eq_true, Bool.true_eq_false, ↓reduceIte, Nat.reduceAdd, Nat.reduceSub, Nat.reduceMul, Nat.reduceEqDiff, Nat.reduceLeDiff, Int.reduceNeg, reduceCtorEq, Int.reduceToNat, Int.toNat_natCast, Nat.reduceDiv, Nat.reduceMod, Nat.succ_ne_self, beq_self_eq_true, Bool.not_true, Bool.not_false, Option.some.injEq, exists_eq_left',  List.forall_mem_cons, List.not_mem_nil, false_implies, implies_true, and_self, labsIn_lift, List.all_append, List.all_cons, List.all_nil, Nat.reduceLT, labsInL, AV.labsIn]
  · refine AW.exit ?_
    simp only [andThen, inBlk, reduceCtorEq, ↓reduceIte, if_t, if_f]
    simp at hc
    have : i = l.length := by omega
    subst this
    rw [List.take_length]
    refine AW.rT (by rfl) fun K hK => ?_
    simp -implicitDefEqProofs only [go_sem, decide_true, decide_false, not_true_eq_false, not_false_eq_true, Bool.false_eq_true, Bool.true_eq_false, ↓reduceIte, Nat.reduceAdd, Nat.reduceSub, Nat.reduceMul, Nat.reduceEqDiff, Nat.reduceLeDiff, Int.reduceNeg, reduceCtorEq, Int.reduceToNat, Int.toNat_natCast, Nat.reduceDiv, Nat.reduceMod, Nat.succ_ne_self, beq_self_eq_true, Bool.not_true, Bool.not_false, Option.some.injEq, exists_eq_left']
    refine hK _ ?_; clear hK K
    refine AW.ret ?_
    simp -implicitDefEqProofs only [go_sem, decide_true, decide_false, not_true_eq_false, not_false_eq_true, Bool.false_eq_true, Bool.true_eq_false, ↓reduceIte, Nat.reduceAdd, Nat.reduceSub, Nat.reduceMul, Nat.reduceEqDiff, Nat.reduceLeDiff, Int.reduceNeg, reduceCtorEq, Int.reduceToNat, Int.toNat_natCast, Nat.reduceDiv, Nat.reduceMod, Nat.succ_ne_self, beq_self_eq_true, Bool.not_true, Bool.not_false, Option.some.injEq, exists_eq_left']
end Go.Aw
