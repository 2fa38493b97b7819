/- The law WireSorts. -/
import Derived.Test.YtmeplhcfjihafaaAwW6
namespace Go.Aw
open Go.Proofs
set_option linter.unusedSimpArgs false
set_option linter.unusedVariables false
def upTo (l : List Raw) : Prop := ∀ (i : Nat) a b, l[i]? = some a → l[i + 1]? = some b → a.tag ≤ b.tag
theorem rising_of {l : List Raw} (h : upTo l) : rising l = true := by
  induction l with
  | nil => rfl
  | cons a l ih =>
    cases l with
    | nil => rfl
    | cons b r =>
      have h0 := h 0 a b rfl rfl
      simp only [rising]
      rw [if_neg (by omega)]
      exact ih fun i x y hx hy => h (i + 1) x y (by simpa using hx) (by simpa using hy)
theorem placeR_stop (s : List Raw) (r : Raw) : ∀ m, m ≤ s.length → ∀ k x, placeR s r m = k + 1 → s[k]? = some x → x.tag ≤ r.tag := by
  intro m
  induction m with
  | zero => intro _ k x h; simp [placeR] at h
  | succ m ih =>
    intro hm k x h hx
    obtain ⟨y, hy⟩ : ∃ y, s[m]? = some y := ⟨_, List.getElem?_eq_getElem (by omega)⟩
    simp only [placeR, hy] at h
    split at h
    · exact ih (by omega) k x h hx
    · have : k = m := by omega
      subst this
      rw [hy] at hx; injection hx with hx; subst hx
      omega
theorem placeR_le' (s : List Raw) (r : Raw) : ∀ m, placeR s r m ≤ m := by
  intro m
  induction m with
  | zero => simp [placeR]
  | succ m ih =>
    simp only [placeR]
    split
    · split <;> omega
    · omega
theorem placeR_above (s : List Raw) (r : Raw) : ∀ m, m ≤ s.length → ∀ (j : Nat) x, placeR s r m ≤ j → j < m → s[j]? = some x → r.tag < x.tag := by
  intro m
  induction m with
  | zero => intro _ j x _ h; omega
  | succ m ih =>
    intro hm j x h1 h2 hx
    obtain ⟨y, hy⟩ : ∃ y, s[m]? = some y := ⟨_, List.getElem?_eq_getElem (by omega)⟩
    simp only [placeR, hy] at h1
    split at h1
    · rename_i h
      rcases Nat.lt_or_ge j m with hj | hj
      · exact ih (by omega) j x h1 hj hx
      · have : j = m := by omega
        subst this
        rw [hy] at hx; injection hx with hx; subst hx
        exact h
    · omega
theorem insR_get (s : List Raw) (r : Raw) (k i : Nat) (hk : k ≤ s.length) : (insR s r k)[i]? = if i < k then s[i]? else if i = k then some r else s[i - 1]? := by
  unfold insR
  by_cases h : i < k
  · rw [List.getElem?_append_left (by rw [List.length_take]; omega), List.getElem?_take, if_pos h, if_pos h]
  · rw [List.getElem?_append_right (by rw [List.length_take]; omega), List.length_take, Nat.min_eq_left hk, if_neg h]
    by_cases e : i = k
    · subst e; rw [Nat.sub_self, if_pos rfl]; rfl
    · rw [if_neg e, show i - k = (i - k - 1) + 1 by omega, List.getElem?_cons_succ, List.getElem?_drop]
      congr 1; omega
theorem upTo_ins (s : List Raw) (r : Raw) (h : upTo s) : upTo (insR s r (placeR s r s.length)) := by
  have hle := placeR_le' s r s.length
  have hst := placeR_stop s r s.length (Nat.le_refl _)
  have hab := placeR_above s r s.length (Nat.le_refl _)
  generalize placeR s r s.length = k at hle hst hab
  intro i a b ha hb
  rw [insR_get _ _ _ _ hle] at ha hb
  by_cases h1 : i + 1 < k
  · rw [if_pos h1] at hb
    rw [if_pos (by omega)] at ha
    exact h i a b ha hb
  · rw [if_neg h1] at hb
    by_cases h2 : i + 1 = k
    · rw [if_pos h2] at hb
      rw [if_pos (by omega)] at ha
      injection hb with hb; subst hb
      exact hst i a h2.symm ha
    · rw [if_neg h2] at hb
      rw [if_neg (by omega)] at ha
      simp only [Nat.add_sub_cancel] at hb
      by_cases h3 : i = k
      · rw [if_pos h3] at ha
        injection ha with ha; subst ha
        have := hab i b (by omega) (List.getElem?_eq_some_iff.1 hb).1 hb
        omega
      · rw [if_neg h3] at ha
        exact h (i - 1) a b ha (by rw [show i - 1 + 1 = i by omega]; exact hb)
theorem upTo_sort : ∀ (l s : List Raw), upTo s → upTo (sortL s l) := by
  intro l
  induction l with
  | nil => intro s h; exact h
  | cons r l ih => intro s h; exact ih _ (upTo_ins s r h)
set_option maxRecDepth 100000 in
theorem law04_Sorts (l : List Raw) (hl : l.length ≤ maxLen) : PFn Try.prog 6 [.slice (l.map encRaw)] (.bool true) := by
  refine PFn.of Try.func6 rfl (by decide) Try.ntmps6 Try.results6 (Nat.le_of_ble_eq_true rfl) ?_
  simp only [argsT]
  refine AW.rT (by rfl) fun K hK => ?_
  simp -implicitDefEqProofs only [go_sem, decide_true, decide_false, not_true_eq_false, not_false_eq_true, Bool.false_eq_true, Bool.true_eq_false, ↓reduceIte, Nat.reduceAdd, Nat.reduceSub, Nat.reduceMul, Nat.reduceEqDiff, Nat.reduceLeDiff, Int.reduceNeg, reduceCtorEq, Int.reduceToNat, Int.toNat_natCast, Nat.reduceDiv, Nat.reduceMod, Nat.succ_ne_self, beq_self_eq_true, Bool.not_true, Bool.not_false, Option.some.injEq, exists_eq_left']
  refine hK _ ?_; clear hK K
  refine AW.seq ?_
  refine AW.rT (by rfl) fun K hK => ?_
  simp -implicitDefEqProofs only [go_sem, decide_true, decide_false, not_true_eq_false, not_false_eq_true, Bool.false_eq_true, Bool.true_eq_false, ↓reduceIte, Nat.reduceAdd, Nat.reduceSub, Nat.reduceMul, Nat.reduceEqDiff, Nat.reduceLeDiff, Int.reduceNeg, reduceCtorEq, Int.reduceToNat, Int.toNat_natCast, Nat.reduceDiv, Nat.reduceMod, Nat.succ_ne_self, beq_self_eq_true, Bool.not_true, Bool.not_false, Option.some.injEq, exists_eq_left']
  refine ⟨_, law04_small l hl, ?_⟩
  refine hK _ ?_; clear hK K
  cases hs : smallL l with
  | false =>
    refine AW.cond _ (by simp -implicitDefEqProofs only [go_sem, decide_true, decide_false, not_true_eq_false, not_false_eq_true, Bool.false_eq_true, Bool.true_eq_false, ↓reduceIte, Nat.reduceAdd, Nat.reduceSub, Nat.reduceMul, Nat.reduceEqDiff, Nat.reduceLeDiff, Int.reduceNeg, reduceCtorEq, Int.reduceToNat, Int.toNat_natCast, Nat.reduceDiv, Nat.reduceMod, Nat.succ_ne_self, beq_self_eq_true, Bool.not_true, Bool.not_false, Option.some.injEq, exists_eq_left']; rfl) (fun hc => ?_) (fun hc => ?_)
    · refine AW.rT (by rfl) fun K hK => ?_
      simp -implicitDefEqProofs only [go_sem, decide_true, decide_false, not_true_eq_false, not_false_eq_true, Bool.false_eq_true, Bool.true_eq_false, ↓reduceIte, Nat.reduceAdd, Nat.reduceSub, Nat.reduceMul, Nat.reduceEqDiff, Nat.reduceLeDiff, Int.reduceNeg, reduceCtorEq, Int.reduceToNat, Int.toNat_natCast, Nat.reduceDiv, Nat.reduceMod, Nat.succ_ne_self, beq_self_eq_true, Bool.not_true, Bool.not_false, Option.some.injEq, exists_eq_left']
      refine ⟨_, law04_awake, ?_⟩
      refine hK _ ?_; clear hK K
      refine AW.ret ?_
      simp -implicitDefEqProofs only [go_sem, decide_true, decide_false, not_true_eq_false, not_false_eq_true, Bool.false_eq_true, Bool.true_eq_false, ↓reduceIte, Nat.reduceAdd, Nat.reduceSub, Nat.reduceMul, Nat.reduceEqDiff, Nat.reduceLeDiff, Int.reduceNeg, reduceCtorEq, Int.reduceToNat, Int.toNat_natCast, Nat.reduceDiv, Nat.reduceMod, Nat.succ_ne_self, beq_self_eq_true, Bool.not_true, Bool.not_false, Option.some.injEq, exists_eq_left']
    · simp at hc
  | true =>
  have hl6 : l.length ≤ 60 := by
    unfold smallL at hs; simp at hs; exact hs.2
  refine AW.cond _ (by simp -implicitDefEqProofs only [go_sem, decide_true, decide_false, not_true_eq_false, not_false_eq_true, Bool.false_eq_true, Bool.true_eq_false, ↓reduceIte, Nat.reduceAdd, Nat.reduceSub, Nat.reduceMul, Nat.reduceEqDiff, Nat.reduceLeDiff, Int.reduceNeg, reduceCtorEq, Int.reduceToNat, Int.toNat_natCast, Nat.reduceDiv, Nat.reduceMod, Nat.succ_ne_self, beq_self_eq_true, Bool.not_true, Bool.not_false, Option.some.injEq, exists_eq_left']; rfl) (fun hc => ?_) (fun hc => ?_)
  · simp at hc
  refine AW.skip ?_
  simp only [andThen, inBlk, reduceCtorEq, ↓reduceIte, if_t, if_f]
  refine AW.rT (by rfl) fun K hK => ?_
  simp -implicitDefEqProofs only [go_sem, decide_true, decide_false, not_true_eq_false, not_false_eq_true, Bool.false_eq_true, Bool.true_eq_false, ↓reduceIte, Nat.reduceAdd, Nat.reduceSub, Nat.reduceMul, Nat.reduceEqDiff, Nat.reduceLeDiff, Int.reduceNeg, reduceCtorEq, Int.reduceToNat, Int.toNat_natCast, Nat.reduceDiv, Nat.reduceMod, Nat.succ_ne_self, beq_self_eq_true, Bool.not_true, Bool.not_false, Option.some.injEq, exists_eq_left']
  refine ⟨_, law00_Raws l hl6, _, wire_Sorted l hl6, ?_⟩
  refine hK _ ?_; clear hK K
  have hr := rising_of (upTo_sort l [] (fun i a b h => by simp at h))
  have hml := sortL_length' l []
  have hm60 : (sortL [] l).length ≤ maxLen := by rw [hml]; have : maxLen = 9223372036854775807 := by decide
                                                 simp; omega
  refine AW.rT (by rfl) fun K hK => ?_
  simp -implicitDefEqProofs only [go_sem, decide_true, decide_false, not_true_eq_false, not_false_eq_true, Bool.false_eq_true, Bool.true_eq_false, ↓reduceIte, Nat.reduceAdd, Nat.reduceSub, Nat.reduceMul, Nat.reduceEqDiff, Nat.reduceLeDiff, Int.reduceNeg, reduceCtorEq, Int.reduceToNat, Int.toNat_natCast, Nat.reduceDiv, Nat.reduceMod, Nat.succ_ne_self, beq_self_eq_true, Bool.not_true, Bool.not_false, Option.some.injEq, exists_eq_left']
  refine ⟨_, law00_Raws l hl6, _, wire_Rising l hl, _, ref04_Rising l hl, _, eqP_bool _ _, ?_⟩
  try simp -implicitDefEqProofs only [go_sem, decide_true, decide_false, not_true_eq_false, not_false_eq_true, Bool.false_eq_true, Bool.true_eq_false, ↓reduceIte, Nat.reduceAdd, Nat.reduceSub, Nat.reduceMul, Nat.reduceEqDiff, Nat.reduceLeDiff, Int.reduceNeg, reduceCtorEq, Int.reduceToNat, Int.toNat_natCast, Nat.reduceDiv, Nat.reduceMod, Nat.succ_ne_self, beq_self_eq_true, Bool.not_true, Bool.not_false, Option.some.injEq, exists_eq_left']
  refine ⟨_, ref04_Sorted l hl6, ?_⟩
  refine ⟨_, law00_SameRaws _ _ hm60, ?_⟩
  try simp -implicitDefEqProofs only [go_sem, decide_true, decide_false, not_true_eq_false, not_false_eq_true, Bool.false_eq_true, Bool.true_eq_false, ↓reduceIte, Nat.reduceAdd, Nat.reduceSub, Nat.reduceMul, Nat.reduceEqDiff, Nat.reduceLeDiff, Int.reduceNeg, reduceCtorEq, Int.reduceToNat, Int.toNat_natCast, Nat.reduceDiv, Nat.reduceMod, Nat.succ_ne_self, beq_self_eq_true, Bool.not_true, Bool.not_false, Option.some.injEq, exists_eq_left']
  refine ⟨_, wire_Rising _ hm60, ?_⟩
  try simp -implicitDefEqProofs only [go_sem, decide_true, decide_false, not_true_eq_false, not_false_eq_true, Bool.false_eq_true, Bool.true_eq_false, ↓reduceIte, Nat.reduceAdd, Nat.reduceSub, Nat.reduceMul, Nat.reduceEqDiff, Nat.reduceLeDiff, Int.reduceNeg, reduceCtorEq, Int.reduceToNat, Int.toNat_natCast, Nat.reduceDiv, Nat.reduceMod, Nat.succ_ne_self, beq_self_eq_true, Bool.not_true, Bool.not_false, Option.some.injEq, exists_eq_left', hr]
  refine ⟨_, law04_awake, ?_⟩
  try simp -implicitDefEqProofs only [go_sem, decide_true, decide_false, not_true_eq_false, not_false_eq_true, Bool.false_eq_true, Bool.true_eq_false, ↓reduceIte, Nat.reduceAdd, Nat.reduceSub, Nat.reduceMul, Nat.reduceEqDiff, Nat.reduceLeDiff, Int.reduceNeg, reduceCtorEq, Int.reduceToNat, Int.toNat_natCast, Nat.reduceDiv, Nat.reduceMod, Nat.succ_ne_self, beq_self_eq_true, Bool.not_true, Bool.not_false, Option.some.injEq, exists_eq_left']
  refine hK _ ?_; clear hK K
  refine AW.ret ?_
  simp -implicitDefEqProofs only [go_sem, decide_true, decide_false, not_true_eq_false, not_false_eq_true, Bool.false_eq_true, Bool.true_eq_false, ↓reduceIte, Nat.reduceAdd, Nat.reduceSub, Nat.reduceMul, Nat.reduceEqDiff, Nat.reduceLeDiff, Int.reduceNeg, reduceCtorEq, Int.reduceToNat, Int.toNat_natCast, Nat.reduceDiv, Nat.reduceMod, Nat.succ_ne_self, beq_self_eq_true, Bool.not_true, Bool.not_false, Option.some.injEq, exists_eq_left']
end Go.Aw
