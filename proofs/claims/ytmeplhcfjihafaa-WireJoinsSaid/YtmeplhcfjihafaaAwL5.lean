/- The law WireJoins. -/
import Derived.Test.YtmeplhcfjihafaaAwW11
namespace Go.Aw
open Go.Proofs
set_option linter.unusedSimpArgs false
set_option linter.unusedVariables false
theorem flat_app (a b : List Raw) : flatR (a ++ b) = flatR a ++ flatR b := by simp [flatR]
theorem wp_cases (l : List Raw) : (wirePut l).2 = 0 ∨ (wirePut l).2 = 1 ∨ (wirePut l).2 = 4 := by
  unfold wirePut
  split
  · split <;> simp
  · simp
theorem join_bad (a b : List Raw) (h : (wirePut a).2 ≠ 0 ∨ (wirePut b).2 ≠ 0) : ((wirePut (a ++ b)).2 = (wirePut a).2 ∨ (wirePut (a ++ b)).2 = (wirePut b).2 ∨ (wirePut (a ++ b)).2 = 1) ∧ (wirePut (a ++ b)).2 ≠ 0 := by
  unfold wirePut at h ⊢
  rw [List.all_append, flat_app, List.length_append]
  by_cases h1 : a.all checkR = true <;> by_cases h2 : b.all checkR = true <;> simp only [h1, h2, Bool.and_true, Bool.true_and, Bool.and_self, if_true, Bool.false_eq_true, if_false, Bool.and_false, Bool.false_and] at h ⊢
  · by_cases h3 : (flatR a).length ≤ 4096 <;> by_cases h4 : (flatR b).length ≤ 4096
    · simp [h3, h4] at h
    · rw [if_neg (by omega : ¬ (flatR a).length + (flatR b).length ≤ 4096)]; simp [h3, h4]
    · rw [if_neg (by omega : ¬ (flatR a).length + (flatR b).length ≤ 4096)]; simp [h3, h4]
    · rw [if_neg (by omega : ¬ (flatR a).length + (flatR b).length ≤ 4096)]; simp [h3, h4]
  all_goals simp
theorem join_good (a b : List Raw) (h : (wirePut a).2 = 0) (h' : (wirePut b).2 = 0) :
    wirePut (a ++ b) = if (wirePut a).1.length + (wirePut b).1.length ≤ 4096 then ((wirePut a).1 ++ (wirePut b).1, 0) else ([], 4) := by
  unfold wirePut at h h' ⊢
  rw [List.all_append, flat_app, List.length_append]
  by_cases h1 : a.all checkR = true
  · by_cases h2 : b.all checkR = true
    · simp only [h1, h2, Bool.and_self, if_true] at h h' ⊢
      by_cases h3 : (flatR a).length ≤ 4096
      · by_cases h4 : (flatR b).length ≤ 4096
        · rw [if_pos h3, if_pos h4]
        · rw [if_neg h4] at h'; simp at h'
      · rw [if_neg h3] at h; simp at h
    · rw [if_neg h2] at h'; simp at h'
  · rw [if_neg h1] at h; simp at h
set_option maxRecDepth 100000 in
theorem law04_Joins (a b : List Raw) (ha : a.length ≤ maxLen) (hb : b.length ≤ maxLen) : PFn Try.prog 5 [.slice (a.map encRaw), .slice (b.map encRaw)] (.bool true) := by
  refine PFn.of Try.func5 rfl (by decide) Try.ntmps5 Try.results5 (Nat.le_of_ble_eq_true rfl) ?_
  simp only [argsT]
  refine AW.rT (by rfl) fun K hK => ?_
  simp -implicitDefEqProofs only [go_sem, decide_true, decide_false, not_true_eq_false, not_false_eq_true, Bool.false_eq_true, Bool.true_eq_false, ↓reduceIte, Nat.reduceAdd, Nat.reduceSub, Nat.reduceMul, Nat.reduceEqDiff, Nat.reduceLeDiff, Int.reduceNeg, reduceCtorEq, Int.reduceToNat, Int.toNat_natCast, Nat.reduceDiv, Nat.reduceMod, Nat.succ_ne_self, beq_self_eq_true, Bool.not_true, Bool.not_false, Option.some.injEq, exists_eq_left']
  refine hK _ ?_; clear hK K
  refine AW.seq ?_
  cases hs : smallL a with
  | false =>
    have sa : PFn Try.prog 24 [.slice (a.map encRaw)] (.bool false) := hs ▸ law04_small a ha
    refine AW.rT (by rfl) fun K hK => ?_
    simp -implicitDefEqProofs only [go_sem, decide_true, decide_false, not_true_eq_false, not_false_eq_true, Bool.false_eq_true, Bool.true_eq_false, ↓reduceIte, Nat.reduceAdd, Nat.reduceSub, Nat.reduceMul, Nat.reduceEqDiff, Nat.reduceLeDiff, Int.reduceNeg, reduceCtorEq, Int.reduceToNat, Int.toNat_natCast, Nat.reduceDiv, Nat.reduceMod, Nat.succ_ne_self, beq_self_eq_true, Bool.not_true, Bool.not_false, Option.some.injEq, exists_eq_left']
    refine ⟨.pure _, sa, ?_⟩
    try simp -implicitDefEqProofs only [go_sem, decide_true, decide_false, not_true_eq_false, not_false_eq_true, Bool.false_eq_true, Bool.true_eq_false, ↓reduceIte, Nat.reduceAdd, Nat.reduceSub, Nat.reduceMul, Nat.reduceEqDiff, Nat.reduceLeDiff, Int.reduceNeg, reduceCtorEq, Int.reduceToNat, Int.toNat_natCast, Nat.reduceDiv, Nat.reduceMod, Nat.succ_ne_self, beq_self_eq_true, Bool.not_true, Bool.not_false, Option.some.injEq, exists_eq_left']
    refine hK _ ?_; clear hK K
    refine AW.cond _ (by simp -implicitDefEqProofs only [go_sem, decide_true, decide_false, not_true_eq_false, not_false_eq_true, Bool.false_eq_true, Bool.true_eq_false, ↓reduceIte, Nat.reduceAdd, Nat.reduceSub, Nat.reduceMul, Nat.reduceEqDiff, Nat.reduceLeDiff, Int.reduceNeg, reduceCtorEq, Int.reduceToNat, Int.toNat_natCast, Nat.reduceDiv, Nat.reduceMod, Nat.succ_ne_self, beq_self_eq_true, Bool.not_true, Bool.not_false, Option.some.injEq, exists_eq_left']; rfl) (fun hc => ?_) (fun hc => ?_)
    · refine AW.rT (by rfl) fun K hK => ?_
      simp -implicitDefEqProofs only [go_sem, decide_true, decide_false, not_true_eq_false, not_false_eq_true, Bool.false_eq_true, Bool.true_eq_false, ↓reduceIte, Nat.reduceAdd, Nat.reduceSub, Nat.reduceMul, Nat.reduceEqDiff, Nat.reduceLeDiff, Int.reduceNeg, reduceCtorEq, Int.reduceToNat, Int.toNat_natCast, Nat.reduceDiv, Nat.reduceMod, Nat.succ_ne_self, beq_self_eq_true, Bool.not_true, Bool.not_false, Option.some.injEq, exists_eq_left']
      refine ⟨.pure _, law04_awake, ?_⟩
      try simp -implicitDefEqProofs only [go_sem, decide_true, decide_false, not_true_eq_false, not_false_eq_true, Bool.false_eq_true, Bool.true_eq_false, ↓reduceIte, Nat.reduceAdd, Nat.reduceSub, Nat.reduceMul, Nat.reduceEqDiff, Nat.reduceLeDiff, Int.reduceNeg, reduceCtorEq, Int.reduceToNat, Int.toNat_natCast, Nat.reduceDiv, Nat.reduceMod, Nat.succ_ne_self, beq_self_eq_true, Bool.not_true, Bool.not_false, Option.some.injEq, exists_eq_left']
      refine hK _ ?_; clear hK K
      refine AW.ret ?_
      simp -implicitDefEqProofs only [go_sem, decide_true, decide_false, not_true_eq_false, not_false_eq_true, Bool.false_eq_true, Bool.true_eq_false, ↓reduceIte, Nat.reduceAdd, Nat.reduceSub, Nat.reduceMul, Nat.reduceEqDiff, Nat.reduceLeDiff, Int.reduceNeg, reduceCtorEq, Int.reduceToNat, Int.toNat_natCast, Nat.reduceDiv, Nat.reduceMod, Nat.succ_ne_self, beq_self_eq_true, Bool.not_true, Bool.not_false, Option.some.injEq, exists_eq_left']
    · simp at hc
  | true =>
  have sa : PFn Try.prog 24 [.slice (a.map encRaw)] (.bool true) := hs ▸ law04_small a ha
  have a60 : a.length ≤ 60 := by
    unfold smallL at hs; simp at hs; exact hs.2
  cases hs' : smallL b with
  | false =>
    have sb : PFn Try.prog 24 [.slice (b.map encRaw)] (.bool false) := hs' ▸ law04_small b hb
    refine AW.rT (by rfl) fun K hK => ?_
    simp -implicitDefEqProofs only [go_sem, decide_true, decide_false, not_true_eq_false, not_false_eq_true, Bool.false_eq_true, Bool.true_eq_false, ↓reduceIte, Nat.reduceAdd, Nat.reduceSub, Nat.reduceMul, Nat.reduceEqDiff, Nat.reduceLeDiff, Int.reduceNeg, reduceCtorEq, Int.reduceToNat, Int.toNat_natCast, Nat.reduceDiv, Nat.reduceMod, Nat.succ_ne_self, beq_self_eq_true, Bool.not_true, Bool.not_false, Option.some.injEq, exists_eq_left']
    refine ⟨.pure _, sa, ?_⟩
    try simp -implicitDefEqProofs only [go_sem, decide_true, decide_false, not_true_eq_false, not_false_eq_true, Bool.false_eq_true, Bool.true_eq_false, ↓reduceIte, Nat.reduceAdd, Nat.reduceSub, Nat.reduceMul, Nat.reduceEqDiff, Nat.reduceLeDiff, Int.reduceNeg, reduceCtorEq, Int.reduceToNat, Int.toNat_natCast, Nat.reduceDiv, Nat.reduceMod, Nat.succ_ne_self, beq_self_eq_true, Bool.not_true, Bool.not_false, Option.some.injEq, exists_eq_left']
    refine ⟨.pure _, sb, ?_⟩
    try simp -implicitDefEqProofs only [go_sem, decide_true, decide_false, not_true_eq_false, not_false_eq_true, Bool.false_eq_true, Bool.true_eq_false, ↓reduceIte, Nat.reduceAdd, Nat.reduceSub, Nat.reduceMul, Nat.reduceEqDiff, Nat.reduceLeDiff, Int.reduceNeg, reduceCtorEq, Int.reduceToNat, Int.toNat_natCast, Nat.reduceDiv, Nat.reduceMod, Nat.succ_ne_self, beq_self_eq_true, Bool.not_true, Bool.not_false, Option.some.injEq, exists_eq_left']
    refine hK _ ?_; clear hK K
    refine AW.cond _ (by simp -implicitDefEqProofs only [go_sem, decide_true, decide_false, not_true_eq_false, not_false_eq_true, Bool.false_eq_true, Bool.true_eq_false, ↓reduceIte, Nat.reduceAdd, Nat.reduceSub, Nat.reduceMul, Nat.reduceEqDiff, Nat.reduceLeDiff, Int.reduceNeg, reduceCtorEq, Int.reduceToNat, Int.toNat_natCast, Nat.reduceDiv, Nat.reduceMod, Nat.succ_ne_self, beq_self_eq_true, Bool.not_true, Bool.not_false, Option.some.injEq, exists_eq_left']; rfl) (fun hc => ?_) (fun hc => ?_)
    · refine AW.rT (by rfl) fun K hK => ?_
      simp -implicitDefEqProofs only [go_sem, decide_true, decide_false, not_true_eq_false, not_false_eq_true, Bool.false_eq_true, Bool.true_eq_false, ↓reduceIte, Nat.reduceAdd, Nat.reduceSub, Nat.reduceMul, Nat.reduceEqDiff, Nat.reduceLeDiff, Int.reduceNeg, reduceCtorEq, Int.reduceToNat, Int.toNat_natCast, Nat.reduceDiv, Nat.reduceMod, Nat.succ_ne_self, beq_self_eq_true, Bool.not_true, Bool.not_false, Option.some.injEq, exists_eq_left']
      refine ⟨.pure _, law04_awake, ?_⟩
      try simp -implicitDefEqProofs only [go_sem, decide_true, decide_false, not_true_eq_false, not_false_eq_true, Bool.false_eq_true, Bool.true_eq_false, ↓reduceIte, Nat.reduceAdd, Nat.reduceSub, Nat.reduceMul, Nat.reduceEqDiff, Nat.reduceLeDiff, Int.reduceNeg, reduceCtorEq, Int.reduceToNat, Int.toNat_natCast, Nat.reduceDiv, Nat.reduceMod, Nat.succ_ne_self, beq_self_eq_true, Bool.not_true, Bool.not_false, Option.some.injEq, exists_eq_left']
      refine hK _ ?_; clear hK K
      refine AW.ret ?_
      simp -implicitDefEqProofs only [go_sem, decide_true, decide_false, not_true_eq_false, not_false_eq_true, Bool.false_eq_true, Bool.true_eq_false, ↓reduceIte, Nat.reduceAdd, Nat.reduceSub, Nat.reduceMul, Nat.reduceEqDiff, Nat.reduceLeDiff, Int.reduceNeg, reduceCtorEq, Int.reduceToNat, Int.toNat_natCast, Nat.reduceDiv, Nat.reduceMod, Nat.succ_ne_self, beq_self_eq_true, Bool.not_true, Bool.not_false, Option.some.injEq, exists_eq_left']
    · simp at hc
  | true =>
  have sb : PFn Try.prog 24 [.slice (b.map encRaw)] (.bool true) := hs' ▸ law04_small b hb
  have b60 : b.length ≤ 60 := by
    unfold smallL at hs'; simp at hs'; exact hs'.2
  refine AW.rT (by rfl) fun K hK => ?_
  simp -implicitDefEqProofs only [go_sem, decide_true, decide_false, not_true_eq_false, not_false_eq_true, Bool.false_eq_true, Bool.true_eq_false, ↓reduceIte, Nat.reduceAdd, Nat.reduceSub, Nat.reduceMul, Nat.reduceEqDiff, Nat.reduceLeDiff, Int.reduceNeg, reduceCtorEq, Int.reduceToNat, Int.toNat_natCast, Nat.reduceDiv, Nat.reduceMod, Nat.succ_ne_self, beq_self_eq_true, Bool.not_true, Bool.not_false, Option.some.injEq, exists_eq_left']
  refine ⟨.pure _, sa, ?_⟩
  try simp -implicitDefEqProofs only [go_sem, decide_true, decide_false, not_true_eq_false, not_false_eq_true, Bool.false_eq_true, Bool.true_eq_false, ↓reduceIte, Nat.reduceAdd, Nat.reduceSub, Nat.reduceMul, Nat.reduceEqDiff, Nat.reduceLeDiff, Int.reduceNeg, reduceCtorEq, Int.reduceToNat, Int.toNat_natCast, Nat.reduceDiv, Nat.reduceMod, Nat.succ_ne_self, beq_self_eq_true, Bool.not_true, Bool.not_false, Option.some.injEq, exists_eq_left']
  refine ⟨.pure _, sb, ?_⟩
  try simp -implicitDefEqProofs only [go_sem, decide_true, decide_false, not_true_eq_false, not_false_eq_true, Bool.false_eq_true, Bool.true_eq_false, ↓reduceIte, Nat.reduceAdd, Nat.reduceSub, Nat.reduceMul, Nat.reduceEqDiff, Nat.reduceLeDiff, Int.reduceNeg, reduceCtorEq, Int.reduceToNat, Int.toNat_natCast, Nat.reduceDiv, Nat.reduceMod, Nat.succ_ne_self, beq_self_eq_true, Bool.not_true, Bool.not_false, Option.some.injEq, exists_eq_left']
  refine hK _ ?_; clear hK K
  refine AW.cond _ (by simp -implicitDefEqProofs only [go_sem, decide_true, decide_false, not_true_eq_false, not_false_eq_true, Bool.false_eq_true, Bool.true_eq_false, ↓reduceIte, Nat.reduceAdd, Nat.reduceSub, Nat.reduceMul, Nat.reduceEqDiff, Nat.reduceLeDiff, Int.reduceNeg, reduceCtorEq, Int.reduceToNat, Int.toNat_natCast, Nat.reduceDiv, Nat.reduceMod, Nat.succ_ne_self, beq_self_eq_true, Bool.not_true, Bool.not_false, Option.some.injEq, exists_eq_left']; rfl) (fun hc => ?_) (fun hc => ?_)
  · simp at hc
  refine AW.skip ?_
  simp only [andThen, inBlk, reduceCtorEq, ↓reduceIte, if_t, if_f]
  have la : ∀ n ∈ liftE (a.map encRaw), n.length = 4 := liftE_len fun e he => by
    obtain ⟨x, _, rfl⟩ := List.mem_map.1 he
    rfl
  have lb : ∀ n ∈ liftE (b.map encRaw), n.length = 4 := liftE_len fun e he => by
    obtain ⟨x, _, rfl⟩ := List.mem_map.1 he
    rfl
  have oa : ∀ n ∈ liftE (a.map encRaw), oneAll n = true := liftE_one fun e he p hp => by
    obtain ⟨x, _, rfl⟩ := List.mem_map.1 he
    simp [encRaw] at hp
    rcases hp with rfl | rfl | rfl | rfl <;> rfl
  have ob : ∀ n ∈ liftE (b.map encRaw), oneAll n = true := liftE_one fun e he p hp => by
    obtain ⟨x, _, rfl⟩ := List.mem_map.1 he
    simp [encRaw] at hp
    rcases hp with rfl | rfl | rfl | rfl <;> rfl
  have JB := join_bad a b
  have JG := join_good a b
  have ca := wp_cases a
  have cb := wp_cases b
  have cz := wp_cases (a ++ b)
  have PA := wire_PutAll a (by omega)
  have PB := wire_PutAll b (by omega)
  have PZ := wire_PutAll (a ++ b) (by rw [List.length_append]; omega)
  rcases hx : wirePut a with ⟨xs, xe⟩
  rcases hy : wirePut b with ⟨ys, ye⟩
  rcases hz : wirePut (a ++ b) with ⟨zs, ze⟩
  rw [hx] at PA JB JG ca
  rw [hy] at PB JB JG cb
  rw [hz] at PZ JB JG cz
  dsimp only at JB JG ca cb cz PA PB PZ
  refine AW.rT (by rfl) fun K hK => ?_
  simp -implicitDefEqProofs only [go_sem, decide_true, decide_false, not_true_eq_false, not_false_eq_true, Bool.false_eq_true, Bool.true_eq_false, ↓reduceIte, Nat.reduceAdd, Nat.reduceSub, Nat.reduceMul, Nat.reduceEqDiff, Nat.reduceLeDiff, Int.reduceNeg, reduceCtorEq, Int.reduceToNat, Int.toNat_natCast, Nat.reduceDiv, Nat.reduceMod, Nat.succ_ne_self, beq_self_eq_true, Bool.not_true, Bool.not_false, Option.some.injEq, exists_eq_left']
  refine ⟨⟨la, oa, by simp⟩, ⟨.inl trivial, by simp, by simp [liftE_length]; omega⟩, ?_⟩
  refine ⟨.pure _, PA, ?_⟩
  try simp -implicitDefEqProofs only [go_sem, decide_true, decide_false, not_true_eq_false, not_false_eq_true, Bool.false_eq_true, Bool.true_eq_false, ↓reduceIte, Nat.reduceAdd, Nat.reduceSub, Nat.reduceMul, Nat.reduceEqDiff, Nat.reduceLeDiff, Int.reduceNeg, reduceCtorEq, Int.reduceToNat, Int.toNat_natCast, Nat.reduceDiv, Nat.reduceMod, Nat.succ_ne_self, beq_self_eq_true, Bool.not_true, Bool.not_false, Option.some.injEq, exists_eq_left']
  refine hK _ ?_; clear hK K
  refine AW.rT (by rfl) fun K hK => ?_
  simp -implicitDefEqProofs only [go_sem, decide_true, decide_false, not_true_eq_false, not_false_eq_true, Bool.false_eq_true, Bool.true_eq_false, ↓reduceIte, Nat.reduceAdd, Nat.reduceSub, Nat.reduceMul, Nat.reduceEqDiff, Nat.reduceLeDiff, Int.reduceNeg, reduceCtorEq, Int.reduceToNat, Int.toNat_natCast, Nat.reduceDiv, Nat.reduceMod, Nat.succ_ne_self, beq_self_eq_true, Bool.not_true, Bool.not_false, Option.some.injEq, exists_eq_left']
  refine ⟨⟨lb, ob, by simp⟩, ⟨.inl trivial, by simp, by simp [liftE_length]; omega⟩, ?_⟩
  refine ⟨.pure _, PB, ?_⟩
  try simp -implicitDefEqProofs only [go_sem, decide_true, decide_false, not_true_eq_false, not_false_eq_true, Bool.false_eq_true, Bool.true_eq_false, ↓reduceIte, Nat.reduceAdd, Nat.reduceSub, Nat.reduceMul, Nat.reduceEqDiff, Nat.reduceLeDiff, Int.reduceNeg, reduceCtorEq, Int.reduceToNat, Int.toNat_natCast, Nat.reduceDiv, Nat.reduceMod, Nat.succ_ne_self, beq_self_eq_true, Bool.not_true, Bool.not_false, Option.some.injEq, exists_eq_left']
  refine hK _ ?_; clear hK K
  have eab : liftE (a.map encRaw) ++ liftE (b.map encRaw) = liftE ((a ++ b).map encRaw) := by rw [List.map_append, liftE_append]
  refine AW.rT (by rfl) fun K hK => ?_
  simp -implicitDefEqProofs only [go_sem, decide_true, decide_false, not_true_eq_false, not_false_eq_true, Bool.false_eq_true, Bool.true_eq_false, ↓reduceIte, Nat.reduceAdd, Nat.reduceSub, Nat.reduceMul, Nat.reduceEqDiff, Nat.reduceLeDiff, Int.reduceNeg, reduceCtorEq, Int.reduceToNat, Int.toNat_natCast, Nat.reduceDiv, Nat.reduceMod, Nat.succ_ne_self, beq_self_eq_true, Bool.not_true, Bool.not_false, Option.some.injEq, exists_eq_left', eab]
  refine ⟨⟨la, oa, by simp⟩, ⟨.inl trivial, by simp, by simp [liftE_length]; omega⟩, ⟨lb, ob, by simp⟩, by simp [liftE_length]; omega, ?_⟩
  refine ⟨.pure _, PZ, ?_⟩
  try simp -implicitDefEqProofs only [go_sem, decide_true, decide_false, not_true_eq_false, not_false_eq_true, Bool.false_eq_true, Bool.true_eq_false, ↓reduceIte, Nat.reduceAdd, Nat.reduceSub, Nat.reduceMul, Nat.reduceEqDiff, Nat.reduceLeDiff, Int.reduceNeg, reduceCtorEq, Int.reduceToNat, Int.toNat_natCast, Nat.reduceDiv, Nat.reduceMod, Nat.succ_ne_self, beq_self_eq_true, Bool.not_true, Bool.not_false, Option.some.injEq, exists_eq_left']
  refine hK _ ?_; clear hK K
  refine AW.seq ?_
  by_cases h00 : xe = 0 ∧ ye = 0
  · obtain ⟨rfl, rfl⟩ := h00
    have JG := JG rfl rfl
    refine AW.rT (by rfl) fun K hK => ?_
    simp -implicitDefEqProofs only [go_sem, decide_true, decide_false, not_true_eq_false, not_false_eq_true, Bool.false_eq_true, Bool.true_eq_false, ↓reduceIte, Nat.reduceAdd, Nat.reduceSub, Nat.reduceMul, Nat.reduceEqDiff, Nat.reduceLeDiff, Int.reduceNeg, reduceCtorEq, Int.reduceToNat, Int.toNat_natCast, Nat.reduceDiv, Nat.reduceMod, Nat.succ_ne_self, beq_self_eq_true, Bool.not_true, Bool.not_false, Option.some.injEq, exists_eq_left']
    refine hK _ ?_; clear hK K
    refine AW.cond _ (by simp -implicitDefEqProofs only [go_sem, decide_true, decide_false, not_true_eq_false, not_false_eq_true, Bool.false_eq_true, Bool.true_eq_false, ↓reduceIte, Nat.reduceAdd, Nat.reduceSub, Nat.reduceMul, Nat.reduceEqDiff, Nat.reduceLeDiff, Int.reduceNeg, reduceCtorEq, Int.reduceToNat, Int.toNat_natCast, Nat.reduceDiv, Nat.reduceMod, Nat.succ_ne_self, beq_self_eq_true, Bool.not_true, Bool.not_false, Option.some.injEq, exists_eq_left']; rfl) (fun hc => ?_) (fun hc => ?_)
    · simp at hc
    refine AW.skip ?_
    simp only [andThen, inBlk, reduceCtorEq, ↓reduceIte, if_t, if_f]
    refine AW.seq ?_
    have xl : xs.length ≤ 4096 := by
      have : xs = (wirePut a).1 := by rw [hx]
      rw [this]; unfold wirePut; split
      · split
        · assumption
        · simp
      · simp
    have yl : ys.length ≤ 4096 := by
      have : ys = (wirePut b).1 := by rw [hy]
      rw [this]; unfold wirePut; split
      · split
        · assumption
        · simp
      · simp
    have w1 : IntKind.wrap .i64 ((xs.length : Int) + (ys.length : Int)) = (xs.length : Int) + (ys.length : Int) := by rw [w64] <;> omega
    by_cases hbig : xs.length + ys.length ≤ 4096
    · rw [if_pos hbig] at JG
      simp only [Prod.mk.injEq] at JG
      obtain ⟨rfl, rfl⟩ := JG
      have b1 : ((xs.length : Int) + (ys.length : Int) > 4096) = False := by simp; omega
      refine AW.rT (by rfl) fun K hK => ?_
      simp -implicitDefEqProofs only [go_sem, decide_true, decide_false, not_true_eq_false, not_false_eq_true, Bool.false_eq_true, Bool.true_eq_false, ↓reduceIte, Nat.reduceAdd, Nat.reduceSub, Nat.reduceMul, Nat.reduceEqDiff, Nat.reduceLeDiff, Int.reduceNeg, reduceCtorEq, Int.reduceToNat, Int.toNat_natCast, Nat.reduceDiv, Nat.reduceMod, Nat.succ_ne_self, beq_self_eq_true, Bool.not_true, Bool.not_false, Option.some.injEq, exists_eq_left', w1, b1, List.length_map]
      refine hK _ ?_; clear hK K
      refine AW.cond _ (by simp -implicitDefEqProofs only [go_sem, decide_true, decide_false, not_true_eq_false, not_false_eq_true, Bool.false_eq_true, Bool.true_eq_false, ↓reduceIte, Nat.reduceAdd, Nat.reduceSub, Nat.reduceMul, Nat.reduceEqDiff, Nat.reduceLeDiff, Int.reduceNeg, reduceCtorEq, Int.reduceToNat, Int.toNat_natCast, Nat.reduceDiv, Nat.reduceMod, Nat.succ_ne_self, beq_self_eq_true, Bool.not_true, Bool.not_false, Option.some.injEq, exists_eq_left']; rfl) (fun hc => ?_) (fun hc => ?_)
      · simp at hc
      refine AW.skip ?_
      simp only [andThen, inBlk, reduceCtorEq, ↓reduceIte, if_t, if_f]
      have e1 : ∀ l : List UInt8, bytesOf (liftE (l.map encB)) = some l := fun l => bytesOf_lift l
      have l9 : (xs.length + ys.length ≤ 9223372036854775807) = True := by simp; omega
      refine AW.rT (by rfl) fun K hK => ?_
      simp -implicitDefEqProofs only [go_sem, decide_true, decide_false, not_true_eq_false, not_false_eq_true, Bool.false_eq_true, Bool.true_eq_false, ↓reduceIte, Nat.reduceAdd, Nat.reduceSub, Nat.reduceMul, Nat.reduceEqDiff, Nat.reduceLeDiff, Int.reduceNeg, reduceCtorEq, Int.reduceToNat, Int.toNat_natCast, Nat.reduceDiv, Nat.reduceMod, Nat.succ_ne_self, beq_self_eq_true, Bool.not_true, Bool.not_false, Option.some.injEq, exists_eq_left', e1, l9]
      refine ⟨.pure _, law04_awake, ?_⟩
      try simp -implicitDefEqProofs only [go_sem, decide_true, decide_false, not_true_eq_false, not_false_eq_true, Bool.false_eq_true, Bool.true_eq_false, ↓reduceIte, Nat.reduceAdd, Nat.reduceSub, Nat.reduceMul, Nat.reduceEqDiff, Nat.reduceLeDiff, Int.reduceNeg, reduceCtorEq, Int.reduceToNat, Int.toNat_natCast, Nat.reduceDiv, Nat.reduceMod, Nat.succ_ne_self, beq_self_eq_true, Bool.not_true, Bool.not_false, Option.some.injEq, exists_eq_left']
      refine hK _ ?_; clear hK K
      refine AW.ret ?_
      simp -implicitDefEqProofs only [go_sem, decide_true, decide_false, not_true_eq_false, not_false_eq_true, Bool.false_eq_true, Bool.true_eq_false, ↓reduceIte, Nat.reduceAdd, Nat.reduceSub, Nat.reduceMul, Nat.reduceEqDiff, Nat.reduceLeDiff, Int.reduceNeg, reduceCtorEq, Int.reduceToNat, Int.toNat_natCast, Nat.reduceDiv, Nat.reduceMod, Nat.succ_ne_self, beq_self_eq_true, Bool.not_true, Bool.not_false, Option.some.injEq, exists_eq_left']
    · rw [if_neg hbig] at JG
      simp only [Prod.mk.injEq] at JG
      obtain ⟨rfl, rfl⟩ := JG
      have b1 : ((xs.length : Int) + (ys.length : Int) > 4096) = True := by simp; omega
      refine AW.rT (by rfl) fun K hK => ?_
      simp -implicitDefEqProofs only [go_sem, decide_true, decide_false, not_true_eq_false, not_false_eq_true, Bool.false_eq_true, Bool.true_eq_false, ↓reduceIte, Nat.reduceAdd, Nat.reduceSub, Nat.reduceMul, Nat.reduceEqDiff, Nat.reduceLeDiff, Int.reduceNeg, reduceCtorEq, Int.reduceToNat, Int.toNat_natCast, Nat.reduceDiv, Nat.reduceMod, Nat.succ_ne_self, beq_self_eq_true, Bool.not_true, Bool.not_false, Option.some.injEq, exists_eq_left', w1, b1, List.length_map]
      refine hK _ ?_; clear hK K
      refine AW.cond _ (by simp -implicitDefEqProofs only [go_sem, decide_true, decide_false, not_true_eq_false, not_false_eq_true, Bool.false_eq_true, Bool.true_eq_false, ↓reduceIte, Nat.reduceAdd, Nat.reduceSub, Nat.reduceMul, Nat.reduceEqDiff, Nat.reduceLeDiff, Int.reduceNeg, reduceCtorEq, Int.reduceToNat, Int.toNat_natCast, Nat.reduceDiv, Nat.reduceMod, Nat.succ_ne_self, beq_self_eq_true, Bool.not_true, Bool.not_false, Option.some.injEq, exists_eq_left']; rfl) (fun hc => ?_) (fun hc => ?_)
      · refine AW.rT (by rfl) fun K hK => ?_
        simp -implicitDefEqProofs only [go_sem, decide_true, decide_false, not_true_eq_false, not_false_eq_true, Bool.false_eq_true, Bool.true_eq_false, ↓reduceIte, Nat.reduceAdd, Nat.reduceSub, Nat.reduceMul, Nat.reduceEqDiff, Nat.reduceLeDiff, Int.reduceNeg, reduceCtorEq, Int.reduceToNat, Int.toNat_natCast, Nat.reduceDiv, Nat.reduceMod, Nat.succ_ne_self, beq_self_eq_true, Bool.not_true, Bool.not_false, Option.some.injEq, exists_eq_left']
        refine ⟨.pure _, law04_awake, ?_⟩
        try simp -implicitDefEqProofs only [go_sem, decide_true, decide_false, not_true_eq_false, not_false_eq_true, Bool.false_eq_true, Bool.true_eq_false, ↓reduceIte, Nat.reduceAdd, Nat.reduceSub, Nat.reduceMul, Nat.reduceEqDiff, Nat.reduceLeDiff, Int.reduceNeg, reduceCtorEq, Int.reduceToNat, Int.toNat_natCast, Nat.reduceDiv, Nat.reduceMod, Nat.succ_ne_self, beq_self_eq_true, Bool.not_true, Bool.not_false, Option.some.injEq, exists_eq_left']
        refine hK _ ?_; clear hK K
        refine AW.ret ?_
        simp -implicitDefEqProofs only [go_sem, decide_true, decide_false, not_true_eq_false, not_false_eq_true, Bool.false_eq_true, Bool.true_eq_false, ↓reduceIte, Nat.reduceAdd, Nat.reduceSub, Nat.reduceMul, Nat.reduceEqDiff, Nat.reduceLeDiff, Int.reduceNeg, reduceCtorEq, Int.reduceToNat, Int.toNat_natCast, Nat.reduceDiv, Nat.reduceMod, Nat.succ_ne_self, beq_self_eq_true, Bool.not_true, Bool.not_false, Option.some.injEq, exists_eq_left']
      · simp at hc
  · have JB := JB (by omega)
    have hl : (xe ≠ 0 ∨ ye ≠ 0) := by omega
    clear JG PA PB PZ hx hy hz
    rcases ca with rfl | rfl | rfl <;> rcases cb with rfl | rfl | rfl <;> rcases cz with rfl | rfl | rfl <;> first
      | (exfalso; omega)
      | skip
    all_goals
      refine AW.rT (by rfl) fun K hK => ?_
      simp -implicitDefEqProofs only [go_sem, decide_true, decide_false, not_true_eq_false, not_false_eq_true, Bool.false_eq_true, Bool.true_eq_false, ↓reduceIte, Nat.reduceAdd, Nat.reduceSub, Nat.reduceMul, Nat.reduceEqDiff, Nat.reduceLeDiff, Int.reduceNeg, reduceCtorEq, Int.reduceToNat, Int.toNat_natCast, Nat.reduceDiv, Nat.reduceMod, Nat.succ_ne_self, beq_self_eq_true, Bool.not_true, Bool.not_false, Option.some.injEq, exists_eq_left']
      refine hK _ ?_; clear hK K
      refine AW.cond _ (by simp -implicitDefEqProofs only [go_sem, decide_true, decide_false, not_true_eq_false, not_false_eq_true, Bool.false_eq_true, Bool.true_eq_false, ↓reduceIte, Nat.reduceAdd, Nat.reduceSub, Nat.reduceMul, Nat.reduceEqDiff, Nat.reduceLeDiff, Int.reduceNeg, reduceCtorEq, Int.reduceToNat, Int.toNat_natCast, Nat.reduceDiv, Nat.reduceMod, Nat.succ_ne_self, beq_self_eq_true, Bool.not_true, Bool.not_false, Option.some.injEq, exists_eq_left']; rfl) (fun hc => ?_) (fun hc => ?_)
    all_goals first
      | (exfalso; revert hc; decide)
      | skip
    all_goals
      refine AW.rT (by rfl) fun K hK => ?_
      simp -implicitDefEqProofs only [go_sem, decide_true, decide_false, not_true_eq_false, not_false_eq_true, Bool.false_eq_true, Bool.true_eq_false, ↓reduceIte, Nat.reduceAdd, Nat.reduceSub, Nat.reduceMul, Nat.reduceEqDiff, Nat.reduceLeDiff, Int.reduceNeg, reduceCtorEq, Int.reduceToNat, Int.toNat_natCast, Nat.reduceDiv, Nat.reduceMod, Nat.succ_ne_self, beq_self_eq_true, Bool.not_true, Bool.not_false, Option.some.injEq, exists_eq_left']
      refine ⟨.pure _, law04_awake, ?_⟩
      try simp -implicitDefEqProofs only [go_sem, decide_true, decide_false, not_true_eq_false, not_false_eq_true, Bool.false_eq_true, Bool.true_eq_false, ↓reduceIte, Nat.reduceAdd, Nat.reduceSub, Nat.reduceMul, Nat.reduceEqDiff, Nat.reduceLeDiff, Int.reduceNeg, reduceCtorEq, Int.reduceToNat, Int.toNat_natCast, Nat.reduceDiv, Nat.reduceMod, Nat.succ_ne_self, beq_self_eq_true, Bool.not_true, Bool.not_false, Option.some.injEq, exists_eq_left']
      refine hK _ ?_; clear hK K
      refine AW.ret ?_
      simp -implicitDefEqProofs only [go_sem, decide_true, decide_false, not_true_eq_false, not_false_eq_true, Bool.false_eq_true, Bool.true_eq_false, ↓reduceIte, Nat.reduceAdd, Nat.reduceSub, Nat.reduceMul, Nat.reduceEqDiff, Nat.reduceLeDiff, Int.reduceNeg, reduceCtorEq, Int.reduceToNat, Int.toNat_natCast, Nat.reduceDiv, Nat.reduceMod, Nat.succ_ne_self, beq_self_eq_true, Bool.not_true, Bool.not_false, Option.some.injEq, exists_eq_left']
end Go.Aw
