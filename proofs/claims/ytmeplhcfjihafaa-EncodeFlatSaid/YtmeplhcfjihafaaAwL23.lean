/- The law EncodeRises. -/
import Derived.Test.YtmeplhcfjihafaaAwE3
namespace Go.Aw
open Go.Proofs
set_option linter.unusedSimpArgs false
set_option linter.unusedVariables false
def cntE (es : List (Int × List Tr)) : Nat := (es.map (fun e => e.2.length)).sum
theorem fldL_len {g : Int} : ∀ {l : List Tr}, (fldL g l).2 = 0 → (fldL g l).1.length = l.length := by
  intro l
  induction l with
  | nil => intro _; simp [fldL]
  | cons x l ih =>
    intro h
    rw [fldL] at h ⊢
    by_cases h1 : (fldR g x).2 = 0
    · by_cases h2 : (fldL g l).2 = 0
      · simp [h1, h2, ih h2]
      · simp [h1, h2] at h
    · simp [h1] at h
theorem fldE_len : ∀ {es : List (Int × List Tr)}, (fldE es).2 = 0 → (fldE es).1.length = cntE es := by
  intro es
  induction es with
  | nil => intro _; simp [fldE, cntE]
  | cons e es ih =>
    intro h
    obtain ⟨g, l⟩ := e
    rw [fldE] at h ⊢
    by_cases h1 : (fldL g l).2 = 0
    · by_cases h2 : (fldE es).2 = 0
      · simp [h1, h2, fldL_len h1, ih h2, cntE]
      · simp [h1, h2] at h
    · simp [h1] at h
theorem encA_ok {t : Tr} (hn : okTr t) (h : (encA t).2 = 0) : okT t = true ∧ t.kind = 3 ∧ (fldE t.ents).2 = 0 ∧ wireGet (encA t).1 = (sortL [] (t.rest ++ (fldE t.ents).1), 0) ∧ (encA t).1.length ≤ 4096 ∧ (encA t).1 = flatR (sortL [] (t.rest ++ (fldE t.ents).1)) ∧ ∀ r ∈ sortL [] (t.rest ++ (fldE t.ents).1), okRaw r := by
  unfold encA at h ⊢
  by_cases hk : okT t = true ∧ t.kind = 3
  case neg => rw [if_neg hk] at h; cases h
  rw [if_pos hk] at h ⊢
  have hb : bytesT t = if (rawsT t).2 ≠ 0 then ([], (rawsT t).2) else wirePut (rawsT t).1 := rfl
  have hr : rawsT t = if (fldE t.ents).2 ≠ 0 then ([], (fldE t.ents).2) else (sortL [] (t.rest ++ (fldE t.ents).1), 0) := rfl
  have rn := rawsT_n hn
  by_cases h1 : (rawsT t).2 = 0
  case neg => rw [hb, if_pos h1] at h; exact absurd h h1
  by_cases h2 : (fldE t.ents).2 = 0
  case neg => rw [hr, if_pos h2] at h1; exact absurd h1 h2
  rw [if_neg (by simpa using h2)] at hr
  rw [if_neg (by simpa using h1), hr] at hb
  rw [hr] at rn
  dsimp only at hb rn
  rw [hb] at h ⊢
  generalize sortL [] (t.rest ++ (fldE t.ents).1) = m at *
  unfold wirePut at h ⊢
  split at h
  case isFalse => cases h
  rename_i ha
  split at h
  case isFalse => cases h
  rename_i hl
  rw [if_pos ha, if_pos hl]
  have hok : ∀ r ∈ m, okRaw r := fun r hr => ⟨List.all_eq_true.1 ha r hr, rn r hr⟩
  refine ⟨hk.1, hk.2, h2, ?_, hl, rfl, hok⟩
  dsimp only
  unfold wireGet
  rw [if_neg (by omega), get_put m _ hok (Nat.le_refl _)]
theorem encA_bad {t : Tr} (h : (encA t).2 ≠ 0) : (encA t).1 = [] := by
  unfold encA at h ⊢
  split
  · rename_i h1
    rw [if_pos h1] at h
    exact bytes_err t h
  · rfl
def rzS (t : Tr) (b : List UInt8) (m : List Raw) (n i : Nat) : St := ⟨ofL [(1, .ptr 0 0 0), (3, .p (.slice (b.map encB))), (5, .p (.slice (m.map encRaw))), (6, .p (.int .i64 0)), (7, .p (.int .i64 (n : Int))), (8, .p (.int .i64 (i : Int)))], ofH [(0, .row 5 [cellsT t])], 1⟩
theorem cnt_at {es : List (Int × List Tr)} {i : Nat} {e : Int × List Tr} (h : es[i]? = some e) : cntE (es.drop i) = e.2.length + cntE (es.drop (i + 1)) := by
  rw [List.drop_eq_getElem_cons (List.getElem?_eq_some_iff.1 h).1, (List.getElem?_eq_some_iff.1 h).2]
  simp [cntE]
theorem cnt_le (es : List (Int × List Tr)) (h : ∀ e ∈ es, e.2.length ≤ 64) : cntE es ≤ 64 * es.length := by
  induction es with
  | nil => simp [cntE]
  | cons e es ih =>
    have h1 := ih fun e he => h e (List.mem_cons_of_mem _ he)
    have h2 := h e List.mem_cons_self
    simp [cntE] at h1 ⊢
    omega
set_option maxRecDepth 100000 in
set_option maxHeartbeats 4000000 in
theorem law11_Rises (t : Tr) (hn : okTr t) : PFn Try.prog 23 [.agg (encTr t)] (.bool true) := by
  refine PFn.of Try.func23 rfl (by decide) Try.ntmps23 Try.results23 (Nat.le_of_ble_eq_true rfl) ?_
  simp only [argsT]
  have SA := law00_Small t
  rw [encTr_eq] at SA
  refine AW.rT (by rfl) fun K hK => ?_
  simp -implicitDefEqProofs only [go_sem, ↓reduceIte, Nat.reduceAdd, Nat.reduceSub, Nat.reduceMul, Nat.reduceEqDiff, Nat.reduceLeDiff, Int.reduceNeg, reduceCtorEq, Int.reduceToNat, Nat.reduceDiv, Nat.reduceMod, encTr_eq]
  refine hK _ ?_; clear hK K
  refine AW.seq ?_
  cases ha : smallB t with
  | false =>
    rw [ha] at SA
    refine AW.rT (by rfl) fun K hK => ?_
    simp -implicitDefEqProofs only [go_sem, ↓reduceIte, Nat.reduceAdd, Nat.reduceSub, Nat.reduceMul, Nat.reduceEqDiff, Nat.reduceLeDiff, Int.reduceNeg, reduceCtorEq, Int.reduceToNat, Nat.reduceDiv, Nat.reduceMod]
    refine ⟨.pure _, SA, ?_⟩
    try simp -implicitDefEqProofs only [go_sem, ↓reduceIte, Nat.reduceAdd, Nat.reduceSub, Nat.reduceMul, Nat.reduceEqDiff, Nat.reduceLeDiff, Int.reduceNeg, reduceCtorEq, Int.reduceToNat, Nat.reduceDiv, Nat.reduceMod]
    refine hK _ ?_; clear hK K
    refine AW.cond _ (by simp -implicitDefEqProofs only [go_sem, ↓reduceIte, Nat.reduceAdd, Nat.reduceSub, Nat.reduceMul, Nat.reduceEqDiff, Nat.reduceLeDiff, Int.reduceNeg, reduceCtorEq, Int.reduceToNat, Nat.reduceDiv, Nat.reduceMod]; rfl) (fun hc => ?_) (fun hc => ?_)
    rotate_left
    · simp at hc
    refine AW.rT (by rfl) fun K hK => ?_
    simp -implicitDefEqProofs only [go_sem, ↓reduceIte, Nat.reduceAdd, Nat.reduceSub, Nat.reduceMul, Nat.reduceEqDiff, Nat.reduceLeDiff, Int.reduceNeg, reduceCtorEq, Int.reduceToNat, Nat.reduceDiv, Nat.reduceMod]
    refine ⟨.pure _, law11_awake, ?_⟩
    try simp -implicitDefEqProofs only [go_sem, ↓reduceIte, Nat.reduceAdd, Nat.reduceSub, Nat.reduceMul, Nat.reduceEqDiff, Nat.reduceLeDiff, Int.reduceNeg, reduceCtorEq, Int.reduceToNat, Nat.reduceDiv, Nat.reduceMod]
    refine hK _ ?_; clear hK K
    refine AW.ret ?_
    simp -implicitDefEqProofs only [go_sem, ↓reduceIte, Nat.reduceAdd, Nat.reduceSub, Nat.reduceMul, Nat.reduceEqDiff, Nat.reduceLeDiff, Int.reduceNeg, reduceCtorEq, Int.reduceToNat, Nat.reduceDiv, Nat.reduceMod]
  | true =>
  rw [ha] at SA
  have la := smallB_lens ha
  obtain ⟨la1, la2, la3⟩ := lensT_mk la
  have TA := law00_Tree t la
  have E1 := enc_Encode t la
  rw [encTr_eq] at TA E1
  refine AW.rT (by rfl) fun K hK => ?_
  simp -implicitDefEqProofs only [go_sem, ↓reduceIte, Nat.reduceAdd, Nat.reduceSub, Nat.reduceMul, Nat.reduceEqDiff, Nat.reduceLeDiff, Int.reduceNeg, reduceCtorEq, Int.reduceToNat, Nat.reduceDiv, Nat.reduceMod]
  refine ⟨.pure _, SA, ?_⟩
  try simp -implicitDefEqProofs only [go_sem, ↓reduceIte, Nat.reduceAdd, Nat.reduceSub, Nat.reduceMul, Nat.reduceEqDiff, Nat.reduceLeDiff, Int.reduceNeg, reduceCtorEq, Int.reduceToNat, Nat.reduceDiv, Nat.reduceMod]
  refine hK _ ?_; clear hK K
  refine AW.cond _ (by simp -implicitDefEqProofs only [go_sem, ↓reduceIte, Nat.reduceAdd, Nat.reduceSub, Nat.reduceMul, Nat.reduceEqDiff, Nat.reduceLeDiff, Int.reduceNeg, reduceCtorEq, Int.reduceToNat, Nat.reduceDiv, Nat.reduceMod]; rfl) (fun hc => ?_) (fun hc => ?_)
  · simp at hc
  refine AW.skip ?_
  simp only [andThen, inBlk, reduceCtorEq, ↓reduceIte, if_t, if_f]
  refine AW.rT (by rfl) fun K hK => ?_
  simp -implicitDefEqProofs only [go_sem, ↓reduceIte, Nat.reduceAdd, Nat.reduceSub, Nat.reduceMul, Nat.reduceEqDiff, Nat.reduceLeDiff, Int.reduceNeg, reduceCtorEq, Int.reduceToNat, Nat.reduceDiv, Nat.reduceMod]
  refine ⟨.pure _, TA, ?_⟩
  try simp -implicitDefEqProofs only [go_sem, ↓reduceIte, Nat.reduceAdd, Nat.reduceSub, Nat.reduceMul, Nat.reduceEqDiff, Nat.reduceLeDiff, Int.reduceNeg, reduceCtorEq, Int.reduceToNat, Nat.reduceDiv, Nat.reduceMod]
  refine ⟨.pure _, E1, ?_⟩
  try simp -implicitDefEqProofs only [go_sem, ↓reduceIte, Nat.reduceAdd, Nat.reduceSub, Nat.reduceMul, Nat.reduceEqDiff, Nat.reduceLeDiff, Int.reduceNeg, reduceCtorEq, Int.reduceToNat, Nat.reduceDiv, Nat.reduceMod]
  refine hK _ ?_; clear hK K
  refine AW.seq ?_
  by_cases he : (encA t).2 = 0
  case neg =>
    have b : ((encA t).2 != 0) = true := by simp [he]
    have hb := encA_bad he
    refine AW.rT (by rfl) fun K hK => ?_
    simp -implicitDefEqProofs only [go_sem, ↓reduceIte, Nat.reduceAdd, Nat.reduceSub, Nat.reduceMul, Nat.reduceEqDiff, Nat.reduceLeDiff, Int.reduceNeg, reduceCtorEq, Int.reduceToNat, Nat.reduceDiv, Nat.reduceMod, b]
    refine hK _ ?_; clear hK K
    refine AW.cond _ (by simp -implicitDefEqProofs only [go_sem, ↓reduceIte, Nat.reduceAdd, Nat.reduceSub, Nat.reduceMul, Nat.reduceEqDiff, Nat.reduceLeDiff, Int.reduceNeg, reduceCtorEq, Int.reduceToNat, Nat.reduceDiv, Nat.reduceMod]; rfl) (fun hc => ?_) (fun hc => ?_)
    rotate_left
    · simp at hc
    have b2 : ((([] : List (List PV)).length : Int) == 0) = true := by simp
    refine AW.rT (by rfl) fun K hK => ?_
    simp -implicitDefEqProofs only [go_sem, ↓reduceIte, Nat.reduceAdd, Nat.reduceSub, Nat.reduceMul, Nat.reduceEqDiff, Nat.reduceLeDiff, Int.reduceNeg, reduceCtorEq, Int.reduceToNat, Nat.reduceDiv, Nat.reduceMod, hb, List.map_nil, b2]
    try simp -implicitDefEqProofs only [go_sem, ↓reduceIte, Nat.reduceAdd, Nat.reduceSub, Nat.reduceMul, Nat.reduceEqDiff, Nat.reduceLeDiff, Int.reduceNeg, reduceCtorEq, Int.reduceToNat, Nat.reduceDiv, Nat.reduceMod, Int.natCast_zero, Int.ofNat_zero]
    refine ⟨.pure _, law11_awake, ?_⟩
    try simp -implicitDefEqProofs only [go_sem, ↓reduceIte, Nat.reduceAdd, Nat.reduceSub, Nat.reduceMul, Nat.reduceEqDiff, Nat.reduceLeDiff, Int.reduceNeg, reduceCtorEq, Int.reduceToNat, Nat.reduceDiv, Nat.reduceMod]
    refine hK _ ?_; clear hK K
    refine AW.ret ?_
    simp -implicitDefEqProofs only [go_sem, ↓reduceIte, Nat.reduceAdd, Nat.reduceSub, Nat.reduceMul, Nat.reduceEqDiff, Nat.reduceLeDiff, Int.reduceNeg, reduceCtorEq, Int.reduceToNat, Nat.reduceDiv, Nat.reduceMod]
  obtain ⟨ho, hk, hf, hg, hl, _, hok⟩ := encA_ok hn he
  have b : ((encA t).2 != 0) = false := by simp [he]
  have hre := (right_msg (okT_right ho) hk).1
  have GG := wire_Get (encA t).1 (by omega)
  rw [hg] at GG
  have hlen := sortL_length' (t.rest ++ (fldE t.ents).1) []
  rw [List.length_append, fldE_len hf] at hlen
  simp only [List.length_nil, Nat.zero_add] at hlen
  have hris : rising (sortL [] (t.rest ++ (fldE t.ents).1)) = true := rising_of (upTo_sort _ [] (fun i a b h => by simp at h))
  have hcl := cnt_le t.ents fun e he => (right_len hre e he).2.2.2
  generalize sortL [] (t.rest ++ (fldE t.ents).1) = m at hlen hris GG
  dsimp only at GG
  have RR := wire_Rising m (by have hm : maxLen = 9223372036854775807 := by decide
                               omega)
  rw [hris] at RR
  generalize hbb : (encA t).1 = bb at *
  rw [he]
  refine AW.rT (by rfl) fun K hK => ?_
  simp -implicitDefEqProofs only [go_sem, ↓reduceIte, Nat.reduceAdd, Nat.reduceSub, Nat.reduceMul, Nat.reduceEqDiff, Nat.reduceLeDiff, Int.reduceNeg, reduceCtorEq, Int.reduceToNat, Nat.reduceDiv, Nat.reduceMod, b]
  refine hK _ ?_; clear hK K
  refine AW.cond _ (by simp -implicitDefEqProofs only [go_sem, ↓reduceIte, Nat.reduceAdd, Nat.reduceSub, Nat.reduceMul, Nat.reduceEqDiff, Nat.reduceLeDiff, Int.reduceNeg, reduceCtorEq, Int.reduceToNat, Nat.reduceDiv, Nat.reduceMod]; rfl) (fun hc => ?_) (fun hc => ?_)
  · simp at hc
  refine AW.skip ?_
  simp only [andThen, inBlk, reduceCtorEq, ↓reduceIte, if_t, if_f]
  refine AW.rT (by rfl) fun K hK => ?_
  simp -implicitDefEqProofs only [go_sem, ↓reduceIte, Nat.reduceAdd, Nat.reduceSub, Nat.reduceMul, Nat.reduceEqDiff, Nat.reduceLeDiff, Int.reduceNeg, reduceCtorEq, Int.reduceToNat, Nat.reduceDiv, Nat.reduceMod]
  refine ⟨.pure _, GG, ?_⟩
  try simp -implicitDefEqProofs only [go_sem, ↓reduceIte, Nat.reduceAdd, Nat.reduceSub, Nat.reduceMul, Nat.reduceEqDiff, Nat.reduceLeDiff, Int.reduceNeg, reduceCtorEq, Int.reduceToNat, Nat.reduceDiv, Nat.reduceMod]
  refine hK _ ?_; clear hK K
  refine AW.rT (by rfl) fun K hK => ?_
  simp -implicitDefEqProofs only [go_sem, ↓reduceIte, Nat.reduceAdd, Nat.reduceSub, Nat.reduceMul, Nat.reduceEqDiff, Nat.reduceLeDiff, Int.reduceNeg, reduceCtorEq, Int.reduceToNat, Nat.reduceDiv, Nat.reduceMod, List.length_map]
  refine hK _ ?_; clear hK K
  refine AW.seq ?_
  refine AW.rT (by rfl) fun K hK => ?_
  simp -implicitDefEqProofs only [go_sem, ↓reduceIte, Nat.reduceAdd, Nat.reduceSub, Nat.reduceMul, Nat.reduceEqDiff, Nat.reduceLeDiff, Int.reduceNeg, reduceCtorEq, Int.reduceToNat, Nat.reduceDiv, Nat.reduceMod]
  refine hK _ ?_; clear hK K
  refine AW.block ?_
  refine AW.loop (fun x : Nat × Nat => rzS t bb m x.1 x.2) (fun x => x.2 ≤ t.ents.length ∧ x.1 + cntE (t.ents.drop x.2) = m.length) (fun x => t.ents.length - x.2) (t.rest.length, 0) ?_ ⟨by simp, by rw [List.drop_zero]; exact hlen.symm⟩ fun x hx => ?_
  · simp only [rzS, cellsT]
    refine Ghost.sub ?_ ?_ <;> simp -implicitDefEqProofs only [go_sem, ↓reduceIte, Nat.reduceAdd, Nat.reduceSub, Nat.reduceMul, Nat.reduceEqDiff, Nat.reduceLeDiff, Int.reduceNeg, reduceCtorEq, Int.reduceToNat, Nat.reduceDiv, Nat.reduceMod,  List.forall_mem_cons, List.not_mem_nil, false_implies, implies_true, and_self, labsIn_lift, List.all_append, List.all_cons, List.all_nil, Nat.reduceLT, labsInL, AV.labsIn]
    rfl
  obtain ⟨n, i⟩ := x
  obtain ⟨e1, e2⟩ := hx
  dsimp only at e1 e2
  simp only [rzS, cellsT]
  refine AW.seq ?_
  by_cases hil : i < t.ents.length
  case neg =>
    have hc1 : ((i : Int) < (t.ents.length : Int)) = False := by simp; omega
    rw [List.drop_of_length_le (by omega), cntE] at e2
    have e3 : n = m.length := by simpa using e2
    have b2 : ((bb.length : Int) ≤ 4096) = True := by simp; omega
    subst e3
    refine AW.rT (by rfl) fun K hK => ?_
    simp -implicitDefEqProofs only [go_sem, ↓reduceIte, Nat.reduceAdd, Nat.reduceSub, Nat.reduceMul, Nat.reduceEqDiff, Nat.reduceLeDiff, Int.reduceNeg, reduceCtorEq, Int.reduceToNat, Nat.reduceDiv, Nat.reduceMod, hc1, List.length_map]
    refine hK _ ?_; clear hK K
    refine AW.cond _ (by simp -implicitDefEqProofs only [go_sem, ↓reduceIte, Nat.reduceAdd, Nat.reduceSub, Nat.reduceMul, Nat.reduceEqDiff, Nat.reduceLeDiff, Int.reduceNeg, reduceCtorEq, Int.reduceToNat, Nat.reduceDiv, Nat.reduceMod]; rfl) (fun hc => ?_) (fun hc => ?_)
    · simp at hc
    refine AW.exit ?_
    simp only [andThen, inBlk, reduceCtorEq, ↓reduceIte, if_t, if_f]
    refine AW.rT (by rfl) fun K hK => ?_
    simp -implicitDefEqProofs only [go_sem, ↓reduceIte, Nat.reduceAdd, Nat.reduceSub, Nat.reduceMul, Nat.reduceEqDiff, Nat.reduceLeDiff, Int.reduceNeg, reduceCtorEq, Int.reduceToNat, Nat.reduceDiv, Nat.reduceMod]
    refine ⟨.pure _, RR, ?_⟩
    try simp -implicitDefEqProofs only [go_sem, ↓reduceIte, Nat.reduceAdd, Nat.reduceSub, Nat.reduceMul, Nat.reduceEqDiff, Nat.reduceLeDiff, Int.reduceNeg, reduceCtorEq, Int.reduceToNat, Nat.reduceDiv, Nat.reduceMod, List.length_map, b2]
    refine ⟨.pure _, law11_awake, ?_⟩
    try simp -implicitDefEqProofs only [go_sem, ↓reduceIte, Nat.reduceAdd, Nat.reduceSub, Nat.reduceMul, Nat.reduceEqDiff, Nat.reduceLeDiff, Int.reduceNeg, reduceCtorEq, Int.reduceToNat, Nat.reduceDiv, Nat.reduceMod]
    refine hK _ ?_; clear hK K
    refine AW.ret ?_
    simp -implicitDefEqProofs only [go_sem, ↓reduceIte, Nat.reduceAdd, Nat.reduceSub, Nat.reduceMul, Nat.reduceEqDiff, Nat.reduceLeDiff, Int.reduceNeg, reduceCtorEq, Int.reduceToNat, Nat.reduceDiv, Nat.reduceMod]
  obtain ⟨e, he⟩ : ∃ e, t.ents[i]? = some e := ⟨_, List.getElem?_eq_getElem hil⟩
  have ⟨he1, he2, he3⟩ := at_map' encEn he
  have hc1 : ((i : Int) < (t.ents.length : Int)) = True := by simp; omega
  rw [cnt_at he] at e2
  refine AW.rT (by rfl) fun K hK => ?_
  simp -implicitDefEqProofs only [go_sem, ↓reduceIte, Nat.reduceAdd, Nat.reduceSub, Nat.reduceMul, Nat.reduceEqDiff, Nat.reduceLeDiff, Int.reduceNeg, reduceCtorEq, Int.reduceToNat, Nat.reduceDiv, Nat.reduceMod, hc1, List.length_map]
  refine hK _ ?_; clear hK K
  refine AW.cond _ (by simp -implicitDefEqProofs only [go_sem, ↓reduceIte, Nat.reduceAdd, Nat.reduceSub, Nat.reduceMul, Nat.reduceEqDiff, Nat.reduceLeDiff, Int.reduceNeg, reduceCtorEq, Int.reduceToNat, Nat.reduceDiv, Nat.reduceMod]; rfl) (fun hc => ?_) (fun hc => ?_)
  rotate_left
  · simp at hc
  refine AW.skip ?_
  simp only [andThen, inBlk, reduceCtorEq, ↓reduceIte, if_t, if_f]
  refine AW.seq ?_
  refine AW.block ?_
  have w0 : IntKind.wrap .i64 ((n : Int) + (e.2.length : Int)) = ((n + e.2.length : Nat) : Int) := by rw [w64] <;> omega
  refine AW.rE (by rfl) fun K hK => ?_
  simp -implicitDefEqProofs only [go_sem, ↓reduceIte, Nat.reduceAdd, Nat.reduceSub, Nat.reduceMul, Nat.reduceEqDiff, Nat.reduceLeDiff, Int.reduceNeg, reduceCtorEq, Int.reduceToNat, Nat.reduceDiv, Nat.reduceMod, he1, he2, he3, hc1, encEn, List.length_map, w0]
  refine hK _ ?_; clear hK K
  simp only [andThen, inBlk, reduceCtorEq, ↓reduceIte, if_t, if_f]
  have w1 : IntKind.wrap .i64 ((i : Int) + 1) = ((i + 1 : Nat) : Int) := by rw [w64] <;> omega
  refine AW.rE (by rfl) fun K hK => ?_
  simp -implicitDefEqProofs only [go_sem, ↓reduceIte, Nat.reduceAdd, Nat.reduceSub, Nat.reduceMul, Nat.reduceEqDiff, Nat.reduceLeDiff, Int.reduceNeg, reduceCtorEq, Int.reduceToNat, Nat.reduceDiv, Nat.reduceMod, w1]
  refine hK _ ?_; clear hK K
  refine ⟨(n + e.2.length, i + 1), ⟨by show i + 1 ≤ t.ents.length; omega, by show n + e.2.length + cntE (t.ents.drop (i + 1)) = m.length; omega⟩, by show t.ents.length - (i + 1) < t.ents.length - i; omega, ?_⟩
  simp only [rzS, cellsT]
  refine Ghost.sub ?_ ?_ <;> simp -implicitDefEqProofs only [go_sem, ↓reduceIte, Nat.reduceAdd, Nat.reduceSub, Nat.reduceMul, Nat.reduceEqDiff, Nat.reduceLeDiff, Int.reduceNeg, reduceCtorEq, Int.reduceToNat, Nat.reduceDiv, Nat.reduceMod,  List.forall_mem_cons, List.not_mem_nil, false_implies, implies_true, and_self, labsIn_lift, List.all_append, List.all_cons, List.all_nil, Nat.reduceLT, labsInL, AV.labsIn]
end Go.Aw
