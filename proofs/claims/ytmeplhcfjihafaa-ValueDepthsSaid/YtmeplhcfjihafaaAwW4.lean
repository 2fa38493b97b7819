/- wire.Sorted. -/
import Derived.Test.YtmeplhcfjihafaaAwW1
namespace Go.Aw
open Go.Proofs
set_option linter.unusedSimpArgs false
set_option linter.unusedVariables false
def zeroR : Raw := ⟨0, 0, 0, []⟩
def insR (s : List Raw) (r : Raw) (k : Nat) : List Raw := s.take k ++ r :: s.drop k
def placeR (s : List Raw) (r : Raw) : Nat → Nat
  | 0 => 0
  | k + 1 => match s[k]? with
    | some x => if r.tag < x.tag then placeR s r k else k + 1
    | none => k + 1
def sortL : List Raw → List Raw → List Raw
  | s, [] => s
  | s, r :: l => sortL (insR s r (placeR s r s.length)) l
def rowS (s : List Raw) (n : Nat) : List (List AV) := liftE ((s ++ List.replicate (n - s.length) zeroR).map encRaw)
theorem rowS_nil (n : Nat) : rowS [] n = List.replicate n [.p (.int .i64 0), .p (.int .i64 0), .p (.int .i64 0), .p (.str [])] := by
  simp [rowS, liftE, encRaw, zeroR]
def soS (l : List Raw) (x : List Raw × List Raw) : St :=
  ⟨ofL [(0, .p (.slice (l.map encRaw))), (3, .own 0), (10, .p (.slice (l.map encRaw))), (11, .p (.int .i64 (l.length : Int))), (12, .p (.int .i64 (x.1.length : Int)))], ofH [(0, .row 4 (rowS x.1 l.length))], 1⟩
theorem rowS_length (s : List Raw) (n : Nat) (h : s.length ≤ n) : (rowS s n).length = n := by
  simp [rowS, liftE]; omega
theorem at_row (s : List Raw) (n k : Nat) (x : Raw) (h : s[k]? = some x) : (rowS s n)[k]? = some [.p (.int .i64 x.tag), .p (.int .i64 x.wire), .p (.int .i64 x.n), .p (.str x.b)] := by
  have hk := (List.getElem?_eq_some_iff.1 h).1
  unfold rowS
  rw [at_lift encRaw (a := x) (by rw [List.getElem?_append_left hk]; exact h)]
  rfl
theorem rowS_four (s : List Raw) (n : Nat) : ∀ f ∈ rowS s n, f.length = 4 := liftE_len fun e he => by
  obtain ⟨a, _, rfl⟩ := List.mem_map.1 he
  rfl
theorem ins_list {α : Type} (R : List α) (x : α) (k m : Nat) (hk : k ≤ m) (hm : m < R.length) : (R.take (k + 1) ++ (R.drop k).take (m - k) ++ R.drop (m + 1)).set k x = R.take k ++ x :: ((R.drop k).take (m - k) ++ R.drop (m + 1)) := by
  obtain ⟨y, hy⟩ : ∃ y, R[k]? = some y := ⟨_, List.getElem?_eq_getElem (by omega)⟩
  rw [List.take_add_one, hy, List.append_assoc, List.append_assoc]
  rw [List.set_append_right _ _ (by rw [List.length_take]; omega)]
  rw [show k - (R.take k).length = 0 by rw [List.length_take]; omega]
  rfl
theorem ins_parts (s : List Raw) (z : List Raw) (a : Raw) (r : Raw) (k : Nat) (hk : k ≤ s.length) :
    (s ++ a :: z).take k ++ r :: (((s ++ a :: z).drop k).take (s.length - k) ++ (s ++ a :: z).drop (s.length + 1)) = insR s r k ++ z := by
  have h1 : (s ++ a :: z).take k = s.take k := List.take_append_of_le_length hk
  have h2 : ((s ++ a :: z).drop k).take (s.length - k) = s.drop k := by
    rw [List.drop_append_of_le_length hk, List.take_append_of_le_length (by simp)]
    rw [List.take_of_length_le (by simp)]
  have h3 : (s ++ a :: z).drop (s.length + 1) = z := by
    rw [List.drop_append]; simp
  rw [h1, h2, h3]
  simp [insR]
def moved (R : List (List AV)) (k m : Nat) : List (List AV) :=
  List.take (k + 1) R ++ List.take (min (List.take (m - k) (List.drop k R)).length (m + 1 - (k + 1))) (List.take (m - k) (List.drop k R)) ++
    List.drop (k + 1 + (List.take (min (List.take (m - k) (List.drop k R)).length (m + 1 - (k + 1))) (List.take (m - k) (List.drop k R))).length) R
theorem moved_eq (R : List (List AV)) (k m : Nat) (hk : k ≤ m) (hm : m < R.length) : moved R k m = R.take (k + 1) ++ (R.drop k).take (m - k) ++ R.drop (m + 1) := by
  unfold moved
  have h1 : (List.take (m - k) (List.drop k R)).length = m - k := by simp; omega
  rw [h1, show min (m - k) (m + 1 - (k + 1)) = m - k by omega, List.take_of_length_le (l := List.take (m - k) (List.drop k R)) (by omega), h1, show k + 1 + (m - k) = m + 1 by omega]
theorem moved_spec (s : List Raw) (r : Raw) (n k : Nat) (hk : k ≤ s.length) (hn : s.length < n) : (moved (rowS s n) k s.length).length = n ∧ (∃ a b c d, (moved (rowS s n) k s.length)[k]? = some [a, b, c, d]) ∧
    (moved (rowS s n) k s.length).set k [.p (.int .i64 r.tag), .p (.int .i64 r.wire), .p (.int .i64 r.n), .p (.str r.b)] = rowS (insR s r k) n := by
  have rl := rowS_length s n (by omega)
  rw [moved_eq _ _ _ hk (by omega)]
  refine ⟨by simp; omega, ?_, ?_⟩
  · obtain ⟨e, he⟩ : ∃ e, (rowS s n)[k]? = some e := ⟨_, List.getElem?_eq_getElem (by omega)⟩
    have h4 := rowS_four s n e (List.mem_of_getElem? he)
    obtain ⟨a, b, c, d, rfl⟩ : ∃ a b c d, e = [a, b, c, d] := by
      match e, h4 with
      | [a, b, c, d], _ => exact ⟨a, b, c, d, rfl⟩
    refine ⟨a, b, c, d, ?_⟩
    rw [List.append_assoc, List.getElem?_append_left (by simp; omega), List.getElem?_take, if_pos (by omega)]
    exact he
  · rw [ins_list _ _ _ _ hk (by omega)]
    obtain ⟨z, hz⟩ : ∃ z, List.replicate (n - s.length) zeroR = zeroR :: z ∧ z = List.replicate (n - (insR s r k).length) zeroR := by
      refine ⟨List.replicate (n - s.length - 1) zeroR, ?_, ?_⟩
      · rw [← List.replicate_succ]; congr 1; omega
      · congr 1; simp [insR]; omega
    unfold rowS liftE
    rw [hz.1, ← hz.2, ← ins_parts s z zeroR r k hk]
    simp only [List.map_append, List.map_cons, List.map_take, List.map_drop]
    rfl
def siS (l s : List Raw) (r : Raw) (k : Nat) : St :=
  ⟨ofL [(0, .p (.slice (l.map encRaw))), (3, .own 0), (4, .p (.int .i64 (s.length : Int))), (5, .ptr 1 0 0), (6, .p (.int .i64 (k : Int))), (10, .p (.slice (l.map encRaw))), (11, .p (.int .i64 (l.length : Int))), (12, .p (.int .i64 (s.length : Int)))],
    ofH [(0, .row 4 (rowS s l.length)), (1, .row 4 [[.p (.int .i64 r.tag), .p (.int .i64 r.wire), .p (.int .i64 r.n), .p (.str r.b)]])], 2⟩
set_option maxRecDepth 100000 in
theorem wire_Sorted (l : List Raw) (hl : l.length ≤ 60) : PFn Try.prog 27 [.slice (l.map encRaw)] (.slice ((sortL [] l).map encRaw)) := by
  refine PFn.of Try.func27 rfl (by decide) Try.ntmps27 Try.results27 (Nat.le_of_ble_eq_true rfl) ?_
  simp only [argsT]
  refine AW.rT (by rfl) fun K hK => ?_
  simp -implicitDefEqProofs only [go_sem, decide_true, decide_false, not_true_eq_false, not_false_eq_true, Bool.false_eq_true, Bool.true_eq_false, ↓reduceIte, Nat.reduceAdd, Nat.reduceSub, Nat.reduceMul, Nat.reduceEqDiff, Nat.reduceLeDiff, Int.reduceNeg, reduceCtorEq, Int.reduceToNat, Int.toNat_natCast, Nat.reduceDiv, Nat.reduceMod, Nat.succ_ne_self, beq_self_eq_true, Bool.not_true, Bool.not_false, Option.some.injEq, exists_eq_left']
  refine hK _ ?_; clear hK K
  refine AW.rT (by rfl) fun K hK => ?_
  simp -implicitDefEqProofs only [go_sem, decide_true, decide_false, not_true_eq_false, not_false_eq_true, Bool.false_eq_true, Bool.true_eq_false, ↓reduceIte, Nat.reduceAdd, Nat.reduceSub, Nat.reduceMul, Nat.reduceEqDiff, Nat.reduceLeDiff, Int.reduceNeg, reduceCtorEq, Int.reduceToNat, Int.toNat_natCast, Nat.reduceDiv, Nat.reduceMod, Nat.succ_ne_self, beq_self_eq_true, Bool.not_true, Bool.not_false, Option.some.injEq, exists_eq_left', List.length_map, ← rowS_nil]
  refine ⟨by omega, ?_⟩
  refine hK _ ?_; clear hK K
  refine AW.seq ?_
  refine AW.rT (by rfl) fun K hK => ?_
  simp -implicitDefEqProofs only [go_sem, decide_true, decide_false, not_true_eq_false, not_false_eq_true, Bool.false_eq_true, Bool.true_eq_false, ↓reduceIte, Nat.reduceAdd, Nat.reduceSub, Nat.reduceMul, Nat.reduceEqDiff, Nat.reduceLeDiff, Int.reduceNeg, reduceCtorEq, Int.reduceToNat, Int.toNat_natCast, Nat.reduceDiv, Nat.reduceMod, Nat.succ_ne_self, beq_self_eq_true, Bool.not_true, Bool.not_false, Option.some.injEq, exists_eq_left']
  refine hK _ ?_; clear hK K
  refine AW.block ?_
  refine AW.loop (soS l) (fun x => x.1.length + x.2.length = l.length ∧ x.2 = l.drop x.1.length ∧ sortL x.1 x.2 = sortL [] l) (fun x => x.2.length) ([], l) ?_ (by simp) fun x hx => ?_
  · simp only [soS]
    refine Ghost.ent (fun _ => 3) ?_ ?_ ?_ <;> simp -implicitDefEqProofs only [go_sem, decide_true, decide_false, not_true_eq_false, not_false_eq_true, Bool.false_eq_true, Bool.true_eq_false, ↓reduceIte, Nat.reduceAdd, Nat.reduceSub, Nat.reduceMul, Nat.reduceEqDiff, Nat.reduceLeDiff, Int.reduceNeg, reduceCtorEq, Int.reduceToNat, Int.toNat_natCast, Nat.reduceDiv, Nat.reduceMod, Nat.succ_ne_self, beq_self_eq_true, Bool.not_true, Bool.not_false, Option.some.injEq, exists_eq_left', rowS, List.length_map, List.length_nil, List.forall_mem_cons, List.not_mem_nil, false_implies, implies_true, and_self, map_renL_lift, labsIn_lift, List.all_append, List.all_cons, List.all_nil, List.map_append, Nat.reduceLT, labsInL, AV.labsIn]
    rfl
  obtain ⟨s, rest⟩ := x
  obtain ⟨h1, h2, h3⟩ := hx
  dsimp only at h1 h2 h3
  simp only [soS]
  refine AW.rT (by rfl) fun K hK => ?_
  simp -implicitDefEqProofs only [go_sem, decide_true, decide_false, not_true_eq_false, not_false_eq_true, Bool.false_eq_true, Bool.true_eq_false, ↓reduceIte, Nat.reduceAdd, Nat.reduceSub, Nat.reduceMul, Nat.reduceEqDiff, Nat.reduceLeDiff, Int.reduceNeg, reduceCtorEq, Int.reduceToNat, Int.toNat_natCast, Nat.reduceDiv, Nat.reduceMod, Nat.succ_ne_self, beq_self_eq_true, Bool.not_true, Bool.not_false, Option.some.injEq, exists_eq_left']
  refine hK _ ?_; clear hK K
  refine AW.seq ?_
  refine AW.cond _ (by simp -implicitDefEqProofs only [go_sem, decide_true, decide_false, not_true_eq_false, not_false_eq_true, Bool.false_eq_true, Bool.true_eq_false, ↓reduceIte, Nat.reduceAdd, Nat.reduceSub, Nat.reduceMul, Nat.reduceEqDiff, Nat.reduceLeDiff, Int.reduceNeg, reduceCtorEq, Int.reduceToNat, Int.toNat_natCast, Nat.reduceDiv, Nat.reduceMod, Nat.succ_ne_self, beq_self_eq_true, Bool.not_true, Bool.not_false, Option.some.injEq, exists_eq_left']; rfl) (fun hc => ?_) (fun hc => ?_)
  · refine AW.skip ?_
    simp only [andThen, inBlk, reduceCtorEq, ↓reduceIte, if_t, if_f]
    simp at hc
    obtain ⟨r, rest, rfl⟩ : ∃ r rest', rest = r :: rest' := by
      cases rest with
      | nil => simp at h1; omega
      | cons r rest => exact ⟨r, rest, rfl⟩
    have hr : l[s.length]? = some r := by
      have := congrArg (fun z => z[0]?) h2
      simpa using this.symm
    have ⟨hr1, hr2, hr3⟩ := at_map' encRaw hr
    have er : (encRaw r).length = 4 := rfl
    refine AW.seq ?_
    refine AW.block ?_
    refine AW.rT (by rfl) fun K hK => ?_
    simp -implicitDefEqProofs only [go_sem, decide_true, decide_false, not_true_eq_false, not_false_eq_true, Bool.false_eq_true, Bool.true_eq_false, ↓reduceIte, Nat.reduceAdd, Nat.reduceSub, Nat.reduceMul, Nat.reduceEqDiff, Nat.reduceLeDiff, Int.reduceNeg, reduceCtorEq, Int.reduceToNat, Int.toNat_natCast, Nat.reduceDiv, Nat.reduceMod, Nat.succ_ne_self, beq_self_eq_true, Bool.not_true, Bool.not_false, Option.some.injEq, exists_eq_left', hr1, hr2, hr3, encRaw]
    refine hK _ ?_; clear hK K
    refine AW.rT (by rfl) fun K hK => ?_
    simp -implicitDefEqProofs only [go_sem, decide_true, decide_false, not_true_eq_false, not_false_eq_true, Bool.false_eq_true, Bool.true_eq_false, ↓reduceIte, Nat.reduceAdd, Nat.reduceSub, Nat.reduceMul, Nat.reduceEqDiff, Nat.reduceLeDiff, Int.reduceNeg, reduceCtorEq, Int.reduceToNat, Int.toNat_natCast, Nat.reduceDiv, Nat.reduceMod, Nat.succ_ne_self, beq_self_eq_true, Bool.not_true, Bool.not_false, Option.some.injEq, exists_eq_left']
    refine hK _ ?_; clear hK K
    have rl := rowS_length s l.length (by omega)
    refine AW.cut (siS l s r) (fun k => k ≤ s.length ∧ placeR s r s.length = k) ?_ fun k hk => ?_
    refine AW.block ?_
    refine AW.loop (siS l s r) (fun k => k ≤ s.length ∧ placeR s r s.length = placeR s r k) (fun k => k) s.length ?_ (by simp) fun k hk => ?_
    · try simp only [siS]
      refine Ghost.ent (fun x => if x = 0 then 0 else 5) ?_ ?_ ?_ <;> simp -implicitDefEqProofs only [go_sem, decide_true, decide_false, not_true_eq_false, not_false_eq_true, Bool.false_eq_true, Bool.true_eq_false, ↓reduceIte, Nat.reduceAdd, Nat.reduceSub, Nat.reduceMul, Nat.reduceEqDiff, Nat.reduceLeDiff, Int.reduceNeg, reduceCtorEq, Int.reduceToNat, Int.toNat_natCast, Nat.reduceDiv, Nat.reduceMod, Nat.succ_ne_self, beq_self_eq_true, Bool.not_true, Bool.not_false, Option.some.injEq, exists_eq_left', rowS, List.forall_mem_cons, List.not_mem_nil, false_implies, implies_true, and_self, map_renL_lift, labsIn_lift, List.all_append, List.all_cons, List.all_nil, List.map_append, Nat.reduceLT, labsInL, AV.labsIn]
    obtain ⟨hk, hp⟩ := hk
    try simp only [siS]
    refine AW.seq ?_
    cases k with
    | zero =>
      have i0 : (((0 : Nat) : Int) > 0) = False := by simp
      refine AW.dT mixed (by rfl) (by decide +kernel) fun K hK => ?_
      simp -implicitDefEqProofs only [go_sem, decide_true, decide_false, not_true_eq_false, not_false_eq_true, Bool.false_eq_true, Bool.true_eq_false, ↓reduceIte, Nat.reduceAdd, Nat.reduceSub, Nat.reduceMul, Nat.reduceEqDiff, Nat.reduceLeDiff, Int.reduceNeg, reduceCtorEq, Int.reduceToNat, Int.toNat_natCast, Nat.reduceDiv, Nat.reduceMod, Nat.succ_ne_self, beq_self_eq_true, Bool.not_true, Bool.not_false, Option.some.injEq, exists_eq_left', i0]
      refine ⟨heapOK_nil rfl, ?_⟩
      refine hK _ ?_; clear hK K
      refine AW.cond _ (by simp -implicitDefEqProofs only [go_sem, decide_true, decide_false, not_true_eq_false, not_false_eq_true, Bool.false_eq_true, Bool.true_eq_false, ↓reduceIte, Nat.reduceAdd, Nat.reduceSub, Nat.reduceMul, Nat.reduceEqDiff, Nat.reduceLeDiff, Int.reduceNeg, reduceCtorEq, Int.reduceToNat, Int.toNat_natCast, Nat.reduceDiv, Nat.reduceMod, Nat.succ_ne_self, beq_self_eq_true, Bool.not_true, Bool.not_false, Option.some.injEq, exists_eq_left']; rfl) (fun hc => ?_) (fun hc => ?_)
      · simp at hc
      refine AW.exit ?_
      simp only [andThen, inBlk, reduceCtorEq, ↓reduceIte, if_t, if_f]
      refine ⟨0, ⟨by omega, by rw [hp]; rfl⟩, ?_⟩
      try simp only [siS]
      refine Ghost.sub ?_ ?_ <;> simp -implicitDefEqProofs only [go_sem, decide_true, decide_false, not_true_eq_false, not_false_eq_true, Bool.false_eq_true, Bool.true_eq_false, ↓reduceIte, Nat.reduceAdd, Nat.reduceSub, Nat.reduceMul, Nat.reduceEqDiff, Nat.reduceLeDiff, Int.reduceNeg, reduceCtorEq, Int.reduceToNat, Int.toNat_natCast, Nat.reduceDiv, Nat.reduceMod, Nat.succ_ne_self, beq_self_eq_true, Bool.not_true, Bool.not_false, Option.some.injEq, exists_eq_left', rowS, List.forall_mem_cons, List.not_mem_nil, false_implies, implies_true, and_self, labsIn_lift, List.all_append, List.all_cons, List.all_nil, Nat.reduceLT, labsInL, AV.labsIn]
    | succ k =>
      obtain ⟨x, hx⟩ : ∃ x, s[k]? = some x := ⟨_, List.getElem?_eq_getElem (by omega)⟩
      have hrow := at_row s l.length k x hx
      have w1 : IntKind.wrap .i64 (((k + 1 : Nat) : Int) - 1) = (k : Int) := by rw [w64] <;> omega
      have i1 : (((k + 1 : Nat) : Int) > 0) = True := by simp
      have b1 : (0 ≤ (k : Int)) = True := by simp
      have b2 : ((k : Int) < (l.length : Int)) = True := by simp; omega
      refine AW.dT mixed (by rfl) (by decide +kernel) fun K hK => ?_
      simp -implicitDefEqProofs only [go_sem, decide_true, decide_false, not_true_eq_false, not_false_eq_true, Bool.false_eq_true, Bool.true_eq_false, ↓reduceIte, Nat.reduceAdd, Nat.reduceSub, Nat.reduceMul, Nat.reduceEqDiff, Nat.reduceLeDiff, Int.reduceNeg, reduceCtorEq, Int.reduceToNat, Int.toNat_natCast, Nat.reduceDiv, Nat.reduceMod, Nat.succ_ne_self, beq_self_eq_true, Bool.not_true, Bool.not_false, Option.some.injEq, exists_eq_left', i1, w1, hrow, rl, b1, b2]
      refine ⟨heapOK_nil rfl, ?_⟩
      refine hK _ ?_; clear hK K
      have hpl : placeR s r (k + 1) = if r.tag < x.tag then placeR s r k else k + 1 := by
        simp only [placeR, hx]
      refine AW.cond _ (by simp -implicitDefEqProofs only [go_sem, decide_true, decide_false, not_true_eq_false, not_false_eq_true, Bool.false_eq_true, Bool.true_eq_false, ↓reduceIte, Nat.reduceAdd, Nat.reduceSub, Nat.reduceMul, Nat.reduceEqDiff, Nat.reduceLeDiff, Int.reduceNeg, reduceCtorEq, Int.reduceToNat, Int.toNat_natCast, Nat.reduceDiv, Nat.reduceMod, Nat.succ_ne_self, beq_self_eq_true, Bool.not_true, Bool.not_false, Option.some.injEq, exists_eq_left']; rfl) (fun hc => ?_) (fun hc => ?_)
      · refine AW.skip ?_
        simp only [andThen, inBlk, reduceCtorEq, ↓reduceIte, if_t, if_f]
        simp at hc
        rw [if_pos hc] at hpl
        refine AW.block ?_
        refine AW.rE (by rfl) fun K hK => ?_
        simp -implicitDefEqProofs only [go_sem, decide_true, decide_false, not_true_eq_false, not_false_eq_true, Bool.false_eq_true, Bool.true_eq_false, ↓reduceIte, Nat.reduceAdd, Nat.reduceSub, Nat.reduceMul, Nat.reduceEqDiff, Nat.reduceLeDiff, Int.reduceNeg, reduceCtorEq, Int.reduceToNat, Int.toNat_natCast, Nat.reduceDiv, Nat.reduceMod, Nat.succ_ne_self, beq_self_eq_true, Bool.not_true, Bool.not_false, Option.some.injEq, exists_eq_left', w1]
        refine hK _ ?_; clear hK K
        refine ⟨k, ⟨by omega, by rw [hp, hpl]⟩, by omega, ?_⟩
        try simp only [siS]
        refine Ghost.sub ?_ ?_ <;> simp -implicitDefEqProofs only [go_sem, decide_true, decide_false, not_true_eq_false, not_false_eq_true, Bool.false_eq_true, Bool.true_eq_false, ↓reduceIte, Nat.reduceAdd, Nat.reduceSub, Nat.reduceMul, Nat.reduceEqDiff, Nat.reduceLeDiff, Int.reduceNeg, reduceCtorEq, Int.reduceToNat, Int.toNat_natCast, Nat.reduceDiv, Nat.reduceMod, Nat.succ_ne_self, beq_self_eq_true, Bool.not_true, Bool.not_false, Option.some.injEq, exists_eq_left', rowS, List.forall_mem_cons, List.not_mem_nil, false_implies, implies_true, and_self, labsIn_lift, List.all_append, List.all_cons, List.all_nil, Nat.reduceLT, labsInL, AV.labsIn]
      · refine AW.exit ?_
        simp only [andThen, inBlk, reduceCtorEq, ↓reduceIte, if_t, if_f]
        simp at hc
        rw [if_neg (by omega)] at hpl
        refine ⟨k + 1, ⟨by omega, by rw [hp, hpl]⟩, ?_⟩
        try simp only [siS]
        refine Ghost.sub ?_ ?_ <;> simp -implicitDefEqProofs only [go_sem, decide_true, decide_false, not_true_eq_false, not_false_eq_true, Bool.false_eq_true, Bool.true_eq_false, ↓reduceIte, Nat.reduceAdd, Nat.reduceSub, Nat.reduceMul, Nat.reduceEqDiff, Nat.reduceLeDiff, Int.reduceNeg, reduceCtorEq, Int.reduceToNat, Int.toNat_natCast, Nat.reduceDiv, Nat.reduceMod, Nat.succ_ne_self, beq_self_eq_true, Bool.not_true, Bool.not_false, Option.some.injEq, exists_eq_left', rowS, List.forall_mem_cons, List.not_mem_nil, false_implies, implies_true, and_self, labsIn_lift, List.all_append, List.all_cons, List.all_nil, Nat.reduceLT, labsInL, AV.labsIn]
    · obtain ⟨hk, hp⟩ := hk
      try simp only [siS]
      have w1 : IntKind.wrap .i64 ((k : Int) + 1) = ((k + 1 : Nat) : Int) := by rw [w64] <;> omega
      have w2 : IntKind.wrap .i64 ((s.length : Int) + 1) = ((s.length + 1 : Nat) : Int) := by rw [w64] <;> omega
      have rl := rowS_length s l.length (by omega)
      have rne : (rowS s l.length ≠ []) = True := by
        simp only [eq_iff_iff, iff_true]
        intro h; rw [h] at rl; simp at rl; omega
      refine AW.dT mixed (by rfl) (by decide +kernel) fun K hK => ?_
      simp -implicitDefEqProofs only [go_sem, decide_true, decide_false, not_true_eq_false, not_false_eq_true, Bool.false_eq_true, Bool.true_eq_false, ↓reduceIte, Nat.reduceAdd, Nat.reduceSub, Nat.reduceMul, Nat.reduceEqDiff, Nat.reduceLeDiff, Int.reduceNeg, reduceCtorEq, Int.reduceToNat, Int.toNat_natCast, Nat.reduceDiv, Nat.reduceMod, Nat.succ_ne_self, beq_self_eq_true, Bool.not_true, Bool.not_false, Option.some.injEq, exists_eq_left', w1, w2, rl, rne]
      refine ⟨by omega, by omega, ⟨by omega, ?_⟩, by decide +kernel, ?_⟩
      · intro f hf
        exact rowS_four s l.length f (List.mem_of_mem_drop (List.mem_of_mem_take hf))
      refine hK _ ?_; clear hK K
      obtain ⟨m1, ⟨a, b, c, d, m2⟩, m3⟩ := moved_spec s r l.length k hk (by omega)
      have m0 := moved.eq_1 (rowS s l.length) k s.length
      simp only [← m0]
      generalize moved (rowS s l.length) k s.length = row2 at m1 m2 m3
      refine AW.rE (by rfl) fun K hK => ?_
      simp -implicitDefEqProofs only [go_sem, decide_true, decide_false, not_true_eq_false, not_false_eq_true, Bool.false_eq_true, Bool.true_eq_false, ↓reduceIte, Nat.reduceAdd, Nat.reduceSub, Nat.reduceMul, Nat.reduceEqDiff, Nat.reduceLeDiff, Int.reduceNeg, reduceCtorEq, Int.reduceToNat, Int.toNat_natCast, Nat.reduceDiv, Nat.reduceMod, Nat.succ_ne_self, beq_self_eq_true, Bool.not_true, Bool.not_false, Option.some.injEq, exists_eq_left', m1, m2, m3]
      refine ⟨by omega, ?_⟩
      refine hK _ ?_; clear hK K
      simp only [andThen, inBlk, reduceCtorEq, ↓reduceIte, if_t, if_f]
      refine AW.rE (by rfl) fun K hK => ?_
      simp -implicitDefEqProofs only [go_sem, decide_true, decide_false, not_true_eq_false, not_false_eq_true, Bool.false_eq_true, Bool.true_eq_false, ↓reduceIte, Nat.reduceAdd, Nat.reduceSub, Nat.reduceMul, Nat.reduceEqDiff, Nat.reduceLeDiff, Int.reduceNeg, reduceCtorEq, Int.reduceToNat, Int.toNat_natCast, Nat.reduceDiv, Nat.reduceMod, Nat.succ_ne_self, beq_self_eq_true, Bool.not_true, Bool.not_false, Option.some.injEq, exists_eq_left', w2]
      refine hK _ ?_; clear hK K
      have li : (insR s r k).length = s.length + 1 := by simp [insR]; omega
      refine ⟨(insR s r k, rest), ⟨?_, ?_, ?_⟩, by simp, ?_⟩
      · simp only [li]; simp at h1; omega
      · have := congrArg List.tail h2
        rw [li]
        simpa using this
      · rw [← h3, sortL, hp]
      · simp only [soS, li]
        refine Ghost.sub ?_ ?_ <;> simp -implicitDefEqProofs only [go_sem, decide_true, decide_false, not_true_eq_false, not_false_eq_true, Bool.false_eq_true, Bool.true_eq_false, ↓reduceIte, Nat.reduceAdd, Nat.reduceSub, Nat.reduceMul, Nat.reduceEqDiff, Nat.reduceLeDiff, Int.reduceNeg, reduceCtorEq, Int.reduceToNat, Int.toNat_natCast, Nat.reduceDiv, Nat.reduceMod, Nat.succ_ne_self, beq_self_eq_true, Bool.not_true, Bool.not_false, Option.some.injEq, exists_eq_left', rowS, List.forall_mem_cons, List.not_mem_nil, false_implies, implies_true, and_self, labsIn_lift, List.all_append, List.all_cons, List.all_nil, Nat.reduceLT, labsInL, AV.labsIn]
  · simp at hc
    refine AW.exit ?_
    simp only [andThen, inBlk, reduceCtorEq, ↓reduceIte, if_t, if_f]
    have hrest : rest = [] := by
      cases rest with
      | nil => rfl
      | cons r rest => simp at h1; omega
    subst hrest
    have hs : s.length = l.length := by simp at h1; omega
    have hrow : rowS s l.length = liftE (s.map encRaw) := by unfold rowS; rw [hs]; simp
    rw [← h3]
    simp only [sortL]
    refine AW.rT (by rfl) fun K hK => ?_
    simp -implicitDefEqProofs only [go_sem, decide_true, decide_false, not_true_eq_false, not_false_eq_true, Bool.false_eq_true, Bool.true_eq_false, ↓reduceIte, Nat.reduceAdd, Nat.reduceSub, Nat.reduceMul, Nat.reduceEqDiff, Nat.reduceLeDiff, Int.reduceNeg, reduceCtorEq, Int.reduceToNat, Int.toNat_natCast, Nat.reduceDiv, Nat.reduceMod, Nat.succ_ne_self, beq_self_eq_true, Bool.not_true, Bool.not_false, Option.some.injEq, exists_eq_left', hrow]
    refine hK _ ?_; clear hK K
    refine AW.ret ?_
    simp -implicitDefEqProofs only [go_sem, decide_true, decide_false, not_true_eq_false, not_false_eq_true, Bool.false_eq_true, Bool.true_eq_false, ↓reduceIte, Nat.reduceAdd, Nat.reduceSub, Nat.reduceMul, Nat.reduceEqDiff, Nat.reduceLeDiff, Int.reduceNeg, reduceCtorEq, Int.reduceToNat, Int.toNat_natCast, Nat.reduceDiv, Nat.reduceMod, Nat.succ_ne_self, beq_self_eq_true, Bool.not_true, Bool.not_false, Option.some.injEq, exists_eq_left']
end Go.Aw
