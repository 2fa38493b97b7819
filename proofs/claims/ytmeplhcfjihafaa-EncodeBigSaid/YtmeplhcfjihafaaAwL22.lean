/- The law EncodeBig. -/
import Derived.Test.YtmeplhcfjihafaaAwE3
namespace Go.Aw
open Go.Proofs
set_option linter.unusedSimpArgs false
set_option linter.unusedVariables false
def zs (n : Nat) : List UInt8 := List.replicate n 0
def bigT (n : Nat) : Tr := .mk 3 0 [] [(1, [.mk 2 0 (zs n) [] []])] []
theorem big_lens (n : Nat) : lensT (bigT n) = true := by rfl
theorem big_ok (n : Nat) : okT (bigT n) = true := by
  simp [okT, bigT, dT, dE, dTs, rightT, rightE, rightTs, headK, Tr.kind, restT, rising]
theorem big_fld (n : Nat) (h : n ≤ 4096) : fldE (bigT n).ents = ([⟨1, 1, 0, zs n⟩], 0) := by
  have : ¬ 4096 < (zs n).length := by simp [zs]; omega
  simp [bigT, Tr.ents, fldE, fldL, fldR, this]
theorem big_over (n : Nat) (h : 4096 < n) : fldE (bigT n).ents = ([], 4) := by
  have : 4096 < (zs n).length := by simp [zs]; omega
  simp [bigT, Tr.ents, fldE, fldL, fldR, this]
theorem big_put (n : Nat) (h : n ≤ 4096) : encA (bigT n) = if (varint 3 ++ (varint n ++ zs n)).length ≤ 4096 then (varint 3 ++ (varint n ++ zs n), 0) else ([], 4) := by
  have hf := big_fld n h
  rw [encA, if_pos ⟨big_ok n, rfl⟩, bytesT, rawsT, hf]
  have e0 : (bigT n).rest = [] := rfl
  have hs : sortL [] ([⟨1, 1, 0, zs n⟩] : List Raw) = [⟨1, 1, 0, zs n⟩] := by simp [sortL, insR, placeR]
  have hc : checkR ⟨1, 1, 0, zs n⟩ = true := checkR_of (by simp) (by simp) (.inr ⟨rfl, rfl, by simp [zs]; omega⟩)
  have hk : keyR ⟨1, 1, 0, zs n⟩ = 3 := by simp [keyR]
  have hp : putR ⟨1, 1, 0, zs n⟩ = varint 3 ++ (varint n ++ zs n) := by
    unfold putR
    rw [hk, if_neg (by simp)]
    simp [zs]
  have hw : flatR [⟨1, 1, 0, zs n⟩] = varint 3 ++ (varint n ++ zs n) := by
    unfold flatR
    rw [List.flatMap_cons, List.flatMap_nil, List.append_nil, hp]
  have ha : ([⟨1, 1, 0, zs n⟩] : List Raw).all checkR = true := by rw [List.all_cons, hc]; rfl
  have hz : sortL [] (([] : List Raw) ++ [⟨1, 1, 0, zs n⟩]) = [⟨1, 1, 0, zs n⟩] := hs
  rw [e0]
  simp only [ne_eq, not_true_eq_false, if_false, hz]
  unfold wirePut
  rw [if_pos ha, hw]
theorem v3 : (varint 3).length = 1 := by rw [varint_small (by omega)]; rfl
theorem zsl (n : Nat) : (zs n).length = n := List.length_replicate ..
theorem big_err (n : Nat) (h : 4096 < n) : encA (bigT n) = ([], 4) := by
  rw [encA, if_pos ⟨big_ok n, rfl⟩, bytesT, rawsT, big_over n h]
  simp
theorem varint2 (n : Nat) (h : 128 ≤ n) (h' : n < 16384) : (varint n).length = 2 := by
  rw [varint_big (by omega), varint_small (by omega)]
  rfl
theorem big_at : ∃ X, encA (bigT 4093) = (X, 0) ∧ X.length = 4096 := by
  have e : (varint 3 ++ (varint 4093 ++ zs 4093)).length = 4096 := by
    rw [List.length_append, List.length_append, varint2 4093 (by omega) (by omega), v3, zsl]
  rw [big_put 4093 (by omega), if_pos (by omega)]
  exact ⟨_, rfl, e⟩
theorem big_at1 : encA (bigT 4094) = ([], 4) := by
  have e : (varint 3 ++ (varint 4094 ++ zs 4094)).length = 4097 := by
    rw [List.length_append, List.length_append, varint2 4094 (by omega) (by omega), v3, zsl]
  rw [big_put 4094 (by omega), if_neg (by omega)]
theorem big_five : ∃ X, encA (bigT 5) = (X, 0) ∧ X.length = 7 := by
  have e : (varint 3 ++ (varint 5 ++ zs 5)).length = 7 := by
    rw [List.length_append, List.length_append, v3, zsl, varint_small (by omega)]
    rfl
  rw [big_put 5 (by omega), if_pos (by omega)]
  exact ⟨_, rfl, e⟩
def bgS (n : Nat) : St := ⟨ofL [(2, .ptr 0 0 0)], ofH [(0, .row 5 [[.p (.int .i64 3), .p (.int .i64 0), .p (.str []), .p (.slice [[.int .i64 1, .slice [[.int .i64 2, .int .i64 0, .str (zs n), .slice [], .slice []]]]]), .ex []]])], 1⟩
theorem tree_big (n : Nat) (hn : n ≤ 100000) : PFn Try.prog 71 [.int .i64 (n : Int)] (.agg (encTr (bigT n))) := by
  have eb : bytesOf (List.replicate n [AV.p (.int .u8 0)]) = some (zs n) := by
    have := bytesOf_lift (zs n)
    simp only [zs, liftE, List.map_replicate] at this
    exact this
  have ei : encTr (bigT n) = [.int .i64 3, .int .i64 0, .str [], .slice [[.int .i64 1, .slice [[.int .i64 2, .int .i64 0, .str (zs n), .slice [], .slice []]]]], .slice []] := by
    simp [encTr_eq, bigT, Tr.kind, Tr.n, Tr.s, Tr.ents, Tr.rest, encEn]
  rw [ei]
  refine PFn.of Try.func71 rfl (by decide) Try.ntmps71 Try.results71 (Nat.le_of_ble_eq_true rfl) ?_
  simp only [argsT]
  refine AW.rT (by rfl) fun K hK => ?_
  simp -implicitDefEqProofs only [go_sem, ↓reduceIte, Nat.reduceAdd, Nat.reduceSub, Nat.reduceMul, Nat.reduceEqDiff, Nat.reduceLeDiff, Int.reduceNeg, reduceCtorEq, Int.reduceToNat, Nat.reduceDiv, Nat.reduceMod]
  refine hK _ ?_; clear hK K
  refine AW.rT (by rfl) fun K hK => ?_
  simp -implicitDefEqProofs only [go_sem, ↓reduceIte, Nat.reduceAdd, Nat.reduceSub, Nat.reduceMul, Nat.reduceEqDiff, Nat.reduceLeDiff, Int.reduceNeg, reduceCtorEq, Int.reduceToNat, Nat.reduceDiv, Nat.reduceMod, eb, Int.toNat_natCast]
  refine ⟨⟨by omega, by omega⟩, ?_⟩
  try simp -implicitDefEqProofs only [go_sem, ↓reduceIte, Nat.reduceAdd, Nat.reduceSub, Nat.reduceMul, Nat.reduceEqDiff, Nat.reduceLeDiff, Int.reduceNeg, reduceCtorEq, Int.reduceToNat, Nat.reduceDiv, Nat.reduceMod, eb, Int.toNat_natCast]
  refine hK _ ?_; clear hK K
  refine AW.ghost (s' := bgS n) (Ghost.trans (Ghost.freeze (lb := 5) (ps := [[.int .i64 2, .int .i64 0, .str (zs n), .slice [], .slice []]]) rfl rfl) (Ghost.trans (Ghost.freeze (lb := 7) (ps := [[.int .i64 1, .slice [[.int .i64 2, .int .i64 0, .str (zs n), .slice [], .slice []]]]]) (by rfl) (by rfl)) ?_)) ?_
  · simp only [bgS]
    refine Ghost.sub ?_ ?_ <;> simp -implicitDefEqProofs only [go_sem, ↓reduceIte, Nat.reduceAdd, Nat.reduceSub, Nat.reduceMul, Nat.reduceEqDiff, Nat.reduceLeDiff, Int.reduceNeg, reduceCtorEq, Int.reduceToNat, Nat.reduceDiv, Nat.reduceMod, thaw, thaw1, Option.map_some, List.take_length, List.map_cons, List.map_nil, List.forall_mem_cons, List.not_mem_nil, false_implies, implies_true, and_self, labsIn_lift, List.all_append, List.all_cons, List.all_nil, Nat.reduceLT, labsInL, AV.labsIn]
  simp only [bgS]
  refine AW.ret ?_
  simp -implicitDefEqProofs only [go_sem, ↓reduceIte, Nat.reduceAdd, Nat.reduceSub, Nat.reduceMul, Nat.reduceEqDiff, Nat.reduceLeDiff, Int.reduceNeg, reduceCtorEq, Int.reduceToNat, Nat.reduceDiv, Nat.reduceMod]
set_option maxRecDepth 100000 in
set_option maxHeartbeats 4000000 in
theorem law11_Big : PFn Try.prog 22 [] (.bool true) := by
  have T1 := tree_big 4093 (by omega)
  have T2 := tree_big 4094 (by omega)
  have T3 := tree_big 4097 (by omega)
  have T4 := tree_big 5 (by omega)
  have E1 := enc_Encode (bigT 4093) (big_lens _)
  have E2 := enc_Encode (bigT 4094) (big_lens _)
  have E3 := enc_Encode (bigT 4097) (big_lens _)
  have E4 := enc_Len (bigT 5) (big_lens _)
  have E5 := enc_Encode (.mk 1 0 [] [] []) (by rfl)
  have E6 := enc_Encode (.mk 3 0 [] [] []) (by rfl)
  obtain ⟨X, x1, x2⟩ := big_at
  obtain ⟨Y, y1, y2⟩ := big_five
  have a5 : encA (.mk 1 0 [] [] []) = ([], 1) := by decide +kernel
  have a6 : encA (.mk 3 0 [] [] []) = ([], 0) := by decide +kernel
  rw [x1] at E1
  rw [big_at1] at E2
  rw [big_err 4097 (by omega)] at E3
  rw [y1] at E4
  rw [a5, encTr_eq] at E5
  rw [a6, encTr_eq] at E6
  simp only [Tr.kind, Tr.n, Tr.s, Tr.ents, Tr.rest, List.map_nil] at E5 E6
  simp only [y2] at E4
  generalize encTr (bigT 4093) = t1 at T1 E1
  generalize encTr (bigT 4094) = t2 at T2 E2
  generalize encTr (bigT 4097) = t3 at T3 E3
  generalize encTr (bigT 5) = t4 at T4 E4
  have b1 : ((X.length : Int) == 4096) = true := by rw [x2]; rfl
  have b2 : ((([] : List (List PV)).length : Int) == 0) = true := by simp
  have b3 : (((0 : Nat) : Int) == 0) = true := by simp
  refine PFn.of Try.func22 rfl (by decide) Try.ntmps22 Try.results22 (Nat.le_of_ble_eq_true rfl) ?_
  simp only [argsT]
  refine AW.rT (by rfl) fun K hK => ?_
  simp -implicitDefEqProofs only [go_sem, ↓reduceIte, Nat.reduceAdd, Nat.reduceSub, Nat.reduceMul, Nat.reduceEqDiff, Nat.reduceLeDiff, Int.reduceNeg, reduceCtorEq, Int.reduceToNat, Nat.reduceDiv, Nat.reduceMod]
  refine hK _ ?_; clear hK K
  refine AW.rT (by rfl) fun K hK => ?_
  simp -implicitDefEqProofs only [go_sem, ↓reduceIte, Nat.reduceAdd, Nat.reduceSub, Nat.reduceMul, Nat.reduceEqDiff, Nat.reduceLeDiff, Int.reduceNeg, reduceCtorEq, Int.reduceToNat, Nat.reduceDiv, Nat.reduceMod]
  refine hK _ ?_; clear hK K
  refine AW.rT (by rfl) fun K hK => ?_
  simp -implicitDefEqProofs only [go_sem, ↓reduceIte, Nat.reduceAdd, Nat.reduceSub, Nat.reduceMul, Nat.reduceEqDiff, Nat.reduceLeDiff, Int.reduceNeg, reduceCtorEq, Int.reduceToNat, Nat.reduceDiv, Nat.reduceMod]
  refine ⟨.pure _, T1, ?_⟩
  try simp -implicitDefEqProofs only [go_sem, ↓reduceIte, Nat.reduceAdd, Nat.reduceSub, Nat.reduceMul, Nat.reduceEqDiff, Nat.reduceLeDiff, Int.reduceNeg, reduceCtorEq, Int.reduceToNat, Nat.reduceDiv, Nat.reduceMod]
  refine ⟨.pure _, E1, ?_⟩
  try simp -implicitDefEqProofs only [go_sem, ↓reduceIte, Nat.reduceAdd, Nat.reduceSub, Nat.reduceMul, Nat.reduceEqDiff, Nat.reduceLeDiff, Int.reduceNeg, reduceCtorEq, Int.reduceToNat, Nat.reduceDiv, Nat.reduceMod]
  refine hK _ ?_; clear hK K
  refine AW.rT (by rfl) fun K hK => ?_
  simp -implicitDefEqProofs only [go_sem, ↓reduceIte, Nat.reduceAdd, Nat.reduceSub, Nat.reduceMul, Nat.reduceEqDiff, Nat.reduceLeDiff, Int.reduceNeg, reduceCtorEq, Int.reduceToNat, Nat.reduceDiv, Nat.reduceMod]
  refine ⟨.pure _, T2, ?_⟩
  try simp -implicitDefEqProofs only [go_sem, ↓reduceIte, Nat.reduceAdd, Nat.reduceSub, Nat.reduceMul, Nat.reduceEqDiff, Nat.reduceLeDiff, Int.reduceNeg, reduceCtorEq, Int.reduceToNat, Nat.reduceDiv, Nat.reduceMod]
  refine ⟨.pure _, E2, ?_⟩
  try simp -implicitDefEqProofs only [go_sem, ↓reduceIte, Nat.reduceAdd, Nat.reduceSub, Nat.reduceMul, Nat.reduceEqDiff, Nat.reduceLeDiff, Int.reduceNeg, reduceCtorEq, Int.reduceToNat, Nat.reduceDiv, Nat.reduceMod]
  refine hK _ ?_; clear hK K
  refine AW.rT (by rfl) fun K hK => ?_
  simp -implicitDefEqProofs only [go_sem, ↓reduceIte, Nat.reduceAdd, Nat.reduceSub, Nat.reduceMul, Nat.reduceEqDiff, Nat.reduceLeDiff, Int.reduceNeg, reduceCtorEq, Int.reduceToNat, Nat.reduceDiv, Nat.reduceMod]
  refine ⟨.pure _, T3, ?_⟩
  try simp -implicitDefEqProofs only [go_sem, ↓reduceIte, Nat.reduceAdd, Nat.reduceSub, Nat.reduceMul, Nat.reduceEqDiff, Nat.reduceLeDiff, Int.reduceNeg, reduceCtorEq, Int.reduceToNat, Nat.reduceDiv, Nat.reduceMod]
  refine ⟨.pure _, E3, ?_⟩
  try simp -implicitDefEqProofs only [go_sem, ↓reduceIte, Nat.reduceAdd, Nat.reduceSub, Nat.reduceMul, Nat.reduceEqDiff, Nat.reduceLeDiff, Int.reduceNeg, reduceCtorEq, Int.reduceToNat, Nat.reduceDiv, Nat.reduceMod]
  refine hK _ ?_; clear hK K
  refine AW.rT (by rfl) fun K hK => ?_
  simp -implicitDefEqProofs only [go_sem, ↓reduceIte, Nat.reduceAdd, Nat.reduceSub, Nat.reduceMul, Nat.reduceEqDiff, Nat.reduceLeDiff, Int.reduceNeg, reduceCtorEq, Int.reduceToNat, Nat.reduceDiv, Nat.reduceMod]
  refine ⟨.pure _, E5, ?_⟩
  try simp -implicitDefEqProofs only [go_sem, ↓reduceIte, Nat.reduceAdd, Nat.reduceSub, Nat.reduceMul, Nat.reduceEqDiff, Nat.reduceLeDiff, Int.reduceNeg, reduceCtorEq, Int.reduceToNat, Nat.reduceDiv, Nat.reduceMod]
  refine hK _ ?_; clear hK K
  refine AW.rT (by rfl) fun K hK => ?_
  simp -implicitDefEqProofs only [go_sem, ↓reduceIte, Nat.reduceAdd, Nat.reduceSub, Nat.reduceMul, Nat.reduceEqDiff, Nat.reduceLeDiff, Int.reduceNeg, reduceCtorEq, Int.reduceToNat, Nat.reduceDiv, Nat.reduceMod]
  refine ⟨.pure _, E6, ?_⟩
  try simp -implicitDefEqProofs only [go_sem, ↓reduceIte, Nat.reduceAdd, Nat.reduceSub, Nat.reduceMul, Nat.reduceEqDiff, Nat.reduceLeDiff, Int.reduceNeg, reduceCtorEq, Int.reduceToNat, Nat.reduceDiv, Nat.reduceMod]
  refine hK _ ?_; clear hK K
  refine AW.rT (by rfl) fun K hK => ?_
  simp -implicitDefEqProofs only [go_sem, ↓reduceIte, Nat.reduceAdd, Nat.reduceSub, Nat.reduceMul, Nat.reduceEqDiff, Nat.reduceLeDiff, Int.reduceNeg, reduceCtorEq, Int.reduceToNat, Nat.reduceDiv, Nat.reduceMod, List.length_map, b1, b2, b3]
  try simp -implicitDefEqProofs only [go_sem, ↓reduceIte, Nat.reduceAdd, Nat.reduceSub, Nat.reduceMul, Nat.reduceEqDiff, Nat.reduceLeDiff, Int.reduceNeg, reduceCtorEq, Int.reduceToNat, Nat.reduceDiv, Nat.reduceMod, Int.natCast_zero, Int.ofNat_zero]
  refine ⟨.pure _, T4, ?_⟩
  try simp -implicitDefEqProofs only [go_sem, ↓reduceIte, Nat.reduceAdd, Nat.reduceSub, Nat.reduceMul, Nat.reduceEqDiff, Nat.reduceLeDiff, Int.reduceNeg, reduceCtorEq, Int.reduceToNat, Nat.reduceDiv, Nat.reduceMod]
  refine ⟨.pure _, E4, ?_⟩
  try simp -implicitDefEqProofs only [go_sem, ↓reduceIte, Nat.reduceAdd, Nat.reduceSub, Nat.reduceMul, Nat.reduceEqDiff, Nat.reduceLeDiff, Int.reduceNeg, reduceCtorEq, Int.reduceToNat, Nat.reduceDiv, Nat.reduceMod]
  refine ⟨.pure _, law11_awake, ?_⟩
  try simp -implicitDefEqProofs only [go_sem, ↓reduceIte, Nat.reduceAdd, Nat.reduceSub, Nat.reduceMul, Nat.reduceEqDiff, Nat.reduceLeDiff, Int.reduceNeg, reduceCtorEq, Int.reduceToNat, Nat.reduceDiv, Nat.reduceMod]
  refine hK _ ?_; clear hK K
  refine AW.ret ?_
  simp -implicitDefEqProofs only [go_sem, ↓reduceIte, Nat.reduceAdd, Nat.reduceSub, Nat.reduceMul, Nat.reduceEqDiff, Nat.reduceLeDiff, Int.reduceNeg, reduceCtorEq, Int.reduceToNat, Nat.reduceDiv, Nat.reduceMod]
end Go.Aw
