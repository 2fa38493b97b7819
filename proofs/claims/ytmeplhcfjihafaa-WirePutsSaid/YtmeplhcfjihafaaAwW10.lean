/- A number got from its bytes. -/
import Derived.Test.YtmeplhcfjihafaaAwW9
namespace Go.Aw
open Go.Proofs
set_option linter.unusedSimpArgs false
set_option linter.unusedVariables false
theorem ofInt64 {a : Nat} (h : a < 18446744073709551616) : (BitVec.ofInt 64 (a : Int)) = BitVec.ofNat 64 a := by
  rw [BitVec.ofInt_natCast]
theorem or64 {a b : Nat} (ha : a < 18446744073709551616) (hb : b < 18446744073709551616) (hab : a ||| b < 18446744073709551616) : orI .u64 (a : Int) (b : Int) = ((a ||| b : Nat) : Int) := by
  show IntKind.wrap .u64 (((BitVec.ofInt 64 (a : Int) ||| BitVec.ofInt 64 (b : Int)).toNat : Nat) : Int) = _
  rw [ofInt64 ha, ofInt64 hb, BitVec.toNat_or, BitVec.toNat_ofNat, BitVec.toNat_ofNat, Nat.mod_eq_of_lt ha, Nat.mod_eq_of_lt hb]
  exact wu64 (by omega) (by omega)
theorem or_add {a c i : Nat} (h : a < 2 ^ i) : a ||| c * 2 ^ i = a + c * 2 ^ i := by
  rw [Nat.or_comm, Nat.mul_comm, ← Nat.two_pow_add_eq_or_of_lt h, Nat.add_comm]
theorem andNot128 (x : UInt8) : andNotI .u8 (x.toNat : Int) 128 = ((x.toNat % 128 : Nat) : Int) := by
  have : ∀ m : Fin 256, andNotI .u8 ((m.val : Nat) : Int) 128 = ((m.val % 128 : Nat) : Int) := by decide +kernel
  exact this ⟨x.toNat, x.toNat_lt⟩
theorem and1 {v : Nat} (h : v < 18446744073709551616) : andI .u64 (v : Int) 1 = ((v % 2 : Nat) : Int) := by
  show IntKind.wrap .u64 (((BitVec.ofInt 64 (v : Int) &&& BitVec.ofInt 64 1).toNat : Nat) : Int) = _
  have h1 : BitVec.ofInt 64 1 = BitVec.ofNat 64 1 := by decide
  rw [ofInt64 h, h1, BitVec.toNat_and, BitVec.toNat_ofNat, BitVec.toNat_ofNat, Nat.mod_eq_of_lt h]
  rw [show 1 % 2 ^ 64 = 1 by decide, Nat.and_one_is_mod]
  exact wu64 (by omega) (by omega)
theorem ofn64 (x : Int) (h : 0 ≤ x) (h' : x < 18446744073709551616) : (BitVec.ofInt 64 x).toNat = x.toNat := by
  rw [BitVec.toNat_ofInt]
  congr 1
  rw [show ((2 : Nat) ^ 64 : Nat) = (18446744073709551616 : Nat) by decide]
  omega
theorem zag_xor {v : Nat} (hv : v < 18446744073709551616) : xorI .i64 ((v / 2 : Nat) : Int) (0 - ((v % 2 : Nat) : Int)) = zagR v := by
  have e : (2 : Int) ^ 64 = 18446744073709551616 := by decide
  have eh : (2 : Int) ^ (64 - 1) = 9223372036854775808 := by decide
  show IntKind.wrap .i64 (((BitVec.ofInt 64 ((v / 2 : Nat) : Int) ^^^ BitVec.ofInt 64 (0 - ((v % 2 : Nat) : Int))).toNat : Nat) : Int) = _
  rcases Nat.mod_two_eq_zero_or_one v with h | h
  · rw [h]
    have h0 : BitVec.ofInt 64 (0 - ((0 : Nat) : Int)) = 0#64 := by decide
    rw [h0, BitVec.xor_zero, ofn64 _ (by omega) (by omega), Int.toNat_natCast, w64 (by omega) (by omega)]
    unfold zagR
    rw [if_pos h]
  · rw [h]
    have h0 : BitVec.ofInt 64 (0 - ((1 : Nat) : Int)) = BitVec.ofInt 64 18446744073709551615 := by decide
    rw [h0, xor_ones, ofn64 _ (by omega) (by omega), Int.toNat_natCast]
    unfold zagR
    rw [if_neg (by omega)]
    simp only [IntKind.wrap, IntKind.bits, IntKind.signed, e, eh, Bool.true_and]
    rw [if_pos (by simp; omega)]
    omega
theorem vint_Zag (v : Nat) (hv : v < 18446744073709551616) : PFn Try.prog 95 [.int .u64 (v : Int)] (.int .i64 (zagR v)) := by
  refine PFn.of Try.func95 rfl (by decide) Try.ntmps95 Try.results95 (Nat.le_of_ble_eq_true rfl) ?_
  simp only [argsT]
  have a1 := and1 hv
  have e1 : (2 : Int) ^ min 1 64 = 2 := by decide
  have e2 : (v : Int).fdiv 2 = ((v / 2 : Nat) : Int) := by rw [Int.fdiv_eq_ediv_of_nonneg _ (by decide)]; omega
  have w1 : IntKind.wrap .i64 ((v / 2 : Nat) : Int) = ((v / 2 : Nat) : Int) := by rw [w64] <;> omega
  have w2 : IntKind.wrap .i64 ((v % 2 : Nat) : Int) = ((v % 2 : Nat) : Int) := by rw [w64] <;> omega
  have w3 : IntKind.wrap .i64 (-((v % 2 : Nat) : Int)) = -((v % 2 : Nat) : Int) := by rw [w64] <;> omega
  have w4 : IntKind.wrap .i64 (0 - ((v % 2 : Nat) : Int)) = 0 - ((v % 2 : Nat) : Int) := by rw [w64] <;> omega
  refine AW.rT (by rfl) fun K hK => ?_
  simp -implicitDefEqProofs only [go_sem, decide_true, decide_false, not_true_eq_false, not_false_eq_true, Bool.false_eq_true, Bool.true_eq_false, ↓reduceIte, Nat.reduceAdd, Nat.reduceSub, Nat.reduceMul, Nat.reduceEqDiff, Nat.reduceLeDiff, Int.reduceNeg, reduceCtorEq, Int.reduceToNat, Int.toNat_natCast, Nat.reduceDiv, Nat.reduceMod, Nat.succ_ne_self, beq_self_eq_true, Bool.not_true, Bool.not_false, Option.some.injEq, exists_eq_left']
  refine hK _ ?_; clear hK K
  refine AW.rT (by rfl) fun K hK => ?_
  simp -implicitDefEqProofs only [go_sem, decide_true, decide_false, not_true_eq_false, not_false_eq_true, Bool.false_eq_true, Bool.true_eq_false, ↓reduceIte, Nat.reduceAdd, Nat.reduceSub, Nat.reduceMul, Nat.reduceEqDiff, Nat.reduceLeDiff, Int.reduceNeg, reduceCtorEq, Int.reduceToNat, Int.toNat_natCast, Nat.reduceDiv, Nat.reduceMod, Nat.succ_ne_self, beq_self_eq_true, Bool.not_true, Bool.not_false, Option.some.injEq, exists_eq_left', a1, e1, e2, w1, w2, w3]
  refine hK _ ?_; clear hK K
  refine AW.ret ?_
  simp -implicitDefEqProofs only [go_sem, decide_true, decide_false, not_true_eq_false, not_false_eq_true, Bool.false_eq_true, Bool.true_eq_false, ↓reduceIte, Nat.reduceAdd, Nat.reduceSub, Nat.reduceMul, Nat.reduceEqDiff, Nat.reduceLeDiff, Int.reduceNeg, reduceCtorEq, Int.reduceToNat, Int.toNat_natCast, Nat.reduceDiv, Nat.reduceMod, Nat.succ_ne_self, beq_self_eq_true, Bool.not_true, Bool.not_false, Option.some.injEq, exists_eq_left']
  rw [w1, w4, zag_xor hv]
def vat (b : List UInt8) (p : Nat) : Nat × Nat × Int := ((vget (b.drop p) 0 0).1, if (vget (b.drop p) 0 0).2.2 = 0 then p + (vget (b.drop p) 0 0).2.1 else 0, (vget (b.drop p) 0 0).2.2)
def gS (b : List UInt8) (p : Nat) (x : Nat × Nat) : St :=
  ⟨ofL [(0, .p (.slice (b.map encB))), (1, .p (.int .i64 (p : Int))), (7, .p (.int .u64 (x.2 : Int))), (27, .p (.slice (((b.drop p).take 10).map encB))), (28, .p (.int .i64 (((b.drop p).take 10).length : Int))), (29, .p (.int .i64 (x.1 : Int)))], ofH [], 0⟩
theorem vint_Get (b : List UInt8) (p : Nat) (hp : p ≤ b.length) (hb : b.length ≤ 1000000000000000) : PFn Try.prog 94 [.slice (b.map encB), .int .i64 (p : Int)]
    (.tuple [.int .u64 ((vat b p).1 : Int), .int .i64 ((vat b p).2.1 : Int), .int .i64 (vat b p).2.2]) := by
  refine PFn.of Try.func94 rfl (by decide) Try.ntmps94 Try.results94 (Nat.le_of_ble_eq_true rfl) ?_
  simp only [argsT]
  refine AW.rT (by rfl) fun K hK => ?_
  simp -implicitDefEqProofs only [go_sem, decide_true, decide_false, not_true_eq_false, not_false_eq_true, Bool.false_eq_true, Bool.true_eq_false, ↓reduceIte, Nat.reduceAdd, Nat.reduceSub, Nat.reduceMul, Nat.reduceEqDiff, Nat.reduceLeDiff, Int.reduceNeg, reduceCtorEq, Int.reduceToNat, Int.toNat_natCast, Nat.reduceDiv, Nat.reduceMod, Nat.succ_ne_self, beq_self_eq_true, Bool.not_true, Bool.not_false, Option.some.injEq, exists_eq_left']
  refine hK _ ?_; clear hK K
  refine AW.seq ?_
  have c0 : ((p : Int) < 0) = False := by simp
  have c1 : ((p : Int) > (b.length : Int)) = False := by simp; omega
  refine AW.rT (by rfl) fun K hK => ?_
  simp -implicitDefEqProofs only [go_sem, decide_true, decide_false, not_true_eq_false, not_false_eq_true, Bool.false_eq_true, Bool.true_eq_false, ↓reduceIte, Nat.reduceAdd, Nat.reduceSub, Nat.reduceMul, Nat.reduceEqDiff, Nat.reduceLeDiff, Int.reduceNeg, reduceCtorEq, Int.reduceToNat, Int.toNat_natCast, Nat.reduceDiv, Nat.reduceMod, Nat.succ_ne_self, beq_self_eq_true, Bool.not_true, Bool.not_false, Option.some.injEq, exists_eq_left', c0, c1, List.length_map]
  refine hK _ ?_; clear hK K
  refine AW.cond _ (by simp -implicitDefEqProofs only [go_sem, decide_true, decide_false, not_true_eq_false, not_false_eq_true, Bool.false_eq_true, Bool.true_eq_false, ↓reduceIte, Nat.reduceAdd, Nat.reduceSub, Nat.reduceMul, Nat.reduceEqDiff, Nat.reduceLeDiff, Int.reduceNeg, reduceCtorEq, Int.reduceToNat, Int.toNat_natCast, Nat.reduceDiv, Nat.reduceMod, Nat.succ_ne_self, beq_self_eq_true, Bool.not_true, Bool.not_false, Option.some.injEq, exists_eq_left']; rfl) (fun hc => ?_) (fun hc => ?_)
  · simp at hc
  refine AW.skip ?_
  simp only [andThen, inBlk, reduceCtorEq, ↓reduceIte, if_t, if_f]
  refine AW.rT (by rfl) fun K hK => ?_
  simp -implicitDefEqProofs only [go_sem, decide_true, decide_false, not_true_eq_false, not_false_eq_true, Bool.false_eq_true, Bool.true_eq_false, ↓reduceIte, Nat.reduceAdd, Nat.reduceSub, Nat.reduceMul, Nat.reduceEqDiff, Nat.reduceLeDiff, Int.reduceNeg, reduceCtorEq, Int.reduceToNat, Int.toNat_natCast, Nat.reduceDiv, Nat.reduceMod, Nat.succ_ne_self, beq_self_eq_true, Bool.not_true, Bool.not_false, Option.some.injEq, exists_eq_left']
  refine hK _ ?_; clear hK K
  refine AW.seq ?_
  obtain ⟨m, hm⟩ : ∃ m, m = min 10 (b.length - p) := ⟨_, rfl⟩
  have wa : IntKind.wrap .i64 ((b.length : Int) - (p : Int)) = ((b.length - p : Nat) : Int) := by rw [w64] <;> omega
  have wb : (if 10 < ((b.length - p : Nat) : Int) then (10 : Int) else ((b.length - p : Nat) : Int)) = (m : Int) := by split <;> omega
  have wc : IntKind.wrap .i64 ((p : Int) + (m : Int)) = ((p + m : Nat) : Int) := by rw [w64] <;> omega
  have wd : List.drop p (List.take (p + m) (b.map encB)) = ((b.drop p).take 10).map encB := by
    rw [← List.map_take, ← List.map_drop, List.drop_take, show p + m - p = m by omega]
    congr 1
    rw [hm]
    by_cases h10 : b.length - p ≤ 10
    · rw [Nat.min_eq_right h10, List.take_of_length_le (by rw [List.length_drop]; omega), List.take_of_length_le (by rw [List.length_drop]; omega)]
    · rw [Nat.min_eq_left (by omega)]
  refine AW.rT (by rfl) fun K hK => ?_
  simp -implicitDefEqProofs only [go_sem, decide_true, decide_false, not_true_eq_false, not_false_eq_true, Bool.false_eq_true, Bool.true_eq_false, ↓reduceIte, Nat.reduceAdd, Nat.reduceSub, Nat.reduceMul, Nat.reduceEqDiff, Nat.reduceLeDiff, Int.reduceNeg, reduceCtorEq, Int.reduceToNat, Int.toNat_natCast, Nat.reduceDiv, Nat.reduceMod, Nat.succ_ne_self, beq_self_eq_true, Bool.not_true, Bool.not_false, Option.some.injEq, exists_eq_left', List.length_map, wa, wb, wc, wd]
  refine ⟨by simp [encB], by simp, by omega, ?_⟩
  refine hK _ ?_; clear hK K
  refine AW.block ?_
  refine AW.loop (gS b p) (fun x => x.1 ≤ 9 ∧ x.1 ≤ ((b.drop p).take 10).length ∧ x.2 < 2 ^ (7 * x.1) ∧ vget (b.drop p) 0 0 = vget ((b.drop p).drop x.1) x.1 x.2) (fun x => 10 - x.1) (0, 0) ?_ ⟨by simp, by simp, by simp, by simp⟩ fun x hx => ?_
  · simp only [gS]
    refine Ghost.sub ?_ ?_ <;> simp -implicitDefEqProofs only [go_sem, decide_true, decide_false, not_true_eq_false, not_false_eq_true, Bool.false_eq_true, Bool.true_eq_false, ↓reduceIte, Nat.reduceAdd, Nat.reduceSub, Nat.reduceMul, Nat.reduceEqDiff, Nat.reduceLeDiff, Int.reduceNeg, reduceCtorEq, Int.reduceToNat, Int.toNat_natCast, Nat.reduceDiv, Nat.reduceMod, Nat.succ_ne_self, beq_self_eq_true, Bool.not_true, Bool.not_false, Option.some.injEq, exists_eq_left',  List.forall_mem_cons, List.not_mem_nil, false_implies, implies_true, and_self, labsIn_lift, List.all_append, List.all_cons, List.all_nil, Nat.reduceLT, labsInL, AV.labsIn]
    simp
  obtain ⟨i, acc⟩ := x
  obtain ⟨g1, g2, g3, g4⟩ := hx
  dsimp only at g1 g2 g3 g4
  simp only [gS]
  by_cases hi : i < ((b.drop p).take 10).length
  · obtain ⟨x, hx⟩ : ∃ x, ((b.drop p).take 10)[i]? = some x := ⟨_, List.getElem?_eq_getElem hi⟩
    have ⟨hr1, hr2, hr3⟩ := at_map' encB hx
    have hc1 : ((i : Int) < ((((b.drop p).take 10).length : Nat) : Int)) = True := by simp; simp at hi; omega
    have hdr : (b.drop p).drop i = x :: (b.drop p).drop (i + 1) := by
      rw [List.getElem?_take_of_lt (by omega)] at hx
      rw [List.drop_eq_getElem_cons (List.getElem?_eq_some_iff.1 hx).1, (List.getElem?_eq_some_iff.1 hx).2]
    rw [hdr] at g4
    have x8 := x.toNat_lt
    simp only [vget] at g4
    refine AW.rT (by rfl) fun K hK => ?_
    simp -implicitDefEqProofs only [go_sem, decide_true, decide_false, not_true_eq_false, not_false_eq_true, Bool.false_eq_true, Bool.true_eq_false, ↓reduceIte, Nat.reduceAdd, Nat.reduceSub, Nat.reduceMul, Nat.reduceEqDiff, Nat.reduceLeDiff, Int.reduceNeg, reduceCtorEq, Int.reduceToNat, Int.toNat_natCast, Nat.reduceDiv, Nat.reduceMod, Nat.succ_ne_self, beq_self_eq_true, Bool.not_true, Bool.not_false, Option.some.injEq, exists_eq_left', hc1]
    refine hK _ ?_; clear hK K
    refine AW.seq ?_
    refine AW.cond _ (by simp -implicitDefEqProofs only [go_sem, decide_true, decide_false, not_true_eq_false, not_false_eq_true, Bool.false_eq_true, Bool.true_eq_false, ↓reduceIte, Nat.reduceAdd, Nat.reduceSub, Nat.reduceMul, Nat.reduceEqDiff, Nat.reduceLeDiff, Int.reduceNeg, reduceCtorEq, Int.reduceToNat, Int.toNat_natCast, Nat.reduceDiv, Nat.reduceMod, Nat.succ_ne_self, beq_self_eq_true, Bool.not_true, Bool.not_false, Option.some.injEq, exists_eq_left']; rfl) (fun hc => ?_) (fun hc => ?_)
    · refine AW.skip ?_
      simp only [andThen, inBlk, reduceCtorEq, ↓reduceIte, if_t, if_f]
      refine AW.seq ?_
      refine AW.block ?_
      refine AW.rT (by rfl) fun K hK => ?_
      simp -implicitDefEqProofs only [go_sem, decide_true, decide_false, not_true_eq_false, not_false_eq_true, Bool.false_eq_true, Bool.true_eq_false, ↓reduceIte, Nat.reduceAdd, Nat.reduceSub, Nat.reduceMul, Nat.reduceEqDiff, Nat.reduceLeDiff, Int.reduceNeg, reduceCtorEq, Int.reduceToNat, Int.toNat_natCast, Nat.reduceDiv, Nat.reduceMod, Nat.succ_ne_self, beq_self_eq_true, Bool.not_true, Bool.not_false, Option.some.injEq, exists_eq_left', hr1, hr2, hr3, encB]
      refine hK _ ?_; clear hK K
      refine AW.seq ?_
      by_cases h9 : i = 9 ∧ 1 < x.toNat
      · rw [if_pos h9] at g4
        have b1 : ((i : Int) == 9) = true := by simp; omega
        have b2 : ((x.toNat : Int) > 1) = True := by simp; omega
        refine AW.rT (by rfl) fun K hK => ?_
        simp -implicitDefEqProofs only [go_sem, decide_true, decide_false, not_true_eq_false, not_false_eq_true, Bool.false_eq_true, Bool.true_eq_false, ↓reduceIte, Nat.reduceAdd, Nat.reduceSub, Nat.reduceMul, Nat.reduceEqDiff, Nat.reduceLeDiff, Int.reduceNeg, reduceCtorEq, Int.reduceToNat, Int.toNat_natCast, Nat.reduceDiv, Nat.reduceMod, Nat.succ_ne_self, beq_self_eq_true, Bool.not_true, Bool.not_false, Option.some.injEq, exists_eq_left', b1, b2]
        refine hK _ ?_; clear hK K
        refine AW.cond _ (by simp -implicitDefEqProofs only [go_sem, decide_true, decide_false, not_true_eq_false, not_false_eq_true, Bool.false_eq_true, Bool.true_eq_false, ↓reduceIte, Nat.reduceAdd, Nat.reduceSub, Nat.reduceMul, Nat.reduceEqDiff, Nat.reduceLeDiff, Int.reduceNeg, reduceCtorEq, Int.reduceToNat, Int.toNat_natCast, Nat.reduceDiv, Nat.reduceMod, Nat.succ_ne_self, beq_self_eq_true, Bool.not_true, Bool.not_false, Option.some.injEq, exists_eq_left']; rfl) (fun hc => ?_) (fun hc => ?_)
        · refine AW.rT (by rfl) fun K hK => ?_
          simp -implicitDefEqProofs only [go_sem, decide_true, decide_false, not_true_eq_false, not_false_eq_true, Bool.false_eq_true, Bool.true_eq_false, ↓reduceIte, Nat.reduceAdd, Nat.reduceSub, Nat.reduceMul, Nat.reduceEqDiff, Nat.reduceLeDiff, Int.reduceNeg, reduceCtorEq, Int.reduceToNat, Int.toNat_natCast, Nat.reduceDiv, Nat.reduceMod, Nat.succ_ne_self, beq_self_eq_true, Bool.not_true, Bool.not_false, Option.some.injEq, exists_eq_left']
          refine hK _ ?_; clear hK K
          refine AW.ret ?_
          simp -implicitDefEqProofs only [go_sem, decide_true, decide_false, not_true_eq_false, not_false_eq_true, Bool.false_eq_true, Bool.true_eq_false, ↓reduceIte, Nat.reduceAdd, Nat.reduceSub, Nat.reduceMul, Nat.reduceEqDiff, Nat.reduceLeDiff, Int.reduceNeg, reduceCtorEq, Int.reduceToNat, Int.toNat_natCast, Nat.reduceDiv, Nat.reduceMod, Nat.succ_ne_self, beq_self_eq_true, Bool.not_true, Bool.not_false, Option.some.injEq, exists_eq_left']
          simp only [vat, g4]
          rfl
        · simp at hc
      rw [if_neg h9] at g4
      have sp : acc ||| x.toNat % 128 * 2 ^ (7 * i) = acc + x.toNat % 128 * 2 ^ (7 * i) := or_add g3
      have acc2 : acc + x.toNat % 128 * 2 ^ (7 * i) < 2 ^ (7 * (i + 1)) := by
        rw [pow7]
        have : (x.toNat % 128 + 1) * 2 ^ (7 * i) ≤ 128 * 2 ^ (7 * i) := Nat.mul_le_mul_right _ (by omega)
        rw [Nat.add_mul] at this
        omega
      have lt2 : acc + x.toNat % 128 * 2 ^ (7 * i) < 18446744073709551616 := by
        by_cases i9 : i = 9
        · subst i9
          have : (2 : Nat) ^ (7 * 9) = 9223372036854775808 := by decide
          rw [this] at g3 ⊢
          omega
        · have h2 : 2 ^ (7 * (i + 1)) ≤ 2 ^ 63 := Nat.pow_le_pow_right (by decide) (by omega)
          have : (2 : Nat) ^ 63 = 9223372036854775808 := by decide
          omega
      have lt1 : x.toNat % 128 * 2 ^ (7 * i) < 18446744073709551616 := by omega
      have an := andNot128 x
      have w7 : IntKind.wrap .i64 (7 * (i : Int)) = ((7 * i : Nat) : Int) := by rw [w64] <;> omega
      have wx : IntKind.wrap .u64 ((x.toNat % 128 : Nat) : Int) = ((x.toNat % 128 : Nat) : Int) := by rw [wu64] <;> omega
      have n0 : (((7 * i : Nat) : Int) < 0) = False := by simp; omega
      have ws : IntKind.wrap .u64 (((x.toNat % 128 : Nat) : Int) * 2 ^ min (7 * i) 64) = ((x.toNat % 128 * 2 ^ (7 * i) : Nat) : Int) := by
        rw [show min (7 * i) 64 = 7 * i by omega]
        rw [show ((x.toNat % 128 : Nat) : Int) * 2 ^ (7 * i) = ((x.toNat % 128 * 2 ^ (7 * i) : Nat) : Int) by simp [Int.natCast_mul, Int.natCast_pow]]
        exact wu64 (by omega) (by omega)
      have o1 : orI .u64 (acc : Int) ((x.toNat % 128 * 2 ^ (7 * i) : Nat) : Int) = ((acc + x.toNat % 128 * 2 ^ (7 * i) : Nat) : Int) := by
        rw [or64 (by omega) lt1 (by rw [sp]; exact lt2), sp]
      have w1 : IntKind.wrap .i64 ((i : Int) + 1) = ((i + 1 : Nat) : Int) := by rw [w64] <;> omega
      have w8 : IntKind.wrap .i64 ((p : Int) + (i : Int)) = ((p + i : Nat) : Int) := by rw [w64] <;> omega
      have w9 : IntKind.wrap .i64 (((p + i : Nat) : Int) + 1) = ((p + i + 1 : Nat) : Int) := by rw [w64] <;> omega
      by_cases i9 : i = 9
      · have b1 : ((i : Int) == 9) = true := by simp; omega
        have b2 : ((x.toNat : Int) > 1) = False := by simp; omega
        refine AW.rT (by rfl) fun K hK => ?_
        simp -implicitDefEqProofs only [go_sem, decide_true, decide_false, not_true_eq_false, not_false_eq_true, Bool.false_eq_true, Bool.true_eq_false, ↓reduceIte, Nat.reduceAdd, Nat.reduceSub, Nat.reduceMul, Nat.reduceEqDiff, Nat.reduceLeDiff, Int.reduceNeg, reduceCtorEq, Int.reduceToNat, Int.toNat_natCast, Nat.reduceDiv, Nat.reduceMod, Nat.succ_ne_self, beq_self_eq_true, Bool.not_true, Bool.not_false, Option.some.injEq, exists_eq_left', b1, b2]
        refine hK _ ?_; clear hK K
        refine AW.cond _ (by simp -implicitDefEqProofs only [go_sem, decide_true, decide_false, not_true_eq_false, not_false_eq_true, Bool.false_eq_true, Bool.true_eq_false, ↓reduceIte, Nat.reduceAdd, Nat.reduceSub, Nat.reduceMul, Nat.reduceEqDiff, Nat.reduceLeDiff, Int.reduceNeg, reduceCtorEq, Int.reduceToNat, Int.toNat_natCast, Nat.reduceDiv, Nat.reduceMod, Nat.succ_ne_self, beq_self_eq_true, Bool.not_true, Bool.not_false, Option.some.injEq, exists_eq_left']; rfl) (fun hc => ?_) (fun hc => ?_)
        · simp at hc
        refine AW.skip ?_
        simp only [andThen, inBlk, reduceCtorEq, ↓reduceIte, if_t, if_f]
        refine AW.rT (by rfl) fun K hK => ?_
        simp -implicitDefEqProofs only [go_sem, decide_true, decide_false, not_true_eq_false, not_false_eq_true, Bool.false_eq_true, Bool.true_eq_false, ↓reduceIte, Nat.reduceAdd, Nat.reduceSub, Nat.reduceMul, Nat.reduceEqDiff, Nat.reduceLeDiff, Int.reduceNeg, reduceCtorEq, Int.reduceToNat, Int.toNat_natCast, Nat.reduceDiv, Nat.reduceMod, Nat.succ_ne_self, beq_self_eq_true, Bool.not_true, Bool.not_false, Option.some.injEq, exists_eq_left', an, w7, wx, n0, ws, o1]
        refine hK _ ?_; clear hK K
        refine AW.seq ?_
        by_cases hx128 : 128 ≤ x.toNat
        · have b3 : ((x.toNat : Int) ≥ 128) = True := by simp; omega
          rw [if_pos hx128] at g4
          have i8 : i ≠ 9 := fun h => h9 ⟨h, by omega⟩
          refine AW.rT (by rfl) fun K hK => ?_
          simp -implicitDefEqProofs only [go_sem, decide_true, decide_false, not_true_eq_false, not_false_eq_true, Bool.false_eq_true, Bool.true_eq_false, ↓reduceIte, Nat.reduceAdd, Nat.reduceSub, Nat.reduceMul, Nat.reduceEqDiff, Nat.reduceLeDiff, Int.reduceNeg, reduceCtorEq, Int.reduceToNat, Int.toNat_natCast, Nat.reduceDiv, Nat.reduceMod, Nat.succ_ne_self, beq_self_eq_true, Bool.not_true, Bool.not_false, Option.some.injEq, exists_eq_left', b3]
          refine hK _ ?_; clear hK K
          refine AW.cond _ (by simp -implicitDefEqProofs only [go_sem, decide_true, decide_false, not_true_eq_false, not_false_eq_true, Bool.false_eq_true, Bool.true_eq_false, ↓reduceIte, Nat.reduceAdd, Nat.reduceSub, Nat.reduceMul, Nat.reduceEqDiff, Nat.reduceLeDiff, Int.reduceNeg, reduceCtorEq, Int.reduceToNat, Int.toNat_natCast, Nat.reduceDiv, Nat.reduceMod, Nat.succ_ne_self, beq_self_eq_true, Bool.not_true, Bool.not_false, Option.some.injEq, exists_eq_left']; rfl) (fun hc => ?_) (fun hc => ?_)
          · refine AW.exit ?_
            simp only [andThen, inBlk, reduceCtorEq, ↓reduceIte, if_t, if_f]
            refine AW.rE (by rfl) fun K hK => ?_
            simp -implicitDefEqProofs only [go_sem, decide_true, decide_false, not_true_eq_false, not_false_eq_true, Bool.false_eq_true, Bool.true_eq_false, ↓reduceIte, Nat.reduceAdd, Nat.reduceSub, Nat.reduceMul, Nat.reduceEqDiff, Nat.reduceLeDiff, Int.reduceNeg, reduceCtorEq, Int.reduceToNat, Int.toNat_natCast, Nat.reduceDiv, Nat.reduceMod, Nat.succ_ne_self, beq_self_eq_true, Bool.not_true, Bool.not_false, Option.some.injEq, exists_eq_left', w1]
            refine hK _ ?_; clear hK K
            refine ⟨(i + 1, acc + x.toNat % 128 * 2 ^ (7 * i)), ⟨by show i + 1 ≤ 9; omega, hi, acc2, g4⟩, by show 10 - (i + 1) < 10 - i; omega, ?_⟩
            refine Ghost.sub ?_ ?_ <;> simp -implicitDefEqProofs only [go_sem, decide_true, decide_false, not_true_eq_false, not_false_eq_true, Bool.false_eq_true, Bool.true_eq_false, ↓reduceIte, Nat.reduceAdd, Nat.reduceSub, Nat.reduceMul, Nat.reduceEqDiff, Nat.reduceLeDiff, Int.reduceNeg, reduceCtorEq, Int.reduceToNat, Int.toNat_natCast, Nat.reduceDiv, Nat.reduceMod, Nat.succ_ne_self, beq_self_eq_true, Bool.not_true, Bool.not_false, Option.some.injEq, exists_eq_left',  List.forall_mem_cons, List.not_mem_nil, false_implies, implies_true, and_self, labsIn_lift, List.all_append, List.all_cons, List.all_nil, Nat.reduceLT, labsInL, AV.labsIn]
          · simp at hc
        · have b3 : ((x.toNat : Int) ≥ 128) = False := by simp; omega
          rw [if_neg hx128] at g4
          refine AW.rT (by rfl) fun K hK => ?_
          simp -implicitDefEqProofs only [go_sem, decide_true, decide_false, not_true_eq_false, not_false_eq_true, Bool.false_eq_true, Bool.true_eq_false, ↓reduceIte, Nat.reduceAdd, Nat.reduceSub, Nat.reduceMul, Nat.reduceEqDiff, Nat.reduceLeDiff, Int.reduceNeg, reduceCtorEq, Int.reduceToNat, Int.toNat_natCast, Nat.reduceDiv, Nat.reduceMod, Nat.succ_ne_self, beq_self_eq_true, Bool.not_true, Bool.not_false, Option.some.injEq, exists_eq_left', b3]
          refine hK _ ?_; clear hK K
          refine AW.cond _ (by simp -implicitDefEqProofs only [go_sem, decide_true, decide_false, not_true_eq_false, not_false_eq_true, Bool.false_eq_true, Bool.true_eq_false, ↓reduceIte, Nat.reduceAdd, Nat.reduceSub, Nat.reduceMul, Nat.reduceEqDiff, Nat.reduceLeDiff, Int.reduceNeg, reduceCtorEq, Int.reduceToNat, Int.toNat_natCast, Nat.reduceDiv, Nat.reduceMod, Nat.succ_ne_self, beq_self_eq_true, Bool.not_true, Bool.not_false, Option.some.injEq, exists_eq_left']; rfl) (fun hc => ?_) (fun hc => ?_)
          · simp at hc
          refine AW.skip ?_
          simp only [andThen, inBlk, reduceCtorEq, ↓reduceIte, if_t, if_f]
          refine AW.seq ?_
          by_cases hz : x.toNat = 0
          · have b4 : ((x.toNat : Int) == 0) = true := by simp; exact hz
            by_cases i0 : i = 0
            · have b5 : ((i : Int) > 0) = False := by simp; omega
              rw [if_neg (by omega)] at g4
              refine AW.rT (by rfl) fun K hK => ?_
              simp -implicitDefEqProofs only [go_sem, decide_true, decide_false, not_true_eq_false, not_false_eq_true, Bool.false_eq_true, Bool.true_eq_false, ↓reduceIte, Nat.reduceAdd, Nat.reduceSub, Nat.reduceMul, Nat.reduceEqDiff, Nat.reduceLeDiff, Int.reduceNeg, reduceCtorEq, Int.reduceToNat, Int.toNat_natCast, Nat.reduceDiv, Nat.reduceMod, Nat.succ_ne_self, beq_self_eq_true, Bool.not_true, Bool.not_false, Option.some.injEq, exists_eq_left', b4, b5]
              refine hK _ ?_; clear hK K
              refine AW.cond _ (by simp -implicitDefEqProofs only [go_sem, decide_true, decide_false, not_true_eq_false, not_false_eq_true, Bool.false_eq_true, Bool.true_eq_false, ↓reduceIte, Nat.reduceAdd, Nat.reduceSub, Nat.reduceMul, Nat.reduceEqDiff, Nat.reduceLeDiff, Int.reduceNeg, reduceCtorEq, Int.reduceToNat, Int.toNat_natCast, Nat.reduceDiv, Nat.reduceMod, Nat.succ_ne_self, beq_self_eq_true, Bool.not_true, Bool.not_false, Option.some.injEq, exists_eq_left']; rfl) (fun hc => ?_) (fun hc => ?_)
              · simp at hc
              refine AW.skip ?_
              simp only [andThen, inBlk, reduceCtorEq, ↓reduceIte, if_t, if_f]
              refine AW.rT (by rfl) fun K hK => ?_
              simp -implicitDefEqProofs only [go_sem, decide_true, decide_false, not_true_eq_false, not_false_eq_true, Bool.false_eq_true, Bool.true_eq_false, ↓reduceIte, Nat.reduceAdd, Nat.reduceSub, Nat.reduceMul, Nat.reduceEqDiff, Nat.reduceLeDiff, Int.reduceNeg, reduceCtorEq, Int.reduceToNat, Int.toNat_natCast, Nat.reduceDiv, Nat.reduceMod, Nat.succ_ne_self, beq_self_eq_true, Bool.not_true, Bool.not_false, Option.some.injEq, exists_eq_left', w8, w9]
              refine hK _ ?_; clear hK K
              refine AW.ret ?_
              simp -implicitDefEqProofs only [go_sem, decide_true, decide_false, not_true_eq_false, not_false_eq_true, Bool.false_eq_true, Bool.true_eq_false, ↓reduceIte, Nat.reduceAdd, Nat.reduceSub, Nat.reduceMul, Nat.reduceEqDiff, Nat.reduceLeDiff, Int.reduceNeg, reduceCtorEq, Int.reduceToNat, Int.toNat_natCast, Nat.reduceDiv, Nat.reduceMod, Nat.succ_ne_self, beq_self_eq_true, Bool.not_true, Bool.not_false, Option.some.injEq, exists_eq_left']
              simp only [vat, g4, if_true, Nat.add_assoc]
            · have b5 : ((i : Int) > 0) = True := by simp; omega
              rw [if_pos (by omega)] at g4
              refine AW.rT (by rfl) fun K hK => ?_
              simp -implicitDefEqProofs only [go_sem, decide_true, decide_false, not_true_eq_false, not_false_eq_true, Bool.false_eq_true, Bool.true_eq_false, ↓reduceIte, Nat.reduceAdd, Nat.reduceSub, Nat.reduceMul, Nat.reduceEqDiff, Nat.reduceLeDiff, Int.reduceNeg, reduceCtorEq, Int.reduceToNat, Int.toNat_natCast, Nat.reduceDiv, Nat.reduceMod, Nat.succ_ne_self, beq_self_eq_true, Bool.not_true, Bool.not_false, Option.some.injEq, exists_eq_left', b4, b5]
              refine hK _ ?_; clear hK K
              refine AW.cond _ (by simp -implicitDefEqProofs only [go_sem, decide_true, decide_false, not_true_eq_false, not_false_eq_true, Bool.false_eq_true, Bool.true_eq_false, ↓reduceIte, Nat.reduceAdd, Nat.reduceSub, Nat.reduceMul, Nat.reduceEqDiff, Nat.reduceLeDiff, Int.reduceNeg, reduceCtorEq, Int.reduceToNat, Int.toNat_natCast, Nat.reduceDiv, Nat.reduceMod, Nat.succ_ne_self, beq_self_eq_true, Bool.not_true, Bool.not_false, Option.some.injEq, exists_eq_left']; rfl) (fun hc => ?_) (fun hc => ?_)
              · refine AW.rT (by rfl) fun K hK => ?_
                simp -implicitDefEqProofs only [go_sem, decide_true, decide_false, not_true_eq_false, not_false_eq_true, Bool.false_eq_true, Bool.true_eq_false, ↓reduceIte, Nat.reduceAdd, Nat.reduceSub, Nat.reduceMul, Nat.reduceEqDiff, Nat.reduceLeDiff, Int.reduceNeg, reduceCtorEq, Int.reduceToNat, Int.toNat_natCast, Nat.reduceDiv, Nat.reduceMod, Nat.succ_ne_self, beq_self_eq_true, Bool.not_true, Bool.not_false, Option.some.injEq, exists_eq_left']
                refine hK _ ?_; clear hK K
                refine AW.ret ?_
                simp -implicitDefEqProofs only [go_sem, decide_true, decide_false, not_true_eq_false, not_false_eq_true, Bool.false_eq_true, Bool.true_eq_false, ↓reduceIte, Nat.reduceAdd, Nat.reduceSub, Nat.reduceMul, Nat.reduceEqDiff, Nat.reduceLeDiff, Int.reduceNeg, reduceCtorEq, Int.reduceToNat, Int.toNat_natCast, Nat.reduceDiv, Nat.reduceMod, Nat.succ_ne_self, beq_self_eq_true, Bool.not_true, Bool.not_false, Option.some.injEq, exists_eq_left']
                simp only [vat, g4]
                rfl
              · simp at hc
          · have b4 : ((x.toNat : Int) == 0) = false := by simp; exact hz
            rw [if_neg (by omega)] at g4
            refine AW.rT (by rfl) fun K hK => ?_
            simp -implicitDefEqProofs only [go_sem, decide_true, decide_false, not_true_eq_false, not_false_eq_true, Bool.false_eq_true, Bool.true_eq_false, ↓reduceIte, Nat.reduceAdd, Nat.reduceSub, Nat.reduceMul, Nat.reduceEqDiff, Nat.reduceLeDiff, Int.reduceNeg, reduceCtorEq, Int.reduceToNat, Int.toNat_natCast, Nat.reduceDiv, Nat.reduceMod, Nat.succ_ne_self, beq_self_eq_true, Bool.not_true, Bool.not_false, Option.some.injEq, exists_eq_left', b4]
            refine hK _ ?_; clear hK K
            refine AW.cond _ (by simp -implicitDefEqProofs only [go_sem, decide_true, decide_false, not_true_eq_false, not_false_eq_true, Bool.false_eq_true, Bool.true_eq_false, ↓reduceIte, Nat.reduceAdd, Nat.reduceSub, Nat.reduceMul, Nat.reduceEqDiff, Nat.reduceLeDiff, Int.reduceNeg, reduceCtorEq, Int.reduceToNat, Int.toNat_natCast, Nat.reduceDiv, Nat.reduceMod, Nat.succ_ne_self, beq_self_eq_true, Bool.not_true, Bool.not_false, Option.some.injEq, exists_eq_left']; rfl) (fun hc => ?_) (fun hc => ?_)
            · simp at hc
            refine AW.skip ?_
            simp only [andThen, inBlk, reduceCtorEq, ↓reduceIte, if_t, if_f]
            refine AW.rT (by rfl) fun K hK => ?_
            simp -implicitDefEqProofs only [go_sem, decide_true, decide_false, not_true_eq_false, not_false_eq_true, Bool.false_eq_true, Bool.true_eq_false, ↓reduceIte, Nat.reduceAdd, Nat.reduceSub, Nat.reduceMul, Nat.reduceEqDiff, Nat.reduceLeDiff, Int.reduceNeg, reduceCtorEq, Int.reduceToNat, Int.toNat_natCast, Nat.reduceDiv, Nat.reduceMod, Nat.succ_ne_self, beq_self_eq_true, Bool.not_true, Bool.not_false, Option.some.injEq, exists_eq_left', w8, w9]
            refine hK _ ?_; clear hK K
            refine AW.ret ?_
            simp -implicitDefEqProofs only [go_sem, decide_true, decide_false, not_true_eq_false, not_false_eq_true, Bool.false_eq_true, Bool.true_eq_false, ↓reduceIte, Nat.reduceAdd, Nat.reduceSub, Nat.reduceMul, Nat.reduceEqDiff, Nat.reduceLeDiff, Int.reduceNeg, reduceCtorEq, Int.reduceToNat, Int.toNat_natCast, Nat.reduceDiv, Nat.reduceMod, Nat.succ_ne_self, beq_self_eq_true, Bool.not_true, Bool.not_false, Option.some.injEq, exists_eq_left']
            simp only [vat, g4, if_true, Nat.add_assoc]
      · have b1 : ((i : Int) == 9) = false := by simp; omega
        have b2 : True = True := rfl
        refine AW.rT (by rfl) fun K hK => ?_
        simp -implicitDefEqProofs only [go_sem, decide_true, decide_false, not_true_eq_false, not_false_eq_true, Bool.false_eq_true, Bool.true_eq_false, ↓reduceIte, Nat.reduceAdd, Nat.reduceSub, Nat.reduceMul, Nat.reduceEqDiff, Nat.reduceLeDiff, Int.reduceNeg, reduceCtorEq, Int.reduceToNat, Int.toNat_natCast, Nat.reduceDiv, Nat.reduceMod, Nat.succ_ne_self, beq_self_eq_true, Bool.not_true, Bool.not_false, Option.some.injEq, exists_eq_left', b1, b2]
        refine hK _ ?_; clear hK K
        refine AW.cond _ (by simp -implicitDefEqProofs only [go_sem, decide_true, decide_false, not_true_eq_false, not_false_eq_true, Bool.false_eq_true, Bool.true_eq_false, ↓reduceIte, Nat.reduceAdd, Nat.reduceSub, Nat.reduceMul, Nat.reduceEqDiff, Nat.reduceLeDiff, Int.reduceNeg, reduceCtorEq, Int.reduceToNat, Int.toNat_natCast, Nat.reduceDiv, Nat.reduceMod, Nat.succ_ne_self, beq_self_eq_true, Bool.not_true, Bool.not_false, Option.some.injEq, exists_eq_left']; rfl) (fun hc => ?_) (fun hc => ?_)
        · simp at hc
        refine AW.skip ?_
        simp only [andThen, inBlk, reduceCtorEq, ↓reduceIte, if_t, if_f]
        refine AW.rT (by rfl) fun K hK => ?_
        simp -implicitDefEqProofs only [go_sem, decide_true, decide_false, not_true_eq_false, not_false_eq_true, Bool.false_eq_true, Bool.true_eq_false, ↓reduceIte, Nat.reduceAdd, Nat.reduceSub, Nat.reduceMul, Nat.reduceEqDiff, Nat.reduceLeDiff, Int.reduceNeg, reduceCtorEq, Int.reduceToNat, Int.toNat_natCast, Nat.reduceDiv, Nat.reduceMod, Nat.succ_ne_self, beq_self_eq_true, Bool.not_true, Bool.not_false, Option.some.injEq, exists_eq_left', an, w7, wx, n0, ws, o1]
        refine hK _ ?_; clear hK K
        refine AW.seq ?_
        by_cases hx128 : 128 ≤ x.toNat
        · have b3 : ((x.toNat : Int) ≥ 128) = True := by simp; omega
          rw [if_pos hx128] at g4
          have i8 : i ≠ 9 := fun h => h9 ⟨h, by omega⟩
          refine AW.rT (by rfl) fun K hK => ?_
          simp -implicitDefEqProofs only [go_sem, decide_true, decide_false, not_true_eq_false, not_false_eq_true, Bool.false_eq_true, Bool.true_eq_false, ↓reduceIte, Nat.reduceAdd, Nat.reduceSub, Nat.reduceMul, Nat.reduceEqDiff, Nat.reduceLeDiff, Int.reduceNeg, reduceCtorEq, Int.reduceToNat, Int.toNat_natCast, Nat.reduceDiv, Nat.reduceMod, Nat.succ_ne_self, beq_self_eq_true, Bool.not_true, Bool.not_false, Option.some.injEq, exists_eq_left', b3]
          refine hK _ ?_; clear hK K
          refine AW.cond _ (by simp -implicitDefEqProofs only [go_sem, decide_true, decide_false, not_true_eq_false, not_false_eq_true, Bool.false_eq_true, Bool.true_eq_false, ↓reduceIte, Nat.reduceAdd, Nat.reduceSub, Nat.reduceMul, Nat.reduceEqDiff, Nat.reduceLeDiff, Int.reduceNeg, reduceCtorEq, Int.reduceToNat, Int.toNat_natCast, Nat.reduceDiv, Nat.reduceMod, Nat.succ_ne_self, beq_self_eq_true, Bool.not_true, Bool.not_false, Option.some.injEq, exists_eq_left']; rfl) (fun hc => ?_) (fun hc => ?_)
          · refine AW.exit ?_
            simp only [andThen, inBlk, reduceCtorEq, ↓reduceIte, if_t, if_f]
            refine AW.rE (by rfl) fun K hK => ?_
            simp -implicitDefEqProofs only [go_sem, decide_true, decide_false, not_true_eq_false, not_false_eq_true, Bool.false_eq_true, Bool.true_eq_false, ↓reduceIte, Nat.reduceAdd, Nat.reduceSub, Nat.reduceMul, Nat.reduceEqDiff, Nat.reduceLeDiff, Int.reduceNeg, reduceCtorEq, Int.reduceToNat, Int.toNat_natCast, Nat.reduceDiv, Nat.reduceMod, Nat.succ_ne_self, beq_self_eq_true, Bool.not_true, Bool.not_false, Option.some.injEq, exists_eq_left', w1]
            refine hK _ ?_; clear hK K
            refine ⟨(i + 1, acc + x.toNat % 128 * 2 ^ (7 * i)), ⟨by show i + 1 ≤ 9; omega, hi, acc2, g4⟩, by show 10 - (i + 1) < 10 - i; omega, ?_⟩
            refine Ghost.sub ?_ ?_ <;> simp -implicitDefEqProofs only [go_sem, decide_true, decide_false, not_true_eq_false, not_false_eq_true, Bool.false_eq_true, Bool.true_eq_false, ↓reduceIte, Nat.reduceAdd, Nat.reduceSub, Nat.reduceMul, Nat.reduceEqDiff, Nat.reduceLeDiff, Int.reduceNeg, reduceCtorEq, Int.reduceToNat, Int.toNat_natCast, Nat.reduceDiv, Nat.reduceMod, Nat.succ_ne_self, beq_self_eq_true, Bool.not_true, Bool.not_false, Option.some.injEq, exists_eq_left',  List.forall_mem_cons, List.not_mem_nil, false_implies, implies_true, and_self, labsIn_lift, List.all_append, List.all_cons, List.all_nil, Nat.reduceLT, labsInL, AV.labsIn]
          · simp at hc
        · have b3 : ((x.toNat : Int) ≥ 128) = False := by simp; omega
          rw [if_neg hx128] at g4
          refine AW.rT (by rfl) fun K hK => ?_
          simp -implicitDefEqProofs only [go_sem, decide_true, decide_false, not_true_eq_false, not_false_eq_true, Bool.false_eq_true, Bool.true_eq_false, ↓reduceIte, Nat.reduceAdd, Nat.reduceSub, Nat.reduceMul, Nat.reduceEqDiff, Nat.reduceLeDiff, Int.reduceNeg, reduceCtorEq, Int.reduceToNat, Int.toNat_natCast, Nat.reduceDiv, Nat.reduceMod, Nat.succ_ne_self, beq_self_eq_true, Bool.not_true, Bool.not_false, Option.some.injEq, exists_eq_left', b3]
          refine hK _ ?_; clear hK K
          refine AW.cond _ (by simp -implicitDefEqProofs only [go_sem, decide_true, decide_false, not_true_eq_false, not_false_eq_true, Bool.false_eq_true, Bool.true_eq_false, ↓reduceIte, Nat.reduceAdd, Nat.reduceSub, Nat.reduceMul, Nat.reduceEqDiff, Nat.reduceLeDiff, Int.reduceNeg, reduceCtorEq, Int.reduceToNat, Int.toNat_natCast, Nat.reduceDiv, Nat.reduceMod, Nat.succ_ne_self, beq_self_eq_true, Bool.not_true, Bool.not_false, Option.some.injEq, exists_eq_left']; rfl) (fun hc => ?_) (fun hc => ?_)
          · simp at hc
          refine AW.skip ?_
          simp only [andThen, inBlk, reduceCtorEq, ↓reduceIte, if_t, if_f]
          refine AW.seq ?_
          by_cases hz : x.toNat = 0
          · have b4 : ((x.toNat : Int) == 0) = true := by simp; exact hz
            by_cases i0 : i = 0
            · have b5 : ((i : Int) > 0) = False := by simp; omega
              rw [if_neg (by omega)] at g4
              refine AW.rT (by rfl) fun K hK => ?_
              simp -implicitDefEqProofs only [go_sem, decide_true, decide_false, not_true_eq_false, not_false_eq_true, Bool.false_eq_true, Bool.true_eq_false, ↓reduceIte, Nat.reduceAdd, Nat.reduceSub, Nat.reduceMul, Nat.reduceEqDiff, Nat.reduceLeDiff, Int.reduceNeg, reduceCtorEq, Int.reduceToNat, Int.toNat_natCast, Nat.reduceDiv, Nat.reduceMod, Nat.succ_ne_self, beq_self_eq_true, Bool.not_true, Bool.not_false, Option.some.injEq, exists_eq_left', b4, b5]
              refine hK _ ?_; clear hK K
              refine AW.cond _ (by simp -implicitDefEqProofs only [go_sem, decide_true, decide_false, not_true_eq_false, not_false_eq_true, Bool.false_eq_true, Bool.true_eq_false, ↓reduceIte, Nat.reduceAdd, Nat.reduceSub, Nat.reduceMul, Nat.reduceEqDiff, Nat.reduceLeDiff, Int.reduceNeg, reduceCtorEq, Int.reduceToNat, Int.toNat_natCast, Nat.reduceDiv, Nat.reduceMod, Nat.succ_ne_self, beq_self_eq_true, Bool.not_true, Bool.not_false, Option.some.injEq, exists_eq_left']; rfl) (fun hc => ?_) (fun hc => ?_)
              · simp at hc
              refine AW.skip ?_
              simp only [andThen, inBlk, reduceCtorEq, ↓reduceIte, if_t, if_f]
              refine AW.rT (by rfl) fun K hK => ?_
              simp -implicitDefEqProofs only [go_sem, decide_true, decide_false, not_true_eq_false, not_false_eq_true, Bool.false_eq_true, Bool.true_eq_false, ↓reduceIte, Nat.reduceAdd, Nat.reduceSub, Nat.reduceMul, Nat.reduceEqDiff, Nat.reduceLeDiff, Int.reduceNeg, reduceCtorEq, Int.reduceToNat, Int.toNat_natCast, Nat.reduceDiv, Nat.reduceMod, Nat.succ_ne_self, beq_self_eq_true, Bool.not_true, Bool.not_false, Option.some.injEq, exists_eq_left', w8, w9]
              refine hK _ ?_; clear hK K
              refine AW.ret ?_
              simp -implicitDefEqProofs only [go_sem, decide_true, decide_false, not_true_eq_false, not_false_eq_true, Bool.false_eq_true, Bool.true_eq_false, ↓reduceIte, Nat.reduceAdd, Nat.reduceSub, Nat.reduceMul, Nat.reduceEqDiff, Nat.reduceLeDiff, Int.reduceNeg, reduceCtorEq, Int.reduceToNat, Int.toNat_natCast, Nat.reduceDiv, Nat.reduceMod, Nat.succ_ne_self, beq_self_eq_true, Bool.not_true, Bool.not_false, Option.some.injEq, exists_eq_left']
              simp only [vat, g4, if_true, Nat.add_assoc]
            · have b5 : ((i : Int) > 0) = True := by simp; omega
              rw [if_pos (by omega)] at g4
              refine AW.rT (by rfl) fun K hK => ?_
              simp -implicitDefEqProofs only [go_sem, decide_true, decide_false, not_true_eq_false, not_false_eq_true, Bool.false_eq_true, Bool.true_eq_false, ↓reduceIte, Nat.reduceAdd, Nat.reduceSub, Nat.reduceMul, Nat.reduceEqDiff, Nat.reduceLeDiff, Int.reduceNeg, reduceCtorEq, Int.reduceToNat, Int.toNat_natCast, Nat.reduceDiv, Nat.reduceMod, Nat.succ_ne_self, beq_self_eq_true, Bool.not_true, Bool.not_false, Option.some.injEq, exists_eq_left', b4, b5]
              refine hK _ ?_; clear hK K
              refine AW.cond _ (by simp -implicitDefEqProofs only [go_sem, decide_true, decide_false, not_true_eq_false, not_false_eq_true, Bool.false_eq_true, Bool.true_eq_false, ↓reduceIte, Nat.reduceAdd, Nat.reduceSub, Nat.reduceMul, Nat.reduceEqDiff, Nat.reduceLeDiff, Int.reduceNeg, reduceCtorEq, Int.reduceToNat, Int.toNat_natCast, Nat.reduceDiv, Nat.reduceMod, Nat.succ_ne_self, beq_self_eq_true, Bool.not_true, Bool.not_false, Option.some.injEq, exists_eq_left']; rfl) (fun hc => ?_) (fun hc => ?_)
              · refine AW.rT (by rfl) fun K hK => ?_
                simp -implicitDefEqProofs only [go_sem, decide_true, decide_false, not_true_eq_false, not_false_eq_true, Bool.false_eq_true, Bool.true_eq_false, ↓reduceIte, Nat.reduceAdd, Nat.reduceSub, Nat.reduceMul, Nat.reduceEqDiff, Nat.reduceLeDiff, Int.reduceNeg, reduceCtorEq, Int.reduceToNat, Int.toNat_natCast, Nat.reduceDiv, Nat.reduceMod, Nat.succ_ne_self, beq_self_eq_true, Bool.not_true, Bool.not_false, Option.some.injEq, exists_eq_left']
                refine hK _ ?_; clear hK K
                refine AW.ret ?_
                simp -implicitDefEqProofs only [go_sem, decide_true, decide_false, not_true_eq_false, not_false_eq_true, Bool.false_eq_true, Bool.true_eq_false, ↓reduceIte, Nat.reduceAdd, Nat.reduceSub, Nat.reduceMul, Nat.reduceEqDiff, Nat.reduceLeDiff, Int.reduceNeg, reduceCtorEq, Int.reduceToNat, Int.toNat_natCast, Nat.reduceDiv, Nat.reduceMod, Nat.succ_ne_self, beq_self_eq_true, Bool.not_true, Bool.not_false, Option.some.injEq, exists_eq_left']
                simp only [vat, g4]
                rfl
              · simp at hc
          · have b4 : ((x.toNat : Int) == 0) = false := by simp; exact hz
            rw [if_neg (by omega)] at g4
            refine AW.rT (by rfl) fun K hK => ?_
            simp -implicitDefEqProofs only [go_sem, decide_true, decide_false, not_true_eq_false, not_false_eq_true, Bool.false_eq_true, Bool.true_eq_false, ↓reduceIte, Nat.reduceAdd, Nat.reduceSub, Nat.reduceMul, Nat.reduceEqDiff, Nat.reduceLeDiff, Int.reduceNeg, reduceCtorEq, Int.reduceToNat, Int.toNat_natCast, Nat.reduceDiv, Nat.reduceMod, Nat.succ_ne_self, beq_self_eq_true, Bool.not_true, Bool.not_false, Option.some.injEq, exists_eq_left', b4]
            refine hK _ ?_; clear hK K
            refine AW.cond _ (by simp -implicitDefEqProofs only [go_sem, decide_true, decide_false, not_true_eq_false, not_false_eq_true, Bool.false_eq_true, Bool.true_eq_false, ↓reduceIte, Nat.reduceAdd, Nat.reduceSub, Nat.reduceMul, Nat.reduceEqDiff, Nat.reduceLeDiff, Int.reduceNeg, reduceCtorEq, Int.reduceToNat, Int.toNat_natCast, Nat.reduceDiv, Nat.reduceMod, Nat.succ_ne_self, beq_self_eq_true, Bool.not_true, Bool.not_false, Option.some.injEq, exists_eq_left']; rfl) (fun hc => ?_) (fun hc => ?_)
            · simp at hc
            refine AW.skip ?_
            simp only [andThen, inBlk, reduceCtorEq, ↓reduceIte, if_t, if_f]
            refine AW.rT (by rfl) fun K hK => ?_
            simp -implicitDefEqProofs only [go_sem, decide_true, decide_false, not_true_eq_false, not_false_eq_true, Bool.false_eq_true, Bool.true_eq_false, ↓reduceIte, Nat.reduceAdd, Nat.reduceSub, Nat.reduceMul, Nat.reduceEqDiff, Nat.reduceLeDiff, Int.reduceNeg, reduceCtorEq, Int.reduceToNat, Int.toNat_natCast, Nat.reduceDiv, Nat.reduceMod, Nat.succ_ne_self, beq_self_eq_true, Bool.not_true, Bool.not_false, Option.some.injEq, exists_eq_left', w8, w9]
            refine hK _ ?_; clear hK K
            refine AW.ret ?_
            simp -implicitDefEqProofs only [go_sem, decide_true, decide_false, not_true_eq_false, not_false_eq_true, Bool.false_eq_true, Bool.true_eq_false, ↓reduceIte, Nat.reduceAdd, Nat.reduceSub, Nat.reduceMul, Nat.reduceEqDiff, Nat.reduceLeDiff, Int.reduceNeg, reduceCtorEq, Int.reduceToNat, Int.toNat_natCast, Nat.reduceDiv, Nat.reduceMod, Nat.succ_ne_self, beq_self_eq_true, Bool.not_true, Bool.not_false, Option.some.injEq, exists_eq_left']
            simp only [vat, g4, if_true, Nat.add_assoc]
    · simp at hc
  · have hc1 : ((i : Int) < ((((b.drop p).take 10).length : Nat) : Int)) = False := by
      simp only [eq_iff_iff, iff_false]; omega
    have hend : (b.drop p).drop i = [] := by
      rw [List.length_take, List.length_drop] at hi
      rw [List.drop_eq_nil_iff, List.length_drop]
      omega
    rw [hend] at g4
    simp only [vget] at g4
    refine AW.rT (by rfl) fun K hK => ?_
    simp -implicitDefEqProofs only [go_sem, decide_true, decide_false, not_true_eq_false, not_false_eq_true, Bool.false_eq_true, Bool.true_eq_false, ↓reduceIte, Nat.reduceAdd, Nat.reduceSub, Nat.reduceMul, Nat.reduceEqDiff, Nat.reduceLeDiff, Int.reduceNeg, reduceCtorEq, Int.reduceToNat, Int.toNat_natCast, Nat.reduceDiv, Nat.reduceMod, Nat.succ_ne_self, beq_self_eq_true, Bool.not_true, Bool.not_false, Option.some.injEq, exists_eq_left', hc1]
    refine hK _ ?_; clear hK K
    refine AW.seq ?_
    refine AW.cond _ (by simp -implicitDefEqProofs only [go_sem, decide_true, decide_false, not_true_eq_false, not_false_eq_true, Bool.false_eq_true, Bool.true_eq_false, ↓reduceIte, Nat.reduceAdd, Nat.reduceSub, Nat.reduceMul, Nat.reduceEqDiff, Nat.reduceLeDiff, Int.reduceNeg, reduceCtorEq, Int.reduceToNat, Int.toNat_natCast, Nat.reduceDiv, Nat.reduceMod, Nat.succ_ne_self, beq_self_eq_true, Bool.not_true, Bool.not_false, Option.some.injEq, exists_eq_left']; rfl) (fun hc => ?_) (fun hc => ?_)
    · simp at hc
    refine AW.exit ?_
    simp only [andThen, inBlk, reduceCtorEq, ↓reduceIte, if_t, if_f]
    refine AW.rT (by rfl) fun K hK => ?_
    simp -implicitDefEqProofs only [go_sem, decide_true, decide_false, not_true_eq_false, not_false_eq_true, Bool.false_eq_true, Bool.true_eq_false, ↓reduceIte, Nat.reduceAdd, Nat.reduceSub, Nat.reduceMul, Nat.reduceEqDiff, Nat.reduceLeDiff, Int.reduceNeg, reduceCtorEq, Int.reduceToNat, Int.toNat_natCast, Nat.reduceDiv, Nat.reduceMod, Nat.succ_ne_self, beq_self_eq_true, Bool.not_true, Bool.not_false, Option.some.injEq, exists_eq_left']
    refine hK _ ?_; clear hK K
    refine AW.ret ?_
    simp -implicitDefEqProofs only [go_sem, decide_true, decide_false, not_true_eq_false, not_false_eq_true, Bool.false_eq_true, Bool.true_eq_false, ↓reduceIte, Nat.reduceAdd, Nat.reduceSub, Nat.reduceMul, Nat.reduceEqDiff, Nat.reduceLeDiff, Int.reduceNeg, reduceCtorEq, Int.reduceToNat, Int.toNat_natCast, Nat.reduceDiv, Nat.reduceMod, Nat.succ_ne_self, beq_self_eq_true, Bool.not_true, Bool.not_false, Option.some.injEq, exists_eq_left']
    simp only [vat, g4]
    rfl
end Go.Aw
