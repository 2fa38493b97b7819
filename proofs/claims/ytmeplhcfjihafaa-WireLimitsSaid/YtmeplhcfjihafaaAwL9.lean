/- The law WireLimits. -/
import Derived.Test.YtmeplhcfjihafaaAwL7
namespace Go.Aw
open Go.Proofs
set_option linter.unusedSimpArgs false
set_option linter.unusedVariables false
theorem replicate_lift (n : Nat) : List.replicate n [AV.p (PV.int .u8 0)] = liftE ((List.replicate n (0 : UInt8)).map encB) := by
  simp [liftE, encB]
set_option maxRecDepth 100000 in
theorem law04_Limits : PFn Try.prog 9 [] (.bool true) := by
  refine PFn.of Try.func9 rfl (by decide) Try.ntmps9 Try.results9 (Nat.le_of_ble_eq_true rfl) ?_
  simp only [argsT]
  have c1 : checkR ⟨500, 0, 1, []⟩ = true := by decide
  have c2 : checkR ⟨501, 0, 1, []⟩ = false := by decide
  have c3 : checkR ⟨0, 0, 1, []⟩ = false := by decide
  obtain ⟨big, hbig⟩ : ∃ big : List UInt8, big = List.replicate 4093 0 := ⟨_, rfl⟩
  have bl : big.length = 4093 := by rw [hbig, List.length_replicate]
  have r1 : List.replicate 4093 [AV.p (PV.int .u8 0)] = liftE (big.map encB) := by rw [hbig]; exact replicate_lift _
  have v1 : bytesOf (liftE (big.map encB)) = some big := bytesOf_lift big
  clear hbig
  obtain ⟨zz, hzz⟩ : ∃ zz : List UInt8, zz = List.replicate 4097 0 := ⟨_, rfl⟩
  have zl : zz.length = 4097 := by rw [hzz, List.length_replicate]
  have r2 : List.replicate 4097 [AV.p (PV.int .u8 0)] = liftE (zz.map encB) := by rw [hzz]; exact replicate_lift _
  clear hzz
  have k1 : checkR ⟨1, 1, 0, big⟩ = true := checkR_of (by show (1 : Int) ≤ 1; omega) (by show (1 : Int) ≤ 500; omega) (.inr ⟨rfl, rfl, by show big.length ≤ 4096; omega⟩)
  have vv : (varint 4093).length = 2 := by decide +kernel
  have vk : (varint 3).length = 1 := by decide +kernel
  have pl : (putR ⟨1, 1, 0, big⟩).length = 4096 := by
    have : putR ⟨1, 1, 0, big⟩ = varint 3 ++ (varint big.length ++ big) := rfl
    rw [this, bl, List.length_append, List.length_append, vv, vk, bl]
  have fl : flatR [⟨1, 1, 0, big⟩] = putR ⟨1, 1, 0, big⟩ := by simp [flatR]
  have al : ([⟨1, 1, 0, big⟩] : List Raw).all checkR = true := by simp [k1]
  obtain ⟨x, hx⟩ : ∃ x, x = flatR [⟨1, 1, 0, big⟩] := ⟨_, rfl⟩
  have xl : x.length = 4096 := by rw [hx, fl, pl]
  have P1 := wire_PutAll [⟨1, 1, 0, big⟩] (by simp)
  have w1 : wirePut [⟨1, 1, 0, big⟩] = (x, 0) := by unfold wirePut; rw [al, if_pos rfl, ← hx, if_pos (by omega)]
  rw [w1] at P1
  have k2 : (checkR ⟨1, 1, 0, big ++ [97]⟩) = true := checkR_of (by show (1 : Int) ≤ 1; omega) (by show (1 : Int) ≤ 500; omega) (.inr ⟨rfl, rfl, by show (big ++ [97]).length ≤ 4096; rw [List.length_append, bl]; decide⟩)
  have P2 := wire_PutAll [⟨1, 1, 0, big ++ [97]⟩] (by simp)
  have vv2 : (varint 4094).length = 2 := by decide +kernel
  have w2 : wirePut [⟨1, 1, 0, big ++ [97]⟩] = ([], 4) := by
    have : putR ⟨1, 1, 0, big ++ [97]⟩ = varint 3 ++ (varint (big ++ [97]).length ++ (big ++ [97])) := rfl
    have l2 : (big ++ [97]).length = 4094 := by rw [List.length_append, bl]; rfl
    have : (putR ⟨1, 1, 0, big ++ [97]⟩).length = 4097 := by rw [this, l2, List.length_append, List.length_append, vk, vv2, l2]
    have fl2 : flatR [⟨1, 1, 0, big ++ [97]⟩] = putR ⟨1, 1, 0, big ++ [97]⟩ := by simp [flatR]
    unfold wirePut
    rw [if_pos (by simp [k2]), fl2, if_neg (by omega)]
  rw [w2] at P2
  have P3 := wire_Get zz (by omega)
  have w3 : wireGet zz = ([], 4) := by unfold wireGet; rw [if_pos (by omega)]
  rw [w3] at P3
  have P4 : PFn Try.prog 39 [.slice [[.int .u8 1], [.int .u8 0]]] (.tuple [.slice [], .int .i64 7]) := by
    have := wire_Get [1, 0] (by decide)
    rw [show wireGet [1, 0] = ([], 7) by decide +kernel] at this
    exact this
  have P5 := wire_Get x (by omega)
  have w5 : wireGet x = ([⟨1, 1, 0, big⟩], 0) := by
    rw [hx]
    exact get_of_put (fun r hr => by simp at hr; subst hr; exact ⟨by show (-9223372036854775808 : Int) ≤ 0; omega, by show (0 : Int) ≤ 9223372036854775807; omega⟩) al (by rw [fl, pl]; decide)
  rw [w5] at P5
  clear w1 w2 w3 w5 hx fl
  dsimp only at P1 P2 P3 P5
  have b1 : (((x.length : Nat) : Int) == 4096) = true := by simp; omega
  have l9 : (big.length ≤ 9223372036854775806) = True := by simp; omega
  refine AW.rT (by rfl) fun K hK => ?_
  simp -implicitDefEqProofs only [go_sem, decide_true, decide_false, not_true_eq_false, not_false_eq_true, Bool.false_eq_true, Bool.true_eq_false, ↓reduceIte, Nat.reduceAdd, Nat.reduceSub, Nat.reduceMul, Nat.reduceEqDiff, Nat.reduceLeDiff, Int.reduceNeg, reduceCtorEq, Int.reduceToNat, Int.toNat_natCast, Nat.reduceDiv, Nat.reduceMod, Nat.succ_ne_self, beq_self_eq_true, Bool.not_true, Bool.not_false, Option.some.injEq, exists_eq_left']
  refine hK _ ?_; clear hK K
  refine AW.rT (by rfl) fun K hK => ?_
  simp -implicitDefEqProofs only [go_sem, decide_true, decide_false, not_true_eq_false, not_false_eq_true, Bool.false_eq_true, Bool.true_eq_false, ↓reduceIte, Nat.reduceAdd, Nat.reduceSub, Nat.reduceMul, Nat.reduceEqDiff, Nat.reduceLeDiff, Int.reduceNeg, reduceCtorEq, Int.reduceToNat, Int.toNat_natCast, Nat.reduceDiv, Nat.reduceMod, Nat.succ_ne_self, beq_self_eq_true, Bool.not_true, Bool.not_false, Option.some.injEq, exists_eq_left']
  refine ⟨.pure _, wire_Put [] ⟨500, 0, 1, []⟩ (by simp), ?_⟩
  rw [c1]
  try simp -implicitDefEqProofs only [go_sem, decide_true, decide_false, not_true_eq_false, not_false_eq_true, Bool.false_eq_true, Bool.true_eq_false, ↓reduceIte, Nat.reduceAdd, Nat.reduceSub, Nat.reduceMul, Nat.reduceEqDiff, Nat.reduceLeDiff, Int.reduceNeg, reduceCtorEq, Int.reduceToNat, Int.toNat_natCast, Nat.reduceDiv, Nat.reduceMod, Nat.succ_ne_self, beq_self_eq_true, Bool.not_true, Bool.not_false, Option.some.injEq, exists_eq_left']
  refine hK _ ?_; clear hK K
  refine AW.rT (by rfl) fun K hK => ?_
  simp -implicitDefEqProofs only [go_sem, decide_true, decide_false, not_true_eq_false, not_false_eq_true, Bool.false_eq_true, Bool.true_eq_false, ↓reduceIte, Nat.reduceAdd, Nat.reduceSub, Nat.reduceMul, Nat.reduceEqDiff, Nat.reduceLeDiff, Int.reduceNeg, reduceCtorEq, Int.reduceToNat, Int.toNat_natCast, Nat.reduceDiv, Nat.reduceMod, Nat.succ_ne_self, beq_self_eq_true, Bool.not_true, Bool.not_false, Option.some.injEq, exists_eq_left']
  refine ⟨.pure _, wire_Put [] ⟨501, 0, 1, []⟩ (by simp), ?_⟩
  rw [c2]
  try simp -implicitDefEqProofs only [go_sem, decide_true, decide_false, not_true_eq_false, not_false_eq_true, Bool.false_eq_true, Bool.true_eq_false, ↓reduceIte, Nat.reduceAdd, Nat.reduceSub, Nat.reduceMul, Nat.reduceEqDiff, Nat.reduceLeDiff, Int.reduceNeg, reduceCtorEq, Int.reduceToNat, Int.toNat_natCast, Nat.reduceDiv, Nat.reduceMod, Nat.succ_ne_self, beq_self_eq_true, Bool.not_true, Bool.not_false, Option.some.injEq, exists_eq_left']
  refine hK _ ?_; clear hK K
  refine AW.rT (by rfl) fun K hK => ?_
  simp -implicitDefEqProofs only [go_sem, decide_true, decide_false, not_true_eq_false, not_false_eq_true, Bool.false_eq_true, Bool.true_eq_false, ↓reduceIte, Nat.reduceAdd, Nat.reduceSub, Nat.reduceMul, Nat.reduceEqDiff, Nat.reduceLeDiff, Int.reduceNeg, reduceCtorEq, Int.reduceToNat, Int.toNat_natCast, Nat.reduceDiv, Nat.reduceMod, Nat.succ_ne_self, beq_self_eq_true, Bool.not_true, Bool.not_false, Option.some.injEq, exists_eq_left']
  refine ⟨.pure _, wire_Put [] ⟨0, 0, 1, []⟩ (by simp), ?_⟩
  rw [c3]
  try simp -implicitDefEqProofs only [go_sem, decide_true, decide_false, not_true_eq_false, not_false_eq_true, Bool.false_eq_true, Bool.true_eq_false, ↓reduceIte, Nat.reduceAdd, Nat.reduceSub, Nat.reduceMul, Nat.reduceEqDiff, Nat.reduceLeDiff, Int.reduceNeg, reduceCtorEq, Int.reduceToNat, Int.toNat_natCast, Nat.reduceDiv, Nat.reduceMod, Nat.succ_ne_self, beq_self_eq_true, Bool.not_true, Bool.not_false, Option.some.injEq, exists_eq_left']
  refine hK _ ?_; clear hK K
  refine AW.rT (by rfl) fun K hK => ?_
  simp -implicitDefEqProofs only [go_sem, decide_true, decide_false, not_true_eq_false, not_false_eq_true, Bool.false_eq_true, Bool.true_eq_false, ↓reduceIte, Nat.reduceAdd, Nat.reduceSub, Nat.reduceMul, Nat.reduceEqDiff, Nat.reduceLeDiff, Int.reduceNeg, reduceCtorEq, Int.reduceToNat, Int.toNat_natCast, Nat.reduceDiv, Nat.reduceMod, Nat.succ_ne_self, beq_self_eq_true, Bool.not_true, Bool.not_false, Option.some.injEq, exists_eq_left', -List.reduceReplicate, r1, v1]
  refine ⟨⟨by decide, by decide⟩, ?_⟩
  refine hK _ ?_; clear hK K
  refine AW.rT (by rfl) fun K hK => ?_
  simp -implicitDefEqProofs only [go_sem, decide_true, decide_false, not_true_eq_false, not_false_eq_true, Bool.false_eq_true, Bool.true_eq_false, ↓reduceIte, Nat.reduceAdd, Nat.reduceSub, Nat.reduceMul, Nat.reduceEqDiff, Nat.reduceLeDiff, Int.reduceNeg, reduceCtorEq, Int.reduceToNat, Int.toNat_natCast, Nat.reduceDiv, Nat.reduceMod, Nat.succ_ne_self, beq_self_eq_true, Bool.not_true, Bool.not_false, Option.some.injEq, exists_eq_left']
  refine ⟨.pure _, P1, ?_⟩
  try simp -implicitDefEqProofs only [go_sem, decide_true, decide_false, not_true_eq_false, not_false_eq_true, Bool.false_eq_true, Bool.true_eq_false, ↓reduceIte, Nat.reduceAdd, Nat.reduceSub, Nat.reduceMul, Nat.reduceEqDiff, Nat.reduceLeDiff, Int.reduceNeg, reduceCtorEq, Int.reduceToNat, Int.toNat_natCast, Nat.reduceDiv, Nat.reduceMod, Nat.succ_ne_self, beq_self_eq_true, Bool.not_true, Bool.not_false, Option.some.injEq, exists_eq_left']
  refine hK _ ?_; clear hK K
  refine AW.rT (by rfl) fun K hK => ?_
  simp -implicitDefEqProofs only [go_sem, decide_true, decide_false, not_true_eq_false, not_false_eq_true, Bool.false_eq_true, Bool.true_eq_false, ↓reduceIte, Nat.reduceAdd, Nat.reduceSub, Nat.reduceMul, Nat.reduceEqDiff, Nat.reduceLeDiff, Int.reduceNeg, reduceCtorEq, Int.reduceToNat, Int.toNat_natCast, Nat.reduceDiv, Nat.reduceMod, Nat.succ_ne_self, beq_self_eq_true, Bool.not_true, Bool.not_false, Option.some.injEq, exists_eq_left', l9]
  refine ⟨.pure _, P2, ?_⟩
  try simp -implicitDefEqProofs only [go_sem, decide_true, decide_false, not_true_eq_false, not_false_eq_true, Bool.false_eq_true, Bool.true_eq_false, ↓reduceIte, Nat.reduceAdd, Nat.reduceSub, Nat.reduceMul, Nat.reduceEqDiff, Nat.reduceLeDiff, Int.reduceNeg, reduceCtorEq, Int.reduceToNat, Int.toNat_natCast, Nat.reduceDiv, Nat.reduceMod, Nat.succ_ne_self, beq_self_eq_true, Bool.not_true, Bool.not_false, Option.some.injEq, exists_eq_left']
  refine hK _ ?_; clear hK K
  refine AW.rT (by rfl) fun K hK => ?_
  simp -implicitDefEqProofs only [go_sem, decide_true, decide_false, not_true_eq_false, not_false_eq_true, Bool.false_eq_true, Bool.true_eq_false, ↓reduceIte, Nat.reduceAdd, Nat.reduceSub, Nat.reduceMul, Nat.reduceEqDiff, Nat.reduceLeDiff, Int.reduceNeg, reduceCtorEq, Int.reduceToNat, Int.toNat_natCast, Nat.reduceDiv, Nat.reduceMod, Nat.succ_ne_self, beq_self_eq_true, Bool.not_true, Bool.not_false, Option.some.injEq, exists_eq_left', -List.reduceReplicate, r2]
  refine ⟨⟨by decide, by decide⟩, ?_⟩
  refine ⟨.pure _, P3, ?_⟩
  try simp -implicitDefEqProofs only [go_sem, decide_true, decide_false, not_true_eq_false, not_false_eq_true, Bool.false_eq_true, Bool.true_eq_false, ↓reduceIte, Nat.reduceAdd, Nat.reduceSub, Nat.reduceMul, Nat.reduceEqDiff, Nat.reduceLeDiff, Int.reduceNeg, reduceCtorEq, Int.reduceToNat, Int.toNat_natCast, Nat.reduceDiv, Nat.reduceMod, Nat.succ_ne_self, beq_self_eq_true, Bool.not_true, Bool.not_false, Option.some.injEq, exists_eq_left']
  refine hK _ ?_; clear hK K
  refine AW.rT (by rfl) fun K hK => ?_
  simp -implicitDefEqProofs only [go_sem, decide_true, decide_false, not_true_eq_false, not_false_eq_true, Bool.false_eq_true, Bool.true_eq_false, ↓reduceIte, Nat.reduceAdd, Nat.reduceSub, Nat.reduceMul, Nat.reduceEqDiff, Nat.reduceLeDiff, Int.reduceNeg, reduceCtorEq, Int.reduceToNat, Int.toNat_natCast, Nat.reduceDiv, Nat.reduceMod, Nat.succ_ne_self, beq_self_eq_true, Bool.not_true, Bool.not_false, Option.some.injEq, exists_eq_left']
  refine ⟨.pure _, P4, ?_⟩
  try simp -implicitDefEqProofs only [go_sem, decide_true, decide_false, not_true_eq_false, not_false_eq_true, Bool.false_eq_true, Bool.true_eq_false, ↓reduceIte, Nat.reduceAdd, Nat.reduceSub, Nat.reduceMul, Nat.reduceEqDiff, Nat.reduceLeDiff, Int.reduceNeg, reduceCtorEq, Int.reduceToNat, Int.toNat_natCast, Nat.reduceDiv, Nat.reduceMod, Nat.succ_ne_self, beq_self_eq_true, Bool.not_true, Bool.not_false, Option.some.injEq, exists_eq_left']
  refine hK _ ?_; clear hK K
  refine AW.rT (by rfl) fun K hK => ?_
  simp -implicitDefEqProofs only [go_sem, decide_true, decide_false, not_true_eq_false, not_false_eq_true, Bool.false_eq_true, Bool.true_eq_false, ↓reduceIte, Nat.reduceAdd, Nat.reduceSub, Nat.reduceMul, Nat.reduceEqDiff, Nat.reduceLeDiff, Int.reduceNeg, reduceCtorEq, Int.reduceToNat, Int.toNat_natCast, Nat.reduceDiv, Nat.reduceMod, Nat.succ_ne_self, beq_self_eq_true, Bool.not_true, Bool.not_false, Option.some.injEq, exists_eq_left']
  refine ⟨.pure _, P5, ?_⟩
  try simp -implicitDefEqProofs only [go_sem, decide_true, decide_false, not_true_eq_false, not_false_eq_true, Bool.false_eq_true, Bool.true_eq_false, ↓reduceIte, Nat.reduceAdd, Nat.reduceSub, Nat.reduceMul, Nat.reduceEqDiff, Nat.reduceLeDiff, Int.reduceNeg, reduceCtorEq, Int.reduceToNat, Int.toNat_natCast, Nat.reduceDiv, Nat.reduceMod, Nat.succ_ne_self, beq_self_eq_true, Bool.not_true, Bool.not_false, Option.some.injEq, exists_eq_left']
  refine hK _ ?_; clear hK K
  have q1 : (((1 : Nat) : Int) == 1) = true := rfl
  have g1 : ([PV.int .i64 1, PV.int .i64 1, PV.int .i64 0, PV.str big])[3]? = some (PV.str big) := rfl
  refine AW.rT (by rfl) fun K hK => ?_
  simp -implicitDefEqProofs only [go_sem, decide_true, decide_false, not_true_eq_false, not_false_eq_true, Bool.false_eq_true, Bool.true_eq_false, ↓reduceIte, Nat.reduceAdd, Nat.reduceSub, Nat.reduceMul, Nat.reduceEqDiff, Nat.reduceLeDiff, Int.reduceNeg, reduceCtorEq, Int.reduceToNat, Int.toNat_natCast, Nat.reduceDiv, Nat.reduceMod, Nat.succ_ne_self, beq_self_eq_true, Bool.not_true, Bool.not_false, Option.some.injEq, exists_eq_left', List.length_map, b1, List.map_cons, List.map_nil, encRaw, List.length_cons, List.length_nil, q1, List.getD_cons_zero, g1]
  refine ⟨by omega, ?_⟩
  refine ⟨.pure _, law04_awake, ?_⟩
  try simp -implicitDefEqProofs only [go_sem, decide_true, decide_false, not_true_eq_false, not_false_eq_true, Bool.false_eq_true, Bool.true_eq_false, ↓reduceIte, Nat.reduceAdd, Nat.reduceSub, Nat.reduceMul, Nat.reduceEqDiff, Nat.reduceLeDiff, Int.reduceNeg, reduceCtorEq, Int.reduceToNat, Int.toNat_natCast, Nat.reduceDiv, Nat.reduceMod, Nat.succ_ne_self, beq_self_eq_true, Bool.not_true, Bool.not_false, Option.some.injEq, exists_eq_left']
  refine hK _ ?_; clear hK K
  refine AW.ret ?_
  simp -implicitDefEqProofs only [go_sem, decide_true, decide_false, not_true_eq_false, not_false_eq_true, Bool.false_eq_true, Bool.true_eq_false, ↓reduceIte, Nat.reduceAdd, Nat.reduceSub, Nat.reduceMul, Nat.reduceEqDiff, Nat.reduceLeDiff, Int.reduceNeg, reduceCtorEq, Int.reduceToNat, Int.toNat_natCast, Nat.reduceDiv, Nat.reduceMod, Nat.succ_ne_self, beq_self_eq_true, Bool.not_true, Bool.not_false, Option.some.injEq, exists_eq_left']
end Go.Aw
