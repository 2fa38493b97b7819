/- Fields as bytes, and back: contracts. -/
import Derived.Test.YtmeplhcfjihafaaAwG2
/- wire.Put of any field. -/
namespace Go.Aw
open Go.Proofs
set_option linter.unusedSimpArgs false
set_option linter.unusedVariables false
theorem wire_Put (b : List UInt8) (r : Raw) (hb : b.length ≤ 199999999980000) :
    PFn Try.prog 30 [.slice (b.map encB), .agg (encRaw r)] (.tuple [.slice ((if checkR r then b ++ putR r else b).map encB), .bool (checkR r)]) := by
  by_cases hw : r.wire = 0 ∨ checkR r = false
  · exact wire_Put0 b r hw (by omega)
  have hk : checkR r = true := by
    cases h : checkR r with
    | true => rfl
    | false => exact absurd (.inr h) hw
  obtain ⟨t1, t2, t3, t4⟩ := checkR_tag hk
  have h1 : r.wire = 1 := by
    rcases t3 with h | h
    · exact absurd (.inl h) hw
    · exact h
  refine PFn.of Try.func30 rfl (by decide) Try.ntmps30 Try.results30 (Nat.le_of_ble_eq_true rfl) ?_
  simp only [argsT]
  refine AW.rT (by rfl) fun K hK => ?_
  simp -implicitDefEqProofs only [go_sem, ↓reduceIte, Nat.reduceAdd, Nat.reduceMul, Nat.reduceEqDiff, Nat.reduceLeDiff, reduceCtorEq, Int.reduceToNat, encRaw]
  refine hK _ ?_; clear hK K
  refine AW.seq ?_
  refine AW.rT (by rfl) fun K hK => ?_
  simp -implicitDefEqProofs only [go_sem, ↓reduceIte, Nat.reduceAdd, Nat.reduceMul, Nat.reduceEqDiff, Nat.reduceLeDiff, reduceCtorEq, Int.reduceToNat]
  refine ⟨.pure _, wire_Check r, ?_⟩
  try simp -implicitDefEqProofs only [go_sem, ↓reduceIte, Nat.reduceAdd, Nat.reduceMul, Nat.reduceEqDiff, Nat.reduceLeDiff, reduceCtorEq, Int.reduceToNat]
  refine hK _ ?_; clear hK K
  refine AW.cond _ (by simp -implicitDefEqProofs only [go_sem, ↓reduceIte, Nat.reduceAdd, Nat.reduceMul, Nat.reduceEqDiff, Nat.reduceLeDiff, reduceCtorEq, Int.reduceToNat]; rfl) (fun hc => ?_) (fun hc => ?_)
  · simp [hk] at hc
  refine AW.skip ?_
  simp only [andThen, inBlk, reduceCtorEq, ↓reduceIte, if_t, if_f]
  have k1 : IntKind.wrap .i64 (2 * r.tag) = 2 * r.tag := by rw [w64] <;> omega
  have k2 : IntKind.wrap .i64 (2 * r.tag + r.wire) = 2 * r.tag + r.wire := by rw [w64] <;> omega
  have k3 : IntKind.wrap .u64 (2 * r.tag + r.wire) = (keyR r : Int) := by rw [wu64] <;> (try unfold keyR) <;> omega
  refine AW.rT (by rfl) fun K hK => ?_
  simp -implicitDefEqProofs only [go_sem, ↓reduceIte, Nat.reduceAdd, Nat.reduceMul, Nat.reduceEqDiff, Nat.reduceLeDiff, reduceCtorEq, Int.reduceToNat, k1, k2, k3]
  refine ⟨.pure _, vint_Put b (keyR r) (by unfold keyR; omega) (by omega), ?_⟩
  try simp -implicitDefEqProofs only [go_sem, ↓reduceIte, Nat.reduceAdd, Nat.reduceMul, Nat.reduceEqDiff, Nat.reduceLeDiff, reduceCtorEq, Int.reduceToNat]
  refine hK _ ?_; clear hK K
  refine AW.seq ?_
  have lv := varint_len 10 r.b.length (by omega) (by decide)
  have l10 := varint_len 10 (keyR r) (by unfold keyR; omega) (by decide)
  refine AW.rT (by rfl) fun K hK => ?_
  simp -implicitDefEqProofs only [go_sem, ↓reduceIte, Nat.reduceAdd, Nat.reduceMul, Nat.reduceEqDiff, Nat.reduceLeDiff, reduceCtorEq, Int.reduceToNat, h1]
  refine hK _ ?_; clear hK K
  refine AW.cond _ (by simp -implicitDefEqProofs only [go_sem, ↓reduceIte, Nat.reduceAdd, Nat.reduceMul, Nat.reduceEqDiff, Nat.reduceLeDiff, reduceCtorEq, Int.reduceToNat]; rfl) (fun hc => ?_) (fun hc => ?_)
  · simp at hc
  refine AW.skip ?_
  simp only [andThen, inBlk, reduceCtorEq, ↓reduceIte, if_t, if_f]
  have k4 : IntKind.wrap .u64 (r.b.length : Int) = (r.b.length : Int) := by rw [wu64] <;> omega
  refine AW.dT mixed (by rfl) (by decide +kernel) fun K hK => ?_
  simp -implicitDefEqProofs only [go_sem, ↓reduceIte, Nat.reduceAdd, Nat.reduceMul, Nat.reduceEqDiff, Nat.reduceLeDiff, reduceCtorEq, Int.reduceToNat, k4]
  refine ⟨.own _ _, vint_PutO _ r.b.length (by omega) (by simp; omega), ?_⟩
  have e6 : (r.b.map fun b => [byteA b]) = liftE (r.b.map encB) := by simp [liftE, encB, byteA]
  simp -implicitDefEqProofs only [go_sem, ↓reduceIte, Nat.reduceAdd, Nat.reduceMul, Nat.reduceEqDiff, Nat.reduceLeDiff, reduceCtorEq, Int.reduceToNat, e6]
  refine ⟨⟨liftE_len (sz := 1) (by simp [encB]), liftE_one (by simp [encB, PV.one]), fun _ => trivial⟩, by simp [liftE_length]; omega, by decide +kernel, ?_⟩
  refine hK _ ?_; clear hK K
  refine AW.ret ?_
  simp -implicitDefEqProofs only [go_sem, ↓reduceIte, Nat.reduceAdd, Nat.reduceMul, Nat.reduceEqDiff, Nat.reduceLeDiff, reduceCtorEq, Int.reduceToNat]
  rw [hk, if_pos rfl]
  simp [putR, h1]
end Go.Aw
/- The document's own put. -/
namespace Go.Aw
open Go.Proofs
set_option linter.unusedSimpArgs false
set_option linter.unusedVariables false
theorem ref02_Zig (n : Int) (h : -9223372036854775808 ≤ n) (h' : n ≤ 9223372036854775807) : PFn Try.prog 75 [.int .i64 n] (.int .u64 (refZig n : Int)) := by
  refine PFn.of Try.func75 rfl (by decide) Try.ntmps75 Try.results75 (Nat.le_of_ble_eq_true rfl) ?_
  simp only [argsT]
  have e : (2 : Int) ^ 64 = 18446744073709551616 := by decide
  have e63 : (2 : Int) ^ 63 = 9223372036854775808 := by decide
  refine AW.rT (by rfl) fun K hK => ?_
  simp -implicitDefEqProofs only [go_sem, ↓reduceIte, Nat.reduceAdd, Nat.reduceMul, Nat.reduceEqDiff, Nat.reduceLeDiff, reduceCtorEq, Int.reduceToNat]
  refine hK _ ?_; clear hK K
  refine AW.seq ?_
  by_cases h0 : n ≥ 0
  · refine AW.rT (by rfl) fun K hK => ?_
    simp -implicitDefEqProofs only [go_sem, ↓reduceIte, Nat.reduceAdd, Nat.reduceMul, Nat.reduceEqDiff, Nat.reduceLeDiff, reduceCtorEq, Int.reduceToNat, h0]
    refine hK _ ?_; clear hK K
    refine AW.cond _ (by simp -implicitDefEqProofs only [go_sem, ↓reduceIte, Nat.reduceAdd, Nat.reduceMul, Nat.reduceEqDiff, Nat.reduceLeDiff, reduceCtorEq, Int.reduceToNat]; rfl) (fun hc => ?_) (fun hc => ?_)
    · refine AW.rT (by rfl) fun K hK => ?_
      simp -implicitDefEqProofs only [go_sem, ↓reduceIte, Nat.reduceAdd, Nat.reduceMul, Nat.reduceEqDiff, Nat.reduceLeDiff, reduceCtorEq, Int.reduceToNat]
      refine hK _ ?_; clear hK K
      refine AW.ret ?_
      simp -implicitDefEqProofs only [go_sem, ↓reduceIte, Nat.reduceAdd, Nat.reduceMul, Nat.reduceEqDiff, Nat.reduceLeDiff, reduceCtorEq, Int.reduceToNat]
      simp only [refZig, IntKind.wrap, IntKind.bits, IntKind.signed, e, Bool.false_and, Bool.false_eq_true, if_false]
      rw [if_pos h0]
      congr 1
      omega
    · simp at hc
  · refine AW.rT (by rfl) fun K hK => ?_
    simp -implicitDefEqProofs only [go_sem, ↓reduceIte, Nat.reduceAdd, Nat.reduceMul, Nat.reduceEqDiff, Nat.reduceLeDiff, reduceCtorEq, Int.reduceToNat, h0]
    refine hK _ ?_; clear hK K
    refine AW.cond _ (by simp -implicitDefEqProofs only [go_sem, ↓reduceIte, Nat.reduceAdd, Nat.reduceMul, Nat.reduceEqDiff, Nat.reduceLeDiff, reduceCtorEq, Int.reduceToNat]; rfl) (fun hc => ?_) (fun hc => ?_)
    · simp at hc
    refine AW.skip ?_
    simp only [andThen, inBlk, reduceCtorEq, ↓reduceIte, if_t, if_f]
    have w1 : IntKind.wrap .i64 (n + 1) = n + 1 := by rw [w64] <;> omega
    have w2 : IntKind.wrap .i64 (-(n + 1)) = -(n + 1) := by rw [w64] <;> omega
    refine AW.rT (by rfl) fun K hK => ?_
    simp -implicitDefEqProofs only [go_sem, ↓reduceIte, Nat.reduceAdd, Nat.reduceMul, Nat.reduceEqDiff, Nat.reduceLeDiff, reduceCtorEq, Int.reduceToNat, w1, w2]
    refine hK _ ?_; clear hK K
    refine AW.ret ?_
    simp -implicitDefEqProofs only [go_sem, ↓reduceIte, Nat.reduceAdd, Nat.reduceMul, Nat.reduceEqDiff, Nat.reduceLeDiff, reduceCtorEq, Int.reduceToNat]
    simp only [refZig, IntKind.wrap, IntKind.bits, IntKind.signed, e, Bool.false_and, Bool.false_eq_true, if_false]
    rw [if_neg h0]
    congr 1
    omega
def vR (x : Nat × List UInt8) : St := ⟨ofL [(0, .p (.int .u64 (x.1 : Int))), (3, .own 0)], ofH [(0, .row 1 (liftE (x.2.map encB)))], 1⟩
theorem ref02_Put (v : Nat) (hv : v < 18446744073709551616) : OFn Try.prog 74 [.int .u64 (v : Int)] 1 ((varint v).map encB) := by
  refine OFn.of Try.func74 rfl (by decide) Try.ntmps74 Try.results74 (Nat.le_of_ble_eq_true rfl) ?_
  simp only [argsT]
  refine AW.rT (by rfl) fun K hK => ?_
  simp -implicitDefEqProofs only [go_sem, ↓reduceIte, Nat.reduceAdd, Nat.reduceMul, Nat.reduceEqDiff, Nat.reduceLeDiff, reduceCtorEq, Int.reduceToNat]
  refine hK _ ?_; clear hK K
  refine AW.rT (by rfl) fun K hK => ?_
  simp -implicitDefEqProofs only [go_sem, ↓reduceIte, Nat.reduceAdd, Nat.reduceMul, Nat.reduceEqDiff, Nat.reduceLeDiff, reduceCtorEq, Int.reduceToNat]
  refine hK _ ?_; clear hK K
  refine AW.seq ?_
  refine AW.block ?_
  refine AW.loop vR (fun x => x.2 ++ varint x.1 = varint v ∧ x.1 ≤ v) (fun x => x.1) (v, []) ?_ (by simp) fun x hx => ?_
  · refine Ghost.trans (Ghost.nil (t := 3) (sz := 1) rfl) ?_
    simp only [vR]
    refine Ghost.ent (fun _ => 2) ?_ ?_ ?_ <;> simp -implicitDefEqProofs only [go_sem, ↓reduceIte, Nat.reduceAdd, Nat.reduceMul, Nat.reduceEqDiff, Nat.reduceLeDiff, reduceCtorEq, Int.reduceToNat, liftE, List.forall_mem_cons, List.not_mem_nil, false_implies, implies_true, and_self, map_renL_lift, labsIn_lift, List.all_append, List.all_cons, List.all_nil, List.map_append, Nat.reduceLT, labsInL, AV.labsIn]
  obtain ⟨y, out⟩ := x
  obtain ⟨h1, h2⟩ := hx
  dsimp only at h1 h2
  have hl : out.length + (varint y).length ≤ 10 := by
    have := congrArg List.length h1
    have h10 := varint_len 10 v (by omega) (by decide)
    simp only [List.length_append] at this
    omega
  have hp := varint_pos y
  refine AW.seq ?_
  simp only [vR]
  by_cases hy : y < 128
  · have hc1 : ((y : Int) ≥ 128) = False := by simp; omega
    refine AW.rT (by rfl) fun K hK => ?_
    simp -implicitDefEqProofs only [go_sem, ↓reduceIte, Nat.reduceAdd, Nat.reduceMul, Nat.reduceEqDiff, Nat.reduceLeDiff, reduceCtorEq, Int.reduceToNat, hc1]
    refine hK _ ?_; clear hK K
    refine AW.cond _ (by simp -implicitDefEqProofs only [go_sem, ↓reduceIte, Nat.reduceAdd, Nat.reduceMul, Nat.reduceEqDiff, Nat.reduceLeDiff, reduceCtorEq, Int.reduceToNat]; rfl) (fun hc => ?_) (fun hc => ?_)
    · simp at hc
    refine AW.exit ?_
    simp only [andThen, inBlk, reduceCtorEq, ↓reduceIte, if_t, if_f]
    have hu : IntKind.wrap .u8 (y : Int) = ((UInt8.ofNat y).toNat : Int) := by
      rw [wu8 (by omega) (by omega)]
      simp; omega
    refine AW.rT (by rfl) fun K hK => ?_
    simp -implicitDefEqProofs only [go_sem, ↓reduceIte, Nat.reduceAdd, Nat.reduceMul, Nat.reduceEqDiff, Nat.reduceLeDiff, reduceCtorEq, Int.reduceToNat, hu]
    refine ⟨⟨by simp, by simp [oneAll, AV.one, PV.one], by simp⟩, by simp [liftE_length]; omega, ?_⟩
    refine hK _ ?_; clear hK K
    refine AW.ret ⟨2, _, rfl, by simp -implicitDefEqProofs only [go_sem, ↓reduceIte, Nat.reduceAdd, Nat.reduceMul, Nat.reduceEqDiff, Nat.reduceLeDiff, reduceCtorEq, Int.reduceToNat]; rfl, ?_⟩
    rw [← h1, varint_small hy]
    simp -implicitDefEqProofs only [go_sem, ↓reduceIte, Nat.reduceAdd, Nat.reduceMul, Nat.reduceEqDiff, Nat.reduceLeDiff, reduceCtorEq, Int.reduceToNat, List.map_append, liftE_append, liftE_cons, liftE_nil, encB]
  · have hc1 : ((y : Int) ≥ 128) = True := by simp; omega
    refine AW.rT (by rfl) fun K hK => ?_
    simp -implicitDefEqProofs only [go_sem, ↓reduceIte, Nat.reduceAdd, Nat.reduceMul, Nat.reduceEqDiff, Nat.reduceLeDiff, reduceCtorEq, Int.reduceToNat, hc1]
    refine hK _ ?_; clear hK K
    refine AW.cond _ (by simp -implicitDefEqProofs only [go_sem, ↓reduceIte, Nat.reduceAdd, Nat.reduceMul, Nat.reduceEqDiff, Nat.reduceLeDiff, reduceCtorEq, Int.reduceToNat]; rfl) (fun hc => ?_) (fun hc => ?_)
    · refine AW.skip ?_
      simp only [andThen, inBlk, reduceCtorEq, ↓reduceIte, if_t, if_f]
      refine AW.block ?_
      have z1 : ((128 : Int) = 0) = False := by simp
      have m1 : (y : Int).tmod 128 = ((y % 128 : Nat) : Int) := by rw [Int.tmod_eq_emod_of_nonneg (by omega)]; omega
      have q1 : (y : Int).tdiv 128 = ((y / 128 : Nat) : Int) := by rw [Int.tdiv_eq_ediv_of_nonneg (by omega)]; omega
      have w3 : IntKind.wrap .u64 ((y / 128 : Nat) : Int) = ((y / 128 : Nat) : Int) := by rw [wu64] <;> omega
      have w1 : IntKind.wrap .u8 ((y % 128 : Nat) : Int) = ((y % 128 : Nat) : Int) := by rw [wu8] <;> omega
      have w2 : IntKind.wrap .u8 (((y % 128 : Nat) : Int) + 128) = ((UInt8.ofNat (y % 128 + 128)).toNat : Int) := by
        rw [wu8 (by omega) (by omega), u8nat (by omega)]; omega
      refine AW.rT (by rfl) fun K hK => ?_
      simp -implicitDefEqProofs only [go_sem, ↓reduceIte, Nat.reduceAdd, Nat.reduceMul, Nat.reduceEqDiff, Nat.reduceLeDiff, reduceCtorEq, Int.reduceToNat, z1, m1, w1, w2]
      refine ⟨⟨by simp, by simp [oneAll, AV.one, PV.one], by simp⟩, by simp [liftE_length]; omega, ?_⟩
      refine hK _ ?_; clear hK K
      have hv8 := varint_big hy
      refine AW.rE (by rfl) fun K hK => ?_
      simp -implicitDefEqProofs only [go_sem, ↓reduceIte, Nat.reduceAdd, Nat.reduceMul, Nat.reduceEqDiff, Nat.reduceLeDiff, reduceCtorEq, Int.reduceToNat, z1, q1, w3]
      refine hK _ ?_; clear hK K
      refine ⟨(y / 128, out ++ [UInt8.ofNat (y % 128 + 128)]), ⟨?_, ?_⟩, ?_, ?_⟩
      · simp only [List.append_assoc, List.singleton_append, ← hv8, h1]
      · show y / 128 ≤ v
        omega
      · show y / 128 < y
        omega
      · simp only [vR]
        refine Ghost.ent (fun _ => 9) ?_ ?_ ?_ <;> simp -implicitDefEqProofs only [go_sem, ↓reduceIte, Nat.reduceAdd, Nat.reduceMul, Nat.reduceEqDiff, Nat.reduceLeDiff, reduceCtorEq, Int.reduceToNat, encB, List.map_append, liftE_append, liftE_cons, liftE_nil, List.forall_mem_cons, List.not_mem_nil, false_implies, implies_true, and_self, map_renL_lift, labsIn_lift, List.all_append, List.all_cons, List.all_nil, List.map_append, Nat.reduceLT, labsInL, AV.labsIn]
    · simp at hc
theorem ref04_Check (r : Raw) : PFn Try.prog 31 [.agg (encRaw r)] (.bool (checkR r)) := by
  refine PFn.of Try.func31 rfl (by decide) Try.ntmps31 Try.results31 (Nat.le_of_ble_eq_true rfl) ?_
  simp only [argsT]
  refine AW.rT (by rfl) fun K hK => ?_
  simp -implicitDefEqProofs only [go_sem, ↓reduceIte, Nat.reduceAdd, Nat.reduceMul, Nat.reduceEqDiff, Nat.reduceLeDiff, reduceCtorEq, Int.reduceToNat, encRaw]
  refine hK _ ?_; clear hK K
  refine AW.seq ?_
  by_cases h1 : r.tag < 1
  · refine AW.rT (by rfl) fun K hK => ?_
    simp -implicitDefEqProofs only [go_sem, ↓reduceIte, Nat.reduceAdd, Nat.reduceMul, Nat.reduceEqDiff, Nat.reduceLeDiff, reduceCtorEq, Int.reduceToNat, h1]
    refine hK _ ?_; clear hK K
    refine AW.cond _ (by simp -implicitDefEqProofs only [go_sem, ↓reduceIte, Nat.reduceAdd, Nat.reduceMul, Nat.reduceEqDiff, Nat.reduceLeDiff, reduceCtorEq, Int.reduceToNat]; rfl) (fun hc => ?_) (fun hc => ?_)
    · refine AW.rT (by rfl) fun K hK => ?_
      simp -implicitDefEqProofs only [go_sem, ↓reduceIte, Nat.reduceAdd, Nat.reduceMul, Nat.reduceEqDiff, Nat.reduceLeDiff, reduceCtorEq, Int.reduceToNat]
      refine hK _ ?_; clear hK K
      refine AW.ret ?_
      simp -implicitDefEqProofs only [go_sem, ↓reduceIte, Nat.reduceAdd, Nat.reduceMul, Nat.reduceEqDiff, Nat.reduceLeDiff, reduceCtorEq, Int.reduceToNat]
      simp [checkR, h1]
    · simp at hc
  by_cases h2 : 500 < r.tag
  · refine AW.rT (by rfl) fun K hK => ?_
    simp -implicitDefEqProofs only [go_sem, ↓reduceIte, Nat.reduceAdd, Nat.reduceMul, Nat.reduceEqDiff, Nat.reduceLeDiff, reduceCtorEq, Int.reduceToNat, h1, h2]
    refine hK _ ?_; clear hK K
    refine AW.cond _ (by simp -implicitDefEqProofs only [go_sem, ↓reduceIte, Nat.reduceAdd, Nat.reduceMul, Nat.reduceEqDiff, Nat.reduceLeDiff, reduceCtorEq, Int.reduceToNat]; rfl) (fun hc => ?_) (fun hc => ?_)
    · refine AW.rT (by rfl) fun K hK => ?_
      simp -implicitDefEqProofs only [go_sem, ↓reduceIte, Nat.reduceAdd, Nat.reduceMul, Nat.reduceEqDiff, Nat.reduceLeDiff, reduceCtorEq, Int.reduceToNat]
      refine hK _ ?_; clear hK K
      refine AW.ret ?_
      simp -implicitDefEqProofs only [go_sem, ↓reduceIte, Nat.reduceAdd, Nat.reduceMul, Nat.reduceEqDiff, Nat.reduceLeDiff, reduceCtorEq, Int.reduceToNat]
      simp [checkR, h1, h2]
    · simp at hc
  refine AW.rT (by rfl) fun K hK => ?_
  simp -implicitDefEqProofs only [go_sem, ↓reduceIte, Nat.reduceAdd, Nat.reduceMul, Nat.reduceEqDiff, Nat.reduceLeDiff, reduceCtorEq, Int.reduceToNat, h1, h2]
  refine hK _ ?_; clear hK K
  refine AW.cond _ (by simp -implicitDefEqProofs only [go_sem, ↓reduceIte, Nat.reduceAdd, Nat.reduceMul, Nat.reduceEqDiff, Nat.reduceLeDiff, reduceCtorEq, Int.reduceToNat]; rfl) (fun hc => ?_) (fun hc => ?_)
  · simp at hc
  refine AW.skip ?_
  simp only [andThen, inBlk, reduceCtorEq, ↓reduceIte, if_t, if_f]
  refine AW.seq ?_
  by_cases h3 : r.wire = 0
  · refine AW.rT (by rfl) fun K hK => ?_
    simp -implicitDefEqProofs only [go_sem, ↓reduceIte, Nat.reduceAdd, Nat.reduceMul, Nat.reduceEqDiff, Nat.reduceLeDiff, reduceCtorEq, Int.reduceToNat, h3]
    refine hK _ ?_; clear hK K
    refine AW.cond _ (by simp -implicitDefEqProofs only [go_sem, ↓reduceIte, Nat.reduceAdd, Nat.reduceMul, Nat.reduceEqDiff, Nat.reduceLeDiff, reduceCtorEq, Int.reduceToNat]; rfl) (fun hc => ?_) (fun hc => ?_)
    · refine AW.rT (by rfl) fun K hK => ?_
      simp -implicitDefEqProofs only [go_sem, ↓reduceIte, Nat.reduceAdd, Nat.reduceMul, Nat.reduceEqDiff, Nat.reduceLeDiff, reduceCtorEq, Int.reduceToNat]
      refine hK _ ?_; clear hK K
      refine AW.ret ?_
      simp -implicitDefEqProofs only [go_sem, ↓reduceIte, Nat.reduceAdd, Nat.reduceMul, Nat.reduceEqDiff, Nat.reduceLeDiff, reduceCtorEq, Int.reduceToNat]
      by_cases hb : r.b = [] <;> simp [checkR, h1, h2, h3, hb]
    · simp at hc
  have h3' := beqf h3
  refine AW.rT (by rfl) fun K hK => ?_
  simp -implicitDefEqProofs only [go_sem, ↓reduceIte, Nat.reduceAdd, Nat.reduceMul, Nat.reduceEqDiff, Nat.reduceLeDiff, reduceCtorEq, Int.reduceToNat, h3']
  refine hK _ ?_; clear hK K
  refine AW.cond _ (by simp -implicitDefEqProofs only [go_sem, ↓reduceIte, Nat.reduceAdd, Nat.reduceMul, Nat.reduceEqDiff, Nat.reduceLeDiff, reduceCtorEq, Int.reduceToNat]; rfl) (fun hc => ?_) (fun hc => ?_)
  · simp at hc
  refine AW.skip ?_
  simp only [andThen, inBlk, reduceCtorEq, ↓reduceIte, if_t, if_f]
  by_cases h4 : r.wire = 1
  · by_cases h5 : r.n = 0
    · refine AW.rT (by rfl) fun K hK => ?_
      simp -implicitDefEqProofs only [go_sem, ↓reduceIte, Nat.reduceAdd, Nat.reduceMul, Nat.reduceEqDiff, Nat.reduceLeDiff, reduceCtorEq, Int.reduceToNat, h4, h5]
      refine hK _ ?_; clear hK K
      refine AW.ret ?_
      simp -implicitDefEqProofs only [go_sem, ↓reduceIte, Nat.reduceAdd, Nat.reduceMul, Nat.reduceEqDiff, Nat.reduceLeDiff, reduceCtorEq, Int.reduceToNat]
      simp [checkR, h1, h2, h3, h4, h5]
      omega
    · have h5' := beqf h5
      refine AW.rT (by rfl) fun K hK => ?_
      simp -implicitDefEqProofs only [go_sem, ↓reduceIte, Nat.reduceAdd, Nat.reduceMul, Nat.reduceEqDiff, Nat.reduceLeDiff, reduceCtorEq, Int.reduceToNat, h4, h5']
      refine hK _ ?_; clear hK K
      refine AW.ret ?_
      simp -implicitDefEqProofs only [go_sem, ↓reduceIte, Nat.reduceAdd, Nat.reduceMul, Nat.reduceEqDiff, Nat.reduceLeDiff, reduceCtorEq, Int.reduceToNat]
      simp [checkR, h1, h2, h3, h4, h5]
  · have h4' := beqf h4
    refine AW.rT (by rfl) fun K hK => ?_
    simp -implicitDefEqProofs only [go_sem, ↓reduceIte, Nat.reduceAdd, Nat.reduceMul, Nat.reduceEqDiff, Nat.reduceLeDiff, reduceCtorEq, Int.reduceToNat, h4']
    refine hK _ ?_; clear hK K
    refine AW.ret ?_
    simp -implicitDefEqProofs only [go_sem, ↓reduceIte, Nat.reduceAdd, Nat.reduceMul, Nat.reduceEqDiff, Nat.reduceLeDiff, reduceCtorEq, Int.reduceToNat]
    simp [checkR, h1, h2, h3, h4]
theorem ref04_Put (r : Raw) (hk : okRaw r) : OFn Try.prog 32 [.agg (encRaw r)] 1 ((putR r).map encB) := by
  obtain ⟨hk, hn1, hn2⟩ := hk
  obtain ⟨t1, t2, t3, t4⟩ := checkR_tag hk
  refine OFn.of Try.func32 rfl (by decide) Try.ntmps32 Try.results32 (Nat.le_of_ble_eq_true rfl) ?_
  simp only [argsT]
  have k1 : IntKind.wrap .i64 (2 * r.tag) = 2 * r.tag := by rw [w64] <;> omega
  have k2 : IntKind.wrap .i64 (2 * r.tag + r.wire) = 2 * r.tag + r.wire := by rw [w64] <;> omega
  have k3 : IntKind.wrap .u64 (2 * r.tag + r.wire) = (keyR r : Int) := by rw [wu64] <;> (try unfold keyR) <;> omega
  have l10 := varint_len 10 (keyR r) (by unfold keyR; omega) (by decide)
  have l11 := varint_len 10 r.b.length (by omega) (by decide)
  have l12 := varint_len 10 (refZig r.n) (Nat.lt_trans (refZig_lt hn1 hn2) (by decide)) (by decide)
  refine AW.rT (by rfl) fun K hK => ?_
  simp -implicitDefEqProofs only [go_sem, ↓reduceIte, Nat.reduceAdd, Nat.reduceMul, Nat.reduceEqDiff, Nat.reduceLeDiff, reduceCtorEq, Int.reduceToNat, encRaw]
  refine hK _ ?_; clear hK K
  refine AW.rT (by rfl) fun K hK => ?_
  simp -implicitDefEqProofs only [go_sem, ↓reduceIte, Nat.reduceAdd, Nat.reduceMul, Nat.reduceEqDiff, Nat.reduceLeDiff, reduceCtorEq, Int.reduceToNat, k1, k2, k3]
  refine ⟨.own _ _, ref02_Put (keyR r) (by unfold keyR; omega), ?_⟩
  simp -implicitDefEqProofs only [go_sem, ↓reduceIte, Nat.reduceAdd, Nat.reduceMul, Nat.reduceEqDiff, Nat.reduceLeDiff, reduceCtorEq, Int.reduceToNat]
  refine hK _ ?_; clear hK K
  refine AW.seq ?_
  by_cases h0 : r.wire = 0
  · refine AW.rT (by rfl) fun K hK => ?_
    simp -implicitDefEqProofs only [go_sem, ↓reduceIte, Nat.reduceAdd, Nat.reduceMul, Nat.reduceEqDiff, Nat.reduceLeDiff, reduceCtorEq, Int.reduceToNat, h0]
    refine hK _ ?_; clear hK K
    refine AW.cond _ (by simp -implicitDefEqProofs only [go_sem, ↓reduceIte, Nat.reduceAdd, Nat.reduceMul, Nat.reduceEqDiff, Nat.reduceLeDiff, reduceCtorEq, Int.reduceToNat]; rfl) (fun hc => ?_) (fun hc => ?_)
    · refine AW.rT (by rfl) fun K hK => ?_
      simp -implicitDefEqProofs only [go_sem, ↓reduceIte, Nat.reduceAdd, Nat.reduceMul, Nat.reduceEqDiff, Nat.reduceLeDiff, reduceCtorEq, Int.reduceToNat]
      refine ⟨.pure _, ref02_Zig r.n hn1 hn2, ?_⟩
      try simp -implicitDefEqProofs only [go_sem, ↓reduceIte, Nat.reduceAdd, Nat.reduceMul, Nat.reduceEqDiff, Nat.reduceLeDiff, reduceCtorEq, Int.reduceToNat]
      refine ⟨.own _ _, ref02_Put (refZig r.n) (refZig_lt hn1 hn2), ?_⟩
      try simp -implicitDefEqProofs only [go_sem, ↓reduceIte, Nat.reduceAdd, Nat.reduceMul, Nat.reduceEqDiff, Nat.reduceLeDiff, reduceCtorEq, Int.reduceToNat]
      refine ⟨⟨liftE_len (sz := 1) (by simp [encB]), liftE_one (by simp [encB, PV.one]), fun _ => trivial⟩, by simp [liftE_length]; omega, ?_⟩
      refine hK _ ?_; clear hK K
      refine AW.ret ⟨2, _, rfl, by simp -implicitDefEqProofs only [go_sem, ↓reduceIte, Nat.reduceAdd, Nat.reduceMul, Nat.reduceEqDiff, Nat.reduceLeDiff, reduceCtorEq, Int.reduceToNat]; rfl, ?_⟩
      simp -implicitDefEqProofs only [go_sem, ↓reduceIte, Nat.reduceAdd, Nat.reduceMul, Nat.reduceEqDiff, Nat.reduceLeDiff, reduceCtorEq, Int.reduceToNat]
      simp [putR, h0, liftE_append, zigN_ref hn1 hn2]
    · simp at hc
  · have h0' := beqf h0
    have h1 : r.wire = 1 := by rcases t3 with h | h; exact absurd h h0; exact h
    have k4 : IntKind.wrap .u64 (r.b.length : Int) = (r.b.length : Int) := by rw [wu64] <;> omega
    have e6 : (r.b.map fun b => [byteA b]) = liftE (r.b.map encB) := by simp [liftE, encB, byteA]
    refine AW.rT (by rfl) fun K hK => ?_
    simp -implicitDefEqProofs only [go_sem, ↓reduceIte, Nat.reduceAdd, Nat.reduceMul, Nat.reduceEqDiff, Nat.reduceLeDiff, reduceCtorEq, Int.reduceToNat, h0']
    refine hK _ ?_; clear hK K
    refine AW.cond _ (by simp -implicitDefEqProofs only [go_sem, ↓reduceIte, Nat.reduceAdd, Nat.reduceMul, Nat.reduceEqDiff, Nat.reduceLeDiff, reduceCtorEq, Int.reduceToNat]; rfl) (fun hc => ?_) (fun hc => ?_)
    · simp at hc
    refine AW.skip ?_
    simp only [andThen, inBlk, reduceCtorEq, ↓reduceIte, if_t, if_f]
    refine AW.rT (by rfl) fun K hK => ?_
    simp -implicitDefEqProofs only [go_sem, ↓reduceIte, Nat.reduceAdd, Nat.reduceMul, Nat.reduceEqDiff, Nat.reduceLeDiff, reduceCtorEq, Int.reduceToNat, k4]
    refine ⟨.own _ _, ref02_Put r.b.length (by omega), ?_⟩
    try simp -implicitDefEqProofs only [go_sem, ↓reduceIte, Nat.reduceAdd, Nat.reduceMul, Nat.reduceEqDiff, Nat.reduceLeDiff, reduceCtorEq, Int.reduceToNat]
    refine ⟨⟨liftE_len (sz := 1) (by simp [encB]), liftE_one (by simp [encB, PV.one]), fun _ => trivial⟩, by simp [liftE_length]; omega, ?_⟩
    refine hK _ ?_; clear hK K
    refine AW.rT (by rfl) fun K hK => ?_
    simp -implicitDefEqProofs only [go_sem, ↓reduceIte, Nat.reduceAdd, Nat.reduceMul, Nat.reduceEqDiff, Nat.reduceLeDiff, reduceCtorEq, Int.reduceToNat, e6]
    refine ⟨⟨liftE_len (sz := 1) (by simp [encB]), liftE_one (by simp [encB, PV.one]), fun _ => trivial⟩, by simp [liftE_length]; omega, ?_⟩
    refine hK _ ?_; clear hK K
    refine AW.ret ⟨2, _, rfl, by simp -implicitDefEqProofs only [go_sem, ↓reduceIte, Nat.reduceAdd, Nat.reduceMul, Nat.reduceEqDiff, Nat.reduceLeDiff, reduceCtorEq, Int.reduceToNat]; rfl, ?_⟩
    simp -implicitDefEqProofs only [go_sem, ↓reduceIte, Nat.reduceAdd, Nat.reduceMul, Nat.reduceEqDiff, Nat.reduceLeDiff, reduceCtorEq, Int.reduceToNat]
    simp [putR, h1, liftE_append]
end Go.Aw
/- All fields put: the program's, the document's. -/
namespace Go.Aw
open Go.Proofs
set_option linter.unusedSimpArgs false
set_option linter.unusedVariables false
theorem flat_succ {l : List Raw} {k : Nat} {r : Raw} (h : l[k]? = some r) : flatR (l.take (k + 1)) = flatR (l.take k) ++ putR r := by
  rw [List.take_add_one, h]
  simp [flatR]
theorem flat_le (l : List Raw) (k : Nat) : (flatR (l.take k)).length ≤ (flatR l).length := by
  conv => rhs; rw [← List.take_append_drop k l]
  rw [flatR, flatR, List.flatMap_append, List.length_append]
  omega
theorem all_succ {l : List Raw} {k : Nat} {r : Raw} (h : l[k]? = some r) (ha : (l.take k).all checkR = true) (hr : checkR r = true) : (l.take (k + 1)).all checkR = true := by
  rw [List.take_add_one, h, List.all_append, ha]
  simp [hr]
theorem not_all {l : List Raw} {k : Nat} {r : Raw} (h : l[k]? = some r) (hr : checkR r = false) : l.all checkR = false := by
  rw [List.all_eq_false]
  exact ⟨r, List.mem_of_getElem? h, by simp [hr]⟩
def pS1 (l : List Raw) (k : Nat) : St := ⟨ofL [(0, .p (.slice (l.map encRaw))), (9, .p (.slice (l.map encRaw))), (10, .p (.int .i64 (l.length : Int))), (11, .p (.int .i64 (k : Int)))], ofH [], 0⟩
def pS2 (l : List Raw) (k : Nat) : St := ⟨ofL [(0, .p (.slice (l.map encRaw))), (6, .p (.slice ((flatR (l.take k)).map encB))), (19, .p (.slice (l.map encRaw))), (20, .p (.int .i64 (l.length : Int))), (21, .p (.int .i64 (k : Int)))], ofH [], 0⟩
theorem wire_PutAll (l : List Raw) (hl : l.length ≤ 1000000) : PFn Try.prog 33 [.slice (l.map encRaw)] (.tuple [.slice ((wirePut l).1.map encB), .int .i64 (wirePut l).2]) := by
  refine PFn.of Try.func33 rfl (by decide) Try.ntmps33 Try.results33 (Nat.le_of_ble_eq_true rfl) ?_
  simp only [argsT]
  refine AW.rT (by rfl) fun K hK => ?_
  simp -implicitDefEqProofs only [go_sem, ↓reduceIte, Nat.reduceAdd, Nat.reduceMul, Nat.reduceEqDiff, Nat.reduceLeDiff, reduceCtorEq, Int.reduceToNat]
  refine hK _ ?_; clear hK K
  refine AW.seq ?_
  refine AW.rT (by rfl) fun K hK => ?_
  simp -implicitDefEqProofs only [go_sem, ↓reduceIte, Nat.reduceAdd, Nat.reduceMul, Nat.reduceEqDiff, Nat.reduceLeDiff, reduceCtorEq, Int.reduceToNat, List.length_map]
  refine hK _ ?_; clear hK K
  refine AW.block ?_
  refine AW.loop (pS1 l) (fun k => k ≤ l.length ∧ (l.take k).all checkR = true) (fun k => l.length - k) 0 ?_ (by simp) fun k hk => ?_
  · simp only [pS1]
    refine Ghost.sub ?_ ?_ <;> simp -implicitDefEqProofs only [go_sem, ↓reduceIte, Nat.reduceAdd, Nat.reduceMul, Nat.reduceEqDiff, Nat.reduceLeDiff, reduceCtorEq, Int.reduceToNat,  List.forall_mem_cons, List.not_mem_nil, false_implies, implies_true, and_self, labsIn_lift, List.all_append, List.all_cons, List.all_nil, Nat.reduceLT, labsInL, AV.labsIn]
    rfl
  obtain ⟨h1, h2⟩ := hk
  simp only [pS1]
  by_cases hk : k < l.length
  · obtain ⟨r, hr⟩ : ∃ r, l[k]? = some r := ⟨_, List.getElem?_eq_getElem hk⟩
    have ⟨hr1, hr2, hr3⟩ := at_map' encRaw hr
    have hc1 : ((k : Int) < (l.length : Int)) = True := by simp; omega
    refine AW.rT (by rfl) fun K hK => ?_
    simp -implicitDefEqProofs only [go_sem, ↓reduceIte, Nat.reduceAdd, Nat.reduceMul, Nat.reduceEqDiff, Nat.reduceLeDiff, reduceCtorEq, Int.reduceToNat, hc1]
    refine hK _ ?_; clear hK K
    refine AW.seq ?_
    refine AW.cond _ (by simp -implicitDefEqProofs only [go_sem, ↓reduceIte, Nat.reduceAdd, Nat.reduceMul, Nat.reduceEqDiff, Nat.reduceLeDiff, reduceCtorEq, Int.reduceToNat]; rfl) (fun hc => ?_) (fun hc => ?_)
    · refine AW.skip ?_
      simp only [andThen, inBlk, reduceCtorEq, ↓reduceIte, if_t, if_f]
      refine AW.seq ?_
      refine AW.block ?_
      refine AW.rT (by rfl) fun K hK => ?_
      simp -implicitDefEqProofs only [go_sem, ↓reduceIte, Nat.reduceAdd, Nat.reduceMul, Nat.reduceEqDiff, Nat.reduceLeDiff, reduceCtorEq, Int.reduceToNat, hr1, hr2, hr3, encRaw]
      refine hK _ ?_; clear hK K
      refine AW.rT (by rfl) fun K hK => ?_
      simp -implicitDefEqProofs only [go_sem, ↓reduceIte, Nat.reduceAdd, Nat.reduceMul, Nat.reduceEqDiff, Nat.reduceLeDiff, reduceCtorEq, Int.reduceToNat]
      refine ⟨.pure _, wire_Check r, ?_⟩
      try simp -implicitDefEqProofs only [go_sem, ↓reduceIte, Nat.reduceAdd, Nat.reduceMul, Nat.reduceEqDiff, Nat.reduceLeDiff, reduceCtorEq, Int.reduceToNat]
      refine hK _ ?_; clear hK K
      cases hcr : checkR r with
      | false =>
        refine AW.cond _ (by simp -implicitDefEqProofs only [go_sem, ↓reduceIte, Nat.reduceAdd, Nat.reduceMul, Nat.reduceEqDiff, Nat.reduceLeDiff, reduceCtorEq, Int.reduceToNat]; rfl) (fun hc => ?_) (fun hc => ?_)
        · refine AW.rT (by rfl) fun K hK => ?_
          simp -implicitDefEqProofs only [go_sem, ↓reduceIte, Nat.reduceAdd, Nat.reduceMul, Nat.reduceEqDiff, Nat.reduceLeDiff, reduceCtorEq, Int.reduceToNat]
          refine hK _ ?_; clear hK K
          refine AW.ret ?_
          simp -implicitDefEqProofs only [go_sem, ↓reduceIte, Nat.reduceAdd, Nat.reduceMul, Nat.reduceEqDiff, Nat.reduceLeDiff, reduceCtorEq, Int.reduceToNat]
          simp [wirePut, not_all hr hcr]
        · simp at hc
      | true =>
        refine AW.cond _ (by simp -implicitDefEqProofs only [go_sem, ↓reduceIte, Nat.reduceAdd, Nat.reduceMul, Nat.reduceEqDiff, Nat.reduceLeDiff, reduceCtorEq, Int.reduceToNat]; rfl) (fun hc => ?_) (fun hc => ?_)
        · simp at hc
        refine AW.skip ?_
        simp only [andThen, inBlk, reduceCtorEq, ↓reduceIte, if_t, if_f]
        have w1 : IntKind.wrap .i64 ((k : Int) + 1) = ((k + 1 : Nat) : Int) := by rw [w64] <;> omega
        refine AW.rE (by rfl) fun K hK => ?_
        simp -implicitDefEqProofs only [go_sem, ↓reduceIte, Nat.reduceAdd, Nat.reduceMul, Nat.reduceEqDiff, Nat.reduceLeDiff, reduceCtorEq, Int.reduceToNat, w1]
        refine hK _ ?_; clear hK K
        refine ⟨k + 1, ⟨by omega, all_succ hr h2 hcr⟩, by omega, ?_⟩
        try simp only [pS1]
        refine Ghost.sub ?_ ?_ <;> simp -implicitDefEqProofs only [go_sem, ↓reduceIte, Nat.reduceAdd, Nat.reduceMul, Nat.reduceEqDiff, Nat.reduceLeDiff, reduceCtorEq, Int.reduceToNat,  List.forall_mem_cons, List.not_mem_nil, false_implies, implies_true, and_self, labsIn_lift, List.all_append, List.all_cons, List.all_nil, Nat.reduceLT, labsInL, AV.labsIn]
    · simp at hc
  · have hc1 : ((k : Int) < (l.length : Int)) = False := by simp; omega
    have hk' : k = l.length := by omega
    subst hk'
    rw [List.take_length] at h2
    refine AW.rT (by rfl) fun K hK => ?_
    simp -implicitDefEqProofs only [go_sem, ↓reduceIte, Nat.reduceAdd, Nat.reduceMul, Nat.reduceEqDiff, Nat.reduceLeDiff, reduceCtorEq, Int.reduceToNat, hc1]
    refine hK _ ?_; clear hK K
    refine AW.seq ?_
    refine AW.cond _ (by simp -implicitDefEqProofs only [go_sem, ↓reduceIte, Nat.reduceAdd, Nat.reduceMul, Nat.reduceEqDiff, Nat.reduceLeDiff, reduceCtorEq, Int.reduceToNat]; rfl) (fun hc => ?_) (fun hc => ?_)
    · simp at hc
    refine AW.exit ?_
    simp only [andThen, inBlk, reduceCtorEq, ↓reduceIte, if_t, if_f]
    refine AW.rT (by rfl) fun K hK => ?_
    simp -implicitDefEqProofs only [go_sem, ↓reduceIte, Nat.reduceAdd, Nat.reduceMul, Nat.reduceEqDiff, Nat.reduceLeDiff, reduceCtorEq, Int.reduceToNat]
    refine hK _ ?_; clear hK K
    refine AW.seq ?_
    refine AW.rT (by rfl) fun K hK => ?_
    simp -implicitDefEqProofs only [go_sem, ↓reduceIte, Nat.reduceAdd, Nat.reduceMul, Nat.reduceEqDiff, Nat.reduceLeDiff, reduceCtorEq, Int.reduceToNat, List.length_map]
    refine hK _ ?_; clear hK K
    refine AW.block ?_
    refine AW.loop (pS2 l) (fun k => k ≤ l.length ∧ (flatR (l.take k)).length ≤ 4096) (fun k => l.length - k) 0 ?_ (by simp [flatR]) fun k hk => ?_
    · refine Ghost.trans (Ghost.exP (t := 6) rfl) ?_
      simp only [pS2]
      refine Ghost.sub ?_ ?_ <;> simp -implicitDefEqProofs only [go_sem, ↓reduceIte, Nat.reduceAdd, Nat.reduceMul, Nat.reduceEqDiff, Nat.reduceLeDiff, reduceCtorEq, Int.reduceToNat, flatR, List.take_zero, List.flatMap_nil, List.map_nil, List.forall_mem_cons, List.not_mem_nil, false_implies, implies_true, and_self, labsIn_lift, List.all_append, List.all_cons, List.all_nil, Nat.reduceLT, labsInL, AV.labsIn]
      rfl
    obtain ⟨h1, h3⟩ := hk
    simp only [pS2]
    by_cases hk : k < l.length
    · obtain ⟨r, hr⟩ : ∃ r, l[k]? = some r := ⟨_, List.getElem?_eq_getElem hk⟩
      have ⟨hr1, hr2, hr3⟩ := at_map' encRaw hr
      have hcr : checkR r = true := List.all_eq_true.1 h2 r (List.mem_of_getElem? hr)
      have hc1 : ((k : Int) < (l.length : Int)) = True := by simp; omega
      have fs := flat_succ hr
      refine AW.rT (by rfl) fun K hK => ?_
      simp -implicitDefEqProofs only [go_sem, ↓reduceIte, Nat.reduceAdd, Nat.reduceMul, Nat.reduceEqDiff, Nat.reduceLeDiff, reduceCtorEq, Int.reduceToNat, hc1]
      refine hK _ ?_; clear hK K
      refine AW.seq ?_
      refine AW.cond _ (by simp -implicitDefEqProofs only [go_sem, ↓reduceIte, Nat.reduceAdd, Nat.reduceMul, Nat.reduceEqDiff, Nat.reduceLeDiff, reduceCtorEq, Int.reduceToNat]; rfl) (fun hc => ?_) (fun hc => ?_)
      · refine AW.skip ?_
        simp only [andThen, inBlk, reduceCtorEq, ↓reduceIte, if_t, if_f]
        refine AW.seq ?_
        refine AW.block ?_
        refine AW.rT (by rfl) fun K hK => ?_
        simp -implicitDefEqProofs only [go_sem, ↓reduceIte, Nat.reduceAdd, Nat.reduceMul, Nat.reduceEqDiff, Nat.reduceLeDiff, reduceCtorEq, Int.reduceToNat, hr1, hr2, hr3, encRaw]
        refine hK _ ?_; clear hK K
        refine AW.rT (by rfl) fun K hK => ?_
        simp -implicitDefEqProofs only [go_sem, ↓reduceIte, Nat.reduceAdd, Nat.reduceMul, Nat.reduceEqDiff, Nat.reduceLeDiff, reduceCtorEq, Int.reduceToNat]
        refine ⟨.pure _, wire_Put (flatR (l.take k)) r (by omega), ?_⟩
        try simp -implicitDefEqProofs only [go_sem, ↓reduceIte, Nat.reduceAdd, Nat.reduceMul, Nat.reduceEqDiff, Nat.reduceLeDiff, reduceCtorEq, Int.reduceToNat]
        rw [hcr, if_pos rfl, ← fs]
        try simp -implicitDefEqProofs only [go_sem, ↓reduceIte, Nat.reduceAdd, Nat.reduceMul, Nat.reduceEqDiff, Nat.reduceLeDiff, reduceCtorEq, Int.reduceToNat]
        refine hK _ ?_; clear hK K
        by_cases hbig : (flatR (l.take (k + 1))).length > 4096
        · have hb1 : (((flatR (l.take (k + 1))).length : Int) > 4096) = True := by simp; omega
          refine AW.rT (by rfl) fun K hK => ?_
          simp -implicitDefEqProofs only [go_sem, ↓reduceIte, Nat.reduceAdd, Nat.reduceMul, Nat.reduceEqDiff, Nat.reduceLeDiff, reduceCtorEq, Int.reduceToNat, List.length_map, hb1]
          refine hK _ ?_; clear hK K
          refine AW.cond _ (by simp -implicitDefEqProofs only [go_sem, ↓reduceIte, Nat.reduceAdd, Nat.reduceMul, Nat.reduceEqDiff, Nat.reduceLeDiff, reduceCtorEq, Int.reduceToNat]; rfl) (fun hc => ?_) (fun hc => ?_)
          · refine AW.rT (by rfl) fun K hK => ?_
            simp -implicitDefEqProofs only [go_sem, ↓reduceIte, Nat.reduceAdd, Nat.reduceMul, Nat.reduceEqDiff, Nat.reduceLeDiff, reduceCtorEq, Int.reduceToNat]
            refine hK _ ?_; clear hK K
            refine AW.ret ?_
            simp -implicitDefEqProofs only [go_sem, ↓reduceIte, Nat.reduceAdd, Nat.reduceMul, Nat.reduceEqDiff, Nat.reduceLeDiff, reduceCtorEq, Int.reduceToNat]
            have := flat_le l (k + 1)
            simp only [wirePut, h2, if_true]
            rw [if_neg (by omega)]
            simp
          · simp at hc
        · have hb1 : (((flatR (l.take (k + 1))).length : Int) > 4096) = False := by simp; omega
          refine AW.rT (by rfl) fun K hK => ?_
          simp -implicitDefEqProofs only [go_sem, ↓reduceIte, Nat.reduceAdd, Nat.reduceMul, Nat.reduceEqDiff, Nat.reduceLeDiff, reduceCtorEq, Int.reduceToNat, List.length_map, hb1]
          refine hK _ ?_; clear hK K
          refine AW.cond _ (by simp -implicitDefEqProofs only [go_sem, ↓reduceIte, Nat.reduceAdd, Nat.reduceMul, Nat.reduceEqDiff, Nat.reduceLeDiff, reduceCtorEq, Int.reduceToNat]; rfl) (fun hc => ?_) (fun hc => ?_)
          · simp at hc
          refine AW.skip ?_
          simp only [andThen, inBlk, reduceCtorEq, ↓reduceIte, if_t, if_f]
          have w1 : IntKind.wrap .i64 ((k : Int) + 1) = ((k + 1 : Nat) : Int) := by rw [w64] <;> omega
          refine AW.rE (by rfl) fun K hK => ?_
          simp -implicitDefEqProofs only [go_sem, ↓reduceIte, Nat.reduceAdd, Nat.reduceMul, Nat.reduceEqDiff, Nat.reduceLeDiff, reduceCtorEq, Int.reduceToNat, w1]
          refine hK _ ?_; clear hK K
          refine ⟨k + 1, ⟨by omega, by omega⟩, by omega, ?_⟩
          try simp only [pS2]
          refine Ghost.sub ?_ ?_ <;> simp -implicitDefEqProofs only [go_sem, ↓reduceIte, Nat.reduceAdd, Nat.reduceMul, Nat.reduceEqDiff, Nat.reduceLeDiff, reduceCtorEq, Int.reduceToNat,  List.forall_mem_cons, List.not_mem_nil, false_implies, implies_true, and_self, labsIn_lift, List.all_append, List.all_cons, List.all_nil, Nat.reduceLT, labsInL, AV.labsIn]
      · simp at hc
    · have hc1 : ((k : Int) < (l.length : Int)) = False := by simp; omega
      have hk' : k = l.length := by omega
      subst hk'
      rw [List.take_length] at h3
      refine AW.rT (by rfl) fun K hK => ?_
      simp -implicitDefEqProofs only [go_sem, ↓reduceIte, Nat.reduceAdd, Nat.reduceMul, Nat.reduceEqDiff, Nat.reduceLeDiff, reduceCtorEq, Int.reduceToNat, hc1]
      refine hK _ ?_; clear hK K
      refine AW.seq ?_
      refine AW.cond _ (by simp -implicitDefEqProofs only [go_sem, ↓reduceIte, Nat.reduceAdd, Nat.reduceMul, Nat.reduceEqDiff, Nat.reduceLeDiff, reduceCtorEq, Int.reduceToNat]; rfl) (fun hc => ?_) (fun hc => ?_)
      · simp at hc
      refine AW.exit ?_
      simp only [andThen, inBlk, reduceCtorEq, ↓reduceIte, if_t, if_f]
      refine AW.rT (by rfl) fun K hK => ?_
      simp -implicitDefEqProofs only [go_sem, ↓reduceIte, Nat.reduceAdd, Nat.reduceMul, Nat.reduceEqDiff, Nat.reduceLeDiff, reduceCtorEq, Int.reduceToNat]
      refine hK _ ?_; clear hK K
      refine AW.ret ?_
      simp -implicitDefEqProofs only [go_sem, ↓reduceIte, Nat.reduceAdd, Nat.reduceMul, Nat.reduceEqDiff, Nat.reduceLeDiff, reduceCtorEq, Int.reduceToNat]
      simp only [wirePut, h2, if_true, List.take_length]
      rw [if_pos h3]
def pR1 (l : List Raw) (k : Nat) : St := ⟨ofL [(0, .p (.slice (l.map encRaw))), (4, .ex []), (5, .p (.int .i64 (k : Int)))], ofH [], 0⟩
def pR2 (l : List Raw) (k : Nat) : St := ⟨ofL [(0, .p (.slice (l.map encRaw))), (4, .own 0), (6, .p (.int .i64 (k : Int)))], ofH [(0, .row 1 (liftE ((flatR (l.take k)).map encB)))], 1⟩
def nOK (r : Raw) : Prop := -9223372036854775808 ≤ r.n ∧ r.n ≤ 9223372036854775807
theorem ref04_PutAll (l : List Raw) (hl : l.length ≤ 1000000) (hn : ∀ r ∈ l, nOK r) : PFn Try.prog 34 [.slice (l.map encRaw)] (.tuple [.slice ((wirePut l).1.map encB), .int .i64 (wirePut l).2]) := by
  refine PFn.of Try.func34 rfl (by decide) Try.ntmps34 Try.results34 (Nat.le_of_ble_eq_true rfl) ?_
  simp only [argsT]
  refine AW.rT (by rfl) fun K hK => ?_
  simp -implicitDefEqProofs only [go_sem, ↓reduceIte, Nat.reduceAdd, Nat.reduceMul, Nat.reduceEqDiff, Nat.reduceLeDiff, reduceCtorEq, Int.reduceToNat]
  refine hK _ ?_; clear hK K
  refine AW.rT (by rfl) fun K hK => ?_
  simp -implicitDefEqProofs only [go_sem, ↓reduceIte, Nat.reduceAdd, Nat.reduceMul, Nat.reduceEqDiff, Nat.reduceLeDiff, reduceCtorEq, Int.reduceToNat]
  refine hK _ ?_; clear hK K
  refine AW.seq ?_
  refine AW.rT (by rfl) fun K hK => ?_
  simp -implicitDefEqProofs only [go_sem, ↓reduceIte, Nat.reduceAdd, Nat.reduceMul, Nat.reduceEqDiff, Nat.reduceLeDiff, reduceCtorEq, Int.reduceToNat]
  refine hK _ ?_; clear hK K
  refine AW.block ?_
  refine AW.loop (pR1 l) (fun k => k ≤ l.length ∧ (l.take k).all checkR = true) (fun k => l.length - k) 0 ?_ (by simp) fun k hk => ?_
  · simp only [pR1]
    refine Ghost.sub ?_ ?_ <;> simp -implicitDefEqProofs only [go_sem, ↓reduceIte, Nat.reduceAdd, Nat.reduceMul, Nat.reduceEqDiff, Nat.reduceLeDiff, reduceCtorEq, Int.reduceToNat,  List.forall_mem_cons, List.not_mem_nil, false_implies, implies_true, and_self, labsIn_lift, List.all_append, List.all_cons, List.all_nil, Nat.reduceLT, labsInL, AV.labsIn]
    rfl
  obtain ⟨h1, h2⟩ := hk
  simp only [pR1]
  refine AW.seq ?_
  by_cases hk : k < l.length
  · obtain ⟨r, hr⟩ : ∃ r, l[k]? = some r := ⟨_, List.getElem?_eq_getElem hk⟩
    have ⟨hr1, hr2, hr3⟩ := at_map' encRaw hr
    have hc1 : ((k : Int) < (l.length : Int)) = True := by simp; omega
    refine AW.rT (by rfl) fun K hK => ?_
    simp -implicitDefEqProofs only [go_sem, ↓reduceIte, Nat.reduceAdd, Nat.reduceMul, Nat.reduceEqDiff, Nat.reduceLeDiff, reduceCtorEq, Int.reduceToNat, List.length_map, hc1]
    refine hK _ ?_; clear hK K
    refine AW.cond _ (by simp -implicitDefEqProofs only [go_sem, ↓reduceIte, Nat.reduceAdd, Nat.reduceMul, Nat.reduceEqDiff, Nat.reduceLeDiff, reduceCtorEq, Int.reduceToNat]; rfl) (fun hc => ?_) (fun hc => ?_)
    · refine AW.skip ?_
      simp only [andThen, inBlk, reduceCtorEq, ↓reduceIte, if_t, if_f]
      refine AW.seq ?_
      refine AW.block ?_
      refine AW.rT (by rfl) fun K hK => ?_
      simp -implicitDefEqProofs only [go_sem, ↓reduceIte, Nat.reduceAdd, Nat.reduceMul, Nat.reduceEqDiff, Nat.reduceLeDiff, reduceCtorEq, Int.reduceToNat, hr1, hr2, hr3, encRaw]
      refine ⟨.pure _, ref04_Check r, ?_⟩
      try simp -implicitDefEqProofs only [go_sem, ↓reduceIte, Nat.reduceAdd, Nat.reduceMul, Nat.reduceEqDiff, Nat.reduceLeDiff, reduceCtorEq, Int.reduceToNat]
      refine hK _ ?_; clear hK K
      cases hcr : checkR r with
      | false =>
        refine AW.cond _ (by simp -implicitDefEqProofs only [go_sem, ↓reduceIte, Nat.reduceAdd, Nat.reduceMul, Nat.reduceEqDiff, Nat.reduceLeDiff, reduceCtorEq, Int.reduceToNat]; rfl) (fun hc => ?_) (fun hc => ?_)
        · refine AW.rT (by rfl) fun K hK => ?_
          simp -implicitDefEqProofs only [go_sem, ↓reduceIte, Nat.reduceAdd, Nat.reduceMul, Nat.reduceEqDiff, Nat.reduceLeDiff, reduceCtorEq, Int.reduceToNat]
          refine hK _ ?_; clear hK K
          refine AW.ret ?_
          simp -implicitDefEqProofs only [go_sem, ↓reduceIte, Nat.reduceAdd, Nat.reduceMul, Nat.reduceEqDiff, Nat.reduceLeDiff, reduceCtorEq, Int.reduceToNat]
          simp [wirePut, not_all hr hcr]
        · simp at hc
      | true =>
        refine AW.cond _ (by simp -implicitDefEqProofs only [go_sem, ↓reduceIte, Nat.reduceAdd, Nat.reduceMul, Nat.reduceEqDiff, Nat.reduceLeDiff, reduceCtorEq, Int.reduceToNat]; rfl) (fun hc => ?_) (fun hc => ?_)
        · simp at hc
        refine AW.skip ?_
        simp only [andThen, inBlk, reduceCtorEq, ↓reduceIte, if_t, if_f]
        have w1 : IntKind.wrap .i64 ((k : Int) + 1) = ((k + 1 : Nat) : Int) := by rw [w64] <;> omega
        refine AW.rE (by rfl) fun K hK => ?_
        simp -implicitDefEqProofs only [go_sem, ↓reduceIte, Nat.reduceAdd, Nat.reduceMul, Nat.reduceEqDiff, Nat.reduceLeDiff, reduceCtorEq, Int.reduceToNat, w1]
        refine hK _ ?_; clear hK K
        refine ⟨k + 1, ⟨by omega, all_succ hr h2 hcr⟩, by omega, ?_⟩
        try simp only [pR1]
        refine Ghost.sub ?_ ?_ <;> simp -implicitDefEqProofs only [go_sem, ↓reduceIte, Nat.reduceAdd, Nat.reduceMul, Nat.reduceEqDiff, Nat.reduceLeDiff, reduceCtorEq, Int.reduceToNat,  List.forall_mem_cons, List.not_mem_nil, false_implies, implies_true, and_self, labsIn_lift, List.all_append, List.all_cons, List.all_nil, Nat.reduceLT, labsInL, AV.labsIn]
    · simp at hc
  · have hc1 : ((k : Int) < (l.length : Int)) = False := by simp; omega
    have hk' : k = l.length := by omega
    subst hk'
    rw [List.take_length] at h2
    refine AW.rT (by rfl) fun K hK => ?_
    simp -implicitDefEqProofs only [go_sem, ↓reduceIte, Nat.reduceAdd, Nat.reduceMul, Nat.reduceEqDiff, Nat.reduceLeDiff, reduceCtorEq, Int.reduceToNat, List.length_map, hc1]
    refine hK _ ?_; clear hK K
    refine AW.cond _ (by simp -implicitDefEqProofs only [go_sem, ↓reduceIte, Nat.reduceAdd, Nat.reduceMul, Nat.reduceEqDiff, Nat.reduceLeDiff, reduceCtorEq, Int.reduceToNat]; rfl) (fun hc => ?_) (fun hc => ?_)
    · simp at hc
    refine AW.exit ?_
    simp only [andThen, inBlk, reduceCtorEq, ↓reduceIte, if_t, if_f]
    refine AW.seq ?_
    refine AW.rT (by rfl) fun K hK => ?_
    simp -implicitDefEqProofs only [go_sem, ↓reduceIte, Nat.reduceAdd, Nat.reduceMul, Nat.reduceEqDiff, Nat.reduceLeDiff, reduceCtorEq, Int.reduceToNat]
    refine hK _ ?_; clear hK K
    refine AW.block ?_
    refine AW.loop (pR2 l) (fun k => k ≤ l.length ∧ (flatR (l.take k)).length ≤ 4096) (fun k => l.length - k) 0 ?_ (by simp [flatR]) fun k hk => ?_
    · refine Ghost.trans (Ghost.nil (t := 4) (sz := 1) rfl) ?_
      simp only [pR2]
      refine Ghost.ent (fun _ => 5) ?_ ?_ ?_ <;> simp -implicitDefEqProofs only [go_sem, ↓reduceIte, Nat.reduceAdd, Nat.reduceMul, Nat.reduceEqDiff, Nat.reduceLeDiff, reduceCtorEq, Int.reduceToNat, flatR, List.take_zero, List.flatMap_nil, List.map_nil, liftE, List.forall_mem_cons, List.not_mem_nil, false_implies, implies_true, and_self, map_renL_lift, labsIn_lift, List.all_append, List.all_cons, List.all_nil, List.map_append, Nat.reduceLT, labsInL, AV.labsIn]
      rfl
    obtain ⟨h1, h3⟩ := hk
    simp only [pR2]
    refine AW.seq ?_
    by_cases hk : k < l.length
    · obtain ⟨r, hr⟩ : ∃ r, l[k]? = some r := ⟨_, List.getElem?_eq_getElem hk⟩
      have ⟨hr1, hr2, hr3⟩ := at_map' encRaw hr
      have hcr : checkR r = true := List.all_eq_true.1 h2 r (List.mem_of_getElem? hr)
      have hc1 : ((k : Int) < (l.length : Int)) = True := by simp; omega
      have fs := flat_succ hr
      have pl : (putR r).length ≤ 4200 := by
        obtain ⟨t1, t2, t3, t4⟩ := checkR_tag hcr
        have l10 := varint_len 10 (keyR r) (by unfold keyR; omega) (by decide)
        have l11 := varint_len 10 r.b.length (by omega) (by decide)
        have l12 := varint_len 10 (zigN r.n) (Nat.lt_trans (zigI_nat r.n).2 (by decide)) (by decide)
        unfold putR
        split <;> simp <;> omega
      refine AW.rT (by rfl) fun K hK => ?_
      simp -implicitDefEqProofs only [go_sem, ↓reduceIte, Nat.reduceAdd, Nat.reduceMul, Nat.reduceEqDiff, Nat.reduceLeDiff, reduceCtorEq, Int.reduceToNat, List.length_map, hc1]
      refine hK _ ?_; clear hK K
      refine AW.cond _ (by simp -implicitDefEqProofs only [go_sem, ↓reduceIte, Nat.reduceAdd, Nat.reduceMul, Nat.reduceEqDiff, Nat.reduceLeDiff, reduceCtorEq, Int.reduceToNat]; rfl) (fun hc => ?_) (fun hc => ?_)
      · refine AW.skip ?_
        simp only [andThen, inBlk, reduceCtorEq, ↓reduceIte, if_t, if_f]
        refine AW.seq ?_
        refine AW.block ?_
        refine AW.rT (by rfl) fun K hK => ?_
        simp -implicitDefEqProofs only [go_sem, ↓reduceIte, Nat.reduceAdd, Nat.reduceMul, Nat.reduceEqDiff, Nat.reduceLeDiff, reduceCtorEq, Int.reduceToNat, hr1, hr2, hr3, encRaw]
        refine ⟨.own _ _, ref04_Put r ⟨hcr, hn r (List.mem_of_getElem? hr)⟩, ?_⟩
        try simp -implicitDefEqProofs only [go_sem, ↓reduceIte, Nat.reduceAdd, Nat.reduceMul, Nat.reduceEqDiff, Nat.reduceLeDiff, reduceCtorEq, Int.reduceToNat]
        refine ⟨⟨liftE_len (sz := 1) (by simp [encB]), liftE_one (by simp [encB, PV.one]), fun _ => trivial⟩, by simp [liftE_length]; omega, ?_⟩
        refine hK _ ?_; clear hK K
        have e7 : liftE ((flatR (l.take k)).map encB) ++ liftE ((putR r).map encB) = liftE ((flatR (l.take (k + 1))).map encB) := by
          rw [fs, List.map_append, liftE_append]
        by_cases hbig : (flatR (l.take (k + 1))).length > 4096
        · have hb1 : (((flatR (l.take (k + 1))).length : Int) > 4096) = True := by simp; omega
          refine AW.rT (by rfl) fun K hK => ?_
          simp -implicitDefEqProofs only [go_sem, ↓reduceIte, Nat.reduceAdd, Nat.reduceMul, Nat.reduceEqDiff, Nat.reduceLeDiff, reduceCtorEq, Int.reduceToNat, e7, liftE_length, List.length_map, hb1]
          refine hK _ ?_; clear hK K
          refine AW.cond _ (by simp -implicitDefEqProofs only [go_sem, ↓reduceIte, Nat.reduceAdd, Nat.reduceMul, Nat.reduceEqDiff, Nat.reduceLeDiff, reduceCtorEq, Int.reduceToNat]; rfl) (fun hc => ?_) (fun hc => ?_)
          · refine AW.rT (by rfl) fun K hK => ?_
            simp -implicitDefEqProofs only [go_sem, ↓reduceIte, Nat.reduceAdd, Nat.reduceMul, Nat.reduceEqDiff, Nat.reduceLeDiff, reduceCtorEq, Int.reduceToNat]
            refine hK _ ?_; clear hK K
            refine AW.ret ?_
            simp -implicitDefEqProofs only [go_sem, ↓reduceIte, Nat.reduceAdd, Nat.reduceMul, Nat.reduceEqDiff, Nat.reduceLeDiff, reduceCtorEq, Int.reduceToNat]
            have := flat_le l (k + 1)
            simp only [wirePut, h2, if_true]
            rw [if_neg (by omega)]
            simp
          · simp at hc
        · have hb1 : (((flatR (l.take (k + 1))).length : Int) > 4096) = False := by simp; omega
          refine AW.rT (by rfl) fun K hK => ?_
          simp -implicitDefEqProofs only [go_sem, ↓reduceIte, Nat.reduceAdd, Nat.reduceMul, Nat.reduceEqDiff, Nat.reduceLeDiff, reduceCtorEq, Int.reduceToNat, e7, liftE_length, List.length_map, hb1]
          refine hK _ ?_; clear hK K
          refine AW.cond _ (by simp -implicitDefEqProofs only [go_sem, ↓reduceIte, Nat.reduceAdd, Nat.reduceMul, Nat.reduceEqDiff, Nat.reduceLeDiff, reduceCtorEq, Int.reduceToNat]; rfl) (fun hc => ?_) (fun hc => ?_)
          · simp at hc
          refine AW.skip ?_
          simp only [andThen, inBlk, reduceCtorEq, ↓reduceIte, if_t, if_f]
          have w1 : IntKind.wrap .i64 ((k : Int) + 1) = ((k + 1 : Nat) : Int) := by rw [w64] <;> omega
          refine AW.rE (by rfl) fun K hK => ?_
          simp -implicitDefEqProofs only [go_sem, ↓reduceIte, Nat.reduceAdd, Nat.reduceMul, Nat.reduceEqDiff, Nat.reduceLeDiff, reduceCtorEq, Int.reduceToNat, w1]
          refine hK _ ?_; clear hK K
          refine ⟨k + 1, ⟨by omega, by omega⟩, by omega, ?_⟩
          try simp only [pR2]
          refine Ghost.ent (fun _ => 11) ?_ ?_ ?_ <;> simp -implicitDefEqProofs only [go_sem, ↓reduceIte, Nat.reduceAdd, Nat.reduceMul, Nat.reduceEqDiff, Nat.reduceLeDiff, reduceCtorEq, Int.reduceToNat,  List.forall_mem_cons, List.not_mem_nil, false_implies, implies_true, and_self, map_renL_lift, labsIn_lift, List.all_append, List.all_cons, List.all_nil, List.map_append, Nat.reduceLT, labsInL, AV.labsIn]
      · simp at hc
    · have hc1 : ((k : Int) < (l.length : Int)) = False := by simp; omega
      have hk' : k = l.length := by omega
      subst hk'
      rw [List.take_length] at h3
      refine AW.rT (by rfl) fun K hK => ?_
      simp -implicitDefEqProofs only [go_sem, ↓reduceIte, Nat.reduceAdd, Nat.reduceMul, Nat.reduceEqDiff, Nat.reduceLeDiff, reduceCtorEq, Int.reduceToNat, List.length_map, hc1]
      refine hK _ ?_; clear hK K
      refine AW.cond _ (by simp -implicitDefEqProofs only [go_sem, ↓reduceIte, Nat.reduceAdd, Nat.reduceMul, Nat.reduceEqDiff, Nat.reduceLeDiff, reduceCtorEq, Int.reduceToNat]; rfl) (fun hc => ?_) (fun hc => ?_)
      · simp at hc
      refine AW.exit ?_
      simp only [andThen, inBlk, reduceCtorEq, ↓reduceIte, if_t, if_f]
      refine AW.rT (by rfl) fun K hK => ?_
      simp -implicitDefEqProofs only [go_sem, ↓reduceIte, Nat.reduceAdd, Nat.reduceMul, Nat.reduceEqDiff, Nat.reduceLeDiff, reduceCtorEq, Int.reduceToNat]
      refine hK _ ?_; clear hK K
      refine AW.ret ?_
      simp -implicitDefEqProofs only [go_sem, ↓reduceIte, Nat.reduceAdd, Nat.reduceMul, Nat.reduceEqDiff, Nat.reduceLeDiff, reduceCtorEq, Int.reduceToNat]
      simp only [wirePut, h2, if_true, List.take_length]
      rw [if_pos h3]
end Go.Aw
/- A number got from its bytes. -/
namespace Go.Aw
open Go.Proofs
set_option linter.unusedSimpArgs false
set_option linter.unusedVariables false
theorem ofInt64 {a : Nat} (h : a < 18446744073709551616) : (BitVec.ofInt 64 (a : Int)) = BitVec.ofNat 64 a := by
  rw [BitVec.ofInt_natCast]
theorem or64 {a b : Nat} (ha : a < 18446744073709551616) (hb : b < 18446744073709551616) (hab : a ||| b < 18446744073709551616) : orI .u64 (a : Int) (b : Int) = ((a ||| b : Nat) : Int) := by
  show IntKind.wrap .u64 (((BitVec.ofInt 64 (a : Int) ||| BitVec.ofInt 64 (b : Int)).toNat : Nat) : Int) = _
  rw [ofInt64 ha, ofInt64 hb, BitVec.toNat_or, BitVec.toNat_ofNat, BitVec.toNat_ofNat, Nat.mod_eq_of_lt ha, Nat.mod_eq_of_lt hb]
  exact wu64 (by omega) (by omega)
theorem or_add {a c i : Nat} (h : a < 2 ^ i) : a ||| c * 2 ^ i = a + c * 2 ^ i := by
  rw [Nat.or_comm, Nat.mul_comm, ← Nat.two_pow_add_eq_or_of_lt h, Nat.add_comm]
theorem andNot128 (x : UInt8) : andNotI .u8 (x.toNat : Int) 128 = ((x.toNat % 128 : Nat) : Int) := by
  have : ∀ m : Fin 256, andNotI .u8 ((m.val : Nat) : Int) 128 = ((m.val % 128 : Nat) : Int) := by decide +kernel
  exact this ⟨x.toNat, x.toNat_lt⟩
theorem and1 {v : Nat} (h : v < 18446744073709551616) : andI .u64 (v : Int) 1 = ((v % 2 : Nat) : Int) := by
  show IntKind.wrap .u64 (((BitVec.ofInt 64 (v : Int) &&& BitVec.ofInt 64 1).toNat : Nat) : Int) = _
  have h1 : BitVec.ofInt 64 1 = BitVec.ofNat 64 1 := by decide
  rw [ofInt64 h, h1, BitVec.toNat_and, BitVec.toNat_ofNat, BitVec.toNat_ofNat, Nat.mod_eq_of_lt h]
  rw [show 1 % 2 ^ 64 = 1 by decide, Nat.and_one_is_mod]
  exact wu64 (by omega) (by omega)
theorem ofn64 (x : Int) (h : 0 ≤ x) (h' : x < 18446744073709551616) : (BitVec.ofInt 64 x).toNat = x.toNat := by
  rw [BitVec.toNat_ofInt]
  congr 1
  rw [show ((2 : Nat) ^ 64 : Nat) = (18446744073709551616 : Nat) by decide]
  omega
theorem zag_xor {v : Nat} (hv : v < 18446744073709551616) : xorI .i64 ((v / 2 : Nat) : Int) (0 - ((v % 2 : Nat) : Int)) = zagR v := by
  have e : (2 : Int) ^ 64 = 18446744073709551616 := by decide
  have eh : (2 : Int) ^ (64 - 1) = 9223372036854775808 := by decide
  show IntKind.wrap .i64 (((BitVec.ofInt 64 ((v / 2 : Nat) : Int) ^^^ BitVec.ofInt 64 (0 - ((v % 2 : Nat) : Int))).toNat : Nat) : Int) = _
  rcases Nat.mod_two_eq_zero_or_one v with h | h
  · rw [h]
    have h0 : BitVec.ofInt 64 (0 - ((0 : Nat) : Int)) = 0#64 := by decide
    rw [h0, BitVec.xor_zero, ofn64 _ (by omega) (by omega), Int.toNat_natCast, w64 (by omega) (by omega)]
    unfold zagR
    rw [if_pos h]
  · rw [h]
    have h0 : BitVec.ofInt 64 (0 - ((1 : Nat) : Int)) = BitVec.ofInt 64 18446744073709551615 := by decide
    rw [h0, xor_ones, ofn64 _ (by omega) (by omega), Int.toNat_natCast]
    unfold zagR
    rw [if_neg (by omega)]
    simp only [IntKind.wrap, IntKind.bits, IntKind.signed, e, eh, Bool.true_and]
    rw [if_pos (by simp; omega)]
    omega
theorem vint_Zag (v : Nat) (hv : v < 18446744073709551616) : PFn Try.prog 95 [.int .u64 (v : Int)] (.int .i64 (zagR v)) := by
  refine PFn.of Try.func95 rfl (by decide) Try.ntmps95 Try.results95 (Nat.le_of_ble_eq_true rfl) ?_
  simp only [argsT]
  have a1 := and1 hv
  have e1 : (2 : Int) ^ min 1 64 = 2 := by decide
  have e2 : (v : Int).fdiv 2 = ((v / 2 : Nat) : Int) := by rw [Int.fdiv_eq_ediv_of_nonneg _ (by decide)]; omega
  have w1 : IntKind.wrap .i64 ((v / 2 : Nat) : Int) = ((v / 2 : Nat) : Int) := by rw [w64] <;> omega
  have w2 : IntKind.wrap .i64 ((v % 2 : Nat) : Int) = ((v % 2 : Nat) : Int) := by rw [w64] <;> omega
  have w3 : IntKind.wrap .i64 (-((v % 2 : Nat) : Int)) = -((v % 2 : Nat) : Int) := by rw [w64] <;> omega
  have w4 : IntKind.wrap .i64 (0 - ((v % 2 : Nat) : Int)) = 0 - ((v % 2 : Nat) : Int) := by rw [w64] <;> omega
  refine AW.rT (by rfl) fun K hK => ?_
  simp -implicitDefEqProofs only [go_sem, ↓reduceIte, Nat.reduceAdd, Nat.reduceMul, Nat.reduceEqDiff, Nat.reduceLeDiff, reduceCtorEq, Int.reduceToNat]
  refine hK _ ?_; clear hK K
  refine AW.rT (by rfl) fun K hK => ?_
  simp -implicitDefEqProofs only [go_sem, ↓reduceIte, Nat.reduceAdd, Nat.reduceMul, Nat.reduceEqDiff, Nat.reduceLeDiff, reduceCtorEq, Int.reduceToNat, a1, e1, e2, w1, w2, w3]
  refine hK _ ?_; clear hK K
  refine AW.ret ?_
  simp -implicitDefEqProofs only [go_sem, ↓reduceIte, Nat.reduceAdd, Nat.reduceMul, Nat.reduceEqDiff, Nat.reduceLeDiff, reduceCtorEq, Int.reduceToNat]
  rw [w1, w4, zag_xor hv]
def vat (b : List UInt8) (p : Nat) : Nat × Nat × Int := ((vget (b.drop p) 0 0).1, if (vget (b.drop p) 0 0).2.2 = 0 then p + (vget (b.drop p) 0 0).2.1 else 0, (vget (b.drop p) 0 0).2.2)
def gS (b : List UInt8) (p : Nat) (x : Nat × Nat) : St :=
  ⟨ofL [(0, .p (.slice (b.map encB))), (1, .p (.int .i64 (p : Int))), (7, .p (.int .u64 (x.2 : Int))), (27, .p (.slice (((b.drop p).take 10).map encB))), (28, .p (.int .i64 (((b.drop p).take 10).length : Int))), (29, .p (.int .i64 (x.1 : Int)))], ofH [], 0⟩
theorem vint_Get (b : List UInt8) (p : Nat) (hp : p ≤ b.length) (hb : b.length ≤ 1000000000000000) : PFn Try.prog 94 [.slice (b.map encB), .int .i64 (p : Int)]
    (.tuple [.int .u64 ((vat b p).1 : Int), .int .i64 ((vat b p).2.1 : Int), .int .i64 (vat b p).2.2]) := by
  refine PFn.of Try.func94 rfl (by decide) Try.ntmps94 Try.results94 (Nat.le_of_ble_eq_true rfl) ?_
  simp only [argsT]
  refine AW.rT (by rfl) fun K hK => ?_
  simp -implicitDefEqProofs only [go_sem, ↓reduceIte, Nat.reduceAdd, Nat.reduceMul, Nat.reduceEqDiff, Nat.reduceLeDiff, reduceCtorEq, Int.reduceToNat]
  refine hK _ ?_; clear hK K
  refine AW.seq ?_
  have c0 : ((p : Int) < 0) = False := by simp
  have c1 : ((p : Int) > (b.length : Int)) = False := by simp; omega
  refine AW.rT (by rfl) fun K hK => ?_
  simp -implicitDefEqProofs only [go_sem, ↓reduceIte, Nat.reduceAdd, Nat.reduceMul, Nat.reduceEqDiff, Nat.reduceLeDiff, reduceCtorEq, Int.reduceToNat, c0, c1, List.length_map]
  refine hK _ ?_; clear hK K
  refine AW.cond _ (by simp -implicitDefEqProofs only [go_sem, ↓reduceIte, Nat.reduceAdd, Nat.reduceMul, Nat.reduceEqDiff, Nat.reduceLeDiff, reduceCtorEq, Int.reduceToNat]; rfl) (fun hc => ?_) (fun hc => ?_)
  · simp at hc
  refine AW.skip ?_
  simp only [andThen, inBlk, reduceCtorEq, ↓reduceIte, if_t, if_f]
  refine AW.rT (by rfl) fun K hK => ?_
  simp -implicitDefEqProofs only [go_sem, ↓reduceIte, Nat.reduceAdd, Nat.reduceMul, Nat.reduceEqDiff, Nat.reduceLeDiff, reduceCtorEq, Int.reduceToNat]
  refine hK _ ?_; clear hK K
  refine AW.seq ?_
  obtain ⟨m, hm⟩ : ∃ m, m = min 10 (b.length - p) := ⟨_, rfl⟩
  have wa : IntKind.wrap .i64 ((b.length : Int) - (p : Int)) = ((b.length - p : Nat) : Int) := by rw [w64] <;> omega
  have wb : (if 10 < ((b.length - p : Nat) : Int) then (10 : Int) else ((b.length - p : Nat) : Int)) = (m : Int) := by split <;> omega
  have wc : IntKind.wrap .i64 ((p : Int) + (m : Int)) = ((p + m : Nat) : Int) := by rw [w64] <;> omega
  have wd : List.drop p (List.take (p + m) (b.map encB)) = ((b.drop p).take 10).map encB := by
    rw [← List.map_take, ← List.map_drop, List.drop_take, show p + m - p = m by omega]
    congr 1
    rw [hm]
    by_cases h10 : b.length - p ≤ 10
    · rw [Nat.min_eq_right h10, List.take_of_length_le (by rw [List.length_drop]; omega), List.take_of_length_le (by rw [List.length_drop]; omega)]
    · rw [Nat.min_eq_left (by omega)]
  refine AW.rT (by rfl) fun K hK => ?_
  simp -implicitDefEqProofs only [go_sem, ↓reduceIte, Nat.reduceAdd, Nat.reduceMul, Nat.reduceEqDiff, Nat.reduceLeDiff, reduceCtorEq, Int.reduceToNat, List.length_map, wa, wb, wc, wd]
  refine ⟨by simp [encB], by simp, by omega, ?_⟩
  refine hK _ ?_; clear hK K
  refine AW.block ?_
  refine AW.loop (gS b p) (fun x => x.1 ≤ 9 ∧ x.1 ≤ ((b.drop p).take 10).length ∧ x.2 < 2 ^ (7 * x.1) ∧ vget (b.drop p) 0 0 = vget ((b.drop p).drop x.1) x.1 x.2) (fun x => 10 - x.1) (0, 0) ?_ ⟨by simp, by simp, by simp, by simp⟩ fun x hx => ?_
  · simp only [gS]
    refine Ghost.sub ?_ ?_ <;> simp -implicitDefEqProofs only [go_sem, ↓reduceIte, Nat.reduceAdd, Nat.reduceMul, Nat.reduceEqDiff, Nat.reduceLeDiff, reduceCtorEq, Int.reduceToNat,  List.forall_mem_cons, List.not_mem_nil, false_implies, implies_true, and_self, labsIn_lift, List.all_append, List.all_cons, List.all_nil, Nat.reduceLT, labsInL, AV.labsIn]
    simp
  obtain ⟨i, acc⟩ := x
  obtain ⟨g1, g2, g3, g4⟩ := hx
  dsimp only at g1 g2 g3 g4
  simp only [gS]
  by_cases hi : i < ((b.drop p).take 10).length
  · obtain ⟨x, hx⟩ : ∃ x, ((b.drop p).take 10)[i]? = some x := ⟨_, List.getElem?_eq_getElem hi⟩
    have ⟨hr1, hr2, hr3⟩ := at_map' encB hx
    have hc1 : ((i : Int) < ((((b.drop p).take 10).length : Nat) : Int)) = True := by simp; simp at hi; omega
    have hdr : (b.drop p).drop i = x :: (b.drop p).drop (i + 1) := by
      rw [List.getElem?_take_of_lt (by omega)] at hx
      rw [List.drop_eq_getElem_cons (List.getElem?_eq_some_iff.1 hx).1, (List.getElem?_eq_some_iff.1 hx).2]
    rw [hdr] at g4
    have x8 := x.toNat_lt
    simp only [vget] at g4
    refine AW.rT (by rfl) fun K hK => ?_
    simp -implicitDefEqProofs only [go_sem, ↓reduceIte, Nat.reduceAdd, Nat.reduceMul, Nat.reduceEqDiff, Nat.reduceLeDiff, reduceCtorEq, Int.reduceToNat, hc1]
    refine hK _ ?_; clear hK K
    refine AW.seq ?_
    refine AW.cond _ (by simp -implicitDefEqProofs only [go_sem, ↓reduceIte, Nat.reduceAdd, Nat.reduceMul, Nat.reduceEqDiff, Nat.reduceLeDiff, reduceCtorEq, Int.reduceToNat]; rfl) (fun hc => ?_) (fun hc => ?_)
    · refine AW.skip ?_
      simp only [andThen, inBlk, reduceCtorEq, ↓reduceIte, if_t, if_f]
      refine AW.seq ?_
      refine AW.block ?_
      refine AW.rT (by rfl) fun K hK => ?_
      simp -implicitDefEqProofs only [go_sem, ↓reduceIte, Nat.reduceAdd, Nat.reduceMul, Nat.reduceEqDiff, Nat.reduceLeDiff, reduceCtorEq, Int.reduceToNat, hr1, hr2, hr3, encB]
      refine hK _ ?_; clear hK K
      refine AW.seq ?_
      by_cases h9 : i = 9 ∧ 1 < x.toNat
      · rw [if_pos h9] at g4
        have b1 : ((i : Int) == 9) = true := by simp; omega
        have b2 : ((x.toNat : Int) > 1) = True := by simp; omega
        refine AW.rT (by rfl) fun K hK => ?_
        simp -implicitDefEqProofs only [go_sem, ↓reduceIte, Nat.reduceAdd, Nat.reduceMul, Nat.reduceEqDiff, Nat.reduceLeDiff, reduceCtorEq, Int.reduceToNat, b1, b2]
        refine hK _ ?_; clear hK K
        refine AW.cond _ (by simp -implicitDefEqProofs only [go_sem, ↓reduceIte, Nat.reduceAdd, Nat.reduceMul, Nat.reduceEqDiff, Nat.reduceLeDiff, reduceCtorEq, Int.reduceToNat]; rfl) (fun hc => ?_) (fun hc => ?_)
        · refine AW.rT (by rfl) fun K hK => ?_
          simp -implicitDefEqProofs only [go_sem, ↓reduceIte, Nat.reduceAdd, Nat.reduceMul, Nat.reduceEqDiff, Nat.reduceLeDiff, reduceCtorEq, Int.reduceToNat]
          refine hK _ ?_; clear hK K
          refine AW.ret ?_
          simp -implicitDefEqProofs only [go_sem, ↓reduceIte, Nat.reduceAdd, Nat.reduceMul, Nat.reduceEqDiff, Nat.reduceLeDiff, reduceCtorEq, Int.reduceToNat]
          simp only [vat, g4]
          rfl
        · simp at hc
      rw [if_neg h9] at g4
      have sp : acc ||| x.toNat % 128 * 2 ^ (7 * i) = acc + x.toNat % 128 * 2 ^ (7 * i) := or_add g3
      have acc2 : acc + x.toNat % 128 * 2 ^ (7 * i) < 2 ^ (7 * (i + 1)) := by
        rw [pow7]
        have : (x.toNat % 128 + 1) * 2 ^ (7 * i) ≤ 128 * 2 ^ (7 * i) := Nat.mul_le_mul_right _ (by omega)
        rw [Nat.add_mul] at this
        omega
      have lt2 : acc + x.toNat % 128 * 2 ^ (7 * i) < 18446744073709551616 := by
        by_cases i9 : i = 9
        · subst i9
          have : (2 : Nat) ^ (7 * 9) = 9223372036854775808 := by decide
          rw [this] at g3 ⊢
          omega
        · have h2 : 2 ^ (7 * (i + 1)) ≤ 2 ^ 63 := Nat.pow_le_pow_right (by decide) (by omega)
          have : (2 : Nat) ^ 63 = 9223372036854775808 := by decide
          omega
      have lt1 : x.toNat % 128 * 2 ^ (7 * i) < 18446744073709551616 := by omega
      have an := andNot128 x
      have w7 : IntKind.wrap .i64 (7 * (i : Int)) = ((7 * i : Nat) : Int) := by rw [w64] <;> omega
      have wx : IntKind.wrap .u64 ((x.toNat % 128 : Nat) : Int) = ((x.toNat % 128 : Nat) : Int) := by rw [wu64] <;> omega
      have n0 : (((7 * i : Nat) : Int) < 0) = False := by simp; omega
      have ws : IntKind.wrap .u64 (((x.toNat % 128 : Nat) : Int) * 2 ^ min (7 * i) 64) = ((x.toNat % 128 * 2 ^ (7 * i) : Nat) : Int) := by
        rw [show min (7 * i) 64 = 7 * i by omega]
        rw [show ((x.toNat % 128 : Nat) : Int) * 2 ^ (7 * i) = ((x.toNat % 128 * 2 ^ (7 * i) : Nat) : Int) by simp [Int.natCast_mul, Int.natCast_pow]]
        exact wu64 (by omega) (by omega)
      have o1 : orI .u64 (acc : Int) ((x.toNat % 128 * 2 ^ (7 * i) : Nat) : Int) = ((acc + x.toNat % 128 * 2 ^ (7 * i) : Nat) : Int) := by
        rw [or64 (by omega) lt1 (by rw [sp]; exact lt2), sp]
      have w1 : IntKind.wrap .i64 ((i : Int) + 1) = ((i + 1 : Nat) : Int) := by rw [w64] <;> omega
      have w8 : IntKind.wrap .i64 ((p : Int) + (i : Int)) = ((p + i : Nat) : Int) := by rw [w64] <;> omega
      have w9 : IntKind.wrap .i64 (((p + i : Nat) : Int) + 1) = ((p + i + 1 : Nat) : Int) := by rw [w64] <;> omega
      by_cases i9 : i = 9
      · have b1 : ((i : Int) == 9) = true := by simp; omega
        have b2 : ((x.toNat : Int) > 1) = False := by simp; omega
        refine AW.rT (by rfl) fun K hK => ?_
        simp -implicitDefEqProofs only [go_sem, ↓reduceIte, Nat.reduceAdd, Nat.reduceMul, Nat.reduceEqDiff, Nat.reduceLeDiff, reduceCtorEq, Int.reduceToNat, b1, b2]
        refine hK _ ?_; clear hK K
        refine AW.cond _ (by simp -implicitDefEqProofs only [go_sem, ↓reduceIte, Nat.reduceAdd, Nat.reduceMul, Nat.reduceEqDiff, Nat.reduceLeDiff, reduceCtorEq, Int.reduceToNat]; rfl) (fun hc => ?_) (fun hc => ?_)
        · simp at hc
        refine AW.skip ?_
        simp only [andThen, inBlk, reduceCtorEq, ↓reduceIte, if_t, if_f]
        refine AW.rT (by rfl) fun K hK => ?_
        simp -implicitDefEqProofs only [go_sem, ↓reduceIte, Nat.reduceAdd, Nat.reduceMul, Nat.reduceEqDiff, Nat.reduceLeDiff, reduceCtorEq, Int.reduceToNat, an, w7, wx, n0, ws, o1]
        refine hK _ ?_; clear hK K
        refine AW.seq ?_
        by_cases hx128 : 128 ≤ x.toNat
        · have b3 : ((x.toNat : Int) ≥ 128) = True := by simp; omega
          rw [if_pos hx128] at g4
          have i8 : i ≠ 9 := fun h => h9 ⟨h, by omega⟩
          refine AW.rT (by rfl) fun K hK => ?_
          simp -implicitDefEqProofs only [go_sem, ↓reduceIte, Nat.reduceAdd, Nat.reduceMul, Nat.reduceEqDiff, Nat.reduceLeDiff, reduceCtorEq, Int.reduceToNat, b3]
          refine hK _ ?_; clear hK K
          refine AW.cond _ (by simp -implicitDefEqProofs only [go_sem, ↓reduceIte, Nat.reduceAdd, Nat.reduceMul, Nat.reduceEqDiff, Nat.reduceLeDiff, reduceCtorEq, Int.reduceToNat]; rfl) (fun hc => ?_) (fun hc => ?_)
          · refine AW.exit ?_
            simp only [andThen, inBlk, reduceCtorEq, ↓reduceIte, if_t, if_f]
            refine AW.rE (by rfl) fun K hK => ?_
            simp -implicitDefEqProofs only [go_sem, ↓reduceIte, Nat.reduceAdd, Nat.reduceMul, Nat.reduceEqDiff, Nat.reduceLeDiff, reduceCtorEq, Int.reduceToNat, w1]
            refine hK _ ?_; clear hK K
            refine ⟨(i + 1, acc + x.toNat % 128 * 2 ^ (7 * i)), ⟨by show i + 1 ≤ 9; omega, hi, acc2, g4⟩, by show 10 - (i + 1) < 10 - i; omega, ?_⟩
            refine Ghost.sub ?_ ?_ <;> simp -implicitDefEqProofs only [go_sem, ↓reduceIte, Nat.reduceAdd, Nat.reduceMul, Nat.reduceEqDiff, Nat.reduceLeDiff, reduceCtorEq, Int.reduceToNat,  List.forall_mem_cons, List.not_mem_nil, false_implies, implies_true, and_self, labsIn_lift, List.all_append, List.all_cons, List.all_nil, Nat.reduceLT, labsInL, AV.labsIn]
          · simp at hc
        · have b3 : ((x.toNat : Int) ≥ 128) = False := by simp; omega
          rw [if_neg hx128] at g4
          refine AW.rT (by rfl) fun K hK => ?_
          simp -implicitDefEqProofs only [go_sem, ↓reduceIte, Nat.reduceAdd, Nat.reduceMul, Nat.reduceEqDiff, Nat.reduceLeDiff, reduceCtorEq, Int.reduceToNat, b3]
          refine hK _ ?_; clear hK K
          refine AW.cond _ (by simp -implicitDefEqProofs only [go_sem, ↓reduceIte, Nat.reduceAdd, Nat.reduceMul, Nat.reduceEqDiff, Nat.reduceLeDiff, reduceCtorEq, Int.reduceToNat]; rfl) (fun hc => ?_) (fun hc => ?_)
          · simp at hc
          refine AW.skip ?_
          simp only [andThen, inBlk, reduceCtorEq, ↓reduceIte, if_t, if_f]
          refine AW.seq ?_
          by_cases hz : x.toNat = 0
          · have b4 : ((x.toNat : Int) == 0) = true := by simp; exact hz
            by_cases i0 : i = 0
            · have b5 : ((i : Int) > 0) = False := by simp; omega
              rw [if_neg (by omega)] at g4
              refine AW.rT (by rfl) fun K hK => ?_
              simp -implicitDefEqProofs only [go_sem, ↓reduceIte, Nat.reduceAdd, Nat.reduceMul, Nat.reduceEqDiff, Nat.reduceLeDiff, reduceCtorEq, Int.reduceToNat, b4, b5]
              refine hK _ ?_; clear hK K
              refine AW.cond _ (by simp -implicitDefEqProofs only [go_sem, ↓reduceIte, Nat.reduceAdd, Nat.reduceMul, Nat.reduceEqDiff, Nat.reduceLeDiff, reduceCtorEq, Int.reduceToNat]; rfl) (fun hc => ?_) (fun hc => ?_)
              · simp at hc
              refine AW.skip ?_
              simp only [andThen, inBlk, reduceCtorEq, ↓reduceIte, if_t, if_f]
              refine AW.rT (by rfl) fun K hK => ?_
              simp -implicitDefEqProofs only [go_sem, ↓reduceIte, Nat.reduceAdd, Nat.reduceMul, Nat.reduceEqDiff, Nat.reduceLeDiff, reduceCtorEq, Int.reduceToNat, w8, w9]
              refine hK _ ?_; clear hK K
              refine AW.ret ?_
              simp -implicitDefEqProofs only [go_sem, ↓reduceIte, Nat.reduceAdd, Nat.reduceMul, Nat.reduceEqDiff, Nat.reduceLeDiff, reduceCtorEq, Int.reduceToNat]
              simp only [vat, g4, if_true, Nat.add_assoc]
            · have b5 : ((i : Int) > 0) = True := by simp; omega
              rw [if_pos (by omega)] at g4
              refine AW.rT (by rfl) fun K hK => ?_
              simp -implicitDefEqProofs only [go_sem, ↓reduceIte, Nat.reduceAdd, Nat.reduceMul, Nat.reduceEqDiff, Nat.reduceLeDiff, reduceCtorEq, Int.reduceToNat, b4, b5]
              refine hK _ ?_; clear hK K
              refine AW.cond _ (by simp -implicitDefEqProofs only [go_sem, ↓reduceIte, Nat.reduceAdd, Nat.reduceMul, Nat.reduceEqDiff, Nat.reduceLeDiff, reduceCtorEq, Int.reduceToNat]; rfl) (fun hc => ?_) (fun hc => ?_)
              · refine AW.rT (by rfl) fun K hK => ?_
                simp -implicitDefEqProofs only [go_sem, ↓reduceIte, Nat.reduceAdd, Nat.reduceMul, Nat.reduceEqDiff, Nat.reduceLeDiff, reduceCtorEq, Int.reduceToNat]
                refine hK _ ?_; clear hK K
                refine AW.ret ?_
                simp -implicitDefEqProofs only [go_sem, ↓reduceIte, Nat.reduceAdd, Nat.reduceMul, Nat.reduceEqDiff, Nat.reduceLeDiff, reduceCtorEq, Int.reduceToNat]
                simp only [vat, g4]
                rfl
              · simp at hc
          · have b4 : ((x.toNat : Int) == 0) = false := by simp; exact hz
            rw [if_neg (by omega)] at g4
            refine AW.rT (by rfl) fun K hK => ?_
            simp -implicitDefEqProofs only [go_sem, ↓reduceIte, Nat.reduceAdd, Nat.reduceMul, Nat.reduceEqDiff, Nat.reduceLeDiff, reduceCtorEq, Int.reduceToNat, b4]
            refine hK _ ?_; clear hK K
            refine AW.cond _ (by simp -implicitDefEqProofs only [go_sem, ↓reduceIte, Nat.reduceAdd, Nat.reduceMul, Nat.reduceEqDiff, Nat.reduceLeDiff, reduceCtorEq, Int.reduceToNat]; rfl) (fun hc => ?_) (fun hc => ?_)
            · simp at hc
            refine AW.skip ?_
            simp only [andThen, inBlk, reduceCtorEq, ↓reduceIte, if_t, if_f]
            refine AW.rT (by rfl) fun K hK => ?_
            simp -implicitDefEqProofs only [go_sem, ↓reduceIte, Nat.reduceAdd, Nat.reduceMul, Nat.reduceEqDiff, Nat.reduceLeDiff, reduceCtorEq, Int.reduceToNat, w8, w9]
            refine hK _ ?_; clear hK K
            refine AW.ret ?_
            simp -implicitDefEqProofs only [go_sem, ↓reduceIte, Nat.reduceAdd, Nat.reduceMul, Nat.reduceEqDiff, Nat.reduceLeDiff, reduceCtorEq, Int.reduceToNat]
            simp only [vat, g4, if_true, Nat.add_assoc]
      · have b1 : ((i : Int) == 9) = false := by simp; omega
        have b2 : True = True := rfl
        refine AW.rT (by rfl) fun K hK => ?_
        simp -implicitDefEqProofs only [go_sem, ↓reduceIte, Nat.reduceAdd, Nat.reduceMul, Nat.reduceEqDiff, Nat.reduceLeDiff, reduceCtorEq, Int.reduceToNat, b1, b2]
        refine hK _ ?_; clear hK K
        refine AW.cond _ (by simp -implicitDefEqProofs only [go_sem, ↓reduceIte, Nat.reduceAdd, Nat.reduceMul, Nat.reduceEqDiff, Nat.reduceLeDiff, reduceCtorEq, Int.reduceToNat]; rfl) (fun hc => ?_) (fun hc => ?_)
        · simp at hc
        refine AW.skip ?_
        simp only [andThen, inBlk, reduceCtorEq, ↓reduceIte, if_t, if_f]
        refine AW.rT (by rfl) fun K hK => ?_
        simp -implicitDefEqProofs only [go_sem, ↓reduceIte, Nat.reduceAdd, Nat.reduceMul, Nat.reduceEqDiff, Nat.reduceLeDiff, reduceCtorEq, Int.reduceToNat, an, w7, wx, n0, ws, o1]
        refine hK _ ?_; clear hK K
        refine AW.seq ?_
        by_cases hx128 : 128 ≤ x.toNat
        · have b3 : ((x.toNat : Int) ≥ 128) = True := by simp; omega
          rw [if_pos hx128] at g4
          have i8 : i ≠ 9 := fun h => h9 ⟨h, by omega⟩
          refine AW.rT (by rfl) fun K hK => ?_
          simp -implicitDefEqProofs only [go_sem, ↓reduceIte, Nat.reduceAdd, Nat.reduceMul, Nat.reduceEqDiff, Nat.reduceLeDiff, reduceCtorEq, Int.reduceToNat, b3]
          refine hK _ ?_; clear hK K
          refine AW.cond _ (by simp -implicitDefEqProofs only [go_sem, ↓reduceIte, Nat.reduceAdd, Nat.reduceMul, Nat.reduceEqDiff, Nat.reduceLeDiff, reduceCtorEq, Int.reduceToNat]; rfl) (fun hc => ?_) (fun hc => ?_)
          · refine AW.exit ?_
            simp only [andThen, inBlk, reduceCtorEq, ↓reduceIte, if_t, if_f]
            refine AW.rE (by rfl) fun K hK => ?_
            simp -implicitDefEqProofs only [go_sem, ↓reduceIte, Nat.reduceAdd, Nat.reduceMul, Nat.reduceEqDiff, Nat.reduceLeDiff, reduceCtorEq, Int.reduceToNat, w1]
            refine hK _ ?_; clear hK K
            refine ⟨(i + 1, acc + x.toNat % 128 * 2 ^ (7 * i)), ⟨by show i + 1 ≤ 9; omega, hi, acc2, g4⟩, by show 10 - (i + 1) < 10 - i; omega, ?_⟩
            refine Ghost.sub ?_ ?_ <;> simp -implicitDefEqProofs only [go_sem, ↓reduceIte, Nat.reduceAdd, Nat.reduceMul, Nat.reduceEqDiff, Nat.reduceLeDiff, reduceCtorEq, Int.reduceToNat,  List.forall_mem_cons, List.not_mem_nil, false_implies, implies_true, and_self, labsIn_lift, List.all_append, List.all_cons, List.all_nil, Nat.reduceLT, labsInL, AV.labsIn]
          · simp at hc
        · have b3 : ((x.toNat : Int) ≥ 128) = False := by simp; omega
          rw [if_neg hx128] at g4
          refine AW.rT (by rfl) fun K hK => ?_
          simp -implicitDefEqProofs only [go_sem, ↓reduceIte, Nat.reduceAdd, Nat.reduceMul, Nat.reduceEqDiff, Nat.reduceLeDiff, reduceCtorEq, Int.reduceToNat, b3]
          refine hK _ ?_; clear hK K
          refine AW.cond _ (by simp -implicitDefEqProofs only [go_sem, ↓reduceIte, Nat.reduceAdd, Nat.reduceMul, Nat.reduceEqDiff, Nat.reduceLeDiff, reduceCtorEq, Int.reduceToNat]; rfl) (fun hc => ?_) (fun hc => ?_)
          · simp at hc
          refine AW.skip ?_
          simp only [andThen, inBlk, reduceCtorEq, ↓reduceIte, if_t, if_f]
          refine AW.seq ?_
          by_cases hz : x.toNat = 0
          · have b4 : ((x.toNat : Int) == 0) = true := by simp; exact hz
            by_cases i0 : i = 0
            · have b5 : ((i : Int) > 0) = False := by simp; omega
              rw [if_neg (by omega)] at g4
              refine AW.rT (by rfl) fun K hK => ?_
              simp -implicitDefEqProofs only [go_sem, ↓reduceIte, Nat.reduceAdd, Nat.reduceMul, Nat.reduceEqDiff, Nat.reduceLeDiff, reduceCtorEq, Int.reduceToNat, b4, b5]
              refine hK _ ?_; clear hK K
              refine AW.cond _ (by simp -implicitDefEqProofs only [go_sem, ↓reduceIte, Nat.reduceAdd, Nat.reduceMul, Nat.reduceEqDiff, Nat.reduceLeDiff, reduceCtorEq, Int.reduceToNat]; rfl) (fun hc => ?_) (fun hc => ?_)
              · simp at hc
              refine AW.skip ?_
              simp only [andThen, inBlk, reduceCtorEq, ↓reduceIte, if_t, if_f]
              refine AW.rT (by rfl) fun K hK => ?_
              simp -implicitDefEqProofs only [go_sem, ↓reduceIte, Nat.reduceAdd, Nat.reduceMul, Nat.reduceEqDiff, Nat.reduceLeDiff, reduceCtorEq, Int.reduceToNat, w8, w9]
              refine hK _ ?_; clear hK K
              refine AW.ret ?_
              simp -implicitDefEqProofs only [go_sem, ↓reduceIte, Nat.reduceAdd, Nat.reduceMul, Nat.reduceEqDiff, Nat.reduceLeDiff, reduceCtorEq, Int.reduceToNat]
              simp only [vat, g4, if_true, Nat.add_assoc]
            · have b5 : ((i : Int) > 0) = True := by simp; omega
              rw [if_pos (by omega)] at g4
              refine AW.rT (by rfl) fun K hK => ?_
              simp -implicitDefEqProofs only [go_sem, ↓reduceIte, Nat.reduceAdd, Nat.reduceMul, Nat.reduceEqDiff, Nat.reduceLeDiff, reduceCtorEq, Int.reduceToNat, b4, b5]
              refine hK _ ?_; clear hK K
              refine AW.cond _ (by simp -implicitDefEqProofs only [go_sem, ↓reduceIte, Nat.reduceAdd, Nat.reduceMul, Nat.reduceEqDiff, Nat.reduceLeDiff, reduceCtorEq, Int.reduceToNat]; rfl) (fun hc => ?_) (fun hc => ?_)
              · refine AW.rT (by rfl) fun K hK => ?_
                simp -implicitDefEqProofs only [go_sem, ↓reduceIte, Nat.reduceAdd, Nat.reduceMul, Nat.reduceEqDiff, Nat.reduceLeDiff, reduceCtorEq, Int.reduceToNat]
                refine hK _ ?_; clear hK K
                refine AW.ret ?_
                simp -implicitDefEqProofs only [go_sem, ↓reduceIte, Nat.reduceAdd, Nat.reduceMul, Nat.reduceEqDiff, Nat.reduceLeDiff, reduceCtorEq, Int.reduceToNat]
                simp only [vat, g4]
                rfl
              · simp at hc
          · have b4 : ((x.toNat : Int) == 0) = false := by simp; exact hz
            rw [if_neg (by omega)] at g4
            refine AW.rT (by rfl) fun K hK => ?_
            simp -implicitDefEqProofs only [go_sem, ↓reduceIte, Nat.reduceAdd, Nat.reduceMul, Nat.reduceEqDiff, Nat.reduceLeDiff, reduceCtorEq, Int.reduceToNat, b4]
            refine hK _ ?_; clear hK K
            refine AW.cond _ (by simp -implicitDefEqProofs only [go_sem, ↓reduceIte, Nat.reduceAdd, Nat.reduceMul, Nat.reduceEqDiff, Nat.reduceLeDiff, reduceCtorEq, Int.reduceToNat]; rfl) (fun hc => ?_) (fun hc => ?_)
            · simp at hc
            refine AW.skip ?_
            simp only [andThen, inBlk, reduceCtorEq, ↓reduceIte, if_t, if_f]
            refine AW.rT (by rfl) fun K hK => ?_
            simp -implicitDefEqProofs only [go_sem, ↓reduceIte, Nat.reduceAdd, Nat.reduceMul, Nat.reduceEqDiff, Nat.reduceLeDiff, reduceCtorEq, Int.reduceToNat, w8, w9]
            refine hK _ ?_; clear hK K
            refine AW.ret ?_
            simp -implicitDefEqProofs only [go_sem, ↓reduceIte, Nat.reduceAdd, Nat.reduceMul, Nat.reduceEqDiff, Nat.reduceLeDiff, reduceCtorEq, Int.reduceToNat]
            simp only [vat, g4, if_true, Nat.add_assoc]
    · simp at hc
  · have hc1 : ((i : Int) < ((((b.drop p).take 10).length : Nat) : Int)) = False := by
      simp only [eq_iff_iff, iff_false]; omega
    have hend : (b.drop p).drop i = [] := by
      rw [List.length_take, List.length_drop] at hi
      rw [List.drop_eq_nil_iff, List.length_drop]
      omega
    rw [hend] at g4
    simp only [vget] at g4
    refine AW.rT (by rfl) fun K hK => ?_
    simp -implicitDefEqProofs only [go_sem, ↓reduceIte, Nat.reduceAdd, Nat.reduceMul, Nat.reduceEqDiff, Nat.reduceLeDiff, reduceCtorEq, Int.reduceToNat, hc1]
    refine hK _ ?_; clear hK K
    refine AW.seq ?_
    refine AW.cond _ (by simp -implicitDefEqProofs only [go_sem, ↓reduceIte, Nat.reduceAdd, Nat.reduceMul, Nat.reduceEqDiff, Nat.reduceLeDiff, reduceCtorEq, Int.reduceToNat]; rfl) (fun hc => ?_) (fun hc => ?_)
    · simp at hc
    refine AW.exit ?_
    simp only [andThen, inBlk, reduceCtorEq, ↓reduceIte, if_t, if_f]
    refine AW.rT (by rfl) fun K hK => ?_
    simp -implicitDefEqProofs only [go_sem, ↓reduceIte, Nat.reduceAdd, Nat.reduceMul, Nat.reduceEqDiff, Nat.reduceLeDiff, reduceCtorEq, Int.reduceToNat]
    refine hK _ ?_; clear hK K
    refine AW.ret ?_
    simp -implicitDefEqProofs only [go_sem, ↓reduceIte, Nat.reduceAdd, Nat.reduceMul, Nat.reduceEqDiff, Nat.reduceLeDiff, reduceCtorEq, Int.reduceToNat]
    simp only [vat, g4]
    rfl
end Go.Aw
/- A field got; all fields got. -/
namespace Go.Aw
open Go.Proofs
set_option linter.unusedSimpArgs false
set_option linter.unusedVariables false
def oneAt (b : List UInt8) (p : Nat) : Raw × Nat × Int := ((oneR (b.drop p)).1, if (oneR (b.drop p)).2.2 = 0 then p + (oneR (b.drop p)).2.1 else 0, (oneR (b.drop p)).2.2)
theorem vget_ok {l : List UInt8} {v k : Nat} (h : vget l 0 0 = (v, k, 0)) : v < 18446744073709551616 ∧ 0 < k ∧ k ≤ l.length := by
  obtain ⟨u, h1, h2, h3, h4, h5, h6⟩ := vget_back l 0 0 v k (by omega) h
  rw [two64] at h5
  have e0 : (2 : Nat) ^ (7 * 0) = 1 := rfl
  rw [e0] at h1
  omega
theorem vget_bad : ∀ (l : List UInt8) (i acc v k : Nat) (e : Int), vget l i acc = (v, k, e) → e ≠ 0 → v = 0 ∧ k = 0 := by
  intro l
  induction l with
  | nil => intro i acc v k e h he; simp [vget] at h; omega
  | cons x l ih =>
    intro i acc v k e h he
    simp only [vget] at h
    split at h
    · simp at h; omega
    split at h
    · exact ih _ _ _ _ _ h he
    split at h
    · simp at h; omega
    · simp at h; omega
theorem wire_one (b : List UInt8) (p : Nat) (hp : p ≤ b.length) (hb : b.length ≤ 1000000) : PFn Try.prog 76 [.slice (b.map encB), .int .i64 (p : Int)]
    (.tuple [.agg (encRaw (oneAt b p).1), .int .i64 ((oneAt b p).2.1 : Int), .int .i64 (oneAt b p).2.2]) := by
  refine PFn.of Try.func76 rfl (by decide) Try.ntmps76 Try.results76 (Nat.le_of_ble_eq_true rfl) ?_
  simp only [argsT]
  refine AW.rT (by rfl) fun K hK => ?_
  simp -implicitDefEqProofs only [go_sem, ↓reduceIte, Nat.reduceAdd, Nat.reduceMul, Nat.reduceEqDiff, Nat.reduceLeDiff, reduceCtorEq, Int.reduceToNat]
  refine hK _ ?_; clear hK K
  refine AW.rT (by rfl) fun K hK => ?_
  simp -implicitDefEqProofs only [go_sem, ↓reduceIte, Nat.reduceAdd, Nat.reduceMul, Nat.reduceEqDiff, Nat.reduceLeDiff, reduceCtorEq, Int.reduceToNat]
  refine ⟨.pure _, vint_Get b p hp (by omega), ?_⟩
  rcases g1 : vget (b.drop p) 0 0 with ⟨key, k, e1⟩
  have v1 : vat b p = (key, if e1 = 0 then p + k else 0, e1) := by simp only [vat, g1]
  rw [v1]
  simp -implicitDefEqProofs only [go_sem, ↓reduceIte, Nat.reduceAdd, Nat.reduceMul, Nat.reduceEqDiff, Nat.reduceLeDiff, reduceCtorEq, Int.reduceToNat]
  refine hK _ ?_; clear hK K
  refine AW.seq ?_
  refine AW.block ?_
  by_cases he : e1 = 0
  · subst he
    obtain ⟨n1, n2, n3⟩ := vget_ok g1
    rw [List.length_drop] at n3
    simp only [if_true]
    rcases g2 : vget ((b.drop p).drop k) 0 0 with ⟨v, k2, e2⟩
    have o := oneR_of g1 g2
    rw [if_neg (by simp)] at o
    have v2 : vat b (p + k) = (v, if e2 = 0 then p + k + k2 else 0, e2) := by simp only [vat, ← List.drop_drop, g2]
    refine AW.rT (by rfl) fun K hK => ?_
    simp -implicitDefEqProofs only [go_sem, ↓reduceIte, Nat.reduceAdd, Nat.reduceMul, Nat.reduceEqDiff, Nat.reduceLeDiff, reduceCtorEq, Int.reduceToNat]
    refine hK _ ?_; clear hK K
    refine AW.cond _ (by simp -implicitDefEqProofs only [go_sem, ↓reduceIte, Nat.reduceAdd, Nat.reduceMul, Nat.reduceEqDiff, Nat.reduceLeDiff, reduceCtorEq, Int.reduceToNat]; rfl) (fun hc => ?_) (fun hc => ?_)
    · simp at hc
    have z2 : ((2 : Int) = 0) = False := by simp
    have q1 : (key : Int).tdiv 2 = ((key / 2 : Nat) : Int) := by rw [Int.tdiv_eq_ediv_of_nonneg (by omega)]; omega
    have q2 : (key : Int).tmod 2 = ((key % 2 : Nat) : Int) := by rw [Int.tmod_eq_emod_of_nonneg (by omega)]; omega
    have q3 : IntKind.wrap .u64 ((key / 2 : Nat) : Int) = ((key / 2 : Nat) : Int) := by rw [wu64] <;> omega
    have q4 : IntKind.wrap .i64 ((key / 2 : Nat) : Int) = ((key / 2 : Nat) : Int) := by rw [w64] <;> omega
    have q5 : IntKind.wrap .i64 ((key % 2 : Nat) : Int) = ((key % 2 : Nat) : Int) := by rw [w64] <;> omega
    by_cases hk2 : key < 2
    · have b1 : ((key : Int) < 2) = True := by simp; omega
      rw [if_pos (.inl hk2)] at o
      refine AW.rT (by rfl) fun K hK => ?_
      simp -implicitDefEqProofs only [go_sem, ↓reduceIte, Nat.reduceAdd, Nat.reduceMul, Nat.reduceEqDiff, Nat.reduceLeDiff, reduceCtorEq, Int.reduceToNat, b1]
      refine hK _ ?_; clear hK K
      refine AW.cond _ (by simp -implicitDefEqProofs only [go_sem, ↓reduceIte, Nat.reduceAdd, Nat.reduceMul, Nat.reduceEqDiff, Nat.reduceLeDiff, reduceCtorEq, Int.reduceToNat]; rfl) (fun hc => ?_) (fun hc => ?_)
      · refine AW.rT (by rfl) fun K hK => ?_
        simp -implicitDefEqProofs only [go_sem, ↓reduceIte, Nat.reduceAdd, Nat.reduceMul, Nat.reduceEqDiff, Nat.reduceLeDiff, reduceCtorEq, Int.reduceToNat]
        refine hK _ ?_; clear hK K
        refine AW.ret ?_
        simp -implicitDefEqProofs only [go_sem, ↓reduceIte, Nat.reduceAdd, Nat.reduceMul, Nat.reduceEqDiff, Nat.reduceLeDiff, reduceCtorEq, Int.reduceToNat]
        simp only [oneAt, o]
        rfl
      · simp at hc
    have b1 : ((key : Int) < 2) = False := by simp; omega
    by_cases hk5 : 500 < key / 2
    · have b2 : (((key / 2 : Nat) : Int) > 500) = True := by simp; omega
      rw [if_pos (.inr hk5)] at o
      refine AW.rT (by rfl) fun K hK => ?_
      simp -implicitDefEqProofs only [go_sem, ↓reduceIte, Nat.reduceAdd, Nat.reduceMul, Nat.reduceEqDiff, Nat.reduceLeDiff, reduceCtorEq, Int.reduceToNat, b1, b2, z2, q1, q3]
      refine hK _ ?_; clear hK K
      refine AW.cond _ (by simp -implicitDefEqProofs only [go_sem, ↓reduceIte, Nat.reduceAdd, Nat.reduceMul, Nat.reduceEqDiff, Nat.reduceLeDiff, reduceCtorEq, Int.reduceToNat]; rfl) (fun hc => ?_) (fun hc => ?_)
      · refine AW.rT (by rfl) fun K hK => ?_
        simp -implicitDefEqProofs only [go_sem, ↓reduceIte, Nat.reduceAdd, Nat.reduceMul, Nat.reduceEqDiff, Nat.reduceLeDiff, reduceCtorEq, Int.reduceToNat]
        refine hK _ ?_; clear hK K
        refine AW.ret ?_
        simp -implicitDefEqProofs only [go_sem, ↓reduceIte, Nat.reduceAdd, Nat.reduceMul, Nat.reduceEqDiff, Nat.reduceLeDiff, reduceCtorEq, Int.reduceToNat]
        simp only [oneAt, o]
        rfl
      · simp at hc
    have b2 : (((key / 2 : Nat) : Int) > 500) = False := by simp; omega
    rw [if_neg (by omega)] at o
    refine AW.rT (by rfl) fun K hK => ?_
    simp -implicitDefEqProofs only [go_sem, ↓reduceIte, Nat.reduceAdd, Nat.reduceMul, Nat.reduceEqDiff, Nat.reduceLeDiff, reduceCtorEq, Int.reduceToNat, b1, b2, z2, q1, q3]
    refine hK _ ?_; clear hK K
    refine AW.cond _ (by simp -implicitDefEqProofs only [go_sem, ↓reduceIte, Nat.reduceAdd, Nat.reduceMul, Nat.reduceEqDiff, Nat.reduceLeDiff, reduceCtorEq, Int.reduceToNat]; rfl) (fun hc => ?_) (fun hc => ?_)
    · simp at hc
    refine AW.skip ?_
    simp only [andThen, inBlk, reduceCtorEq, ↓reduceIte, if_t, if_f]
    refine AW.rT (by rfl) fun K hK => ?_
    simp -implicitDefEqProofs only [go_sem, ↓reduceIte, Nat.reduceAdd, Nat.reduceMul, Nat.reduceEqDiff, Nat.reduceLeDiff, reduceCtorEq, Int.reduceToNat, z2, q1, q2, q3, q4, q5]
    refine hK _ ?_; clear hK K
    refine AW.rT (by rfl) fun K hK => ?_
    simp -implicitDefEqProofs only [go_sem, ↓reduceIte, Nat.reduceAdd, Nat.reduceMul, Nat.reduceEqDiff, Nat.reduceLeDiff, reduceCtorEq, Int.reduceToNat]
    refine ⟨.pure _, vint_Get b (p + k) (by omega) (by omega), ?_⟩
    rw [v2]
    simp -implicitDefEqProofs only [go_sem, ↓reduceIte, Nat.reduceAdd, Nat.reduceMul, Nat.reduceEqDiff, Nat.reduceLeDiff, reduceCtorEq, Int.reduceToNat]
    refine hK _ ?_; clear hK K
    refine AW.seq ?_
    refine AW.block ?_
    by_cases he2 : e2 = 0
    · subst he2
      obtain ⟨m1, m2, m3⟩ := vget_ok g2
      rw [List.length_drop, List.length_drop] at m3
      rw [if_neg (by simp)] at o
      simp only [if_true]
      refine AW.rT (by rfl) fun K hK => ?_
      simp -implicitDefEqProofs only [go_sem, ↓reduceIte, Nat.reduceAdd, Nat.reduceMul, Nat.reduceEqDiff, Nat.reduceLeDiff, reduceCtorEq, Int.reduceToNat]
      refine hK _ ?_; clear hK K
      refine AW.cond _ (by simp -implicitDefEqProofs only [go_sem, ↓reduceIte, Nat.reduceAdd, Nat.reduceMul, Nat.reduceEqDiff, Nat.reduceLeDiff, reduceCtorEq, Int.reduceToNat]; rfl) (fun hc => ?_) (fun hc => ?_)
      · simp at hc
      by_cases hk : key % 2 = 0
      · have b3 : (((key % 2 : Nat) : Int) == 0) = true := by simp; omega
        rw [if_pos hk] at o
        refine AW.rT (by rfl) fun K hK => ?_
        simp -implicitDefEqProofs only [go_sem, ↓reduceIte, Nat.reduceAdd, Nat.reduceMul, Nat.reduceEqDiff, Nat.reduceLeDiff, reduceCtorEq, Int.reduceToNat, b3]
        refine hK _ ?_; clear hK K
        refine AW.cond _ (by simp -implicitDefEqProofs only [go_sem, ↓reduceIte, Nat.reduceAdd, Nat.reduceMul, Nat.reduceEqDiff, Nat.reduceLeDiff, reduceCtorEq, Int.reduceToNat]; rfl) (fun hc => ?_) (fun hc => ?_)
        · refine AW.rT (by rfl) fun K hK => ?_
          simp -implicitDefEqProofs only [go_sem, ↓reduceIte, Nat.reduceAdd, Nat.reduceMul, Nat.reduceEqDiff, Nat.reduceLeDiff, reduceCtorEq, Int.reduceToNat]
          refine ⟨.pure _, vint_Zag v m1, ?_⟩
          try simp -implicitDefEqProofs only [go_sem, ↓reduceIte, Nat.reduceAdd, Nat.reduceMul, Nat.reduceEqDiff, Nat.reduceLeDiff, reduceCtorEq, Int.reduceToNat]
          refine hK _ ?_; clear hK K
          refine AW.rT (by rfl) fun K hK => ?_
          simp -implicitDefEqProofs only [go_sem, ↓reduceIte, Nat.reduceAdd, Nat.reduceMul, Nat.reduceEqDiff, Nat.reduceLeDiff, reduceCtorEq, Int.reduceToNat]
          refine hK _ ?_; clear hK K
          refine AW.ret ?_
          simp -implicitDefEqProofs only [go_sem, ↓reduceIte, Nat.reduceAdd, Nat.reduceMul, Nat.reduceEqDiff, Nat.reduceLeDiff, reduceCtorEq, Int.reduceToNat]
          simp only [oneAt, o, hk]
          simp [encRaw, Nat.add_assoc]
        · simp at hc
      · have b3 : (((key % 2 : Nat) : Int) == 0) = false := by simp; omega
        rw [if_neg hk] at o
        have q6 : IntKind.wrap .i64 ((b.length : Int) - ((p + k + k2 : Nat) : Int)) = ((b.length - (p + k + k2) : Nat) : Int) := by rw [w64] <;> omega
        have q7 : IntKind.wrap .u64 ((b.length - (p + k + k2) : Nat) : Int) = ((b.length - (p + k + k2) : Nat) : Int) := by rw [wu64] <;> omega
        refine AW.rT (by rfl) fun K hK => ?_
        simp -implicitDefEqProofs only [go_sem, ↓reduceIte, Nat.reduceAdd, Nat.reduceMul, Nat.reduceEqDiff, Nat.reduceLeDiff, reduceCtorEq, Int.reduceToNat, b3]
        refine hK _ ?_; clear hK K
        refine AW.cond _ (by simp -implicitDefEqProofs only [go_sem, ↓reduceIte, Nat.reduceAdd, Nat.reduceMul, Nat.reduceEqDiff, Nat.reduceLeDiff, reduceCtorEq, Int.reduceToNat]; rfl) (fun hc => ?_) (fun hc => ?_)
        · simp at hc
        by_cases hs : b.length - (p + k + k2) < v
        · have b4 : ((v : Int) > ((b.length - (p + k + k2) : Nat) : Int)) = True := by simp; omega
          rw [List.length_drop, if_pos (by omega)] at o
          refine AW.rT (by rfl) fun K hK => ?_
          simp -implicitDefEqProofs only [go_sem, ↓reduceIte, Nat.reduceAdd, Nat.reduceMul, Nat.reduceEqDiff, Nat.reduceLeDiff, reduceCtorEq, Int.reduceToNat, b4, q6, q7, List.length_map]
          refine hK _ ?_; clear hK K
          refine AW.cond _ (by simp -implicitDefEqProofs only [go_sem, ↓reduceIte, Nat.reduceAdd, Nat.reduceMul, Nat.reduceEqDiff, Nat.reduceLeDiff, reduceCtorEq, Int.reduceToNat]; rfl) (fun hc => ?_) (fun hc => ?_)
          · refine AW.rT (by rfl) fun K hK => ?_
            simp -implicitDefEqProofs only [go_sem, ↓reduceIte, Nat.reduceAdd, Nat.reduceMul, Nat.reduceEqDiff, Nat.reduceLeDiff, reduceCtorEq, Int.reduceToNat]
            refine hK _ ?_; clear hK K
            refine AW.ret ?_
            simp -implicitDefEqProofs only [go_sem, ↓reduceIte, Nat.reduceAdd, Nat.reduceMul, Nat.reduceEqDiff, Nat.reduceLeDiff, reduceCtorEq, Int.reduceToNat]
            simp only [oneAt, o]
            rfl
          · simp at hc
        · have b4 : ((v : Int) > ((b.length - (p + k + k2) : Nat) : Int)) = False := by simp; omega
          rw [List.length_drop, if_neg (by omega)] at o
          have q8 : IntKind.wrap .i64 (v : Int) = (v : Int) := by rw [w64] <;> omega
          have q9 : IntKind.wrap .i64 (((p + k + k2 : Nat) : Int) + (v : Int)) = ((p + k + k2 + v : Nat) : Int) := by rw [w64] <;> omega
          refine AW.rT (by rfl) fun K hK => ?_
          simp -implicitDefEqProofs only [go_sem, ↓reduceIte, Nat.reduceAdd, Nat.reduceMul, Nat.reduceEqDiff, Nat.reduceLeDiff, reduceCtorEq, Int.reduceToNat, b4, q6, q7, List.length_map]
          refine hK _ ?_; clear hK K
          refine AW.cond _ (by simp -implicitDefEqProofs only [go_sem, ↓reduceIte, Nat.reduceAdd, Nat.reduceMul, Nat.reduceEqDiff, Nat.reduceLeDiff, reduceCtorEq, Int.reduceToNat]; rfl) (fun hc => ?_) (fun hc => ?_)
          · simp at hc
          refine AW.skip ?_
          simp only [andThen, inBlk, reduceCtorEq, ↓reduceIte, if_t, if_f]
          refine AW.rT (by rfl) fun K hK => ?_
          simp -implicitDefEqProofs only [go_sem, ↓reduceIte, Nat.reduceAdd, Nat.reduceMul, Nat.reduceEqDiff, Nat.reduceLeDiff, reduceCtorEq, Int.reduceToNat, q8, q9]
          refine hK _ ?_; clear hK K
          have e1 : List.drop (p + k + k2) (List.take (p + k + k2 + v) (b.map encB)) = (((b.drop p).drop (k + k2)).take v).map encB := by
            rw [← List.map_take, ← List.map_drop, List.drop_take, List.drop_drop, show p + k + k2 + v - (p + k + k2) = v by omega, Nat.add_assoc]
          have e2 : bytesOf (liftE ((((b.drop p).drop (k + k2)).take v).map encB)) = some (((b.drop p).drop (k + k2)).take v) := bytesOf_lift _
          refine AW.rT (by rfl) fun K hK => ?_
          simp -implicitDefEqProofs only [go_sem, ↓reduceIte, Nat.reduceAdd, Nat.reduceMul, Nat.reduceEqDiff, Nat.reduceLeDiff, reduceCtorEq, Int.reduceToNat, List.length_map, e1, e2]
          refine ⟨by simp [encB], by simp, by omega, ?_⟩
          refine hK _ ?_; clear hK K
          refine AW.rT (by rfl) fun K hK => ?_
          simp -implicitDefEqProofs only [go_sem, ↓reduceIte, Nat.reduceAdd, Nat.reduceMul, Nat.reduceEqDiff, Nat.reduceLeDiff, reduceCtorEq, Int.reduceToNat]
          refine hK _ ?_; clear hK K
          refine AW.ret ?_
          simp -implicitDefEqProofs only [go_sem, ↓reduceIte, Nat.reduceAdd, Nat.reduceMul, Nat.reduceEqDiff, Nat.reduceLeDiff, reduceCtorEq, Int.reduceToNat]
          have h1 : key % 2 = 1 := by omega
          simp only [oneAt, o, h1]
          simp [encRaw, Nat.add_assoc]
    · have ne : (e2 == 0) = false := by simpa using he2
      obtain ⟨rfl, rfl⟩ := vget_bad _ _ _ _ _ _ g2 he2
      rw [if_pos he2] at o
      simp only [he2, if_false]
      refine AW.rT (by rfl) fun K hK => ?_
      simp -implicitDefEqProofs only [go_sem, ↓reduceIte, Nat.reduceAdd, Nat.reduceMul, Nat.reduceEqDiff, Nat.reduceLeDiff, reduceCtorEq, Int.reduceToNat, ne]
      refine hK _ ?_; clear hK K
      refine AW.cond _ (by simp -implicitDefEqProofs only [go_sem, ↓reduceIte, Nat.reduceAdd, Nat.reduceMul, Nat.reduceEqDiff, Nat.reduceLeDiff, reduceCtorEq, Int.reduceToNat]; rfl) (fun hc => ?_) (fun hc => ?_)
      · refine AW.rT (by rfl) fun K hK => ?_
        simp -implicitDefEqProofs only [go_sem, ↓reduceIte, Nat.reduceAdd, Nat.reduceMul, Nat.reduceEqDiff, Nat.reduceLeDiff, reduceCtorEq, Int.reduceToNat]
        refine hK _ ?_; clear hK K
        refine AW.ret ?_
        simp -implicitDefEqProofs only [go_sem, ↓reduceIte, Nat.reduceAdd, Nat.reduceMul, Nat.reduceEqDiff, Nat.reduceLeDiff, reduceCtorEq, Int.reduceToNat]
        simp only [oneAt, o, he2, if_false]
        rfl
      · exact absurd (by simpa using hc) he2
  · have ne : (e1 == 0) = false := by simpa using he
    obtain ⟨rfl, rfl⟩ := vget_bad _ _ _ _ _ _ g1 he
    have o := oneR_of g1 rfl
    rw [if_pos he] at o
    simp only [he, if_false]
    refine AW.rT (by rfl) fun K hK => ?_
    simp -implicitDefEqProofs only [go_sem, ↓reduceIte, Nat.reduceAdd, Nat.reduceMul, Nat.reduceEqDiff, Nat.reduceLeDiff, reduceCtorEq, Int.reduceToNat, ne]
    refine hK _ ?_; clear hK K
    refine AW.cond _ (by simp -implicitDefEqProofs only [go_sem, ↓reduceIte, Nat.reduceAdd, Nat.reduceMul, Nat.reduceEqDiff, Nat.reduceLeDiff, reduceCtorEq, Int.reduceToNat]; rfl) (fun hc => ?_) (fun hc => ?_)
    · refine AW.rT (by rfl) fun K hK => ?_
      simp -implicitDefEqProofs only [go_sem, ↓reduceIte, Nat.reduceAdd, Nat.reduceMul, Nat.reduceEqDiff, Nat.reduceLeDiff, reduceCtorEq, Int.reduceToNat]
      refine hK _ ?_; clear hK K
      refine AW.ret ?_
      simp -implicitDefEqProofs only [go_sem, ↓reduceIte, Nat.reduceAdd, Nat.reduceMul, Nat.reduceEqDiff, Nat.reduceLeDiff, reduceCtorEq, Int.reduceToNat]
      simp only [oneAt, o, he, if_false]
      rfl
    · exact absurd (by simpa using hc) he
theorem getR_fuel : ∀ (n n' : Nat) (l : List UInt8), l.length ≤ n → l.length ≤ n' → l.length ≤ 4096 → getR n l = getR n' l := by
  intro n
  induction n with
  | zero =>
    intro n' l h _ _
    have : l = [] := List.eq_nil_of_length_eq_zero (by omega)
    subst this
    cases n' <;> simp [getR]
  | succ n ih =>
    intro n' l h1 h2 h3
    by_cases h0 : l = []
    · subst h0
      cases n' <;> simp [getR]
    cases n' with
    | zero => exact absurd (List.eq_nil_of_length_eq_zero (by omega)) h0
    | succ n' =>
      rcases ho : oneR l with ⟨r, k, e⟩
      rw [getR_step h0 ho, getR_step h0 ho]
      by_cases he : e = 0
      · subst he
        obtain ⟨_, k1, k2, _⟩ := one_back h3 ho
        rw [ih n' (l.drop k) (by rw [List.length_drop]; omega) (by rw [List.length_drop]; omega) (by rw [List.length_drop]; omega)]
      · rw [if_pos he, if_pos he]
def getA (l : List UInt8) : List Raw × Int := getR l.length l
theorem getA_step {l : List UInt8} (h : l ≠ []) (hl : l.length ≤ 4096) {r : Raw} {k : Nat} {e : Int} (ho : oneR l = (r, k, e)) :
    getA l = if e ≠ 0 then ([], e) else if (getA (l.drop k)).2 ≠ 0 then ([], (getA (l.drop k)).2) else (r :: (getA (l.drop k)).1, 0) := by
  have hp : 0 < l.length := List.length_pos_iff.2 h
  by_cases he : e = 0
  · subst he
    obtain ⟨_, k1, k2, _⟩ := one_back hl ho
    unfold getA
    rw [getR_fuel l.length (l.length - 1 + 1) l (by omega) (by omega) hl, getR_step h ho, getR_fuel (l.length - 1) (l.drop k).length (l.drop k) (by rw [List.length_drop]; omega) (by omega) (by rw [List.length_drop]; omega)]
  · unfold getA
    rw [getR_fuel l.length (l.length - 1 + 1) l (by omega) (by omega) hl, getR_step h ho, if_pos he, if_pos he]
def hS (b : List UInt8) (x : List Raw × Nat) : St := ⟨ofL [(0, .p (.slice (b.map encB))), (4, .own 0), (5, .p (.int .i64 (x.2 : Int)))], ofH [(0, .row 4 (liftE (x.1.map encRaw)))], 1⟩
theorem wire_Get (b : List UInt8) (hb : b.length ≤ 9223372036854775807) : PFn Try.prog 39 [.slice (b.map encB)] (.tuple [.slice ((wireGet b).1.map encRaw), .int .i64 (wireGet b).2]) := by
  refine PFn.of Try.func39 rfl (by decide) Try.ntmps39 Try.results39 (Nat.le_of_ble_eq_true rfl) ?_
  simp only [argsT]
  refine AW.rT (by rfl) fun K hK => ?_
  simp -implicitDefEqProofs only [go_sem, ↓reduceIte, Nat.reduceAdd, Nat.reduceMul, Nat.reduceEqDiff, Nat.reduceLeDiff, reduceCtorEq, Int.reduceToNat]
  refine hK _ ?_; clear hK K
  refine AW.seq ?_
  by_cases hbig : 4096 < b.length
  · have b1 : ((b.length : Int) > 4096) = True := by simp; omega
    refine AW.rT (by rfl) fun K hK => ?_
    simp -implicitDefEqProofs only [go_sem, ↓reduceIte, Nat.reduceAdd, Nat.reduceMul, Nat.reduceEqDiff, Nat.reduceLeDiff, reduceCtorEq, Int.reduceToNat, b1, List.length_map]
    refine hK _ ?_; clear hK K
    refine AW.cond _ (by simp -implicitDefEqProofs only [go_sem, ↓reduceIte, Nat.reduceAdd, Nat.reduceMul, Nat.reduceEqDiff, Nat.reduceLeDiff, reduceCtorEq, Int.reduceToNat]; rfl) (fun hc => ?_) (fun hc => ?_)
    · refine AW.rT (by rfl) fun K hK => ?_
      simp -implicitDefEqProofs only [go_sem, ↓reduceIte, Nat.reduceAdd, Nat.reduceMul, Nat.reduceEqDiff, Nat.reduceLeDiff, reduceCtorEq, Int.reduceToNat]
      refine hK _ ?_; clear hK K
      refine AW.ret ?_
      simp -implicitDefEqProofs only [go_sem, ↓reduceIte, Nat.reduceAdd, Nat.reduceMul, Nat.reduceEqDiff, Nat.reduceLeDiff, reduceCtorEq, Int.reduceToNat]
      simp [wireGet, hbig]
    · simp at hc
  have b1 : ((b.length : Int) > 4096) = False := by simp; omega
  have eg : wireGet b = getA b := by
    unfold wireGet getA; rw [if_neg hbig]
  rw [eg]
  refine AW.rT (by rfl) fun K hK => ?_
  simp -implicitDefEqProofs only [go_sem, ↓reduceIte, Nat.reduceAdd, Nat.reduceMul, Nat.reduceEqDiff, Nat.reduceLeDiff, reduceCtorEq, Int.reduceToNat, b1, List.length_map]
  refine hK _ ?_; clear hK K
  refine AW.cond _ (by simp -implicitDefEqProofs only [go_sem, ↓reduceIte, Nat.reduceAdd, Nat.reduceMul, Nat.reduceEqDiff, Nat.reduceLeDiff, reduceCtorEq, Int.reduceToNat]; rfl) (fun hc => ?_) (fun hc => ?_)
  · simp at hc
  refine AW.skip ?_
  simp only [andThen, inBlk, reduceCtorEq, ↓reduceIte, if_t, if_f]
  refine AW.rT (by rfl) fun K hK => ?_
  simp -implicitDefEqProofs only [go_sem, ↓reduceIte, Nat.reduceAdd, Nat.reduceMul, Nat.reduceEqDiff, Nat.reduceLeDiff, reduceCtorEq, Int.reduceToNat]
  refine hK _ ?_; clear hK K
  refine AW.seq ?_
  refine AW.rT (by rfl) fun K hK => ?_
  simp -implicitDefEqProofs only [go_sem, ↓reduceIte, Nat.reduceAdd, Nat.reduceMul, Nat.reduceEqDiff, Nat.reduceLeDiff, reduceCtorEq, Int.reduceToNat]
  refine hK _ ?_; clear hK K
  refine AW.block ?_
  refine AW.loop (hS b) (fun x => x.2 ≤ b.length ∧ x.1.length ≤ x.2 ∧ getA b = if (getA (b.drop x.2)).2 ≠ 0 then ([], (getA (b.drop x.2)).2) else (x.1 ++ (getA (b.drop x.2)).1, 0)) (fun x => b.length - x.2) ([], 0) ?_ ⟨by simp, by simp, ?_⟩ fun x hx => ?_
  · refine Ghost.trans (Ghost.nil (t := 4) (sz := 4) rfl) ?_
    simp only [hS]
    refine Ghost.ent (fun _ => 7) ?_ ?_ ?_ <;> simp -implicitDefEqProofs only [go_sem, ↓reduceIte, Nat.reduceAdd, Nat.reduceMul, Nat.reduceEqDiff, Nat.reduceLeDiff, reduceCtorEq, Int.reduceToNat, liftE, List.forall_mem_cons, List.not_mem_nil, false_implies, implies_true, and_self, map_renL_lift, labsIn_lift, List.all_append, List.all_cons, List.all_nil, List.map_append, Nat.reduceLT, labsInL, AV.labsIn]
    rfl
  · rw [List.drop_zero]
    split
    · rename_i h
      have : ∀ (n : Nat) (l : List UInt8), (getR n l).2 ≠ 0 → (getR n l).1 = [] := by
        intro n l h
        unfold getR at h ⊢
        split at h
        · simp at h
        · simp at h
        · split
          · rfl
          · split
            · rfl
            · rename_i q1 q2
              rw [if_neg q1, if_neg q2] at h
              simp at h
      exact Prod.ext (this _ _ h) rfl
    · rename_i h
      have : (getA b).2 = 0 := by simpa using h
      exact Prod.ext rfl this
  obtain ⟨m, p⟩ := x
  obtain ⟨g1, g2, g3⟩ := hx
  dsimp only at g1 g2 g3
  simp only [hS]
  refine AW.seq ?_
  by_cases hp : p < b.length
  · have hne : b.drop p ≠ [] := by
      rw [Ne, List.drop_eq_nil_iff]; omega
    have hc1 : ((p : Int) < (b.length : Int)) = True := by simp; omega
    rcases ho : oneR (b.drop p) with ⟨r, k, e⟩
    have hst := getA_step hne (by rw [List.length_drop]; omega) ho
    have oa : oneAt b p = (r, if e = 0 then p + k else 0, e) := by simp only [oneAt, ho]
    refine AW.rT (by rfl) fun K hK => ?_
    simp -implicitDefEqProofs only [go_sem, ↓reduceIte, Nat.reduceAdd, Nat.reduceMul, Nat.reduceEqDiff, Nat.reduceLeDiff, reduceCtorEq, Int.reduceToNat, hc1, List.length_map]
    refine hK _ ?_; clear hK K
    refine AW.cond _ (by simp -implicitDefEqProofs only [go_sem, ↓reduceIte, Nat.reduceAdd, Nat.reduceMul, Nat.reduceEqDiff, Nat.reduceLeDiff, reduceCtorEq, Int.reduceToNat]; rfl) (fun hc => ?_) (fun hc => ?_)
    · refine AW.skip ?_
      simp only [andThen, inBlk, reduceCtorEq, ↓reduceIte, if_t, if_f]
      refine AW.block ?_
      refine AW.rT (by rfl) fun K hK => ?_
      simp -implicitDefEqProofs only [go_sem, ↓reduceIte, Nat.reduceAdd, Nat.reduceMul, Nat.reduceEqDiff, Nat.reduceLeDiff, reduceCtorEq, Int.reduceToNat]
      refine ⟨.pure _, wire_one b p (by omega) (by omega), ?_⟩
      rw [oa]
      simp -implicitDefEqProofs only [go_sem, ↓reduceIte, Nat.reduceAdd, Nat.reduceMul, Nat.reduceEqDiff, Nat.reduceLeDiff, reduceCtorEq, Int.reduceToNat, encRaw]
      refine hK _ ?_; clear hK K
      refine AW.seq ?_
      by_cases he : e = 0
      · subst he
        obtain ⟨_, k1, k2, _⟩ := one_back (by rw [List.length_drop]; omega) ho
        rw [List.length_drop] at k2
        refine AW.rT (by rfl) fun K hK => ?_
        simp -implicitDefEqProofs only [go_sem, ↓reduceIte, Nat.reduceAdd, Nat.reduceMul, Nat.reduceEqDiff, Nat.reduceLeDiff, reduceCtorEq, Int.reduceToNat]
        refine hK _ ?_; clear hK K
        refine AW.cond _ (by simp -implicitDefEqProofs only [go_sem, ↓reduceIte, Nat.reduceAdd, Nat.reduceMul, Nat.reduceEqDiff, Nat.reduceLeDiff, reduceCtorEq, Int.reduceToNat]; rfl) (fun hc => ?_) (fun hc => ?_)
        · simp at hc
        refine AW.skip ?_
        simp only [andThen, inBlk, reduceCtorEq, ↓reduceIte, if_t, if_f]
        refine AW.rT (by rfl) fun K hK => ?_
        simp -implicitDefEqProofs only [go_sem, ↓reduceIte, Nat.reduceAdd, Nat.reduceMul, Nat.reduceEqDiff, Nat.reduceLeDiff, reduceCtorEq, Int.reduceToNat]
        refine ⟨⟨by simp, by simp [oneAll, AV.one, PV.one], by simp⟩, by simp [liftE_length]; omega, ?_⟩
        refine hK _ ?_; clear hK K
        refine AW.rE (by rfl) fun K hK => ?_
        simp -implicitDefEqProofs only [go_sem, ↓reduceIte, Nat.reduceAdd, Nat.reduceMul, Nat.reduceEqDiff, Nat.reduceLeDiff, reduceCtorEq, Int.reduceToNat]
        refine hK _ ?_; clear hK K
        refine ⟨(m ++ [r], p + k), ⟨by show p + k ≤ b.length; omega, by show (m ++ [r]).length ≤ p + k; rw [List.length_append, List.length_singleton]; omega, ?_⟩, by show b.length - (p + k) < b.length - p; omega, ?_⟩
        · show getA b = if (getA (b.drop (p + k))).2 ≠ 0 then ([], (getA (b.drop (p + k))).2) else (m ++ [r] ++ (getA (b.drop (p + k))).1, 0)
          rw [if_neg (by simp), List.drop_drop] at hst
          rw [g3, hst]
          by_cases hq : (getA (b.drop (p + k))).2 = 0
          · simp [hq]
          · simp [hq]
        · try simp only [hS]
          refine Ghost.ent (fun _ => 21) ?_ ?_ ?_ <;> simp -implicitDefEqProofs only [go_sem, ↓reduceIte, Nat.reduceAdd, Nat.reduceMul, Nat.reduceEqDiff, Nat.reduceLeDiff, reduceCtorEq, Int.reduceToNat, List.map_append, liftE_append, List.map_cons, List.map_nil, liftE_cons, liftE_nil, encRaw, List.forall_mem_cons, List.not_mem_nil, false_implies, implies_true, and_self, map_renL_lift, labsIn_lift, List.all_append, List.all_cons, List.all_nil, List.map_append, Nat.reduceLT, labsInL, AV.labsIn]
      · have ne : (e == 0) = false := by simpa using he
        rw [if_pos he] at hst
        rw [hst, if_pos he] at g3
        refine AW.rT (by rfl) fun K hK => ?_
        simp -implicitDefEqProofs only [go_sem, ↓reduceIte, Nat.reduceAdd, Nat.reduceMul, Nat.reduceEqDiff, Nat.reduceLeDiff, reduceCtorEq, Int.reduceToNat, ne]
        refine hK _ ?_; clear hK K
        refine AW.cond _ (by simp -implicitDefEqProofs only [go_sem, ↓reduceIte, Nat.reduceAdd, Nat.reduceMul, Nat.reduceEqDiff, Nat.reduceLeDiff, reduceCtorEq, Int.reduceToNat]; rfl) (fun hc => ?_) (fun hc => ?_)
        · refine AW.rT (by rfl) fun K hK => ?_
          simp -implicitDefEqProofs only [go_sem, ↓reduceIte, Nat.reduceAdd, Nat.reduceMul, Nat.reduceEqDiff, Nat.reduceLeDiff, reduceCtorEq, Int.reduceToNat]
          refine hK _ ?_; clear hK K
          refine AW.ret ?_
          simp -implicitDefEqProofs only [go_sem, ↓reduceIte, Nat.reduceAdd, Nat.reduceMul, Nat.reduceEqDiff, Nat.reduceLeDiff, reduceCtorEq, Int.reduceToNat]
          simp [g3]
        · exact absurd (by simpa using hc) he
    · simp at hc
  · have hp' : p = b.length := by omega
    subst hp'
    have hc1 : ((b.length : Int) < (b.length : Int)) = False := by simp
    rw [List.drop_length] at g3
    refine AW.rT (by rfl) fun K hK => ?_
    simp -implicitDefEqProofs only [go_sem, ↓reduceIte, Nat.reduceAdd, Nat.reduceMul, Nat.reduceEqDiff, Nat.reduceLeDiff, reduceCtorEq, Int.reduceToNat, hc1, List.length_map]
    refine hK _ ?_; clear hK K
    refine AW.cond _ (by simp -implicitDefEqProofs only [go_sem, ↓reduceIte, Nat.reduceAdd, Nat.reduceMul, Nat.reduceEqDiff, Nat.reduceLeDiff, reduceCtorEq, Int.reduceToNat]; rfl) (fun hc => ?_) (fun hc => ?_)
    · simp at hc
    refine AW.exit ?_
    simp only [andThen, inBlk, reduceCtorEq, ↓reduceIte, if_t, if_f]
    refine AW.rT (by rfl) fun K hK => ?_
    simp -implicitDefEqProofs only [go_sem, ↓reduceIte, Nat.reduceAdd, Nat.reduceMul, Nat.reduceEqDiff, Nat.reduceLeDiff, reduceCtorEq, Int.reduceToNat]
    refine hK _ ?_; clear hK K
    refine AW.ret ?_
    simp -implicitDefEqProofs only [go_sem, ↓reduceIte, Nat.reduceAdd, Nat.reduceMul, Nat.reduceEqDiff, Nat.reduceLeDiff, reduceCtorEq, Int.reduceToNat]
    rw [g3]
    simp [getA, getR]
theorem law00_BytesO (b : List UInt8) (hb : b.length ≤ 140737488355328) : OFn Try.prog 40 [.slice (b.map encB)] 1 (b.map encB) := by
  refine OFn.of Try.func40 rfl (by decide) Try.ntmps40 Try.results40 (Nat.le_of_ble_eq_true rfl) ?_
  simp only [argsT]
  refine AW.rT (by rfl) fun K hK => ?_
  simp -implicitDefEqProofs only [go_sem, ↓reduceIte, Nat.reduceAdd, Nat.reduceMul, Nat.reduceEqDiff, Nat.reduceLeDiff, reduceCtorEq, Int.reduceToNat]
  refine hK _ ?_; clear hK K
  refine AW.rT (by rfl) fun K hK => ?_
  simp -implicitDefEqProofs only [go_sem, ↓reduceIte, Nat.reduceAdd, Nat.reduceMul, Nat.reduceEqDiff, Nat.reduceLeDiff, reduceCtorEq, Int.reduceToNat]
  refine ⟨⟨liftE_len (sz := 1) (by simp [encB]), liftE_one (by simp [encB, PV.one]), fun _ => trivial⟩, ?_⟩
  refine ⟨⟨.inl trivial, by simp, by simp [liftE_length]; omega⟩, ?_⟩
  refine hK _ ?_; clear hK K
  refine AW.ret ⟨2, _, rfl, by simp -implicitDefEqProofs only [go_sem, ↓reduceIte, Nat.reduceAdd, Nat.reduceMul, Nat.reduceEqDiff, Nat.reduceLeDiff, reduceCtorEq, Int.reduceToNat]; rfl, ?_⟩
  simp -implicitDefEqProofs only [go_sem, ↓reduceIte, Nat.reduceAdd, Nat.reduceMul, Nat.reduceEqDiff, Nat.reduceLeDiff, reduceCtorEq, Int.reduceToNat]
end Go.Aw
