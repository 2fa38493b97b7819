/- The law CheckSpoilt. -/
import Derived.Test.YtmeplhcfjihafaaDoorAwDc
import Derived.Test.YtmeplhcfjihafaaDoorAwX10
namespace Go.Aw
open Go.Proofs Go.RowKit
set_option linter.unusedSimpArgs false
set_option linter.unusedVariables false
theorem rowA_by {S : Sc} {m : Ms} {a l i : Nat} {p : Nat → Bool} (h : p l = true) : (Blk.row 3 (rowA S m a l i)).labsBy p = true := by
  have : ∀ l : List PV, labsByL p (l.map AV.p) = true := fun l => by
    induction l with
    | nil => rfl
    | cons a l ih => rw [List.map_cons, labsByL, ih]; rfl
  unfold rowA
  simp only [Blk.labsBy, liftE, List.all_append, List.all_cons, List.all_map, Bool.and_eq_true, List.all_eq_true]
  exact ⟨fun e _ => this _, by simp [mOpen, labsByL, AV.labsBy, h], fun e _ => this _⟩
theorem rowA_at {S : Sc} {m : Ms} {a l : Nat} (h : a < S.msgs.length) : (rowA S m a l S.msgs.length)[a]? = some (mOpen m l) := by
  unfold rowA
  rw [List.getElem?_append_right (by simp [liftE_length]; omega)]
  simp [liftE_length, Nat.min_eq_left (Nat.le_of_lt h)]
theorem rowA_shut {S : Sc} {m : Ms} {a l : Nat} {fs : List Fd} (h : S.msgs[a]? = some m) : (rowA S m a l S.msgs.length).map (fun e => e.map (thaw1 l (fs.map encFd))) = liftE ((S.msgs.set a { m with fields := fs }).map encMs) := by
  have hl : a < S.msgs.length := (List.getElem?_eq_some_iff.1 h).1
  have e : S.msgs.set a { m with fields := fs } = S.msgs.take a ++ { m with fields := fs } :: S.msgs.drop (a + 1) := by
    rw [List.set_eq_take_append_cons_drop, if_pos hl]
  unfold rowA
  rw [e, List.take_length, List.map_append, List.map_cons, thaw_lift, thaw_lift, List.map_append, List.map_cons, liftE_append, liftE_cons]
  simp [mOpen, thaw1, encMs]
def osU (S : Sc) (m : Ms) (a : Nat) (p q : Int) : St := ⟨ofL [(1, .p (.int .i64 p)), (2, .p (.int .i64 q)), (3, .ptr 0 0 0), (24, .agg [.p (.str S.name), .own 1, .p (.slice (S.enums.map encEn)), .p (.slice (S.meths.map encMt))])],
  ofH [(0, .row 4 [cellsSc S]), (1, .row 3 (rowA S m a 2 S.msgs.length)), (2, .row 5 (liftE (m.fields.map encFd)))], 3⟩
def osR (S : Sc) : Blk := .row 4 [[.p (.str S.name), .own 1, .p (.slice (S.enums.map encEn)), .p (.slice (S.meths.map encMt))]]
def osV (S : Sc) (m : Ms) (a : Nat) (fs : List Fd) (l : List (Nat × AV)) : St := ⟨ofL ((7, .ptr 0 0 0) :: l),
  ofH [(0, osR S), (1, .row 3 (rowA S m a 2 S.msgs.length)), (2, .row 5 (liftE (fs.map encFd)))], 3⟩
def osW1 (S U : Sc) (c : Int) : St := ⟨ofL [(7, .ptr 0 0 0), (10, .p (.int .i64 c))], ofH [(0, osR S), (1, .row 3 (liftE (U.msgs.map encMs)))], 3⟩
def osW (S U : Sc) (c : Int) : St := ⟨ofL [(7, .ptr 0 0 0), (10, .p (.int .i64 c))], ofH [(0, .row 4 [[.p (.str S.name), .p (.slice (U.msgs.map encMs)), .p (.slice (S.enums.map encEn)), .p (.slice (S.meths.map encMt))]])], 3⟩
set_option maxRecDepth 100000 in
set_option maxHeartbeats 8000000 in
theorem law07_CheckSpoilt (S : Sc) (p q : Int) (G : GSc S) (hp : okI p) (hq : okI q) : PFn Tryd.prog 4 [.agg (encSc S), .int .i64 p, .int .i64 q] (.bool true) := by
  refine PFn.of Tryd.func4 rfl (by decide) Tryd.ntmps4 Tryd.results4 (Nat.le_of_ble_eq_true rfl) ?_
  simp only [argsT, encSc]
  have FW := law00_Few S G.big
  simp only [encSc] at FW
  refine AW.rT (by rfl) fun K hK => ?_
  simp -implicitDefEqProofs only [go_sem, ↓reduceIte, Nat.reduceAdd, Nat.reduceMul, Nat.reduceEqDiff, Nat.reduceLeDiff, reduceCtorEq, Int.reduceToNat]
  refine hK _ ?_; clear hK K
  refine AW.seq ?_
  cases hf : fewB S with
  | false =>
    rw [hf] at FW
    refine AW.rT (by rfl) fun K hK => ?_
    simp -implicitDefEqProofs only [go_sem, ↓reduceIte, Nat.reduceAdd, Nat.reduceMul, Nat.reduceEqDiff, Nat.reduceLeDiff, reduceCtorEq, Int.reduceToNat]
    refine ⟨.pure _, FW, ?_⟩
    try simp -implicitDefEqProofs only [go_sem, ↓reduceIte, Nat.reduceAdd, Nat.reduceMul, Nat.reduceEqDiff, Nat.reduceLeDiff, reduceCtorEq, Int.reduceToNat]
    refine hK _ ?_; clear hK K
    refine AW.cond _ (by simp -implicitDefEqProofs only [go_sem, ↓reduceIte, Nat.reduceAdd, Nat.reduceMul, Nat.reduceEqDiff, Nat.reduceLeDiff, reduceCtorEq, Int.reduceToNat]; rfl) (fun hc => ?_) (fun hc => ?_)
    rotate_left
    · simp at hc
    refine AW.rT (by rfl) fun K hK => ?_
    simp -implicitDefEqProofs only [go_sem, ↓reduceIte, Nat.reduceAdd, Nat.reduceMul, Nat.reduceEqDiff, Nat.reduceLeDiff, reduceCtorEq, Int.reduceToNat]
    refine ⟨.pure _, law07_awake, ?_⟩
    try simp -implicitDefEqProofs only [go_sem, ↓reduceIte, Nat.reduceAdd, Nat.reduceMul, Nat.reduceEqDiff, Nat.reduceLeDiff, reduceCtorEq, Int.reduceToNat]
    refine hK _ ?_; clear hK K
    refine AW.ret ?_
    simp -implicitDefEqProofs only [go_sem, ↓reduceIte, Nat.reduceAdd, Nat.reduceMul, Nat.reduceEqDiff, Nat.reduceLeDiff, reduceCtorEq, Int.reduceToNat]
  | true =>
  rw [hf] at FW
  have F := few_spec hf
  have L := F.lens
  have SC := law00_Schema S F
  have C1 := check_Check S L
  simp only [encSc] at SC C1
  by_cases hz : checkC S = 0
  case neg =>
    have cz : (checkC S != 0) = true := by simp [hz]
    refine AW.rT (by rfl) fun K hK => ?_
    simp -implicitDefEqProofs only [go_sem, ↓reduceIte, Nat.reduceAdd, Nat.reduceMul, Nat.reduceEqDiff, Nat.reduceLeDiff, reduceCtorEq, Int.reduceToNat]
    refine ⟨.pure _, FW, ?_⟩
    try simp -implicitDefEqProofs only [go_sem, ↓reduceIte, Nat.reduceAdd, Nat.reduceMul, Nat.reduceEqDiff, Nat.reduceLeDiff, reduceCtorEq, Int.reduceToNat]
    refine ⟨.pure _, SC, ?_⟩
    try simp -implicitDefEqProofs only [go_sem, ↓reduceIte, Nat.reduceAdd, Nat.reduceMul, Nat.reduceEqDiff, Nat.reduceLeDiff, reduceCtorEq, Int.reduceToNat]
    refine ⟨.pure _, C1, ?_⟩
    try simp -implicitDefEqProofs only [go_sem, ↓reduceIte, Nat.reduceAdd, Nat.reduceMul, Nat.reduceEqDiff, Nat.reduceLeDiff, reduceCtorEq, Int.reduceToNat, cz]
    refine hK _ ?_; clear hK K
    refine AW.cond _ (by simp -implicitDefEqProofs only [go_sem, ↓reduceIte, Nat.reduceAdd, Nat.reduceMul, Nat.reduceEqDiff, Nat.reduceLeDiff, reduceCtorEq, Int.reduceToNat]; rfl) (fun hc => ?_) (fun hc => ?_)
    rotate_left
    · simp at hc
    refine AW.rT (by rfl) fun K hK => ?_
    simp -implicitDefEqProofs only [go_sem, ↓reduceIte, Nat.reduceAdd, Nat.reduceMul, Nat.reduceEqDiff, Nat.reduceLeDiff, reduceCtorEq, Int.reduceToNat]
    refine ⟨.pure _, law07_awake, ?_⟩
    try simp -implicitDefEqProofs only [go_sem, ↓reduceIte, Nat.reduceAdd, Nat.reduceMul, Nat.reduceEqDiff, Nat.reduceLeDiff, reduceCtorEq, Int.reduceToNat]
    refine hK _ ?_; clear hK K
    refine AW.ret ?_
    simp -implicitDefEqProofs only [go_sem, ↓reduceIte, Nat.reduceAdd, Nat.reduceMul, Nat.reduceEqDiff, Nat.reduceLeDiff, reduceCtorEq, Int.reduceToNat]
  have cz : (checkC S != 0) = false := by simp [hz]
  have FT := check_fit.1 hz
  have nm := FT.lens
  have i64 : ∀ {n : Int}, okI n → -9223372036854775808 ≤ n ∧ n ≤ 9223372036854775807 := fun h => by
    have e1 : IntKind.i64.min = -9223372036854775808 := by decide
    have e2 : IntKind.i64.max = 9223372036854775807 := by decide
    simpa [okI, Lit.wf, e1, e2] using h
  have hp' := i64 hp
  have hq' := i64 hq
  have hnp : (0 : Int) < (S.msgs.length : Int) := by omega
  obtain ⟨a, haI⟩ : ∃ a : Nat, p % (S.msgs.length : Int) = (a : Int) := ⟨(p % (S.msgs.length : Int)).toNat, by have := Int.emod_nonneg p (show (S.msgs.length : Int) ≠ 0 by omega); omega⟩
  have hal : a < S.msgs.length := by have := Int.emod_lt_of_pos p hnp; omega
  have PL := law00_Place p (S.msgs.length : Int) hnp (by omega) hp'.1 hp'.2
  rw [haI] at PL
  obtain ⟨m, hm⟩ : ∃ m, S.msgs[a]? = some m := ⟨_, List.getElem?_eq_getElem hal⟩
  have mm := List.mem_of_getElem? hm
  have FM := F.ms m mm
  have Ff := FM.fields
  have ra := rowA_at (m := m) (l := 1) hal
  have rl := rowA_len (S := S) (m := m) (a := a) (l := 1) (Nat.le_refl S.msgs.length) hal
  refine AW.rT (by rfl) fun K hK => ?_
  simp -implicitDefEqProofs only [go_sem, ↓reduceIte, Nat.reduceAdd, Nat.reduceMul, Nat.reduceEqDiff, Nat.reduceLeDiff, reduceCtorEq, Int.reduceToNat]
  refine ⟨.pure _, FW, ?_⟩
  try simp -implicitDefEqProofs only [go_sem, ↓reduceIte, Nat.reduceAdd, Nat.reduceMul, Nat.reduceEqDiff, Nat.reduceLeDiff, reduceCtorEq, Int.reduceToNat]
  refine ⟨.pure _, SC, ?_⟩
  try simp -implicitDefEqProofs only [go_sem, ↓reduceIte, Nat.reduceAdd, Nat.reduceMul, Nat.reduceEqDiff, Nat.reduceLeDiff, reduceCtorEq, Int.reduceToNat]
  refine ⟨.pure _, C1, ?_⟩
  try simp -implicitDefEqProofs only [go_sem, ↓reduceIte, Nat.reduceAdd, Nat.reduceMul, Nat.reduceEqDiff, Nat.reduceLeDiff, reduceCtorEq, Int.reduceToNat, cz]
  refine hK _ ?_; clear hK K
  refine AW.cond _ (by simp -implicitDefEqProofs only [go_sem, ↓reduceIte, Nat.reduceAdd, Nat.reduceMul, Nat.reduceEqDiff, Nat.reduceLeDiff, reduceCtorEq, Int.reduceToNat]; rfl) (fun hc => ?_) (fun hc => ?_)
  · simp at hc
  refine AW.skip ?_
  simp only [andThen, inBlk, reduceCtorEq, ↓reduceIte, if_t, if_f]
  have DS := law00_SchemaA S F a m hm
  simp only [encSc] at DS
  refine AW.rR (SeqR.ev 1 (by rfl) (by decide) ?_)
  simp -implicitDefEqProofs only [go_sem, ↓reduceIte, Nat.reduceAdd, Nat.reduceMul, Nat.reduceEqDiff, Nat.reduceLeDiff, reduceCtorEq, Int.reduceToNat]
  refine SeqR.call (fun l => l) rfl (by decide) DS ⟨?_, rfl, (fun x hx => by cases hx), rfl, rfl, rfl, rfl, rfl, ?_⟩ ?_
  · simp -implicitDefEqProofs only [go_sem, ↓reduceIte, Nat.reduceAdd, Nat.reduceMul, Nat.reduceEqDiff, Nat.reduceLeDiff, reduceCtorEq, Int.reduceToNat, argD]
  · simp [labsBy_lift, rowA_by]
  refine SeqR.ghost (s' := osU S m a p q) ?_ ?_
  · simp only [osU, cellsSc]
    refine Ghost.ent (fun l => if l = 0 then 0 else l + 11) ?_ ?_ ?_ <;> simp -implicitDefEqProofs only [go_sem, ↓reduceIte, Nat.reduceAdd, Nat.reduceMul, Nat.reduceEqDiff, Nat.reduceLeDiff, reduceCtorEq, Int.reduceToNat, lift2, goneU, newU, Nat.reduceSub, rowA_ren, rowA_labs, List.forall_mem_cons, List.not_mem_nil, false_implies, implies_true, and_self, map_renL_lift, labsIn_lift, List.all_append, List.all_cons, List.all_nil, List.map_append, Nat.reduceLT, labsInL, AV.labsIn]
    all_goals first | rfl | decide | skip
  refine SeqR.ev 2 (by rfl) (by decide) ?_
  simp only [osU, cellsSc]
  simp -implicitDefEqProofs only [go_sem, ↓reduceIte, Nat.reduceAdd, Nat.reduceMul, Nat.reduceEqDiff, Nat.reduceLeDiff, reduceCtorEq, Int.reduceToNat]
  refine SeqR.last rfl ?_
  have g0 : 0 ≤ (a : Int) := by omega
  have g1 : (a : Int) < (S.msgs.length : Int) := by omega
  have ra2 := rowA_at (S := S) (m := m) (l := 2) hal
  have rl2 := rowA_len (S := S) (m := m) (a := a) (l := 2) (Nat.le_refl S.msgs.length) hal
  unfold mOpen at ra2
  refine AW.dT mixed (by rfl) (by decide +kernel) fun K hK => ?_
  simp -implicitDefEqProofs only [go_sem, ↓reduceIte, Nat.reduceAdd, Nat.reduceMul, Nat.reduceEqDiff, Nat.reduceLeDiff, reduceCtorEq, Int.reduceToNat, rl2, ra2, g0, g1]
  refine ⟨.pure _, PL, ?_⟩
  try simp -implicitDefEqProofs only [go_sem, ↓reduceIte, Nat.reduceAdd, Nat.reduceMul, Nat.reduceEqDiff, Nat.reduceLeDiff, reduceCtorEq, Int.reduceToNat, rl2, ra2, g0, g1]
  refine ⟨heapOK_nil rfl, ?_⟩
  refine hK _ ?_; clear hK K
  have lf : (liftE (m.fields.map encFd)).length = m.fields.length := by rw [liftE_length, List.length_map]
  refine AW.seq ?_
  by_cases h0 : m.fields.length = 0
  · have f0 : ((m.fields.length : Int) == 0) = true := by rw [beq_iff_eq]; omega
    refine AW.rT (by rfl) fun K hK => ?_
    simp -implicitDefEqProofs only [go_sem, ↓reduceIte, Nat.reduceAdd, Nat.reduceMul, Nat.reduceEqDiff, Nat.reduceLeDiff, reduceCtorEq, Int.reduceToNat, ra2, lf, f0]
    refine hK _ ?_; clear hK K
    refine AW.cond _ (by simp -implicitDefEqProofs only [go_sem, ↓reduceIte, Nat.reduceAdd, Nat.reduceMul, Nat.reduceEqDiff, Nat.reduceLeDiff, reduceCtorEq, Int.reduceToNat]; rfl) (fun hc => ?_) (fun hc => ?_)
    rotate_left
    · simp at hc
    refine AW.rT (by rfl) fun K hK => ?_
    simp -implicitDefEqProofs only [go_sem, ↓reduceIte, Nat.reduceAdd, Nat.reduceMul, Nat.reduceEqDiff, Nat.reduceLeDiff, reduceCtorEq, Int.reduceToNat]
    refine ⟨.pure _, law07_awake, ?_⟩
    try simp -implicitDefEqProofs only [go_sem, ↓reduceIte, Nat.reduceAdd, Nat.reduceMul, Nat.reduceEqDiff, Nat.reduceLeDiff, reduceCtorEq, Int.reduceToNat]
    refine hK _ ?_; clear hK K
    refine AW.ret ?_
    simp -implicitDefEqProofs only [go_sem, ↓reduceIte, Nat.reduceAdd, Nat.reduceMul, Nat.reduceEqDiff, Nat.reduceLeDiff, reduceCtorEq, Int.reduceToNat]
  have f0 : ((m.fields.length : Int) == 0) = false := beq_eq_false_iff_ne.2 (by omega)
  refine AW.rT (by rfl) fun K hK => ?_
  simp -implicitDefEqProofs only [go_sem, ↓reduceIte, Nat.reduceAdd, Nat.reduceMul, Nat.reduceEqDiff, Nat.reduceLeDiff, reduceCtorEq, Int.reduceToNat, ra2, lf, f0]
  refine hK _ ?_; clear hK K
  refine AW.cond _ (by simp -implicitDefEqProofs only [go_sem, ↓reduceIte, Nat.reduceAdd, Nat.reduceMul, Nat.reduceEqDiff, Nat.reduceLeDiff, reduceCtorEq, Int.reduceToNat]; rfl) (fun hc => ?_) (fun hc => ?_)
  · simp at hc
  refine AW.skip ?_
  simp only [andThen, inBlk, reduceCtorEq, ↓reduceIte, if_t, if_f]
  have hnf : (0 : Int) < (m.fields.length : Int) := by omega
  have z16 : ((16 : Int) = 0) = False := by simp
  have t1 := Int.mul_tdiv_add_tmod p 16
  have t2 := Int.tmod_lt_of_pos p (show (0 : Int) < 16 by decide)
  have t3 := Int.lt_tmod_of_pos p (show (0 : Int) < 16 by decide)
  have tb : -9223372036854775808 ≤ p.tdiv 16 ∧ p.tdiv 16 ≤ 9223372036854775807 := by omega
  have w16 : IntKind.wrap .i64 (p.tdiv 16) = p.tdiv 16 := by rw [w64] <;> omega
  have PL2 := law00_Place (p.tdiv 16) (m.fields.length : Int) hnf (by omega) tb.1 tb.2
  obtain ⟨b, hbI⟩ : ∃ b : Nat, p.tdiv 16 % (m.fields.length : Int) = (b : Int) := ⟨(p.tdiv 16 % (m.fields.length : Int)).toNat, by have := Int.emod_nonneg (p.tdiv 16) (show (m.fields.length : Int) ≠ 0 by omega); omega⟩
  have hbl : b < m.fields.length := by have := Int.emod_lt_of_pos (p.tdiv 16) hnf; omega
  rw [hbI] at PL2
  obtain ⟨f, hfb⟩ : ∃ f, m.fields[b]? = some f := ⟨_, List.getElem?_eq_getElem hbl⟩
  have gb := at_lift encFd hfb
  simp only [encFd, List.map_cons, List.map_nil] at gb
  have b0 : 0 ≤ (b : Int) := by omega
  have b1 : (b : Int) < (m.fields.length : Int) := by omega
  refine AW.dT mixed (by rfl) (by decide +kernel) fun K hK => ?_
  simp -implicitDefEqProofs only [go_sem, ↓reduceIte, Nat.reduceAdd, Nat.reduceMul, Nat.reduceEqDiff, Nat.reduceLeDiff, reduceCtorEq, Int.reduceToNat, ra2, lf, z16, w16, b0, b1]
  refine ⟨.pure _, PL2, ?_⟩
  try simp -implicitDefEqProofs only [go_sem, ↓reduceIte, Nat.reduceAdd, Nat.reduceMul, Nat.reduceEqDiff, Nat.reduceLeDiff, reduceCtorEq, Int.reduceToNat, ra2, lf, z16, w16, b0, b1]
  refine ⟨heapOK_nil rfl, ?_⟩
  refine hK _ ?_; clear hK K
  refine AW.rT (by rfl) fun K hK => ?_
  simp -implicitDefEqProofs only [go_sem, ↓reduceIte, Nat.reduceAdd, Nat.reduceMul, Nat.reduceEqDiff, Nat.reduceLeDiff, reduceCtorEq, Int.reduceToNat]
  refine hK _ ?_; clear hK K
  have PL3 := law00_Place q 5 (by decide) (by decide) hq'.1 hq'.2
  obtain ⟨k, hkI⟩ : ∃ k : Nat, q % 5 = (k : Int) := ⟨(q % 5).toNat, by omega⟩
  have hk5 : k = 0 ∨ k = 1 ∨ k = 2 ∨ k = 3 ∨ k = 4 := by omega
  rw [hkI] at PL3
  refine AW.cut (fun _ : Unit => osV S m a (m.fields.set b (spF f k)) [(10, .p (.int .i64 (spC k)))]) (fun _ => True) ?_ fun _ _ => ?_
  · refine AW.rT (by rfl) fun K hK => ?_
    simp -implicitDefEqProofs only [go_sem, ↓reduceIte, Nat.reduceAdd, Nat.reduceMul, Nat.reduceEqDiff, Nat.reduceLeDiff, reduceCtorEq, Int.reduceToNat]
    refine ⟨.pure _, PL3, ?_⟩
    try simp -implicitDefEqProofs only [go_sem, ↓reduceIte, Nat.reduceAdd, Nat.reduceMul, Nat.reduceEqDiff, Nat.reduceLeDiff, reduceCtorEq, Int.reduceToNat]
    refine hK _ ?_; clear hK K
    refine AW.block ?_
    clear hkI PL3
    rcases hk5 with rfl | rfl | rfl | rfl | rfl
    · skip
      have sf := setL encFd m.fields b (spF f 0)
      simp only [spF, encFd, nobody, if_true, if_false, Nat.reduceEqDiff, List.map_cons, List.map_nil] at sf
      have e0 : (((0 : Nat) : Int) == 0) = true := by decide
      have e1 : (((0 : Nat) : Int) == 1) = false := by decide
      have e2 : (((0 : Nat) : Int) == 2) = false := by decide
      have e3 : (((0 : Nat) : Int) == 3) = false := by decide
      refine AW.rT (by rfl) fun K hK => ?_
      simp -implicitDefEqProofs only [go_sem, ↓reduceIte, Nat.reduceAdd, Nat.reduceMul, Nat.reduceEqDiff, Nat.reduceLeDiff, reduceCtorEq, Int.reduceToNat, e0]
      refine hK _ ?_; clear hK K
      refine AW.cond _ (by simp -implicitDefEqProofs only [go_sem, ↓reduceIte, Nat.reduceAdd, Nat.reduceMul, Nat.reduceEqDiff, Nat.reduceLeDiff, reduceCtorEq, Int.reduceToNat]; rfl) (fun hc => ?_) (fun hc => ?_)
      rotate_left
      · simp at hc
      refine AW.rE (by rfl) fun K hK => ?_
      simp -implicitDefEqProofs only [go_sem, ↓reduceIte, Nat.reduceAdd, Nat.reduceMul, Nat.reduceEqDiff, Nat.reduceLeDiff, reduceCtorEq, Int.reduceToNat, gb]
      refine hK _ ?_; clear hK K
      simp only [andThen, inBlk, reduceCtorEq, ↓reduceIte, if_t, if_f]
      refine ⟨(), trivial, ?_⟩
      simp only [osV, osR]
      refine Ghost.ent (fun l => if l = 0 then 3 else l) ?_ ?_ ?_ <;> simp -implicitDefEqProofs only [go_sem, ↓reduceIte, Nat.reduceAdd, Nat.reduceMul, Nat.reduceEqDiff, Nat.reduceLeDiff, reduceCtorEq, Int.reduceToNat, sf, rowA_ren, rowA_labs, List.forall_mem_cons, List.not_mem_nil, false_implies, implies_true, and_self, map_renL_lift, labsIn_lift, List.all_append, List.all_cons, List.all_nil, List.map_append, Nat.reduceLT, labsInL, AV.labsIn]
      all_goals first | rfl | decide | skip
    · skip
      have sf := setL encFd m.fields b (spF f 1)
      simp only [spF, encFd, nobody, if_true, if_false, Nat.reduceEqDiff, List.map_cons, List.map_nil] at sf
      have e0 : (((1 : Nat) : Int) == 0) = false := by decide
      have e1 : (((1 : Nat) : Int) == 1) = true := by decide
      have e2 : (((1 : Nat) : Int) == 2) = false := by decide
      have e3 : (((1 : Nat) : Int) == 3) = false := by decide
      refine AW.rT (by rfl) fun K hK => ?_
      simp -implicitDefEqProofs only [go_sem, ↓reduceIte, Nat.reduceAdd, Nat.reduceMul, Nat.reduceEqDiff, Nat.reduceLeDiff, reduceCtorEq, Int.reduceToNat, e0]
      refine hK _ ?_; clear hK K
      refine AW.cond _ (by simp -implicitDefEqProofs only [go_sem, ↓reduceIte, Nat.reduceAdd, Nat.reduceMul, Nat.reduceEqDiff, Nat.reduceLeDiff, reduceCtorEq, Int.reduceToNat]; rfl) (fun hc => ?_) (fun hc => ?_)
      · simp at hc
      refine AW.rT (by rfl) fun K hK => ?_
      simp -implicitDefEqProofs only [go_sem, ↓reduceIte, Nat.reduceAdd, Nat.reduceMul, Nat.reduceEqDiff, Nat.reduceLeDiff, reduceCtorEq, Int.reduceToNat, e1]
      refine hK _ ?_; clear hK K
      refine AW.cond _ (by simp -implicitDefEqProofs only [go_sem, ↓reduceIte, Nat.reduceAdd, Nat.reduceMul, Nat.reduceEqDiff, Nat.reduceLeDiff, reduceCtorEq, Int.reduceToNat]; rfl) (fun hc => ?_) (fun hc => ?_)
      rotate_left
      · simp at hc
      refine AW.rT (by rfl) fun K hK => ?_
      simp -implicitDefEqProofs only [go_sem, ↓reduceIte, Nat.reduceAdd, Nat.reduceMul, Nat.reduceEqDiff, Nat.reduceLeDiff, reduceCtorEq, Int.reduceToNat, gb]
      refine hK _ ?_; clear hK K
      refine AW.rE (by rfl) fun K hK => ?_
      simp -implicitDefEqProofs only [go_sem, ↓reduceIte, Nat.reduceAdd, Nat.reduceMul, Nat.reduceEqDiff, Nat.reduceLeDiff, reduceCtorEq, Int.reduceToNat]
      refine hK _ ?_; clear hK K
      simp only [andThen, inBlk, reduceCtorEq, ↓reduceIte, if_t, if_f]
      refine ⟨(), trivial, ?_⟩
      simp only [osV, osR]
      refine Ghost.ent (fun l => if l = 0 then 3 else l) ?_ ?_ ?_ <;> simp -implicitDefEqProofs only [go_sem, ↓reduceIte, Nat.reduceAdd, Nat.reduceMul, Nat.reduceEqDiff, Nat.reduceLeDiff, reduceCtorEq, Int.reduceToNat, sf, rowA_ren, rowA_labs, List.forall_mem_cons, List.not_mem_nil, false_implies, implies_true, and_self, map_renL_lift, labsIn_lift, List.all_append, List.all_cons, List.all_nil, List.map_append, Nat.reduceLT, labsInL, AV.labsIn]
      all_goals first | rfl | decide | skip
    · skip
      have sf := setL encFd m.fields b (spF f 2)
      simp only [spF, encFd, nobody, if_true, if_false, Nat.reduceEqDiff, List.map_cons, List.map_nil] at sf
      have e0 : (((2 : Nat) : Int) == 0) = false := by decide
      have e1 : (((2 : Nat) : Int) == 1) = false := by decide
      have e2 : (((2 : Nat) : Int) == 2) = true := by decide
      have e3 : (((2 : Nat) : Int) == 3) = false := by decide
      refine AW.rT (by rfl) fun K hK => ?_
      simp -implicitDefEqProofs only [go_sem, ↓reduceIte, Nat.reduceAdd, Nat.reduceMul, Nat.reduceEqDiff, Nat.reduceLeDiff, reduceCtorEq, Int.reduceToNat, e0]
      refine hK _ ?_; clear hK K
      refine AW.cond _ (by simp -implicitDefEqProofs only [go_sem, ↓reduceIte, Nat.reduceAdd, Nat.reduceMul, Nat.reduceEqDiff, Nat.reduceLeDiff, reduceCtorEq, Int.reduceToNat]; rfl) (fun hc => ?_) (fun hc => ?_)
      · simp at hc
      refine AW.rT (by rfl) fun K hK => ?_
      simp -implicitDefEqProofs only [go_sem, ↓reduceIte, Nat.reduceAdd, Nat.reduceMul, Nat.reduceEqDiff, Nat.reduceLeDiff, reduceCtorEq, Int.reduceToNat, e1]
      refine hK _ ?_; clear hK K
      refine AW.cond _ (by simp -implicitDefEqProofs only [go_sem, ↓reduceIte, Nat.reduceAdd, Nat.reduceMul, Nat.reduceEqDiff, Nat.reduceLeDiff, reduceCtorEq, Int.reduceToNat]; rfl) (fun hc => ?_) (fun hc => ?_)
      · simp at hc
      refine AW.rT (by rfl) fun K hK => ?_
      simp -implicitDefEqProofs only [go_sem, ↓reduceIte, Nat.reduceAdd, Nat.reduceMul, Nat.reduceEqDiff, Nat.reduceLeDiff, reduceCtorEq, Int.reduceToNat, e2]
      refine hK _ ?_; clear hK K
      refine AW.cond _ (by simp -implicitDefEqProofs only [go_sem, ↓reduceIte, Nat.reduceAdd, Nat.reduceMul, Nat.reduceEqDiff, Nat.reduceLeDiff, reduceCtorEq, Int.reduceToNat]; rfl) (fun hc => ?_) (fun hc => ?_)
      rotate_left
      · simp at hc
      refine AW.rT (by rfl) fun K hK => ?_
      simp -implicitDefEqProofs only [go_sem, ↓reduceIte, Nat.reduceAdd, Nat.reduceMul, Nat.reduceEqDiff, Nat.reduceLeDiff, reduceCtorEq, Int.reduceToNat, gb]
      refine hK _ ?_; clear hK K
      refine AW.rE (by rfl) fun K hK => ?_
      simp -implicitDefEqProofs only [go_sem, ↓reduceIte, Nat.reduceAdd, Nat.reduceMul, Nat.reduceEqDiff, Nat.reduceLeDiff, reduceCtorEq, Int.reduceToNat]
      refine hK _ ?_; clear hK K
      simp only [andThen, inBlk, reduceCtorEq, ↓reduceIte, if_t, if_f]
      refine ⟨(), trivial, ?_⟩
      simp only [osV, osR]
      refine Ghost.ent (fun l => if l = 0 then 3 else l) ?_ ?_ ?_ <;> simp -implicitDefEqProofs only [go_sem, ↓reduceIte, Nat.reduceAdd, Nat.reduceMul, Nat.reduceEqDiff, Nat.reduceLeDiff, reduceCtorEq, Int.reduceToNat, sf, rowA_ren, rowA_labs, List.forall_mem_cons, List.not_mem_nil, false_implies, implies_true, and_self, map_renL_lift, labsIn_lift, List.all_append, List.all_cons, List.all_nil, List.map_append, Nat.reduceLT, labsInL, AV.labsIn]
      all_goals first | rfl | decide | skip
    · skip
      have sf := setL encFd m.fields b (spF f 3)
      simp only [spF, encFd, nobody, if_true, if_false, Nat.reduceEqDiff, List.map_cons, List.map_nil] at sf
      have e0 : (((3 : Nat) : Int) == 0) = false := by decide
      have e1 : (((3 : Nat) : Int) == 1) = false := by decide
      have e2 : (((3 : Nat) : Int) == 2) = false := by decide
      have e3 : (((3 : Nat) : Int) == 3) = true := by decide
      refine AW.rT (by rfl) fun K hK => ?_
      simp -implicitDefEqProofs only [go_sem, ↓reduceIte, Nat.reduceAdd, Nat.reduceMul, Nat.reduceEqDiff, Nat.reduceLeDiff, reduceCtorEq, Int.reduceToNat, e0]
      refine hK _ ?_; clear hK K
      refine AW.cond _ (by simp -implicitDefEqProofs only [go_sem, ↓reduceIte, Nat.reduceAdd, Nat.reduceMul, Nat.reduceEqDiff, Nat.reduceLeDiff, reduceCtorEq, Int.reduceToNat]; rfl) (fun hc => ?_) (fun hc => ?_)
      · simp at hc
      refine AW.rT (by rfl) fun K hK => ?_
      simp -implicitDefEqProofs only [go_sem, ↓reduceIte, Nat.reduceAdd, Nat.reduceMul, Nat.reduceEqDiff, Nat.reduceLeDiff, reduceCtorEq, Int.reduceToNat, e1]
      refine hK _ ?_; clear hK K
      refine AW.cond _ (by simp -implicitDefEqProofs only [go_sem, ↓reduceIte, Nat.reduceAdd, Nat.reduceMul, Nat.reduceEqDiff, Nat.reduceLeDiff, reduceCtorEq, Int.reduceToNat]; rfl) (fun hc => ?_) (fun hc => ?_)
      · simp at hc
      refine AW.rT (by rfl) fun K hK => ?_
      simp -implicitDefEqProofs only [go_sem, ↓reduceIte, Nat.reduceAdd, Nat.reduceMul, Nat.reduceEqDiff, Nat.reduceLeDiff, reduceCtorEq, Int.reduceToNat, e2]
      refine hK _ ?_; clear hK K
      refine AW.cond _ (by simp -implicitDefEqProofs only [go_sem, ↓reduceIte, Nat.reduceAdd, Nat.reduceMul, Nat.reduceEqDiff, Nat.reduceLeDiff, reduceCtorEq, Int.reduceToNat]; rfl) (fun hc => ?_) (fun hc => ?_)
      · simp at hc
      refine AW.rT (by rfl) fun K hK => ?_
      simp -implicitDefEqProofs only [go_sem, ↓reduceIte, Nat.reduceAdd, Nat.reduceMul, Nat.reduceEqDiff, Nat.reduceLeDiff, reduceCtorEq, Int.reduceToNat, e3]
      refine hK _ ?_; clear hK K
      refine AW.cond _ (by simp -implicitDefEqProofs only [go_sem, ↓reduceIte, Nat.reduceAdd, Nat.reduceMul, Nat.reduceEqDiff, Nat.reduceLeDiff, reduceCtorEq, Int.reduceToNat]; rfl) (fun hc => ?_) (fun hc => ?_)
      rotate_left
      · simp at hc
      refine AW.rT (by rfl) fun K hK => ?_
      simp -implicitDefEqProofs only [go_sem, ↓reduceIte, Nat.reduceAdd, Nat.reduceMul, Nat.reduceEqDiff, Nat.reduceLeDiff, reduceCtorEq, Int.reduceToNat, gb]
      refine hK _ ?_; clear hK K
      refine AW.rE (by rfl) fun K hK => ?_
      simp -implicitDefEqProofs only [go_sem, ↓reduceIte, Nat.reduceAdd, Nat.reduceMul, Nat.reduceEqDiff, Nat.reduceLeDiff, reduceCtorEq, Int.reduceToNat]
      refine hK _ ?_; clear hK K
      simp only [andThen, inBlk, reduceCtorEq, ↓reduceIte, if_t, if_f]
      refine ⟨(), trivial, ?_⟩
      simp only [osV, osR]
      refine Ghost.ent (fun l => if l = 0 then 3 else l) ?_ ?_ ?_ <;> simp -implicitDefEqProofs only [go_sem, ↓reduceIte, Nat.reduceAdd, Nat.reduceMul, Nat.reduceEqDiff, Nat.reduceLeDiff, reduceCtorEq, Int.reduceToNat, sf, rowA_ren, rowA_labs, List.forall_mem_cons, List.not_mem_nil, false_implies, implies_true, and_self, map_renL_lift, labsIn_lift, List.all_append, List.all_cons, List.all_nil, List.map_append, Nat.reduceLT, labsInL, AV.labsIn]
      all_goals first | rfl | decide | skip
    · skip
      have sf := setL encFd m.fields b (spF f 4)
      simp only [spF, encFd, nobody, if_true, if_false, Nat.reduceEqDiff, List.map_cons, List.map_nil] at sf
      have e0 : (((4 : Nat) : Int) == 0) = false := by decide
      have e1 : (((4 : Nat) : Int) == 1) = false := by decide
      have e2 : (((4 : Nat) : Int) == 2) = false := by decide
      have e3 : (((4 : Nat) : Int) == 3) = false := by decide
      refine AW.rT (by rfl) fun K hK => ?_
      simp -implicitDefEqProofs only [go_sem, ↓reduceIte, Nat.reduceAdd, Nat.reduceMul, Nat.reduceEqDiff, Nat.reduceLeDiff, reduceCtorEq, Int.reduceToNat, e0]
      refine hK _ ?_; clear hK K
      refine AW.cond _ (by simp -implicitDefEqProofs only [go_sem, ↓reduceIte, Nat.reduceAdd, Nat.reduceMul, Nat.reduceEqDiff, Nat.reduceLeDiff, reduceCtorEq, Int.reduceToNat]; rfl) (fun hc => ?_) (fun hc => ?_)
      · simp at hc
      refine AW.rT (by rfl) fun K hK => ?_
      simp -implicitDefEqProofs only [go_sem, ↓reduceIte, Nat.reduceAdd, Nat.reduceMul, Nat.reduceEqDiff, Nat.reduceLeDiff, reduceCtorEq, Int.reduceToNat, e1]
      refine hK _ ?_; clear hK K
      refine AW.cond _ (by simp -implicitDefEqProofs only [go_sem, ↓reduceIte, Nat.reduceAdd, Nat.reduceMul, Nat.reduceEqDiff, Nat.reduceLeDiff, reduceCtorEq, Int.reduceToNat]; rfl) (fun hc => ?_) (fun hc => ?_)
      · simp at hc
      refine AW.rT (by rfl) fun K hK => ?_
      simp -implicitDefEqProofs only [go_sem, ↓reduceIte, Nat.reduceAdd, Nat.reduceMul, Nat.reduceEqDiff, Nat.reduceLeDiff, reduceCtorEq, Int.reduceToNat, e2]
      refine hK _ ?_; clear hK K
      refine AW.cond _ (by simp -implicitDefEqProofs only [go_sem, ↓reduceIte, Nat.reduceAdd, Nat.reduceMul, Nat.reduceEqDiff, Nat.reduceLeDiff, reduceCtorEq, Int.reduceToNat]; rfl) (fun hc => ?_) (fun hc => ?_)
      · simp at hc
      refine AW.rT (by rfl) fun K hK => ?_
      simp -implicitDefEqProofs only [go_sem, ↓reduceIte, Nat.reduceAdd, Nat.reduceMul, Nat.reduceEqDiff, Nat.reduceLeDiff, reduceCtorEq, Int.reduceToNat, e3]
      refine hK _ ?_; clear hK K
      refine AW.cond _ (by simp -implicitDefEqProofs only [go_sem, ↓reduceIte, Nat.reduceAdd, Nat.reduceMul, Nat.reduceEqDiff, Nat.reduceLeDiff, reduceCtorEq, Int.reduceToNat]; rfl) (fun hc => ?_) (fun hc => ?_)
      · simp at hc
      refine AW.rT (by rfl) fun K hK => ?_
      simp -implicitDefEqProofs only [go_sem, ↓reduceIte, Nat.reduceAdd, Nat.reduceMul, Nat.reduceEqDiff, Nat.reduceLeDiff, reduceCtorEq, Int.reduceToNat, gb]
      refine hK _ ?_; clear hK K
      refine AW.rE (by rfl) fun K hK => ?_
      simp -implicitDefEqProofs only [go_sem, ↓reduceIte, Nat.reduceAdd, Nat.reduceMul, Nat.reduceEqDiff, Nat.reduceLeDiff, reduceCtorEq, Int.reduceToNat]
      refine hK _ ?_; clear hK K
      simp only [andThen, inBlk, reduceCtorEq, ↓reduceIte, if_t, if_f]
      refine ⟨(), trivial, ?_⟩
      simp only [osV, osR]
      refine Ghost.ent (fun l => if l = 0 then 3 else l) ?_ ?_ ?_ <;> simp -implicitDefEqProofs only [go_sem, ↓reduceIte, Nat.reduceAdd, Nat.reduceMul, Nat.reduceEqDiff, Nat.reduceLeDiff, reduceCtorEq, Int.reduceToNat, sf, rowA_ren, rowA_labs, List.forall_mem_cons, List.not_mem_nil, false_implies, implies_true, and_self, map_renL_lift, labsIn_lift, List.all_append, List.all_cons, List.all_nil, List.map_append, Nat.reduceLT, labsInL, AV.labsIn]
      all_goals first | rfl | decide | skip
  generalize hfs : m.fields.set b (spF f k) = fs
  have eM : ({ m with fields := fs } : Ms) = spM m b (spF f k) := by rw [← hfs]; rfl
  generalize hU : spS S a (spM m b (spF f k)) = U
  have eU : U.msgs = S.msgs.set a { m with fields := fs } := by rw [← hU, eM]; rfl
  refine AW.ghost (s' := osW1 S U (spC k)) (Ghost.trans (Ghost.freeze (lb := 2) (ps := fs.map encFd) rfl (unlift_liftE _)) ?_) ?_
  · simp only [osV, osW1, osR, eU]
    refine Ghost.sub ?_ ?_ <;> simp -implicitDefEqProofs only [go_sem, ↓reduceIte, Nat.reduceAdd, Nat.reduceMul, Nat.reduceEqDiff, Nat.reduceLeDiff, reduceCtorEq, Int.reduceToNat, thaw, thaw1, Option.map_some, List.map_cons, List.map_nil, rowA_shut hm, List.forall_mem_cons, List.not_mem_nil, false_implies, implies_true, and_self, labsIn_lift, List.all_append, List.all_cons, List.all_nil, Nat.reduceLT, labsInL, AV.labsIn]
    all_goals first | rfl | decide | skip
  refine AW.ghost (s' := osW S U (spC k)) (Ghost.trans (Ghost.freeze (lb := 1) (ps := U.msgs.map encMs) rfl (unlift_liftE _)) ?_) ?_
  · simp only [osW1, osW, osR]
    refine Ghost.sub ?_ ?_ <;> simp -implicitDefEqProofs only [go_sem, ↓reduceIte, Nat.reduceAdd, Nat.reduceMul, Nat.reduceEqDiff, Nat.reduceLeDiff, reduceCtorEq, Int.reduceToNat, thaw, thaw1, Option.map_some, List.map_cons, List.map_nil, List.forall_mem_cons, List.not_mem_nil, false_implies, implies_true, and_self, labsIn_lift, List.all_append, List.all_cons, List.all_nil, Nat.reduceLT, labsInL, AV.labsIn]
    all_goals first | rfl | decide | skip
  simp only [osW]
  have en : U.name = S.name := by rw [← hU]; rfl
  have ee : U.enums = S.enums := by rw [← hU]; rfl
  have et : U.meths = S.meths := by rw [← hU]; rfl
  have LU : LensS U := by
    refine ⟨by rw [en]; exact L.name, fun x hx => ?_, by rw [ee]; exact L.enums, by rw [et]; exact L.meths, by rw [eU, List.length_set]; exact L.m, by rw [ee]; exact L.e, by rw [et]; exact L.t⟩
    rw [eU] at hx
    rcases List.mem_or_eq_of_mem_set hx with hx | rfl
    · exact L.msgs x hx
    · refine ⟨(L.msgs m mm).1, fun g hg => ?_⟩
      dsimp only at hg
      rw [← hfs] at hg
      rcases List.mem_or_eq_of_mem_set hg with hg | rfl
      · exact (L.msgs m mm).2 g hg
      · have := (L.msgs m mm).2 f (List.mem_of_getElem? hfb)
        unfold spF
        (repeat' split) <;> first | exact this | (simp; done)
  have NB := check_Message U nobody LU.m
  have hno : (firstP (fun x => x.name == nobody) zMs U.msgs).2 = hasM S nobody := by
    have := sp_has (S := S) (a := a) (m' := spM m b (spF f k)) hm rfl nobody
    rw [hU] at this
    exact this
  rw [hno] at NB
  have CU := check_Check U LU
  generalize (firstP (fun x => x.name == nobody) zMs U.msgs).1 = y at NB
  simp only [encSc, encMs, en, ee, et, nobody] at NB CU
  have kk : (spC k == spC k) = true := by simp
  refine AW.seq ?_
  cases hh : hasM S nobody with
  | true =>
    simp only [nobody] at hh
    rw [hh] at NB
    refine AW.rT (by rfl) fun K hK => ?_
    simp -implicitDefEqProofs only [go_sem, ↓reduceIte, Nat.reduceAdd, Nat.reduceMul, Nat.reduceEqDiff, Nat.reduceLeDiff, reduceCtorEq, Int.reduceToNat]
    refine ⟨.pure _, NB, ?_⟩
    try simp -implicitDefEqProofs only [go_sem, ↓reduceIte, Nat.reduceAdd, Nat.reduceMul, Nat.reduceEqDiff, Nat.reduceLeDiff, reduceCtorEq, Int.reduceToNat]
    refine hK _ ?_; clear hK K
    refine AW.rT (by rfl) fun K hK => ?_
    simp -implicitDefEqProofs only [go_sem, ↓reduceIte, Nat.reduceAdd, Nat.reduceMul, Nat.reduceEqDiff, Nat.reduceLeDiff, reduceCtorEq, Int.reduceToNat]
    refine hK _ ?_; clear hK K
    refine AW.cond _ (by simp -implicitDefEqProofs only [go_sem, ↓reduceIte, Nat.reduceAdd, Nat.reduceMul, Nat.reduceEqDiff, Nat.reduceLeDiff, reduceCtorEq, Int.reduceToNat]; rfl) (fun hc => ?_) (fun hc => ?_)
    rotate_left
    · simp at hc
    refine AW.rT (by rfl) fun K hK => ?_
    simp -implicitDefEqProofs only [go_sem, ↓reduceIte, Nat.reduceAdd, Nat.reduceMul, Nat.reduceEqDiff, Nat.reduceLeDiff, reduceCtorEq, Int.reduceToNat]
    refine ⟨.pure _, law07_awake, ?_⟩
    try simp -implicitDefEqProofs only [go_sem, ↓reduceIte, Nat.reduceAdd, Nat.reduceMul, Nat.reduceEqDiff, Nat.reduceLeDiff, reduceCtorEq, Int.reduceToNat]
    refine hK _ ?_; clear hK K
    refine AW.ret ?_
    simp -implicitDefEqProofs only [go_sem, ↓reduceIte, Nat.reduceAdd, Nat.reduceMul, Nat.reduceEqDiff, Nat.reduceLeDiff, reduceCtorEq, Int.reduceToNat]
  | false =>
    have SP := spoilt (k := k) FT hm hfb (fun _ => hh)
    rw [hU] at SP
    rw [SP] at CU
    simp only [nobody] at hh
    rw [hh] at NB
    refine AW.rT (by rfl) fun K hK => ?_
    simp -implicitDefEqProofs only [go_sem, ↓reduceIte, Nat.reduceAdd, Nat.reduceMul, Nat.reduceEqDiff, Nat.reduceLeDiff, reduceCtorEq, Int.reduceToNat]
    refine ⟨.pure _, NB, ?_⟩
    try simp -implicitDefEqProofs only [go_sem, ↓reduceIte, Nat.reduceAdd, Nat.reduceMul, Nat.reduceEqDiff, Nat.reduceLeDiff, reduceCtorEq, Int.reduceToNat]
    refine hK _ ?_; clear hK K
    refine AW.rT (by rfl) fun K hK => ?_
    simp -implicitDefEqProofs only [go_sem, ↓reduceIte, Nat.reduceAdd, Nat.reduceMul, Nat.reduceEqDiff, Nat.reduceLeDiff, reduceCtorEq, Int.reduceToNat]
    refine hK _ ?_; clear hK K
    refine AW.cond _ (by simp -implicitDefEqProofs only [go_sem, ↓reduceIte, Nat.reduceAdd, Nat.reduceMul, Nat.reduceEqDiff, Nat.reduceLeDiff, reduceCtorEq, Int.reduceToNat]; rfl) (fun hc => ?_) (fun hc => ?_)
    · simp at hc
    refine AW.skip ?_
    simp only [andThen, inBlk, reduceCtorEq, ↓reduceIte, if_t, if_f]
    refine AW.rT (by rfl) fun K hK => ?_
    simp -implicitDefEqProofs only [go_sem, ↓reduceIte, Nat.reduceAdd, Nat.reduceMul, Nat.reduceEqDiff, Nat.reduceLeDiff, reduceCtorEq, Int.reduceToNat]
    refine ⟨.pure _, CU, ?_⟩
    try simp -implicitDefEqProofs only [go_sem, ↓reduceIte, Nat.reduceAdd, Nat.reduceMul, Nat.reduceEqDiff, Nat.reduceLeDiff, reduceCtorEq, Int.reduceToNat, kk]
    refine ⟨.pure _, law07_awake, ?_⟩
    try simp -implicitDefEqProofs only [go_sem, ↓reduceIte, Nat.reduceAdd, Nat.reduceMul, Nat.reduceEqDiff, Nat.reduceLeDiff, reduceCtorEq, Int.reduceToNat]
    refine hK _ ?_; clear hK K
    refine AW.ret ?_
    simp -implicitDefEqProofs only [go_sem, ↓reduceIte, Nat.reduceAdd, Nat.reduceMul, Nat.reduceEqDiff, Nat.reduceLeDiff, reduceCtorEq, Int.reduceToNat]
end Go.Aw
