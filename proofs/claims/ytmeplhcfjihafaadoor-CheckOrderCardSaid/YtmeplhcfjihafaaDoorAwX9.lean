/- The law CheckOrder. -/
import Derived.Test.YtmeplhcfjihafaaDoorAwX8
import Derived.Test.YtmeplhcfjihafaaDoorAwP2
namespace Go.Aw
open Go.Proofs Go.RowKit
set_option linter.unusedSimpArgs false
set_option linter.unusedVariables false
theorem SeqR.call {P : Program} {nt : Fm} {s : St} {ops : Array Oper} {i : Nat} {K : St → Prop} {d : Tmp} {f : FuncId} {xs : Array Operand} {ts : Array TypeId} {ty : TypeId} {ps : String} {af : Array Edge} {args : List AV} {h : List (Nat × Blk)} {n : Nat} {rt : List Nat} {r : AV} {h' : List (Nat × Blk)} {m : Nat} (ρ : Nat → Nat)
    (ho : ops[i]? = some ⟨some d, .call { callee := .value (.func f), args := xs, argTypes := ts }, ty, ps, af, none⟩) (hd : dstOK nt ⟨some d, .call { callee := .value (.func f), args := xs, argTypes := ts }, ty, ps, af, none⟩ = true) (D : DFn P f args h n rt r h' m) (F : FitD s xs.toList args h n rt r h' ρ)
    (hk : SeqR P nt ops (i + 1) ⟨upd s.T d (some (r.ren (lift2 ρ n s.nx))), putH (putH s.H (goneU ρ h)) (newU (lift2 ρ n s.nx) h'), s.nx + m⟩ K) : SeqR P nt ops i s K :=
  SeqR.op ho rfl (callD_fn ρ rfl hd D F hk)
theorem labsBy_lift {p : Nat → Bool} {sz : Nat} {es : List (List PV)} : (Blk.row sz (liftE es)).labsBy p = true := by
  have : ∀ l : List PV, labsByL p (l.map AV.p) = true := fun l => by
    induction l with
    | nil => rfl
    | cons a l ih => rw [List.map_cons, labsByL, ih]; rfl
  simp only [Blk.labsBy, liftE, List.all_map, List.all_eq_true]
  intro e _
  exact this e
def coU (S : Sc) (p : Int) : St := ⟨ofL [(1, .p (.int .i64 p)), (2, .ptr 0 0 0), (20, .agg [.p (.str S.name), .own 1, .own 2, .own 3])],
  ofH [(0, .row 4 [cellsSc S]), (1, .row 3 (liftE (S.msgs.map encMs))), (2, .row 2 (liftE (S.enums.map encEn))), (3, .row 3 (liftE (S.meths.map encMt)))], 4⟩
def odS (S U : Sc) (p : Int) (l : List (Nat × AV)) : St := ⟨ofL ((1, .p (.int .i64 p)) :: (2, .ptr 0 0 0) :: (5, .ptr 1 0 0) :: l),
  ofH [(0, .row 4 [cellsSc S]), (1, .row 4 [[.p (.str S.name), .own 2, .own 3, .own 4]]), (2, .row 3 (liftE (U.msgs.map encMs))), (3, .row 2 (liftE (U.enums.map encEn))), (4, .row 3 (liftE (U.meths.map encMt)))], 5⟩
def odF1 (S U : Sc) : St := ⟨ofL [(5, .ptr 1 0 0)],
  ofH [(1, .row 4 [[.p (.str S.name), .p (.slice (U.msgs.map encMs)), .own 3, .own 4]]), (3, .row 2 (liftE (U.enums.map encEn))), (4, .row 3 (liftE (U.meths.map encMt)))], 5⟩
def odF2 (S U : Sc) : St := ⟨ofL [(5, .ptr 1 0 0)],
  ofH [(1, .row 4 [[.p (.str S.name), .p (.slice (U.msgs.map encMs)), .p (.slice (U.enums.map encEn)), .own 4]]), (4, .row 3 (liftE (U.meths.map encMt)))], 5⟩
def odF (S U : Sc) : St := ⟨ofL [(5, .ptr 1 0 0)],
  ofH [(1, .row 4 [[.p (.str S.name), .p (.slice (U.msgs.map encMs)), .p (.slice (U.enums.map encEn)), .p (.slice (U.meths.map encMt))]])], 5⟩
theorem setL {α : Type} (f : α → List PV) (l : List α) (n : Nat) (a : α) : (liftE (l.map f)).set n ((f a).map AV.p) = liftE ((l.set n a).map f) := by
  unfold liftE
  rw [List.map_set, List.map_set]
set_option maxRecDepth 100000 in
set_option maxHeartbeats 8000000 in
theorem law07_CheckOrder (S : Sc) (p : Int) (G : GSc S) (hp : okI p) : PFn Tryd.prog 3 [.agg (encSc S), .int .i64 p] (.bool true) := by
  refine PFn.of Tryd.func3 rfl (by decide) Tryd.ntmps3 Tryd.results3 (Nat.le_of_ble_eq_true rfl) ?_
  simp only [argsT, encSc]
  have FW := law00_Few S G.big
  simp only [encSc] at FW
  refine AW.rT (by rfl) fun K hK => ?_
  simp -implicitDefEqProofs only [go_sem, ↓reduceIte, Nat.reduceAdd, Nat.reduceMul, Nat.reduceEqDiff, Nat.reduceLeDiff, reduceCtorEq, Int.reduceToNat]
  refine hK _ ?_; clear hK K
  refine AW.seq ?_
  cases hf : fewB S with
  | false =>
    rw [hf] at FW
    refine AW.rT (by rfl) fun K hK => ?_
    simp -implicitDefEqProofs only [go_sem, ↓reduceIte, Nat.reduceAdd, Nat.reduceMul, Nat.reduceEqDiff, Nat.reduceLeDiff, reduceCtorEq, Int.reduceToNat]
    refine ⟨.pure _, FW, ?_⟩
    try simp -implicitDefEqProofs only [go_sem, ↓reduceIte, Nat.reduceAdd, Nat.reduceMul, Nat.reduceEqDiff, Nat.reduceLeDiff, reduceCtorEq, Int.reduceToNat]
    refine hK _ ?_; clear hK K
    refine AW.cond _ (by simp -implicitDefEqProofs only [go_sem, ↓reduceIte, Nat.reduceAdd, Nat.reduceMul, Nat.reduceEqDiff, Nat.reduceLeDiff, reduceCtorEq, Int.reduceToNat]; rfl) (fun hc => ?_) (fun hc => ?_)
    rotate_left
    · simp at hc
    refine AW.rT (by rfl) fun K hK => ?_
    simp -implicitDefEqProofs only [go_sem, ↓reduceIte, Nat.reduceAdd, Nat.reduceMul, Nat.reduceEqDiff, Nat.reduceLeDiff, reduceCtorEq, Int.reduceToNat]
    refine ⟨.pure _, law07_awake, ?_⟩
    try simp -implicitDefEqProofs only [go_sem, ↓reduceIte, Nat.reduceAdd, Nat.reduceMul, Nat.reduceEqDiff, Nat.reduceLeDiff, reduceCtorEq, Int.reduceToNat]
    refine hK _ ?_; clear hK K
    refine AW.ret ?_
    simp -implicitDefEqProofs only [go_sem, ↓reduceIte, Nat.reduceAdd, Nat.reduceMul, Nat.reduceEqDiff, Nat.reduceLeDiff, reduceCtorEq, Int.reduceToNat]
  | true =>
  rw [hf] at FW
  have F := few_spec hf
  have L := F.lens
  have SC := law00_Schema S F
  have C1 := check_Check S L
  simp only [encSc] at SC C1
  by_cases hz : checkC S = 0
  case neg =>
    have cz : (checkC S != 0) = true := by simp [hz]
    refine AW.rT (by rfl) fun K hK => ?_
    simp -implicitDefEqProofs only [go_sem, ↓reduceIte, Nat.reduceAdd, Nat.reduceMul, Nat.reduceEqDiff, Nat.reduceLeDiff, reduceCtorEq, Int.reduceToNat]
    refine ⟨.pure _, FW, ?_⟩
    try simp -implicitDefEqProofs only [go_sem, ↓reduceIte, Nat.reduceAdd, Nat.reduceMul, Nat.reduceEqDiff, Nat.reduceLeDiff, reduceCtorEq, Int.reduceToNat]
    refine ⟨.pure _, SC, ?_⟩
    try simp -implicitDefEqProofs only [go_sem, ↓reduceIte, Nat.reduceAdd, Nat.reduceMul, Nat.reduceEqDiff, Nat.reduceLeDiff, reduceCtorEq, Int.reduceToNat]
    refine ⟨.pure _, C1, ?_⟩
    try simp -implicitDefEqProofs only [go_sem, ↓reduceIte, Nat.reduceAdd, Nat.reduceMul, Nat.reduceEqDiff, Nat.reduceLeDiff, reduceCtorEq, Int.reduceToNat, cz]
    refine hK _ ?_; clear hK K
    refine AW.cond _ (by simp -implicitDefEqProofs only [go_sem, ↓reduceIte, Nat.reduceAdd, Nat.reduceMul, Nat.reduceEqDiff, Nat.reduceLeDiff, reduceCtorEq, Int.reduceToNat]; rfl) (fun hc => ?_) (fun hc => ?_)
    rotate_left
    · simp at hc
    refine AW.rT (by rfl) fun K hK => ?_
    simp -implicitDefEqProofs only [go_sem, ↓reduceIte, Nat.reduceAdd, Nat.reduceMul, Nat.reduceEqDiff, Nat.reduceLeDiff, reduceCtorEq, Int.reduceToNat]
    refine ⟨.pure _, law07_awake, ?_⟩
    try simp -implicitDefEqProofs only [go_sem, ↓reduceIte, Nat.reduceAdd, Nat.reduceMul, Nat.reduceEqDiff, Nat.reduceLeDiff, reduceCtorEq, Int.reduceToNat]
    refine hK _ ?_; clear hK K
    refine AW.ret ?_
    simp -implicitDefEqProofs only [go_sem, ↓reduceIte, Nat.reduceAdd, Nat.reduceMul, Nat.reduceEqDiff, Nat.reduceLeDiff, reduceCtorEq, Int.reduceToNat]
  have cz : (checkC S != 0) = false := by simp [hz]
  have FT := check_fit.1 hz
  have Fm := F.msgs
  have Fe := F.enums
  have Ft := F.meths
  refine AW.rT (by rfl) fun K hK => ?_
  simp -implicitDefEqProofs only [go_sem, ↓reduceIte, Nat.reduceAdd, Nat.reduceMul, Nat.reduceEqDiff, Nat.reduceLeDiff, reduceCtorEq, Int.reduceToNat]
  refine ⟨.pure _, FW, ?_⟩
  try simp -implicitDefEqProofs only [go_sem, ↓reduceIte, Nat.reduceAdd, Nat.reduceMul, Nat.reduceEqDiff, Nat.reduceLeDiff, reduceCtorEq, Int.reduceToNat]
  refine ⟨.pure _, SC, ?_⟩
  try simp -implicitDefEqProofs only [go_sem, ↓reduceIte, Nat.reduceAdd, Nat.reduceMul, Nat.reduceEqDiff, Nat.reduceLeDiff, reduceCtorEq, Int.reduceToNat]
  refine ⟨.pure _, C1, ?_⟩
  try simp -implicitDefEqProofs only [go_sem, ↓reduceIte, Nat.reduceAdd, Nat.reduceMul, Nat.reduceEqDiff, Nat.reduceLeDiff, reduceCtorEq, Int.reduceToNat, cz]
  refine hK _ ?_; clear hK K
  refine AW.cond _ (by simp -implicitDefEqProofs only [go_sem, ↓reduceIte, Nat.reduceAdd, Nat.reduceMul, Nat.reduceEqDiff, Nat.reduceLeDiff, reduceCtorEq, Int.reduceToNat]; rfl) (fun hc => ?_) (fun hc => ?_)
  · simp at hc
  refine AW.skip ?_
  simp only [andThen, inBlk, reduceCtorEq, ↓reduceIte, if_t, if_f]
  have DS := law00_SchemaD S F
  simp only [encSc] at DS
  refine AW.rR (SeqR.ev 1 (by rfl) (by decide) ?_)
  simp -implicitDefEqProofs only [go_sem, ↓reduceIte, Nat.reduceAdd, Nat.reduceMul, Nat.reduceEqDiff, Nat.reduceLeDiff, reduceCtorEq, Int.reduceToNat]
  refine SeqR.call (fun l => l) rfl (by decide) DS ⟨?_, rfl, (fun x hx => by cases hx), rfl, rfl, rfl, rfl, rfl, ?_⟩ ?_
  · simp -implicitDefEqProofs only [go_sem, ↓reduceIte, Nat.reduceAdd, Nat.reduceMul, Nat.reduceEqDiff, Nat.reduceLeDiff, reduceCtorEq, Int.reduceToNat, argD]
  · simp [labsBy_lift]
  refine SeqR.ghost (s' := coU S p) ?_ ?_
  · simp only [coU, cellsSc]
    refine Ghost.ent (fun l => if l = 0 then 0 else l + 11) ?_ ?_ ?_ <;> simp -implicitDefEqProofs only [go_sem, ↓reduceIte, Nat.reduceAdd, Nat.reduceMul, Nat.reduceEqDiff, Nat.reduceLeDiff, reduceCtorEq, Int.reduceToNat, lift2, goneU, newU, Nat.reduceSub, List.forall_mem_cons, List.not_mem_nil, false_implies, implies_true, and_self, map_renL_lift, labsIn_lift, List.all_append, List.all_cons, List.all_nil, List.map_append, Nat.reduceLT, labsInL, AV.labsIn]
    all_goals first | rfl | decide | skip
  refine SeqR.ev 2 (by rfl) (by decide) ?_
  simp only [coU, cellsSc]
  simp -implicitDefEqProofs only [go_sem, ↓reduceIte, Nat.reduceAdd, Nat.reduceMul, Nat.reduceEqDiff, Nat.reduceLeDiff, reduceCtorEq, Int.reduceToNat]
  refine SeqR.last rfl ?_
  have nm := FT.lens
  have hnp : (0 : Int) < (S.msgs.length : Int) := by omega
  have hp' : -9223372036854775808 ≤ p ∧ p ≤ 9223372036854775807 := by
    have e1 : IntKind.i64.min = -9223372036854775808 := by decide
    have e2 : IntKind.i64.max = 9223372036854775807 := by decide
    simpa [okI, Lit.wf, e1, e2] using hp
  have PL := law00_Place p (S.msgs.length : Int) hnp (by omega) hp'.1 hp'.2
  obtain ⟨c, hcI⟩ : ∃ c : Nat, p % (S.msgs.length : Int) = (c : Int) := ⟨(p % (S.msgs.length : Int)).toNat, by have := Int.emod_nonneg p (show (S.msgs.length : Int) ≠ 0 by omega); omega⟩
  have hc0 : c < S.msgs.length := by have := Int.emod_lt_of_pos p hnp; omega
  rw [hcI] at PL
  refine AW.cut (fun _ : Unit => odS S ⟨S.name, rotI S.msgs c S.msgs.length, S.enums, S.meths⟩ p []) (fun _ => True) ?_ fun _ _ => ?_
  · refine AW.rT (by rfl) fun K hK => ?_
    simp -implicitDefEqProofs only [go_sem, ↓reduceIte, Nat.reduceAdd, Nat.reduceMul, Nat.reduceEqDiff, Nat.reduceLeDiff, reduceCtorEq, Int.reduceToNat]
    refine hK _ ?_; clear hK K
    refine AW.block ?_
    refine AW.loop (fun i : Nat => odS S ⟨S.name, rotI S.msgs c i, S.enums, S.meths⟩ p [(6, .p (.int .i64 (i : Int)))]) (fun i => i ≤ S.msgs.length) (fun i => S.msgs.length - i) 0 ?_ (by omega) fun i i1 => ?_
    · simp only [odS, cellsSc, rotI_zero hc0]
      refine Ghost.ent (fun l => if l = 0 then 0 else if l = 1 then 4 else l - 1) ?_ ?_ ?_ <;> simp -implicitDefEqProofs only [go_sem, ↓reduceIte, Nat.reduceAdd, Nat.reduceMul, Nat.reduceEqDiff, Nat.reduceLeDiff, reduceCtorEq, Int.reduceToNat, Nat.reduceSub, List.forall_mem_cons, List.not_mem_nil, false_implies, implies_true, and_self, map_renL_lift, labsIn_lift, List.all_append, List.all_cons, List.all_nil, List.map_append, Nat.reduceLT, labsInL, AV.labsIn]
      all_goals first | rfl | decide | skip
    simp only [odS, cellsSc]
    refine AW.seq ?_
    by_cases hil : i < S.msgs.length
    case neg =>
      have hi : i = S.msgs.length := by omega
      subst hi
      have hc1 : ((S.msgs.length : Int) < (S.msgs.length : Int)) = False := eq_false (by omega)
      refine AW.rT (by rfl) fun K hK => ?_
      simp -implicitDefEqProofs only [go_sem, ↓reduceIte, Nat.reduceAdd, Nat.reduceMul, Nat.reduceEqDiff, Nat.reduceLeDiff, reduceCtorEq, Int.reduceToNat, hc1, List.length_map]
      refine hK _ ?_; clear hK K
      refine AW.cond _ (by simp -implicitDefEqProofs only [go_sem, ↓reduceIte, Nat.reduceAdd, Nat.reduceMul, Nat.reduceEqDiff, Nat.reduceLeDiff, reduceCtorEq, Int.reduceToNat]; rfl) (fun hc => ?_) (fun hc => ?_)
      · simp at hc
      refine AW.exit ?_
      simp only [andThen, inBlk, reduceCtorEq, ↓reduceIte, if_t, if_f]
      refine ⟨(), trivial, ?_⟩
      try simp only [odS, cellsSc]
      refine Ghost.sub ?_ ?_ <;> simp -implicitDefEqProofs only [go_sem, ↓reduceIte, Nat.reduceAdd, Nat.reduceMul, Nat.reduceEqDiff, Nat.reduceLeDiff, reduceCtorEq, Int.reduceToNat,  List.forall_mem_cons, List.not_mem_nil, false_implies, implies_true, and_self, labsIn_lift, List.all_append, List.all_cons, List.all_nil, Nat.reduceLT, labsInL, AV.labsIn]
    obtain ⟨m, hm⟩ : ∃ m, S.msgs[i]? = some m := ⟨_, List.getElem?_eq_getElem hil⟩
    have ⟨hm1, hm2, hm3⟩ := at_map' encMs hm
    have hm2' : (i : Int) < (S.msgs.length : Int) := by omega
    have hc1 : ((i : Int) < (S.msgs.length : Int)) = True := eq_true (by omega)
    have w1 : IntKind.wrap .i64 ((i : Int) + 1) = ((i + 1 : Nat) : Int) := by rw [w64] <;> omega
    have w2 : IntKind.wrap .i64 ((i : Int) + (c : Int)) = ((i + c : Nat) : Int) := by rw [w64] <;> omega
    have z1 : ((S.msgs.length : Int) = 0) = False := eq_false (by omega)
    have t1 : (((i + c : Nat) : Int)).tmod (S.msgs.length : Int) = (((i + c) % S.msgs.length : Nat) : Int) := by
      rw [Int.tmod_eq_emod_of_nonneg (by omega)]; rfl
    have hk : (i + c) % S.msgs.length < S.msgs.length := Nat.mod_lt _ (by omega)
    have rs := rotI_set hc0 hm
    obtain ⟨x, hx⟩ : ∃ x, (rotI S.msgs c i)[(i + c) % S.msgs.length]? = some x := ⟨_, List.getElem?_eq_getElem (by rw [rotI_len hc0]; exact hk)⟩
    have g1 := at_lift encMs hx
    simp only [encMs, List.map_cons, List.map_nil] at g1
    have b1 : 0 ≤ (((i + c) % S.msgs.length : Nat) : Int) := by omega
    have b2 : (((i + c) % S.msgs.length : Nat) : Int) < (S.msgs.length : Int) := by omega
    have li : (liftE ((rotI S.msgs c i).map encMs)).length = S.msgs.length := by rw [liftE_length, List.length_map, rotI_len hc0]
    refine AW.rT (by rfl) fun K hK => ?_
    simp -implicitDefEqProofs only [go_sem, ↓reduceIte, Nat.reduceAdd, Nat.reduceMul, Nat.reduceEqDiff, Nat.reduceLeDiff, reduceCtorEq, Int.reduceToNat, hc1, List.length_map]
    refine hK _ ?_; clear hK K
    refine AW.cond _ (by simp -implicitDefEqProofs only [go_sem, ↓reduceIte, Nat.reduceAdd, Nat.reduceMul, Nat.reduceEqDiff, Nat.reduceLeDiff, reduceCtorEq, Int.reduceToNat]; rfl) (fun hc => ?_) (fun hc => ?_)
    rotate_left
    · simp at hc
    refine AW.skip ?_
    simp only [andThen, inBlk, reduceCtorEq, ↓reduceIte, if_t, if_f]
    refine AW.seq ?_
    refine AW.block ?_
    generalize (i + c) % S.msgs.length = k at *
    refine AW.dE mixed (by rfl) (by decide +kernel) fun K hK => ?_
    simp -implicitDefEqProofs only [go_sem, ↓reduceIte, Nat.reduceAdd, Nat.reduceMul, Nat.reduceEqDiff, Nat.reduceLeDiff, reduceCtorEq, Int.reduceToNat, hm1, hm2', hm3, hc1, encMs, List.length_map]
    refine ⟨.pure _, PL, ?_⟩
    try simp -implicitDefEqProofs only [go_sem, ↓reduceIte, Nat.reduceAdd, Nat.reduceMul, Nat.reduceEqDiff, Nat.reduceLeDiff, reduceCtorEq, Int.reduceToNat, hm1, hm2', hm3, hc1, encMs, List.length_map, w2, z1, t1, g1, b1, b2, li]
    have e9 := (setL encMs (rotI S.msgs c i) k m).trans (by rw [rs])
    simp only [encMs, List.map_cons, List.map_nil] at e9
    refine ⟨by decide +kernel, ?_⟩
    refine hK _ ?_; clear hK K
    simp only [andThen, inBlk, reduceCtorEq, ↓reduceIte, if_t, if_f]
    refine AW.rE (by rfl) fun K hK => ?_
    simp -implicitDefEqProofs only [go_sem, ↓reduceIte, Nat.reduceAdd, Nat.reduceMul, Nat.reduceEqDiff, Nat.reduceLeDiff, reduceCtorEq, Int.reduceToNat, w1]
    refine hK _ ?_; clear hK K
    refine ⟨i + 1, by omega, by omega, ?_⟩
    try simp only [odS, cellsSc, encMs]
    refine Ghost.sub ?_ ?_ <;> simp -implicitDefEqProofs only [go_sem, ↓reduceIte, Nat.reduceAdd, Nat.reduceMul, Nat.reduceEqDiff, Nat.reduceLeDiff, reduceCtorEq, Int.reduceToNat, e9, List.forall_mem_cons, List.not_mem_nil, false_implies, implies_true, and_self, labsIn_lift, List.all_append, List.all_cons, List.all_nil, Nat.reduceLT, labsInL, AV.labsIn]
  simp only [odS, cellsSc]
  refine AW.cut (fun _ : Unit => odS S ⟨S.name, rotI S.msgs c S.msgs.length, revI S.enums S.enums.length, S.meths⟩ p []) (fun _ => True) ?_ fun _ _ => ?_
  · refine AW.rT (by rfl) fun K hK => ?_
    simp -implicitDefEqProofs only [go_sem, ↓reduceIte, Nat.reduceAdd, Nat.reduceMul, Nat.reduceEqDiff, Nat.reduceLeDiff, reduceCtorEq, Int.reduceToNat]
    refine hK _ ?_; clear hK K
    refine AW.block ?_
    refine AW.loop (fun i : Nat => odS S ⟨S.name, rotI S.msgs c S.msgs.length, revI S.enums i, S.meths⟩ p [(7, .p (.int .i64 (i : Int)))]) (fun i => i ≤ S.enums.length) (fun i => S.enums.length - i) 0 ?_ (by omega) fun i i1 => ?_
    · simp only [odS, cellsSc, revI_zero]
      refine Ghost.sub ?_ ?_ <;> simp -implicitDefEqProofs only [go_sem, ↓reduceIte, Nat.reduceAdd, Nat.reduceMul, Nat.reduceEqDiff, Nat.reduceLeDiff, reduceCtorEq, Int.reduceToNat,  List.forall_mem_cons, List.not_mem_nil, false_implies, implies_true, and_self, labsIn_lift, List.all_append, List.all_cons, List.all_nil, Nat.reduceLT, labsInL, AV.labsIn]
      all_goals first | rfl | decide | skip
    simp only [odS, cellsSc]
    refine AW.seq ?_
    by_cases hil : i < S.enums.length
    case neg =>
      have hi : i = S.enums.length := by omega
      subst hi
      have hc1 : ((S.enums.length : Int) < (S.enums.length : Int)) = False := eq_false (by omega)
      refine AW.rT (by rfl) fun K hK => ?_
      simp -implicitDefEqProofs only [go_sem, ↓reduceIte, Nat.reduceAdd, Nat.reduceMul, Nat.reduceEqDiff, Nat.reduceLeDiff, reduceCtorEq, Int.reduceToNat, hc1, List.length_map]
      refine hK _ ?_; clear hK K
      refine AW.cond _ (by simp -implicitDefEqProofs only [go_sem, ↓reduceIte, Nat.reduceAdd, Nat.reduceMul, Nat.reduceEqDiff, Nat.reduceLeDiff, reduceCtorEq, Int.reduceToNat]; rfl) (fun hc => ?_) (fun hc => ?_)
      · simp at hc
      refine AW.exit ?_
      simp only [andThen, inBlk, reduceCtorEq, ↓reduceIte, if_t, if_f]
      refine ⟨(), trivial, ?_⟩
      try simp only [odS, cellsSc]
      refine Ghost.sub ?_ ?_ <;> simp -implicitDefEqProofs only [go_sem, ↓reduceIte, Nat.reduceAdd, Nat.reduceMul, Nat.reduceEqDiff, Nat.reduceLeDiff, reduceCtorEq, Int.reduceToNat,  List.forall_mem_cons, List.not_mem_nil, false_implies, implies_true, and_self, labsIn_lift, List.all_append, List.all_cons, List.all_nil, Nat.reduceLT, labsInL, AV.labsIn]
    obtain ⟨m, hm⟩ : ∃ m, S.enums[i]? = some m := ⟨_, List.getElem?_eq_getElem hil⟩
    have ⟨hm1, hm2, hm3⟩ := at_map' encEn hm
    have hm2' : (i : Int) < (S.enums.length : Int) := by omega
    have hc1 : ((i : Int) < (S.enums.length : Int)) = True := eq_true (by omega)
    have w1 : IntKind.wrap .i64 ((i : Int) + 1) = ((i + 1 : Nat) : Int) := by rw [w64] <;> omega
    have w2 : IntKind.wrap .i64 ((S.enums.length : Int) - 1) = ((S.enums.length - 1 : Nat) : Int) := by rw [w64] <;> omega
    have w3 : IntKind.wrap .i64 (((S.enums.length - 1 : Nat) : Int) - (i : Int)) = ((S.enums.length - 1 - i : Nat) : Int) := by rw [w64] <;> omega
    have hk : S.enums.length - 1 - i < S.enums.length := by omega
    have rs := revI_set hm
    obtain ⟨x, hx⟩ : ∃ x, (revI S.enums i)[S.enums.length - 1 - i]? = some x := ⟨_, List.getElem?_eq_getElem (by rw [revI_len i1]; exact hk)⟩
    have g1 := at_lift encEn hx
    have e9 := (setL encEn (revI S.enums i) (S.enums.length - 1 - i) m).trans (by rw [rs])
    simp only [encEn, List.map_cons, List.map_nil] at g1 e9
    have b1 : 0 ≤ ((S.enums.length - 1 - i : Nat) : Int) := by omega
    have b2 : ((S.enums.length - 1 - i : Nat) : Int) < (S.enums.length : Int) := by omega
    have li : (liftE ((revI S.enums i).map encEn)).length = S.enums.length := by rw [liftE_length, List.length_map, revI_len i1]
    try simp only [encEn] at li
    refine AW.rT (by rfl) fun K hK => ?_
    simp -implicitDefEqProofs only [go_sem, ↓reduceIte, Nat.reduceAdd, Nat.reduceMul, Nat.reduceEqDiff, Nat.reduceLeDiff, reduceCtorEq, Int.reduceToNat, hc1, List.length_map]
    refine hK _ ?_; clear hK K
    refine AW.cond _ (by simp -implicitDefEqProofs only [go_sem, ↓reduceIte, Nat.reduceAdd, Nat.reduceMul, Nat.reduceEqDiff, Nat.reduceLeDiff, reduceCtorEq, Int.reduceToNat]; rfl) (fun hc => ?_) (fun hc => ?_)
    rotate_left
    · simp at hc
    refine AW.skip ?_
    simp only [andThen, inBlk, reduceCtorEq, ↓reduceIte, if_t, if_f]
    refine AW.seq ?_
    refine AW.block ?_
    generalize S.enums.length - 1 - i = k at *
    refine AW.dE mixed (by rfl) (by decide +kernel) fun K hK => ?_
    simp -implicitDefEqProofs only [go_sem, ↓reduceIte, Nat.reduceAdd, Nat.reduceMul, Nat.reduceEqDiff, Nat.reduceLeDiff, reduceCtorEq, Int.reduceToNat, hm1, hm2', hm3, hc1, encEn, List.length_map, w2, w3, g1, b1, b2, li]
    refine ⟨by decide +kernel, ?_⟩
    refine hK _ ?_; clear hK K
    simp only [andThen, inBlk, reduceCtorEq, ↓reduceIte, if_t, if_f]
    refine AW.rE (by rfl) fun K hK => ?_
    simp -implicitDefEqProofs only [go_sem, ↓reduceIte, Nat.reduceAdd, Nat.reduceMul, Nat.reduceEqDiff, Nat.reduceLeDiff, reduceCtorEq, Int.reduceToNat, w1]
    refine hK _ ?_; clear hK K
    refine ⟨i + 1, by omega, by omega, ?_⟩
    try simp only [odS, cellsSc, encEn]
    refine Ghost.sub ?_ ?_ <;> simp -implicitDefEqProofs only [go_sem, ↓reduceIte, Nat.reduceAdd, Nat.reduceMul, Nat.reduceEqDiff, Nat.reduceLeDiff, reduceCtorEq, Int.reduceToNat, e9, List.forall_mem_cons, List.not_mem_nil, false_implies, implies_true, and_self, labsIn_lift, List.all_append, List.all_cons, List.all_nil, Nat.reduceLT, labsInL, AV.labsIn]
  simp only [odS, cellsSc]
  refine AW.cut (fun _ : Unit => odS S ⟨S.name, rotI S.msgs c S.msgs.length, revI S.enums S.enums.length, revI S.meths S.meths.length⟩ p []) (fun _ => True) ?_ fun _ _ => ?_
  · refine AW.rT (by rfl) fun K hK => ?_
    simp -implicitDefEqProofs only [go_sem, ↓reduceIte, Nat.reduceAdd, Nat.reduceMul, Nat.reduceEqDiff, Nat.reduceLeDiff, reduceCtorEq, Int.reduceToNat]
    refine hK _ ?_; clear hK K
    refine AW.block ?_
    refine AW.loop (fun i : Nat => odS S ⟨S.name, rotI S.msgs c S.msgs.length, revI S.enums S.enums.length, revI S.meths i⟩ p [(8, .p (.int .i64 (i : Int)))]) (fun i => i ≤ S.meths.length) (fun i => S.meths.length - i) 0 ?_ (by omega) fun i i1 => ?_
    · simp only [odS, cellsSc, revI_zero]
      refine Ghost.sub ?_ ?_ <;> simp -implicitDefEqProofs only [go_sem, ↓reduceIte, Nat.reduceAdd, Nat.reduceMul, Nat.reduceEqDiff, Nat.reduceLeDiff, reduceCtorEq, Int.reduceToNat,  List.forall_mem_cons, List.not_mem_nil, false_implies, implies_true, and_self, labsIn_lift, List.all_append, List.all_cons, List.all_nil, Nat.reduceLT, labsInL, AV.labsIn]
      all_goals first | rfl | decide | skip
    simp only [odS, cellsSc]
    refine AW.seq ?_
    by_cases hil : i < S.meths.length
    case neg =>
      have hi : i = S.meths.length := by omega
      subst hi
      have hc1 : ((S.meths.length : Int) < (S.meths.length : Int)) = False := eq_false (by omega)
      refine AW.rT (by rfl) fun K hK => ?_
      simp -implicitDefEqProofs only [go_sem, ↓reduceIte, Nat.reduceAdd, Nat.reduceMul, Nat.reduceEqDiff, Nat.reduceLeDiff, reduceCtorEq, Int.reduceToNat, hc1, List.length_map]
      refine hK _ ?_; clear hK K
      refine AW.cond _ (by simp -implicitDefEqProofs only [go_sem, ↓reduceIte, Nat.reduceAdd, Nat.reduceMul, Nat.reduceEqDiff, Nat.reduceLeDiff, reduceCtorEq, Int.reduceToNat]; rfl) (fun hc => ?_) (fun hc => ?_)
      · simp at hc
      refine AW.exit ?_
      simp only [andThen, inBlk, reduceCtorEq, ↓reduceIte, if_t, if_f]
      refine ⟨(), trivial, ?_⟩
      try simp only [odS, cellsSc]
      refine Ghost.sub ?_ ?_ <;> simp -implicitDefEqProofs only [go_sem, ↓reduceIte, Nat.reduceAdd, Nat.reduceMul, Nat.reduceEqDiff, Nat.reduceLeDiff, reduceCtorEq, Int.reduceToNat,  List.forall_mem_cons, List.not_mem_nil, false_implies, implies_true, and_self, labsIn_lift, List.all_append, List.all_cons, List.all_nil, Nat.reduceLT, labsInL, AV.labsIn]
    obtain ⟨m, hm⟩ : ∃ m, S.meths[i]? = some m := ⟨_, List.getElem?_eq_getElem hil⟩
    have ⟨hm1, hm2, hm3⟩ := at_map' encMt hm
    have hm2' : (i : Int) < (S.meths.length : Int) := by omega
    have hc1 : ((i : Int) < (S.meths.length : Int)) = True := eq_true (by omega)
    have w1 : IntKind.wrap .i64 ((i : Int) + 1) = ((i + 1 : Nat) : Int) := by rw [w64] <;> omega
    have w2 : IntKind.wrap .i64 ((S.meths.length : Int) - 1) = ((S.meths.length - 1 : Nat) : Int) := by rw [w64] <;> omega
    have w3 : IntKind.wrap .i64 (((S.meths.length - 1 : Nat) : Int) - (i : Int)) = ((S.meths.length - 1 - i : Nat) : Int) := by rw [w64] <;> omega
    have hk : S.meths.length - 1 - i < S.meths.length := by omega
    have rs := revI_set hm
    obtain ⟨x, hx⟩ : ∃ x, (revI S.meths i)[S.meths.length - 1 - i]? = some x := ⟨_, List.getElem?_eq_getElem (by rw [revI_len i1]; exact hk)⟩
    have g1 := at_lift encMt hx
    have e9 := (setL encMt (revI S.meths i) (S.meths.length - 1 - i) m).trans (by rw [rs])
    simp only [encMt, List.map_cons, List.map_nil] at g1 e9
    have b1 : 0 ≤ ((S.meths.length - 1 - i : Nat) : Int) := by omega
    have b2 : ((S.meths.length - 1 - i : Nat) : Int) < (S.meths.length : Int) := by omega
    have li : (liftE ((revI S.meths i).map encMt)).length = S.meths.length := by rw [liftE_length, List.length_map, revI_len i1]
    try simp only [encMt] at li
    refine AW.rT (by rfl) fun K hK => ?_
    simp -implicitDefEqProofs only [go_sem, ↓reduceIte, Nat.reduceAdd, Nat.reduceMul, Nat.reduceEqDiff, Nat.reduceLeDiff, reduceCtorEq, Int.reduceToNat, hc1, List.length_map]
    refine hK _ ?_; clear hK K
    refine AW.cond _ (by simp -implicitDefEqProofs only [go_sem, ↓reduceIte, Nat.reduceAdd, Nat.reduceMul, Nat.reduceEqDiff, Nat.reduceLeDiff, reduceCtorEq, Int.reduceToNat]; rfl) (fun hc => ?_) (fun hc => ?_)
    rotate_left
    · simp at hc
    refine AW.skip ?_
    simp only [andThen, inBlk, reduceCtorEq, ↓reduceIte, if_t, if_f]
    refine AW.seq ?_
    refine AW.block ?_
    generalize S.meths.length - 1 - i = k at *
    refine AW.dE mixed (by rfl) (by decide +kernel) fun K hK => ?_
    simp -implicitDefEqProofs only [go_sem, ↓reduceIte, Nat.reduceAdd, Nat.reduceMul, Nat.reduceEqDiff, Nat.reduceLeDiff, reduceCtorEq, Int.reduceToNat, hm1, hm2', hm3, hc1, encMt, List.length_map, w2, w3, g1, b1, b2, li]
    refine ⟨by decide +kernel, ?_⟩
    refine hK _ ?_; clear hK K
    simp only [andThen, inBlk, reduceCtorEq, ↓reduceIte, if_t, if_f]
    refine AW.rE (by rfl) fun K hK => ?_
    simp -implicitDefEqProofs only [go_sem, ↓reduceIte, Nat.reduceAdd, Nat.reduceMul, Nat.reduceEqDiff, Nat.reduceLeDiff, reduceCtorEq, Int.reduceToNat, w1]
    refine hK _ ?_; clear hK K
    refine ⟨i + 1, by omega, by omega, ?_⟩
    try simp only [odS, cellsSc, encMt]
    refine Ghost.sub ?_ ?_ <;> simp -implicitDefEqProofs only [go_sem, ↓reduceIte, Nat.reduceAdd, Nat.reduceMul, Nat.reduceEqDiff, Nat.reduceLeDiff, reduceCtorEq, Int.reduceToNat, e9, List.forall_mem_cons, List.not_mem_nil, false_implies, implies_true, and_self, labsIn_lift, List.all_append, List.all_cons, List.all_nil, Nat.reduceLT, labsInL, AV.labsIn]
  simp only [odS, cellsSc]
  have pm := rotI_perm hc0 (l := S.msgs)
  have pe : (revI S.enums S.enums.length).Perm S.enums := by rw [revI_end]; exact List.reverse_perm _
  have pt : (revI S.meths S.meths.length).Perm S.meths := by rw [revI_end]; exact List.reverse_perm _
  have FU : checkC ⟨S.name, rotI S.msgs c S.msgs.length, revI S.enums S.enums.length, revI S.meths S.meths.length⟩ = 0 := check_fit.2 (fit_perm (S := S) rfl pm pe pt FT)
  have LU : LensS ⟨S.name, rotI S.msgs c S.msgs.length, revI S.enums S.enums.length, revI S.meths S.meths.length⟩ :=
    ⟨L.name, fun m hm => L.msgs m (pm.mem_iff.1 hm), fun m hm => L.enums m (pe.mem_iff.1 hm), fun m hm => L.meths m (pt.mem_iff.1 hm), by rw [pm.length_eq]; exact L.m, by rw [pe.length_eq]; exact L.e, by rw [pt.length_eq]; exact L.t⟩
  have CU := check_Check _ LU
  rw [FU] at CU
  simp only [encSc] at CU
  refine AW.ghost (s' := odF S ⟨S.name, rotI S.msgs c S.msgs.length, revI S.enums S.enums.length, revI S.meths S.meths.length⟩) ?_ ?_
  · refine Ghost.trans (s' := odF1 S ⟨S.name, rotI S.msgs c S.msgs.length, revI S.enums S.enums.length, revI S.meths S.meths.length⟩) (Ghost.trans (Ghost.freeze (lb := 2) (ps := (rotI S.msgs c S.msgs.length).map encMs) rfl (unlift_liftE _)) ?_) (Ghost.trans (s' := odF2 S ⟨S.name, rotI S.msgs c S.msgs.length, revI S.enums S.enums.length, revI S.meths S.meths.length⟩) (Ghost.trans (Ghost.freeze (lb := 3) (ps := (revI S.enums S.enums.length).map encEn) rfl (unlift_liftE _)) ?_) (Ghost.trans (Ghost.freeze (lb := 4) (ps := (revI S.meths S.meths.length).map encMt) rfl (unlift_liftE _)) ?_))
    · simp only [odF1, cellsSc]
      refine Ghost.sub ?_ ?_ <;> simp -implicitDefEqProofs only [go_sem, ↓reduceIte, Nat.reduceAdd, Nat.reduceMul, Nat.reduceEqDiff, Nat.reduceLeDiff, reduceCtorEq, Int.reduceToNat, thaw, thaw1, Option.map_some, List.map_cons, List.map_nil, List.map_append, thaw_lift, List.forall_mem_cons, List.not_mem_nil, false_implies, implies_true, and_self, labsIn_lift, List.all_append, List.all_cons, List.all_nil, Nat.reduceLT, labsInL, AV.labsIn]
      all_goals first | rfl | decide | skip
    · simp only [odF1, odF2, cellsSc]
      refine Ghost.sub ?_ ?_ <;> simp -implicitDefEqProofs only [go_sem, ↓reduceIte, Nat.reduceAdd, Nat.reduceMul, Nat.reduceEqDiff, Nat.reduceLeDiff, reduceCtorEq, Int.reduceToNat, thaw, thaw1, Option.map_some, List.map_cons, List.map_nil, List.map_append, thaw_lift, List.forall_mem_cons, List.not_mem_nil, false_implies, implies_true, and_self, labsIn_lift, List.all_append, List.all_cons, List.all_nil, Nat.reduceLT, labsInL, AV.labsIn]
      all_goals first | rfl | decide | skip
    · simp only [odF2, odF, cellsSc]
      refine Ghost.sub ?_ ?_ <;> simp -implicitDefEqProofs only [go_sem, ↓reduceIte, Nat.reduceAdd, Nat.reduceMul, Nat.reduceEqDiff, Nat.reduceLeDiff, reduceCtorEq, Int.reduceToNat, thaw, thaw1, Option.map_some, List.map_cons, List.map_nil, List.map_append, thaw_lift, List.forall_mem_cons, List.not_mem_nil, false_implies, implies_true, and_self, labsIn_lift, List.all_append, List.all_cons, List.all_nil, Nat.reduceLT, labsInL, AV.labsIn]
      all_goals first | rfl | decide | skip
  simp only [odF, cellsSc]
  refine AW.rT (by rfl) fun K hK => ?_
  simp -implicitDefEqProofs only [go_sem, ↓reduceIte, Nat.reduceAdd, Nat.reduceMul, Nat.reduceEqDiff, Nat.reduceLeDiff, reduceCtorEq, Int.reduceToNat]
  refine ⟨.pure _, CU, ?_⟩
  try simp -implicitDefEqProofs only [go_sem, ↓reduceIte, Nat.reduceAdd, Nat.reduceMul, Nat.reduceEqDiff, Nat.reduceLeDiff, reduceCtorEq, Int.reduceToNat]
  refine ⟨.pure _, law07_awake, ?_⟩
  try simp -implicitDefEqProofs only [go_sem, ↓reduceIte, Nat.reduceAdd, Nat.reduceMul, Nat.reduceEqDiff, Nat.reduceLeDiff, reduceCtorEq, Int.reduceToNat]
  refine hK _ ?_; clear hK K
  refine AW.ret ?_
  simp -implicitDefEqProofs only [go_sem, ↓reduceIte, Nat.reduceAdd, Nat.reduceMul, Nat.reduceEqDiff, Nat.reduceLeDiff, reduceCtorEq, Int.reduceToNat]
end Go.Aw
