/- The law EncodeJoins, walked. -/
import Derived.Test.YtmeplhcfjihafaaAwTK
namespace Go.Aw
open Go.Proofs Go.RowKit
set_option linter.unusedSimpArgs false
set_option linter.unusedVariables false
def ejA (A B : Tr) (x : List UInt8) (ex : Int) (i : Nat) (m : List (Nat × AV)) : St := ⟨ofL ((2, .ptr 0 0 0) :: (5, .p (.slice (x.map encB))) :: (6, .p (.int .i64 ex)) :: (7, .ptr 1 0 0) :: m), ofH [(0, .row 5 [cellsT A]), (1, .row 5 [[.p (.int .i64 B.kind), .p (.int .i64 B.n), .p (.str B.s), .own 2, .p (.slice (B.rest.map encRaw))]]), (2, .row 2 (liftE ((LQ B i).map encEn)))], 3⟩
def ejB (A U : Tr) (x y : List UInt8) (m : List (Nat × AV)) : St := ⟨ofL ((2, .ptr 0 0 0) :: (5, .p (.slice (x.map encB))) :: (7, .ptr 1 0 0) :: (9, .p (.slice (y.map encB))) :: (11, .ptr 2 0 0) :: m), ofH [(0, .row 5 [cellsT A]), (1, .row 5 [cellsT U]), (2, .row 5 [[.p (.int .i64 A.kind), .p (.int .i64 A.n), .p (.str A.s), .own 3, .p (.slice (A.rest.map encRaw))]]), (3, .row 2 (liftE (A.ents.map encEn)))], 4⟩
def ejC1 (A U : Tr) (x y : List UInt8) : St := ⟨ofL ((2, .ptr 0 0 0) :: (5, .p (.slice (x.map encB))) :: (9, .p (.slice (y.map encB))) :: (11, .ptr 2 0 0) :: []), ofH [(0, .row 5 [cellsT A]), (2, .row 5 [[.p (.int .i64 A.kind), .p (.int .i64 A.n), .p (.str A.s), .own 3, .p (.slice (A.rest.map encRaw))]]), (3, .row 2 (liftE ((A.ents ++ U.ents).map encEn)))], 4⟩
def ejC (A U : Tr) (x y : List UInt8) : St := ⟨ofL ((2, .ptr 0 0 0) :: (5, .p (.slice (x.map encB))) :: (9, .p (.slice (y.map encB))) :: (11, .ptr 2 0 0) :: []), ofH [(0, .row 5 [cellsT A]), (2, .row 5 [[.p (.int .i64 A.kind), .p (.int .i64 A.n), .p (.str A.s), .p (.slice ((A.ents ++ U.ents).map encEn)), .p (.slice (A.rest.map encRaw))]])], 4⟩
def ejZ (A U : Tr) (x : List UInt8) (ex : Int) : St := ⟨ofL [(2, .ptr 0 0 0), (5, .p (.slice (x.map encB))), (6, .p (.int .i64 ex)), (7, .ptr 1 0 0)], ofH [(0, .row 5 [cellsT A]), (1, .row 5 [cellsT U])], 2⟩
set_option maxRecDepth 100000 in
set_option maxHeartbeats 8000000 in
theorem law11_EncodeJoins (A B : Tr) : PFn Try.prog 19 [.agg (encTr A), .agg (encTr B)] (.bool true) := by
  refine PFn.of Try.func19 rfl (by decide) Try.ntmps19 Try.results19 (Nat.le_of_ble_eq_true rfl) ?_
  simp only [argsT, encTr_eq]
  have SA := law00_Small A
  have SB := law00_Small B
  rw [encTr_eq] at SA SB
  refine AW.rT (by rfl) fun K hK => ?_
  simp -implicitDefEqProofs only [go_sem, ↓reduceIte, Nat.reduceAdd, Nat.reduceMul, Nat.reduceEqDiff, Nat.reduceLeDiff, reduceCtorEq, Int.reduceToNat]
  refine hK _ ?_; clear hK K
  refine AW.seq ?_
  cases ha : smallB A with
  | false =>
    rw [ha] at SA
    refine AW.rT (by rfl) fun K hK => ?_
    simp -implicitDefEqProofs only [go_sem, ↓reduceIte, Nat.reduceAdd, Nat.reduceMul, Nat.reduceEqDiff, Nat.reduceLeDiff, reduceCtorEq, Int.reduceToNat]
    refine ⟨.pure _, SA, ?_⟩
    try simp -implicitDefEqProofs only [go_sem, ↓reduceIte, Nat.reduceAdd, Nat.reduceMul, Nat.reduceEqDiff, Nat.reduceLeDiff, reduceCtorEq, Int.reduceToNat]
    refine hK _ ?_; clear hK K
    refine AW.cond _ (by simp -implicitDefEqProofs only [go_sem, ↓reduceIte, Nat.reduceAdd, Nat.reduceMul, Nat.reduceEqDiff, Nat.reduceLeDiff, reduceCtorEq, Int.reduceToNat]; rfl) (fun hc => ?_) (fun hc => ?_)
    rotate_left
    · simp at hc
    refine AW.rT (by rfl) fun K hK => ?_
    simp -implicitDefEqProofs only [go_sem, ↓reduceIte, Nat.reduceAdd, Nat.reduceMul, Nat.reduceEqDiff, Nat.reduceLeDiff, reduceCtorEq, Int.reduceToNat]
    refine ⟨.pure _, law11_awake, ?_⟩
    try simp -implicitDefEqProofs only [go_sem, ↓reduceIte, Nat.reduceAdd, Nat.reduceMul, Nat.reduceEqDiff, Nat.reduceLeDiff, reduceCtorEq, Int.reduceToNat]
    refine hK _ ?_; clear hK K
    refine AW.ret ?_
    simp -implicitDefEqProofs only [go_sem, ↓reduceIte, Nat.reduceAdd, Nat.reduceMul, Nat.reduceEqDiff, Nat.reduceLeDiff, reduceCtorEq, Int.reduceToNat]
  | true =>
  rw [ha] at SA
  cases hb : smallB B with
  | false =>
    rw [hb] at SB
    refine AW.rT (by rfl) fun K hK => ?_
    simp -implicitDefEqProofs only [go_sem, ↓reduceIte, Nat.reduceAdd, Nat.reduceMul, Nat.reduceEqDiff, Nat.reduceLeDiff, reduceCtorEq, Int.reduceToNat]
    refine ⟨.pure _, SA, ?_⟩
    try simp -implicitDefEqProofs only [go_sem, ↓reduceIte, Nat.reduceAdd, Nat.reduceMul, Nat.reduceEqDiff, Nat.reduceLeDiff, reduceCtorEq, Int.reduceToNat]
    refine ⟨.pure _, SB, ?_⟩
    try simp -implicitDefEqProofs only [go_sem, ↓reduceIte, Nat.reduceAdd, Nat.reduceMul, Nat.reduceEqDiff, Nat.reduceLeDiff, reduceCtorEq, Int.reduceToNat]
    refine hK _ ?_; clear hK K
    refine AW.cond _ (by simp -implicitDefEqProofs only [go_sem, ↓reduceIte, Nat.reduceAdd, Nat.reduceMul, Nat.reduceEqDiff, Nat.reduceLeDiff, reduceCtorEq, Int.reduceToNat]; rfl) (fun hc => ?_) (fun hc => ?_)
    rotate_left
    · simp at hc
    refine AW.rT (by rfl) fun K hK => ?_
    simp -implicitDefEqProofs only [go_sem, ↓reduceIte, Nat.reduceAdd, Nat.reduceMul, Nat.reduceEqDiff, Nat.reduceLeDiff, reduceCtorEq, Int.reduceToNat]
    refine ⟨.pure _, law11_awake, ?_⟩
    try simp -implicitDefEqProofs only [go_sem, ↓reduceIte, Nat.reduceAdd, Nat.reduceMul, Nat.reduceEqDiff, Nat.reduceLeDiff, reduceCtorEq, Int.reduceToNat]
    refine hK _ ?_; clear hK K
    refine AW.ret ?_
    simp -implicitDefEqProofs only [go_sem, ↓reduceIte, Nat.reduceAdd, Nat.reduceMul, Nat.reduceEqDiff, Nat.reduceLeDiff, reduceCtorEq, Int.reduceToNat]
  | true =>
  rw [hb] at SB
  by_cases kA : A.kind = 3
  case neg =>
    have k1 : (A.kind != 3) = true := by simp [kA]
    refine AW.rT (by rfl) fun K hK => ?_
    simp -implicitDefEqProofs only [go_sem, ↓reduceIte, Nat.reduceAdd, Nat.reduceMul, Nat.reduceEqDiff, Nat.reduceLeDiff, reduceCtorEq, Int.reduceToNat]
    refine ⟨.pure _, SA, ?_⟩
    try simp -implicitDefEqProofs only [go_sem, ↓reduceIte, Nat.reduceAdd, Nat.reduceMul, Nat.reduceEqDiff, Nat.reduceLeDiff, reduceCtorEq, Int.reduceToNat]
    refine ⟨.pure _, SB, ?_⟩
    try simp -implicitDefEqProofs only [go_sem, ↓reduceIte, Nat.reduceAdd, Nat.reduceMul, Nat.reduceEqDiff, Nat.reduceLeDiff, reduceCtorEq, Int.reduceToNat, k1]
    refine hK _ ?_; clear hK K
    refine AW.cond _ (by simp -implicitDefEqProofs only [go_sem, ↓reduceIte, Nat.reduceAdd, Nat.reduceMul, Nat.reduceEqDiff, Nat.reduceLeDiff, reduceCtorEq, Int.reduceToNat]; rfl) (fun hc => ?_) (fun hc => ?_)
    rotate_left
    · simp at hc
    refine AW.rT (by rfl) fun K hK => ?_
    simp -implicitDefEqProofs only [go_sem, ↓reduceIte, Nat.reduceAdd, Nat.reduceMul, Nat.reduceEqDiff, Nat.reduceLeDiff, reduceCtorEq, Int.reduceToNat]
    refine ⟨.pure _, law11_awake, ?_⟩
    try simp -implicitDefEqProofs only [go_sem, ↓reduceIte, Nat.reduceAdd, Nat.reduceMul, Nat.reduceEqDiff, Nat.reduceLeDiff, reduceCtorEq, Int.reduceToNat]
    refine hK _ ?_; clear hK K
    refine AW.ret ?_
    simp -implicitDefEqProofs only [go_sem, ↓reduceIte, Nat.reduceAdd, Nat.reduceMul, Nat.reduceEqDiff, Nat.reduceLeDiff, reduceCtorEq, Int.reduceToNat]
  have k1 : (A.kind != 3) = false := by simp [kA]
  by_cases kB : B.kind = 3
  case neg =>
    have k2 : (B.kind != 3) = true := by simp [kB]
    refine AW.rT (by rfl) fun K hK => ?_
    simp -implicitDefEqProofs only [go_sem, ↓reduceIte, Nat.reduceAdd, Nat.reduceMul, Nat.reduceEqDiff, Nat.reduceLeDiff, reduceCtorEq, Int.reduceToNat]
    refine ⟨.pure _, SA, ?_⟩
    try simp -implicitDefEqProofs only [go_sem, ↓reduceIte, Nat.reduceAdd, Nat.reduceMul, Nat.reduceEqDiff, Nat.reduceLeDiff, reduceCtorEq, Int.reduceToNat]
    refine ⟨.pure _, SB, ?_⟩
    try simp -implicitDefEqProofs only [go_sem, ↓reduceIte, Nat.reduceAdd, Nat.reduceMul, Nat.reduceEqDiff, Nat.reduceLeDiff, reduceCtorEq, Int.reduceToNat, k1, k2]
    refine hK _ ?_; clear hK K
    refine AW.cond _ (by simp -implicitDefEqProofs only [go_sem, ↓reduceIte, Nat.reduceAdd, Nat.reduceMul, Nat.reduceEqDiff, Nat.reduceLeDiff, reduceCtorEq, Int.reduceToNat]; rfl) (fun hc => ?_) (fun hc => ?_)
    rotate_left
    · simp at hc
    refine AW.rT (by rfl) fun K hK => ?_
    simp -implicitDefEqProofs only [go_sem, ↓reduceIte, Nat.reduceAdd, Nat.reduceMul, Nat.reduceEqDiff, Nat.reduceLeDiff, reduceCtorEq, Int.reduceToNat]
    refine ⟨.pure _, law11_awake, ?_⟩
    try simp -implicitDefEqProofs only [go_sem, ↓reduceIte, Nat.reduceAdd, Nat.reduceMul, Nat.reduceEqDiff, Nat.reduceLeDiff, reduceCtorEq, Int.reduceToNat]
    refine hK _ ?_; clear hK K
    refine AW.ret ?_
    simp -implicitDefEqProofs only [go_sem, ↓reduceIte, Nat.reduceAdd, Nat.reduceMul, Nat.reduceEqDiff, Nat.reduceLeDiff, reduceCtorEq, Int.reduceToNat]
  have k2 : (B.kind != 3) = false := by simp [kB]
  by_cases rA : A.rest.length > 0
  · have k3 : ((A.rest.length : Int) > 0) = True := eq_true (by omega)
    refine AW.rT (by rfl) fun K hK => ?_
    simp -implicitDefEqProofs only [go_sem, ↓reduceIte, Nat.reduceAdd, Nat.reduceMul, Nat.reduceEqDiff, Nat.reduceLeDiff, reduceCtorEq, Int.reduceToNat]
    refine ⟨.pure _, SA, ?_⟩
    try simp -implicitDefEqProofs only [go_sem, ↓reduceIte, Nat.reduceAdd, Nat.reduceMul, Nat.reduceEqDiff, Nat.reduceLeDiff, reduceCtorEq, Int.reduceToNat]
    refine ⟨.pure _, SB, ?_⟩
    try simp -implicitDefEqProofs only [go_sem, ↓reduceIte, Nat.reduceAdd, Nat.reduceMul, Nat.reduceEqDiff, Nat.reduceLeDiff, reduceCtorEq, Int.reduceToNat, k1, k2, k3, List.length_map]
    refine hK _ ?_; clear hK K
    refine AW.cond _ (by simp -implicitDefEqProofs only [go_sem, ↓reduceIte, Nat.reduceAdd, Nat.reduceMul, Nat.reduceEqDiff, Nat.reduceLeDiff, reduceCtorEq, Int.reduceToNat]; rfl) (fun hc => ?_) (fun hc => ?_)
    rotate_left
    · simp at hc
    refine AW.rT (by rfl) fun K hK => ?_
    simp -implicitDefEqProofs only [go_sem, ↓reduceIte, Nat.reduceAdd, Nat.reduceMul, Nat.reduceEqDiff, Nat.reduceLeDiff, reduceCtorEq, Int.reduceToNat]
    refine ⟨.pure _, law11_awake, ?_⟩
    try simp -implicitDefEqProofs only [go_sem, ↓reduceIte, Nat.reduceAdd, Nat.reduceMul, Nat.reduceEqDiff, Nat.reduceLeDiff, reduceCtorEq, Int.reduceToNat]
    refine hK _ ?_; clear hK K
    refine AW.ret ?_
    simp -implicitDefEqProofs only [go_sem, ↓reduceIte, Nat.reduceAdd, Nat.reduceMul, Nat.reduceEqDiff, Nat.reduceLeDiff, reduceCtorEq, Int.reduceToNat]
  have k3 : ((A.rest.length : Int) > 0) = False := eq_false (by omega)
  by_cases rB : B.rest.length > 0
  · have k4 : ((B.rest.length : Int) > 0) = True := eq_true (by omega)
    refine AW.rT (by rfl) fun K hK => ?_
    simp -implicitDefEqProofs only [go_sem, ↓reduceIte, Nat.reduceAdd, Nat.reduceMul, Nat.reduceEqDiff, Nat.reduceLeDiff, reduceCtorEq, Int.reduceToNat]
    refine ⟨.pure _, SA, ?_⟩
    try simp -implicitDefEqProofs only [go_sem, ↓reduceIte, Nat.reduceAdd, Nat.reduceMul, Nat.reduceEqDiff, Nat.reduceLeDiff, reduceCtorEq, Int.reduceToNat]
    refine ⟨.pure _, SB, ?_⟩
    try simp -implicitDefEqProofs only [go_sem, ↓reduceIte, Nat.reduceAdd, Nat.reduceMul, Nat.reduceEqDiff, Nat.reduceLeDiff, reduceCtorEq, Int.reduceToNat, k1, k2, k3, k4, List.length_map]
    refine hK _ ?_; clear hK K
    refine AW.cond _ (by simp -implicitDefEqProofs only [go_sem, ↓reduceIte, Nat.reduceAdd, Nat.reduceMul, Nat.reduceEqDiff, Nat.reduceLeDiff, reduceCtorEq, Int.reduceToNat]; rfl) (fun hc => ?_) (fun hc => ?_)
    rotate_left
    · simp at hc
    refine AW.rT (by rfl) fun K hK => ?_
    simp -implicitDefEqProofs only [go_sem, ↓reduceIte, Nat.reduceAdd, Nat.reduceMul, Nat.reduceEqDiff, Nat.reduceLeDiff, reduceCtorEq, Int.reduceToNat]
    refine ⟨.pure _, law11_awake, ?_⟩
    try simp -implicitDefEqProofs only [go_sem, ↓reduceIte, Nat.reduceAdd, Nat.reduceMul, Nat.reduceEqDiff, Nat.reduceLeDiff, reduceCtorEq, Int.reduceToNat]
    refine hK _ ?_; clear hK K
    refine AW.ret ?_
    simp -implicitDefEqProofs only [go_sem, ↓reduceIte, Nat.reduceAdd, Nat.reduceMul, Nat.reduceEqDiff, Nat.reduceLeDiff, reduceCtorEq, Int.reduceToNat]
  have k4 : ((B.rest.length : Int) > 0) = False := eq_false (by omega)
  refine AW.rT (by rfl) fun K hK => ?_
  simp -implicitDefEqProofs only [go_sem, ↓reduceIte, Nat.reduceAdd, Nat.reduceMul, Nat.reduceEqDiff, Nat.reduceLeDiff, reduceCtorEq, Int.reduceToNat]
  refine ⟨.pure _, SA, ?_⟩
  try simp -implicitDefEqProofs only [go_sem, ↓reduceIte, Nat.reduceAdd, Nat.reduceMul, Nat.reduceEqDiff, Nat.reduceLeDiff, reduceCtorEq, Int.reduceToNat]
  refine ⟨.pure _, SB, ?_⟩
  try simp -implicitDefEqProofs only [go_sem, ↓reduceIte, Nat.reduceAdd, Nat.reduceMul, Nat.reduceEqDiff, Nat.reduceLeDiff, reduceCtorEq, Int.reduceToNat, k1, k2, k3, k4, List.length_map]
  refine hK _ ?_; clear hK K
  refine AW.cond _ (by simp -implicitDefEqProofs only [go_sem, ↓reduceIte, Nat.reduceAdd, Nat.reduceMul, Nat.reduceEqDiff, Nat.reduceLeDiff, reduceCtorEq, Int.reduceToNat]; rfl) (fun hc => ?_) (fun hc => ?_)
  · simp at hc
  refine AW.skip ?_
  simp only [andThen, inBlk, reduceCtorEq, ↓reduceIte, if_t, if_f]
  have lA : lensT A = true := smallB_lens ha
  have lB : lensT B = true := smallB_lens hb
  have eA := small_ents ha
  have eB := small_ents hb
  have rA0 : A.rest = [] := List.length_eq_zero_iff.1 (by omega)
  have rB0 : B.rest = [] := List.length_eq_zero_iff.1 (by omega)
  have T1 := law00_Tree A lA
  have E1 := enc_Encode A lA
  have TB := law00_TreeE B lB
  have TA := law00_TreeE A lA
  have lU := lens_mapT lB
  have E2 := enc_Encode (mapT B) lU
  have lAB := lens_both lA lU (by rw [show (mapT B).ents.length = B.ents.length from LQ_len B _]; omega)
  have E3 := enc_Encode (bothT A (mapT B)) lAB
  have D1 := ref09_Depth A lA
  have D3 := ref09_Depth (bothT A (mapT B)) lAB
  have xlA : (encA A).1.length ≤ 4096 := by
    unfold encA
    split
    · exact bytes_len A
    · simp
  have xlU : (encA (mapT B)).1.length ≤ 4096 := by
    unfold encA
    split
    · exact bytes_len _
    · simp
  have J := joins (A := A) (U := mapT B) kA kB rA0 rB0
  rw [encTr_eq] at T1 E1 TB TA E2 E3 D1 D3
  refine AW.rT (by rfl) fun K hK => ?_
  simp -implicitDefEqProofs only [go_sem, ↓reduceIte, Nat.reduceAdd, Nat.reduceMul, Nat.reduceEqDiff, Nat.reduceLeDiff, reduceCtorEq, Int.reduceToNat]
  refine ⟨.pure _, T1, ?_⟩
  try simp -implicitDefEqProofs only [go_sem, ↓reduceIte, Nat.reduceAdd, Nat.reduceMul, Nat.reduceEqDiff, Nat.reduceLeDiff, reduceCtorEq, Int.reduceToNat]
  refine ⟨.pure _, E1, ?_⟩
  try simp -implicitDefEqProofs only [go_sem, ↓reduceIte, Nat.reduceAdd, Nat.reduceMul, Nat.reduceEqDiff, Nat.reduceLeDiff, reduceCtorEq, Int.reduceToNat]
  refine hK _ ?_; clear hK K
  refine AW.rR (SeqR.ev 1 (by rfl) (by decide) ?_)
  simp -implicitDefEqProofs only [go_sem, ↓reduceIte, Nat.reduceAdd, Nat.reduceMul, Nat.reduceEqDiff, Nat.reduceLeDiff, reduceCtorEq, Int.reduceToNat]
  refine SeqR.call (fun k => k) rfl rfl TB ⟨?_, rfl, (fun x hx => by cases hx), rfl, rfl, rfl, rfl, rfl, ?_⟩ ?_
  · simp -implicitDefEqProofs only [go_sem, ↓reduceIte, Nat.reduceAdd, Nat.reduceMul, Nat.reduceEqDiff, Nat.reduceLeDiff, reduceCtorEq, Int.reduceToNat, argD]
  · have h1 := labsBy_lift (p := fun l => ([] : List Nat).contains l || decide (0 ≤ l)) (sz := 2) (es := B.ents.map encEn)
    simp only [List.all_cons, List.all_nil, h1]
    rfl
  refine SeqR.ev 2 (by rfl) (by decide) ?_
  simp -implicitDefEqProofs only [go_sem, ↓reduceIte, Nat.reduceAdd, Nat.reduceMul, Nat.reduceEqDiff, Nat.reduceLeDiff, reduceCtorEq, Int.reduceToNat]
  refine SeqR.last rfl ?_
  have hx : ∃ x ex, x = (encA A).1 ∧ ex = (encA A).2 := ⟨_, _, rfl, rfl⟩
  obtain ⟨x, ex, hx1, hx2⟩ := hx
  rw [← hx1, ← hx2]
  refine AW.ghost (s' := ejA A B x ex 0 []) ?_ ?_
  · simp only [ejA, cellsT, LQ_zero]
    refine Ghost.ent (fun l => if l = 1 then 43 else if l = 2 then 42 else l) ?_ ?_ ?_ <;> simp -implicitDefEqProofs only [go_sem, ↓reduceIte, Nat.reduceAdd, Nat.reduceMul, Nat.reduceEqDiff, Nat.reduceLeDiff, reduceCtorEq, Int.reduceToNat, lift2, goneU, newU, Nat.reduceSub, List.forall_mem_cons, List.not_mem_nil, false_implies, implies_true, and_self, map_renL_lift, labsIn_lift, List.all_append, List.all_cons, List.all_nil, List.map_append, Nat.reduceLT, labsInL, AV.labsIn]
    all_goals first | rfl | decide | skip
  refine AW.cut (fun _ : Unit => ejZ A (mapT B) x ex) (fun _ => True) ?_ fun _ _ => ?_
  · simp only [ejA, cellsT]
    refine AW.rT (by rfl) fun K hK => ?_
    simp -implicitDefEqProofs only [go_sem, ↓reduceIte, Nat.reduceAdd, Nat.reduceMul, Nat.reduceEqDiff, Nat.reduceLeDiff, reduceCtorEq, Int.reduceToNat]
    refine hK _ ?_; clear hK K
    refine AW.block ?_
    refine AW.loop (fun i : Nat => ejA A B x ex i [(8, .p (.int .i64 (i : Int)))]) (fun i => i ≤ B.ents.length) (fun i => B.ents.length - i) 0 ?_ (by omega) fun i i1 => ?_
    · simp only [ejA, cellsT]
      refine Ghost.sub ?_ ?_ <;> simp -implicitDefEqProofs only [go_sem, ↓reduceIte, Nat.reduceAdd, Nat.reduceMul, Nat.reduceEqDiff, Nat.reduceLeDiff, reduceCtorEq, Int.reduceToNat,  List.forall_mem_cons, List.not_mem_nil, false_implies, implies_true, and_self, labsIn_lift, List.all_append, List.all_cons, List.all_nil, Nat.reduceLT, labsInL, AV.labsIn]
      all_goals first | rfl | decide | skip
    simp only [ejA, cellsT]
    refine AW.seq ?_
    have ll : (liftE ((LQ B i).map encEn)).length = B.ents.length := by rw [liftE_length, List.length_map, LQ_len]
    by_cases hil : i < B.ents.length
    case neg =>
      have e : i = B.ents.length := by omega
      subst e
      have c1 : ((B.ents.length : Int) < (B.ents.length : Int)) = False := eq_false (by omega)
      refine AW.rT (by rfl) fun K hK => ?_
      simp -implicitDefEqProofs only [go_sem, ↓reduceIte, Nat.reduceAdd, Nat.reduceMul, Nat.reduceEqDiff, Nat.reduceLeDiff, reduceCtorEq, Int.reduceToNat, c1, ll]
      refine hK _ ?_; clear hK K
      refine AW.cond _ (by simp -implicitDefEqProofs only [go_sem, ↓reduceIte, Nat.reduceAdd, Nat.reduceMul, Nat.reduceEqDiff, Nat.reduceLeDiff, reduceCtorEq, Int.reduceToNat]; rfl) (fun hc => ?_) (fun hc => ?_)
      · simp at hc
      refine AW.exit ?_
      simp only [andThen, inBlk, reduceCtorEq, ↓reduceIte, if_t, if_f]
      refine ⟨(), trivial, ?_⟩
      refine Ghost.trans (Ghost.freeze (lb := 2) (sz := 2) (ps := (LQ B B.ents.length).map encEn) rfl (unlift_liftE _)) ?_
      simp only [ejZ, cellsT, mapT, Tr.kind, Tr.n, Tr.s, Tr.ents, Tr.rest]
      refine Ghost.sub ?_ ?_ <;> simp -implicitDefEqProofs only [go_sem, ↓reduceIte, Nat.reduceAdd, Nat.reduceMul, Nat.reduceEqDiff, Nat.reduceLeDiff, reduceCtorEq, Int.reduceToNat, thaw, thaw1, Option.map_some, List.map_cons, List.map_nil, thaw_lift, List.forall_mem_cons, List.not_mem_nil, false_implies, implies_true, and_self, labsIn_lift, List.all_append, List.all_cons, List.all_nil, Nat.reduceLT, labsInL, AV.labsIn]
      done
    obtain ⟨e, he⟩ : ∃ e, B.ents[i]? = some e := ⟨_, List.getElem?_eq_getElem hil⟩
    have g1 := at_lift encEn (LQ_at he)
    have nx := setL encEn (LQ B i) i (fT e)
    rw [LQ_next he] at nx
    simp only [encEn, fT, List.map_cons, List.map_nil] at g1 nx
    have b0 : 0 ≤ (i : Int) := by omega
    have b1 : (i : Int) < (B.ents.length : Int) := by omega
    have c1 : ((i : Int) < (B.ents.length : Int)) = True := eq_true (by omega)
    have w1 : IntKind.wrap .i64 ((i : Int) + 1) = ((i + 1 : Nat) : Int) := by rw [w64] <;> omega
    refine AW.rT (by rfl) fun K hK => ?_
    simp -implicitDefEqProofs only [go_sem, ↓reduceIte, Nat.reduceAdd, Nat.reduceMul, Nat.reduceEqDiff, Nat.reduceLeDiff, reduceCtorEq, Int.reduceToNat, c1, ll]
    refine hK _ ?_; clear hK K
    refine AW.cond _ (by simp -implicitDefEqProofs only [go_sem, ↓reduceIte, Nat.reduceAdd, Nat.reduceMul, Nat.reduceEqDiff, Nat.reduceLeDiff, reduceCtorEq, Int.reduceToNat]; rfl) (fun hc => ?_) (fun hc => ?_)
    rotate_left
    · simp at hc
    refine AW.skip ?_
    simp only [andThen, inBlk, reduceCtorEq, ↓reduceIte, if_t, if_f]
    refine AW.seq ?_
    refine AW.block ?_
    have hm : IntKind.wrap .i64 (andI .i64 e.1 255 + 200) = mapG e.1 := rfl
    refine AW.dE mixed (by rfl) (by decide +kernel) fun K hK => ?_
    simp -implicitDefEqProofs only [go_sem, ↓reduceIte, Nat.reduceAdd, Nat.reduceMul, Nat.reduceEqDiff, Nat.reduceLeDiff, reduceCtorEq, Int.reduceToNat, g1, ll, b0, b1, hm]
    refine ⟨by decide +kernel, ?_⟩
    refine hK _ ?_; clear hK K
    simp only [andThen, inBlk, reduceCtorEq, ↓reduceIte, if_t, if_f]
    refine AW.rE (by rfl) fun K hK => ?_
    simp -implicitDefEqProofs only [go_sem, ↓reduceIte, Nat.reduceAdd, Nat.reduceMul, Nat.reduceEqDiff, Nat.reduceLeDiff, reduceCtorEq, Int.reduceToNat, w1]
    refine hK _ ?_; clear hK K
    refine ⟨i + 1, by omega, by omega, ?_⟩
    show Ghost _ _ (ejA A B x ex (i + 1) [(8, .p (.int .i64 ((i + 1 : Nat) : Int)))])
    simp only [ejA, cellsT]
    refine Ghost.sub ?_ ?_ <;> simp -implicitDefEqProofs only [go_sem, ↓reduceIte, Nat.reduceAdd, Nat.reduceMul, Nat.reduceEqDiff, Nat.reduceLeDiff, reduceCtorEq, Int.reduceToNat, nx, List.forall_mem_cons, List.not_mem_nil, false_implies, implies_true, and_self, labsIn_lift, List.all_append, List.all_cons, List.all_nil, Nat.reduceLT, labsInL, AV.labsIn]
    done
  have uk : (mapT B).kind = 3 := kB
  have ur : (mapT B).rest = [] := rB0
  have ul : (mapT B).ents.length = B.ents.length := LQ_len B _
  have ug : ∀ e ∈ (mapT B).ents, 200 ≤ e.1 := fun e he => by
    obtain ⟨z, _, rfl⟩ := LQ_end B e he
    exact mapG_low _
  generalize mapT B = U at *
  have hy : ∃ y ey, y = (encA U).1 ∧ ey = (encA U).2 := ⟨_, _, rfl, rfl⟩
  obtain ⟨y, ey, hy1, hy2⟩ := hy
  rw [← hy1, ← hy2] at E2
  rw [← hx1] at xlA
  rw [← hy1] at xlU
  have lx : (List.map encB x).length = x.length := List.length_map ..
  have ly : (List.map encB y).length = y.length := List.length_map ..
  simp only [ejZ, cellsT]
  refine AW.rT (by rfl) fun K hK => ?_
  simp -implicitDefEqProofs only [go_sem, ↓reduceIte, Nat.reduceAdd, Nat.reduceMul, Nat.reduceEqDiff, Nat.reduceLeDiff, reduceCtorEq, Int.reduceToNat]
  refine ⟨.pure _, E2, ?_⟩
  try simp -implicitDefEqProofs only [go_sem, ↓reduceIte, Nat.reduceAdd, Nat.reduceMul, Nat.reduceEqDiff, Nat.reduceLeDiff, reduceCtorEq, Int.reduceToNat]
  refine hK _ ?_; clear hK K
  refine AW.seq ?_
  have aw : ∀ (b : Bool), True := fun _ => trivial
  by_cases f1 : ex = 0
  case neg =>
    have g1 : (ex != 0) = true := by simp [f1]
    refine AW.rT (by rfl) fun K hK => ?_
    simp -implicitDefEqProofs only [go_sem, ↓reduceIte, Nat.reduceAdd, Nat.reduceMul, Nat.reduceEqDiff, Nat.reduceLeDiff, reduceCtorEq, Int.reduceToNat, g1]
    refine hK _ ?_; clear hK K
    refine AW.cond _ (by simp -implicitDefEqProofs only [go_sem, ↓reduceIte, Nat.reduceAdd, Nat.reduceMul, Nat.reduceEqDiff, Nat.reduceLeDiff, reduceCtorEq, Int.reduceToNat]; rfl) (fun hc => ?_) (fun hc => ?_)
    rotate_left
    · simp at hc
    refine AW.rT (by rfl) fun K hK => ?_
    simp -implicitDefEqProofs only [go_sem, ↓reduceIte, Nat.reduceAdd, Nat.reduceMul, Nat.reduceEqDiff, Nat.reduceLeDiff, reduceCtorEq, Int.reduceToNat]
    refine ⟨.pure _, law11_awake, ?_⟩
    try simp -implicitDefEqProofs only [go_sem, ↓reduceIte, Nat.reduceAdd, Nat.reduceMul, Nat.reduceEqDiff, Nat.reduceLeDiff, reduceCtorEq, Int.reduceToNat]
    refine hK _ ?_; clear hK K
    refine AW.ret ?_
    simp -implicitDefEqProofs only [go_sem, ↓reduceIte, Nat.reduceAdd, Nat.reduceMul, Nat.reduceEqDiff, Nat.reduceLeDiff, reduceCtorEq, Int.reduceToNat]
  have g1 : (ex != 0) = false := by simp [f1]
  by_cases f2 : ey = 0
  case neg =>
    have g2 : (ey != 0) = true := by simp [f2]
    refine AW.rT (by rfl) fun K hK => ?_
    simp -implicitDefEqProofs only [go_sem, ↓reduceIte, Nat.reduceAdd, Nat.reduceMul, Nat.reduceEqDiff, Nat.reduceLeDiff, reduceCtorEq, Int.reduceToNat, g1, g2]
    refine hK _ ?_; clear hK K
    refine AW.cond _ (by simp -implicitDefEqProofs only [go_sem, ↓reduceIte, Nat.reduceAdd, Nat.reduceMul, Nat.reduceEqDiff, Nat.reduceLeDiff, reduceCtorEq, Int.reduceToNat]; rfl) (fun hc => ?_) (fun hc => ?_)
    rotate_left
    · simp at hc
    refine AW.rT (by rfl) fun K hK => ?_
    simp -implicitDefEqProofs only [go_sem, ↓reduceIte, Nat.reduceAdd, Nat.reduceMul, Nat.reduceEqDiff, Nat.reduceLeDiff, reduceCtorEq, Int.reduceToNat]
    refine ⟨.pure _, law11_awake, ?_⟩
    try simp -implicitDefEqProofs only [go_sem, ↓reduceIte, Nat.reduceAdd, Nat.reduceMul, Nat.reduceEqDiff, Nat.reduceLeDiff, reduceCtorEq, Int.reduceToNat]
    refine hK _ ?_; clear hK K
    refine AW.ret ?_
    simp -implicitDefEqProofs only [go_sem, ↓reduceIte, Nat.reduceAdd, Nat.reduceMul, Nat.reduceEqDiff, Nat.reduceLeDiff, reduceCtorEq, Int.reduceToNat]
  have g2 : (ey != 0) = false := by simp [f2]
  have okA : okT A = true := by
    have h : (encA A).2 = 0 := by rw [← hx2]; exact f1
    unfold encA at h
    split at h
    · rename_i q; exact q.1
    · cases h
  have reA := (right_msg (okT_right okA) kA).1
  have w3 : IntKind.wrap .i64 ((x.length : Int) + (y.length : Int)) = ((x.length + y.length : Nat) : Int) := by rw [w64] <;> omega
  refine AW.cut (fun b : Bool => ⟨ofL [(2, .ptr 0 0 0), (5, .p (.slice (x.map encB))), (6, .p (.int .i64 ex)), (7, .ptr 1 0 0), (9, .p (.slice (y.map encB))), (109, .p (.bool b))], ofH [(0, .row 5 [cellsT A]), (1, .row 5 [cellsT U])], 2⟩) (fun b => b = false → (∀ e ∈ A.ents, e.1 < 200) ∧ x.length + y.length ≤ 4096) ?_ fun b hb => ?_
  · have tail : ∀ (b : Bool), True := fun _ => trivial
    by_cases f3 : A.ents.length > 0
    · have g3 : ((A.ents.length : Int) > 0) = True := eq_true (by omega)
      have w4 : IntKind.wrap .i64 ((A.ents.length : Int) - 1) = ((A.ents.length - 1 : Nat) : Int) := by rw [w64] <;> omega
      obtain ⟨z, hz⟩ : ∃ z, A.ents[A.ents.length - 1]? = some z := ⟨_, List.getElem?_eq_getElem (by omega)⟩
      have ⟨z1, z2, z3⟩ := at_map' encEn hz
      have z2' : ((A.ents.length - 1 : Nat) : Int) < (A.ents.length : Int) := by omega
      by_cases f4 : z.1 ≥ 200
      · have g4 : (z.1 ≥ 200) = True := eq_true f4
        refine AW.rE (by rfl) fun K hK => ?_
        simp -implicitDefEqProofs only [go_sem, ↓reduceIte, Nat.reduceAdd, Nat.reduceMul, Nat.reduceEqDiff, Nat.reduceLeDiff, reduceCtorEq, Int.reduceToNat, g1, g2, g3, w4, z1, z2', z3, g4, encEn, List.length_map]
        refine hK _ ?_; clear hK K
        refine ⟨true, (fun h => by cases h), ?_⟩
        simp only [cellsT]
        refine Ghost.sub ?_ ?_ <;> simp -implicitDefEqProofs only [go_sem, ↓reduceIte, Nat.reduceAdd, Nat.reduceMul, Nat.reduceEqDiff, Nat.reduceLeDiff, reduceCtorEq, Int.reduceToNat,  List.forall_mem_cons, List.not_mem_nil, false_implies, implies_true, and_self, labsIn_lift, List.all_append, List.all_cons, List.all_nil, Nat.reduceLT, labsInL, AV.labsIn]
        done
      have g4 : (z.1 ≥ 200) = False := eq_false f4
      have low : ∀ e ∈ A.ents, e.1 < 200 := rightE_last A.ents 0 200 reA (fun e he => by rw [hz] at he; injection he with he; subst he; omega) (by decide)
      by_cases f5 : x.length + y.length > 4096
      · have g5 : (((x.length + y.length : Nat) : Int) > 4096) = True := eq_true (by omega)
        refine AW.rE (by rfl) fun K hK => ?_
        simp -implicitDefEqProofs only [go_sem, ↓reduceIte, Nat.reduceAdd, Nat.reduceMul, Nat.reduceEqDiff, Nat.reduceLeDiff, reduceCtorEq, Int.reduceToNat, g1, g2, g3, w4, z1, z2', z3, g4, encEn, List.length_map, w3, g5]
        refine hK _ ?_; clear hK K
        refine ⟨true, (fun h => by cases h), ?_⟩
        simp only [cellsT]
        refine Ghost.sub ?_ ?_ <;> simp -implicitDefEqProofs only [go_sem, ↓reduceIte, Nat.reduceAdd, Nat.reduceMul, Nat.reduceEqDiff, Nat.reduceLeDiff, reduceCtorEq, Int.reduceToNat,  List.forall_mem_cons, List.not_mem_nil, false_implies, implies_true, and_self, labsIn_lift, List.all_append, List.all_cons, List.all_nil, Nat.reduceLT, labsInL, AV.labsIn]
        done
      have g5 : (((x.length + y.length : Nat) : Int) > 4096) = False := eq_false (by omega)
      refine AW.rE (by rfl) fun K hK => ?_
      simp -implicitDefEqProofs only [go_sem, ↓reduceIte, Nat.reduceAdd, Nat.reduceMul, Nat.reduceEqDiff, Nat.reduceLeDiff, reduceCtorEq, Int.reduceToNat, g1, g2, g3, w4, z1, z2', z3, g4, encEn, List.length_map, w3, g5]
      refine hK _ ?_; clear hK K
      refine ⟨false, (fun _ => ⟨low, by omega⟩), ?_⟩
      simp only [cellsT]
      refine Ghost.sub ?_ ?_ <;> simp -implicitDefEqProofs only [go_sem, ↓reduceIte, Nat.reduceAdd, Nat.reduceMul, Nat.reduceEqDiff, Nat.reduceLeDiff, reduceCtorEq, Int.reduceToNat,  List.forall_mem_cons, List.not_mem_nil, false_implies, implies_true, and_self, labsIn_lift, List.all_append, List.all_cons, List.all_nil, Nat.reduceLT, labsInL, AV.labsIn]
      done
    have g3 : ((A.ents.length : Int) > 0) = False := eq_false (by omega)
    have nil : A.ents = [] := List.length_eq_zero_iff.1 (by omega)
    have low : ∀ e ∈ A.ents, e.1 < 200 := fun e he => by rw [nil] at he; cases he
    by_cases f5 : x.length + y.length > 4096
    · have g5 : (((x.length + y.length : Nat) : Int) > 4096) = True := eq_true (by omega)
      refine AW.rE (by rfl) fun K hK => ?_
      simp -implicitDefEqProofs only [go_sem, ↓reduceIte, Nat.reduceAdd, Nat.reduceMul, Nat.reduceEqDiff, Nat.reduceLeDiff, reduceCtorEq, Int.reduceToNat, g1, g2, g3, List.length_map, w3, g5]
      refine hK _ ?_; clear hK K
      refine ⟨true, (fun h => by cases h), ?_⟩
      simp only [cellsT]
      refine Ghost.sub ?_ ?_ <;> simp -implicitDefEqProofs only [go_sem, ↓reduceIte, Nat.reduceAdd, Nat.reduceMul, Nat.reduceEqDiff, Nat.reduceLeDiff, reduceCtorEq, Int.reduceToNat,  List.forall_mem_cons, List.not_mem_nil, false_implies, implies_true, and_self, labsIn_lift, List.all_append, List.all_cons, List.all_nil, Nat.reduceLT, labsInL, AV.labsIn]
      done
    have g5 : (((x.length + y.length : Nat) : Int) > 4096) = False := eq_false (by omega)
    refine AW.rE (by rfl) fun K hK => ?_
    simp -implicitDefEqProofs only [go_sem, ↓reduceIte, Nat.reduceAdd, Nat.reduceMul, Nat.reduceEqDiff, Nat.reduceLeDiff, reduceCtorEq, Int.reduceToNat, g1, g2, g3, List.length_map, w3, g5]
    refine hK _ ?_; clear hK K
    refine ⟨false, (fun _ => ⟨low, by omega⟩), ?_⟩
    simp only [cellsT]
    refine Ghost.sub ?_ ?_ <;> simp -implicitDefEqProofs only [go_sem, ↓reduceIte, Nat.reduceAdd, Nat.reduceMul, Nat.reduceEqDiff, Nat.reduceLeDiff, reduceCtorEq, Int.reduceToNat,  List.forall_mem_cons, List.not_mem_nil, false_implies, implies_true, and_self, labsIn_lift, List.all_append, List.all_cons, List.all_nil, Nat.reduceLT, labsInL, AV.labsIn]
    done
  cases b with
  | true =>
    simp only [cellsT]
    refine AW.cond _ (by simp -implicitDefEqProofs only [go_sem, ↓reduceIte, Nat.reduceAdd, Nat.reduceMul, Nat.reduceEqDiff, Nat.reduceLeDiff, reduceCtorEq, Int.reduceToNat]; rfl) (fun hc => ?_) (fun hc => ?_)
    rotate_left
    · simp at hc
    refine AW.rT (by rfl) fun K hK => ?_
    simp -implicitDefEqProofs only [go_sem, ↓reduceIte, Nat.reduceAdd, Nat.reduceMul, Nat.reduceEqDiff, Nat.reduceLeDiff, reduceCtorEq, Int.reduceToNat]
    refine ⟨.pure _, law11_awake, ?_⟩
    try simp -implicitDefEqProofs only [go_sem, ↓reduceIte, Nat.reduceAdd, Nat.reduceMul, Nat.reduceEqDiff, Nat.reduceLeDiff, reduceCtorEq, Int.reduceToNat]
    refine hK _ ?_; clear hK K
    refine AW.ret ?_
    simp -implicitDefEqProofs only [go_sem, ↓reduceIte, Nat.reduceAdd, Nat.reduceMul, Nat.reduceEqDiff, Nat.reduceLeDiff, reduceCtorEq, Int.reduceToNat]
  | false =>
  obtain ⟨low, len⟩ := hb rfl
  simp only [cellsT]
  refine AW.cond _ (by simp -implicitDefEqProofs only [go_sem, ↓reduceIte, Nat.reduceAdd, Nat.reduceMul, Nat.reduceEqDiff, Nat.reduceLeDiff, reduceCtorEq, Int.reduceToNat]; rfl) (fun hc => ?_) (fun hc => ?_)
  · simp at hc
  refine AW.skip ?_
  simp only [andThen, inBlk, reduceCtorEq, ↓reduceIte, if_t, if_f]
  obtain ⟨j1, j2⟩ := J (by rw [← hx2]; exact f1) (by rw [← hy2]; exact f2) low ug (by rw [← hx1, ← hy1]; exact len)
  rw [← hx1, ← hy1] at j1
  rw [j1] at E3
  have E3' : PFn Try.prog 66 [.agg [.int .i64 A.kind, .int .i64 A.n, .str A.s, .slice ((A.ents ++ U.ents).map encEn), .slice (A.rest.map encRaw)]] (.tuple [.slice ((x ++ y).map encB), .int .i64 0]) := E3
  have D3' : PFn Try.prog 49 [.agg [.int .i64 A.kind, .int .i64 A.n, .str A.s, .slice ((A.ents ++ U.ents).map encEn), .slice (A.rest.map encRaw)]] (.int .i64 (dT (bothT A U) 101 : Int)) := D3
  refine AW.rR (SeqR.ev 1 (by rfl) (by decide) ?_)
  simp -implicitDefEqProofs only [go_sem, ↓reduceIte, Nat.reduceAdd, Nat.reduceMul, Nat.reduceEqDiff, Nat.reduceLeDiff, reduceCtorEq, Int.reduceToNat]
  refine SeqR.call (fun k => k) rfl rfl TA ⟨?_, rfl, (fun x hx => by cases hx), rfl, rfl, rfl, rfl, rfl, ?_⟩ ?_
  · simp -implicitDefEqProofs only [go_sem, ↓reduceIte, Nat.reduceAdd, Nat.reduceMul, Nat.reduceEqDiff, Nat.reduceLeDiff, reduceCtorEq, Int.reduceToNat, argD]
  · have h1 := labsBy_lift (p := fun l => ([] : List Nat).contains l || decide (0 ≤ l)) (sz := 2) (es := A.ents.map encEn)
    simp only [List.all_cons, List.all_nil, h1]
    rfl
  refine SeqR.ev 2 (by rfl) (by decide) ?_
  simp -implicitDefEqProofs only [go_sem, ↓reduceIte, Nat.reduceAdd, Nat.reduceMul, Nat.reduceEqDiff, Nat.reduceLeDiff, reduceCtorEq, Int.reduceToNat]
  refine SeqR.last rfl ?_
  have la : (liftE (A.ents.map encEn)).length = A.ents.length := by rw [liftE_length, List.length_map]
  have lu : (liftE (U.ents.map encEn)).length = U.ents.length := by rw [liftE_length, List.length_map]
  refine AW.ghost (s' := ejB A U x y []) ?_ ?_
  · simp only [ejB, cellsT]
    refine Ghost.ent (fun l => if l = 2 then 4 else l) ?_ ?_ ?_ <;> simp -implicitDefEqProofs only [go_sem, ↓reduceIte, Nat.reduceAdd, Nat.reduceMul, Nat.reduceEqDiff, Nat.reduceLeDiff, reduceCtorEq, Int.reduceToNat, lift2, goneU, newU, Nat.reduceSub, List.forall_mem_cons, List.not_mem_nil, false_implies, implies_true, and_self, map_renL_lift, labsIn_lift, List.all_append, List.all_cons, List.all_nil, List.map_append, Nat.reduceLT, labsInL, AV.labsIn]
    all_goals first | rfl | decide | skip
  simp only [ejB, cellsT]
  refine AW.rT (by rfl) fun K hK => ?_
  simp -implicitDefEqProofs only [go_sem, ↓reduceIte, Nat.reduceAdd, Nat.reduceMul, Nat.reduceEqDiff, Nat.reduceLeDiff, reduceCtorEq, Int.reduceToNat]
  refine ⟨⟨liftE_len fun e he => by
      obtain ⟨z, _, rfl⟩ := List.mem_map.1 he
      rfl, liftE_one fun e he p hp => by
      obtain ⟨z, _, rfl⟩ := List.mem_map.1 he
      simp [encEn] at hp
      rcases hp with rfl | rfl <;> rfl, by simp⟩, by rw [la, lu]; omega, ?_⟩
  refine hK _ ?_; clear hK K
  have ap : liftE (A.ents.map encEn) ++ liftE (U.ents.map encEn) = liftE ((A.ents ++ U.ents).map encEn) := by rw [List.map_append, liftE_append]
  rw [ap]
  refine AW.ghost (s' := ejC A U x y) (Ghost.trans (s' := ejC1 A U x y) ?_ (Ghost.trans (Ghost.freeze (lb := 3) (sz := 2) (ps := (A.ents ++ U.ents).map encEn) rfl (unlift_liftE _)) ?_)) ?_
  · simp only [ejC1, cellsT]
    refine Ghost.ent (fun l => if l = 3 then 8 else l) ?_ ?_ ?_ <;> simp -implicitDefEqProofs only [go_sem, ↓reduceIte, Nat.reduceAdd, Nat.reduceMul, Nat.reduceEqDiff, Nat.reduceLeDiff, reduceCtorEq, Int.reduceToNat,  List.forall_mem_cons, List.not_mem_nil, false_implies, implies_true, and_self, map_renL_lift, labsIn_lift, List.all_append, List.all_cons, List.all_nil, List.map_append, Nat.reduceLT, labsInL, AV.labsIn]
    all_goals first | rfl | decide | skip
  · simp only [ejC, ejC1, cellsT]
    refine Ghost.sub ?_ ?_ <;> simp -implicitDefEqProofs only [go_sem, ↓reduceIte, Nat.reduceAdd, Nat.reduceMul, Nat.reduceEqDiff, Nat.reduceLeDiff, reduceCtorEq, Int.reduceToNat, thaw, thaw1, Option.map_some, List.map_cons, List.map_nil, thaw_lift, List.forall_mem_cons, List.not_mem_nil, false_implies, implies_true, and_self, labsIn_lift, List.all_append, List.all_cons, List.all_nil, Nat.reduceLT, labsInL, AV.labsIn]
    done
  simp only [ejC, cellsT]
  refine AW.rT (by rfl) fun K hK => ?_
  simp -implicitDefEqProofs only [go_sem, ↓reduceIte, Nat.reduceAdd, Nat.reduceMul, Nat.reduceEqDiff, Nat.reduceLeDiff, reduceCtorEq, Int.reduceToNat]
  refine ⟨.pure _, E3', ?_⟩
  try simp -implicitDefEqProofs only [go_sem, ↓reduceIte, Nat.reduceAdd, Nat.reduceMul, Nat.reduceEqDiff, Nat.reduceLeDiff, reduceCtorEq, Int.reduceToNat]
  refine hK _ ?_; clear hK K
  have bx : bytesOf (liftE (x.map encB)) = some x := bytesOf_lift _
  have by' : bytesOf (liftE (y.map encB)) = some y := bytesOf_lift _
  have bz : bytesOf (liftE ((x ++ y).map encB)) = some (x ++ y) := bytesOf_lift _
  have d2 : ((dT (bothT A U) 101 : Int) ≥ (dT A 101 : Int)) = True := eq_true (by omega)
  have sl : (x.length + y.length ≤ 9223372036854775807) = True := eq_true (by omega)
  have e0 : ((0 : Int) == 0) = true := rfl
  refine AW.dT mixed (by rfl) (by decide +kernel) fun K hK => ?_
  simp -implicitDefEqProofs only [go_sem, ↓reduceIte, Nat.reduceAdd, Nat.reduceMul, Nat.reduceEqDiff, Nat.reduceLeDiff, reduceCtorEq, Int.reduceToNat, bx, by', bz, sl, beq_self_eq_true, e0]
  refine ⟨.pure _, D3', ?_⟩
  try simp -implicitDefEqProofs only [go_sem, ↓reduceIte, Nat.reduceAdd, Nat.reduceMul, Nat.reduceEqDiff, Nat.reduceLeDiff, reduceCtorEq, Int.reduceToNat]
  refine ⟨.pure _, D1, ?_⟩
  try simp -implicitDefEqProofs only [go_sem, ↓reduceIte, Nat.reduceAdd, Nat.reduceMul, Nat.reduceEqDiff, Nat.reduceLeDiff, reduceCtorEq, Int.reduceToNat, d2]
  refine ⟨.pure _, law11_awake, ?_⟩
  try simp -implicitDefEqProofs only [go_sem, ↓reduceIte, Nat.reduceAdd, Nat.reduceMul, Nat.reduceEqDiff, Nat.reduceLeDiff, reduceCtorEq, Int.reduceToNat]
  refine ⟨by decide +kernel, ?_⟩
  refine hK _ ?_; clear hK K
  refine AW.ret ?_
  simp -implicitDefEqProofs only [go_sem, ↓reduceIte, Nat.reduceAdd, Nat.reduceMul, Nat.reduceEqDiff, Nat.reduceLeDiff, reduceCtorEq, Int.reduceToNat]
end Go.Aw
