/- The program's encode: raws, by recursion; Raws, Encode, Len. -/
import Derived.Test.YtmeplhcfjihafaaAwE1
namespace Go.Aw
open Go.Proofs
set_option linter.unusedSimpArgs false
set_option linter.unusedVariables false
def rw1 (t : Tr) (acc : List Raw) (i : Nat) : St := ⟨ofL [(0, .p (.box (ndV t) 0)), (4, .own 0), (14, .p (.slice (t.ents.map encTg))), (15, .p (.int .i64 (t.ents.length : Int))), (16, .p (.int .i64 (i : Int)))],
  ofH [(0, .row 4 (liftE (acc.map encRaw)))], 1⟩
def rw2 (t : Tr) (acc : List Raw) (i : Nat) (e : Int × List Tr) (k : Nat) : St := ⟨ofL [(0, .p (.box (ndV t) 0)), (4, .own 0), (14, .p (.slice (t.ents.map encTg))), (15, .p (.int .i64 (t.ents.length : Int))), (16, .p (.int .i64 (i : Int))), (6, .p (.int .i64 e.1)), (22, .p (.slice (e.2.map encV1))), (23, .p (.int .i64 (e.2.length : Int))), (24, .p (.int .i64 (k : Int)))],
  ofH [(0, .row 4 (liftE (acc.map encRaw)))], 1⟩
theorem rawsT_len (t : Tr) {n : Nat} (h : (addR t.rest (fldE t.ents)).1.length ≤ n) : (rawsT t).1.length ≤ n := by
  unfold rawsT addR at *
  split
  · simp
  · rename_i h1
    rw [if_neg h1] at h
    simp only at h ⊢
    have := sortL_length' (t.rest ++ (fldE t.ents).1) []
    simp at this h
    omega
set_option maxRecDepth 100000 in
set_option maxHeartbeats 4000000 in
theorem enc_raws1 (t : Tr) (hlt : lensT t = true) (hre : rightE t.ents 0 = true) (RAW : ∀ (i : Nat) e (k : Nat) x, t.ents[i]? = some e → e.2[k]? = some x → PFn Try.prog 100 [.int .i64 e.1, .agg [encV x]] (.tuple [.agg (encRaw (fldR e.1 x).1), .int .i64 (fldR e.1 x).2])) :
    PFn Try.prog 91 [.box (ndV t) 0] (.tuple [.slice ((rawsT t).1.map encRaw), .int .i64 (rawsT t).2]) ∧ (rawsT t).1.length ≤ 100000 := by
  obtain ⟨la1, la2, la3⟩ := lensT_mk hlt
  have eR : rawsT t = if (addR t.rest (fldE t.ents)).2 ≠ 0 then ([], (addR t.rest (fldE t.ents)).2) else (sortL [] (addR t.rest (fldE t.ents)).1, 0) := by
    unfold rawsT addR
    by_cases h : (fldE t.ents).2 = 0
    · simp [h]
    · simp [h]
  have key : PFn Try.prog 91 [.box (ndV t) 0] (.tuple [.slice ((rawsT t).1.map encRaw), .int .i64 (rawsT t).2]) := by
    refine PFn.of Try.func91 rfl (by decide) Try.ntmps91 Try.results91 (Nat.le_of_ble_eq_true rfl) ?_
    simp only [argsT]
    refine AW.rT (by rfl) fun K hK => ?_
    simp -implicitDefEqProofs only [go_sem, ↓reduceIte, Nat.reduceAdd, Nat.reduceMul, Nat.reduceEqDiff, Nat.reduceLeDiff, reduceCtorEq, Int.reduceToNat]
    refine hK _ ?_; clear hK K
    refine AW.rT (by rfl) fun K hK => ?_
    simp -implicitDefEqProofs only [go_sem, ↓reduceIte, Nat.reduceAdd, Nat.reduceMul, Nat.reduceEqDiff, Nat.reduceLeDiff, reduceCtorEq, Int.reduceToNat]
    refine ⟨.own _ _, node_RestO t (by omega), ?_⟩
    try simp -implicitDefEqProofs only [go_sem, ↓reduceIte, Nat.reduceAdd, Nat.reduceMul, Nat.reduceEqDiff, Nat.reduceLeDiff, reduceCtorEq, Int.reduceToNat]
    refine hK _ ?_; clear hK K
    refine AW.seq ?_
    refine AW.rT (by rfl) fun K hK => ?_
    simp -implicitDefEqProofs only [go_sem, ↓reduceIte, Nat.reduceAdd, Nat.reduceMul, Nat.reduceEqDiff, Nat.reduceLeDiff, reduceCtorEq, Int.reduceToNat]
    refine ⟨.pure _, node_Tags t la2, ?_⟩
    try simp -implicitDefEqProofs only [go_sem, ↓reduceIte, Nat.reduceAdd, Nat.reduceMul, Nat.reduceEqDiff, Nat.reduceLeDiff, reduceCtorEq, Int.reduceToNat, List.length_map]
    refine hK _ ?_; clear hK K
    refine AW.block ?_
    refine AW.loop (fun x : List Raw × Nat => rw1 t x.1 x.2) (fun x => x.2 ≤ t.ents.length ∧ x.1.length ≤ 1000 + 64 * x.2 ∧ addR t.rest (fldE t.ents) = addR x.1 (fldE (t.ents.drop x.2))) (fun x => t.ents.length - x.2) (t.rest, 0) ?_ ⟨by simp, by simp; omega, by rw [List.drop_zero]⟩ fun x hx => ?_
    · simp only [rw1]
      refine Ghost.ent (fun l => if l = 0 then 3 else l) ?_ ?_ ?_ <;> simp -implicitDefEqProofs only [go_sem, ↓reduceIte, Nat.reduceAdd, Nat.reduceMul, Nat.reduceEqDiff, Nat.reduceLeDiff, reduceCtorEq, Int.reduceToNat,  List.forall_mem_cons, List.not_mem_nil, false_implies, implies_true, and_self, map_renL_lift, labsIn_lift, List.all_append, List.all_cons, List.all_nil, List.map_append, Nat.reduceLT, labsInL, AV.labsIn]
      rfl
    obtain ⟨acc, i⟩ := x
    obtain ⟨e1, e2, e3⟩ := hx
    dsimp only at e1 e2 e3
    simp only [rw1]
    by_cases hil : i < t.ents.length
    case neg =>
      have hc1 : ((i : Int) < (t.ents.length : Int)) = False := by simp; omega
      rw [List.drop_of_length_le (by omega), fldE, addR_nil] at e3
      rw [e3, if_neg (by simp)] at eR
      refine AW.rT (by rfl) fun K hK => ?_
      simp -implicitDefEqProofs only [go_sem, ↓reduceIte, Nat.reduceAdd, Nat.reduceMul, Nat.reduceEqDiff, Nat.reduceLeDiff, reduceCtorEq, Int.reduceToNat, hc1]
      refine hK _ ?_; clear hK K
      refine AW.seq ?_
      refine AW.cond _ (by simp -implicitDefEqProofs only [go_sem, ↓reduceIte, Nat.reduceAdd, Nat.reduceMul, Nat.reduceEqDiff, Nat.reduceLeDiff, reduceCtorEq, Int.reduceToNat]; rfl) (fun hc => ?_) (fun hc => ?_)
      · simp at hc
      refine AW.exit ?_
      simp only [andThen, inBlk, reduceCtorEq, ↓reduceIte, if_t, if_f]
      refine AW.rT (by rfl) fun K hK => ?_
      simp -implicitDefEqProofs only [go_sem, ↓reduceIte, Nat.reduceAdd, Nat.reduceMul, Nat.reduceEqDiff, Nat.reduceLeDiff, reduceCtorEq, Int.reduceToNat]
      refine ⟨.pure _, wire_Sorted acc (by omega), ?_⟩
      try simp -implicitDefEqProofs only [go_sem, ↓reduceIte, Nat.reduceAdd, Nat.reduceMul, Nat.reduceEqDiff, Nat.reduceLeDiff, reduceCtorEq, Int.reduceToNat]
      refine hK _ ?_; clear hK K
      refine AW.ret ?_
      simp -implicitDefEqProofs only [go_sem, ↓reduceIte, Nat.reduceAdd, Nat.reduceMul, Nat.reduceEqDiff, Nat.reduceLeDiff, reduceCtorEq, Int.reduceToNat, eR]
    obtain ⟨e, he⟩ : ∃ e, t.ents[i]? = some e := ⟨_, List.getElem?_eq_getElem hil⟩
    have ⟨he1, he2, he3⟩ := at_map' encTg he
    have ⟨le1, le2⟩ := lensE_at la3 he
    have l64 := (right_len hre e (List.mem_of_getElem? he)).2.2.2
    have hc1 : ((i : Int) < (t.ents.length : Int)) = True := by simp; omega
    have G1 := node_Get t hlt e.1
    rw [find_at he (right_take hre he) rfl] at G1
    rw [addR_at he] at e3
    refine AW.rT (by rfl) fun K hK => ?_
    simp -implicitDefEqProofs only [go_sem, ↓reduceIte, Nat.reduceAdd, Nat.reduceMul, Nat.reduceEqDiff, Nat.reduceLeDiff, reduceCtorEq, Int.reduceToNat, hc1]
    refine hK _ ?_; clear hK K
    refine AW.seq ?_
    refine AW.cond _ (by simp -implicitDefEqProofs only [go_sem, ↓reduceIte, Nat.reduceAdd, Nat.reduceMul, Nat.reduceEqDiff, Nat.reduceLeDiff, reduceCtorEq, Int.reduceToNat]; rfl) (fun hc => ?_) (fun hc => ?_)
    rotate_left
    · simp at hc
    refine AW.skip ?_
    simp only [andThen, inBlk, reduceCtorEq, ↓reduceIte, if_t, if_f]
    refine AW.seq ?_
    refine AW.block ?_
    refine AW.rT (by rfl) fun K hK => ?_
    simp -implicitDefEqProofs only [go_sem, ↓reduceIte, Nat.reduceAdd, Nat.reduceMul, Nat.reduceEqDiff, Nat.reduceLeDiff, reduceCtorEq, Int.reduceToNat, he1, he2, he3, hc1, encTg, List.length_map]
    refine hK _ ?_; clear hK K
    refine AW.rT (by rfl) fun K hK => ?_
    simp -implicitDefEqProofs only [go_sem, ↓reduceIte, Nat.reduceAdd, Nat.reduceMul, Nat.reduceEqDiff, Nat.reduceLeDiff, reduceCtorEq, Int.reduceToNat]
    refine ⟨.pure _, G1, ?_⟩
    try simp -implicitDefEqProofs only [go_sem, ↓reduceIte, Nat.reduceAdd, Nat.reduceMul, Nat.reduceEqDiff, Nat.reduceLeDiff, reduceCtorEq, Int.reduceToNat, List.length_map]
    refine hK _ ?_; clear hK K
    refine AW.block ?_
    refine AW.loop (fun x : List Raw × Nat => rw2 t x.1 i e x.2) (fun x => x.2 ≤ e.2.length ∧ x.1.length ≤ 1000 + 64 * i + x.2 ∧ addR t.rest (fldE t.ents) = addR2 x.1 (fldL e.1 (e.2.drop x.2)) (fldE (t.ents.drop (i + 1)))) (fun x => e.2.length - x.2) (acc, 0) ?_ ⟨by simp, by simp; omega, by rw [List.drop_zero]; exact e3⟩ fun x hx => ?_
    · simp only [rw2]
      refine Ghost.sub ?_ ?_ <;> simp -implicitDefEqProofs only [go_sem, ↓reduceIte, Nat.reduceAdd, Nat.reduceMul, Nat.reduceEqDiff, Nat.reduceLeDiff, reduceCtorEq, Int.reduceToNat,  List.forall_mem_cons, List.not_mem_nil, false_implies, implies_true, and_self, labsIn_lift, List.all_append, List.all_cons, List.all_nil, Nat.reduceLT, labsInL, AV.labsIn]
      rfl
    obtain ⟨acc', k⟩ := x
    obtain ⟨f1, f2, f3⟩ := hx
    dsimp only at f1 f2 f3
    simp only [rw2]
    by_cases hkl : k < e.2.length
    case neg =>
      have hc2 : ((k : Int) < (e.2.length : Int)) = False := by simp; omega
      rw [List.drop_of_length_le (by omega), fldL, addR2_nil] at f3
      refine AW.rT (by rfl) fun K hK => ?_
      simp -implicitDefEqProofs only [go_sem, ↓reduceIte, Nat.reduceAdd, Nat.reduceMul, Nat.reduceEqDiff, Nat.reduceLeDiff, reduceCtorEq, Int.reduceToNat, hc2]
      refine hK _ ?_; clear hK K
      refine AW.seq ?_
      refine AW.cond _ (by simp -implicitDefEqProofs only [go_sem, ↓reduceIte, Nat.reduceAdd, Nat.reduceMul, Nat.reduceEqDiff, Nat.reduceLeDiff, reduceCtorEq, Int.reduceToNat]; rfl) (fun hc => ?_) (fun hc => ?_)
      · simp at hc
      refine AW.exit ?_
      simp only [andThen, inBlk, reduceCtorEq, ↓reduceIte, if_t, if_f]
      have w1 : IntKind.wrap .i64 ((i : Int) + 1) = ((i + 1 : Nat) : Int) := by rw [w64] <;> omega
      refine AW.rE (by rfl) fun K hK => ?_
      simp -implicitDefEqProofs only [go_sem, ↓reduceIte, Nat.reduceAdd, Nat.reduceMul, Nat.reduceEqDiff, Nat.reduceLeDiff, reduceCtorEq, Int.reduceToNat, w1]
      refine hK _ ?_; clear hK K
      refine ⟨(acc', i + 1), ⟨by show i + 1 ≤ t.ents.length; omega, by show acc'.length ≤ 1000 + 64 * (i + 1); omega, f3⟩, by show t.ents.length - (i + 1) < t.ents.length - i; omega, ?_⟩
      refine Ghost.sub ?_ ?_ <;> simp -implicitDefEqProofs only [go_sem, ↓reduceIte, Nat.reduceAdd, Nat.reduceMul, Nat.reduceEqDiff, Nat.reduceLeDiff, reduceCtorEq, Int.reduceToNat,  List.forall_mem_cons, List.not_mem_nil, false_implies, implies_true, and_self, labsIn_lift, List.all_append, List.all_cons, List.all_nil, Nat.reduceLT, labsInL, AV.labsIn]
    obtain ⟨x, hx⟩ : ∃ x, e.2[k]? = some x := ⟨_, List.getElem?_eq_getElem hkl⟩
    have ⟨hx1, hx2, hx3⟩ := at_map' encV1 hx
    have hc2 : ((k : Int) < (e.2.length : Int)) = True := by simp; omega
    have RW := RAW i e k x he hx
    rw [encRaw] at RW
    rw [addL_at hx] at f3
    have eo := encV_one x
    refine AW.rT (by rfl) fun K hK => ?_
    simp -implicitDefEqProofs only [go_sem, ↓reduceIte, Nat.reduceAdd, Nat.reduceMul, Nat.reduceEqDiff, Nat.reduceLeDiff, reduceCtorEq, Int.reduceToNat, hc2]
    refine hK _ ?_; clear hK K
    refine AW.seq ?_
    refine AW.cond _ (by simp -implicitDefEqProofs only [go_sem, ↓reduceIte, Nat.reduceAdd, Nat.reduceMul, Nat.reduceEqDiff, Nat.reduceLeDiff, reduceCtorEq, Int.reduceToNat]; rfl) (fun hc => ?_) (fun hc => ?_)
    rotate_left
    · simp at hc
    refine AW.skip ?_
    simp only [andThen, inBlk, reduceCtorEq, ↓reduceIte, if_t, if_f]
    refine AW.seq ?_
    refine AW.block ?_
    refine AW.rT (by rfl) fun K hK => ?_
    simp -implicitDefEqProofs only [go_sem, ↓reduceIte, Nat.reduceAdd, Nat.reduceMul, Nat.reduceEqDiff, Nat.reduceLeDiff, reduceCtorEq, Int.reduceToNat, hc2, hx1, hx2, hx3, encV1, List.length_map]
    refine ⟨eo, ?_⟩
    refine hK _ ?_; clear hK K
    refine AW.rT (by rfl) fun K hK => ?_
    simp -implicitDefEqProofs only [go_sem, ↓reduceIte, Nat.reduceAdd, Nat.reduceMul, Nat.reduceEqDiff, Nat.reduceLeDiff, reduceCtorEq, Int.reduceToNat]
    refine ⟨.pure _, RW, ?_⟩
    try simp -implicitDefEqProofs only [go_sem, ↓reduceIte, Nat.reduceAdd, Nat.reduceMul, Nat.reduceEqDiff, Nat.reduceLeDiff, reduceCtorEq, Int.reduceToNat]
    refine hK _ ?_; clear hK K
    refine AW.seq ?_
    by_cases hz : (fldR e.1 x).2 = 0
    · have b : ((fldR e.1 x).2 != 0) = false := by simp [hz]
      rw [if_neg (by simpa using hz)] at f3
      refine AW.rT (by rfl) fun K hK => ?_
      simp -implicitDefEqProofs only [go_sem, ↓reduceIte, Nat.reduceAdd, Nat.reduceMul, Nat.reduceEqDiff, Nat.reduceLeDiff, reduceCtorEq, Int.reduceToNat, b]
      refine hK _ ?_; clear hK K
      refine AW.cond _ (by simp -implicitDefEqProofs only [go_sem, ↓reduceIte, Nat.reduceAdd, Nat.reduceMul, Nat.reduceEqDiff, Nat.reduceLeDiff, reduceCtorEq, Int.reduceToNat]; rfl) (fun hc => ?_) (fun hc => ?_)
      · simp at hc
      refine AW.skip ?_
      simp only [andThen, inBlk, reduceCtorEq, ↓reduceIte, if_t, if_f]
      refine AW.rE (by rfl) fun K hK => ?_
      simp -implicitDefEqProofs only [go_sem, ↓reduceIte, Nat.reduceAdd, Nat.reduceMul, Nat.reduceEqDiff, Nat.reduceLeDiff, reduceCtorEq, Int.reduceToNat]
      refine ⟨⟨by simp, by simp [oneAll, AV.one, PV.one], by simp⟩, by simp [liftE_length]; omega, ?_⟩
      refine hK _ ?_; clear hK K
      simp only [andThen, inBlk, reduceCtorEq, ↓reduceIte, if_t, if_f]
      have w1 : IntKind.wrap .i64 ((k : Int) + 1) = ((k + 1 : Nat) : Int) := by rw [w64] <;> omega
      have e7 : liftE (acc'.map encRaw) ++ [[AV.p (.int .i64 (fldR e.1 x).1.tag), .p (.int .i64 (fldR e.1 x).1.wire), .p (.int .i64 (fldR e.1 x).1.n), .p (.str (fldR e.1 x).1.b)]] = liftE ((acc' ++ [(fldR e.1 x).1]).map encRaw) := by
        simp [liftE, encRaw]
      refine AW.rE (by rfl) fun K hK => ?_
      simp -implicitDefEqProofs only [go_sem, ↓reduceIte, Nat.reduceAdd, Nat.reduceMul, Nat.reduceEqDiff, Nat.reduceLeDiff, reduceCtorEq, Int.reduceToNat, w1]
      refine hK _ ?_; clear hK K
      refine ⟨(acc' ++ [(fldR e.1 x).1], k + 1), ⟨by show k + 1 ≤ e.2.length; omega, by simp; omega, f3⟩, by show e.2.length - (k + 1) < e.2.length - k; omega, ?_⟩
      refine Ghost.ent (fun l => if l = 0 then 20 else l) ?_ ?_ ?_ <;> simp -implicitDefEqProofs only [go_sem, ↓reduceIte, Nat.reduceAdd, Nat.reduceMul, Nat.reduceEqDiff, Nat.reduceLeDiff, reduceCtorEq, Int.reduceToNat, e7, List.forall_mem_cons, List.not_mem_nil, false_implies, implies_true, and_self, map_renL_lift, labsIn_lift, List.all_append, List.all_cons, List.all_nil, List.map_append, Nat.reduceLT, labsInL, AV.labsIn]
    · have b : ((fldR e.1 x).2 != 0) = true := by simp [hz]
      rw [if_pos hz] at f3
      rw [f3, if_pos (by exact hz)] at eR
      refine AW.rT (by rfl) fun K hK => ?_
      simp -implicitDefEqProofs only [go_sem, ↓reduceIte, Nat.reduceAdd, Nat.reduceMul, Nat.reduceEqDiff, Nat.reduceLeDiff, reduceCtorEq, Int.reduceToNat, b]
      refine hK _ ?_; clear hK K
      refine AW.cond _ (by simp -implicitDefEqProofs only [go_sem, ↓reduceIte, Nat.reduceAdd, Nat.reduceMul, Nat.reduceEqDiff, Nat.reduceLeDiff, reduceCtorEq, Int.reduceToNat]; rfl) (fun hc => ?_) (fun hc => ?_)
      rotate_left
      · simp at hc
      refine AW.rT (by rfl) fun K hK => ?_
      simp -implicitDefEqProofs only [go_sem, ↓reduceIte, Nat.reduceAdd, Nat.reduceMul, Nat.reduceEqDiff, Nat.reduceLeDiff, reduceCtorEq, Int.reduceToNat]
      refine hK _ ?_; clear hK K
      refine AW.ret ?_
      simp -implicitDefEqProofs only [go_sem, ↓reduceIte, Nat.reduceAdd, Nat.reduceMul, Nat.reduceEqDiff, Nat.reduceLeDiff, reduceCtorEq, Int.reduceToNat, eR]
  refine ⟨key, rawsT_len t ?_⟩
  have : ∀ (es : List (Int × List Tr)), (∀ e ∈ es, e.2.length ≤ 64) → (fldE es).1.length ≤ 64 * es.length := by
    have hL : ∀ (g : Int) (l : List Tr), (fldL g l).1.length ≤ l.length := by
      intro g l
      induction l with
      | nil => simp [fldL]
      | cons x l ih =>
        rw [fldL]
        split
        · simp
        · split
          · simp
          · simp; omega
    intro es
    induction es with
    | nil => intro _; simp [fldE]
    | cons e es ih =>
      intro h
      obtain ⟨g, l⟩ := e
      have h1 := ih fun e he => h e (List.mem_cons_of_mem _ he)
      have h2 := h (g, l) List.mem_cons_self
      have h3 := hL g l
      simp only at h2
      rw [fldE]
      split
      · simp
      · split
        · simp
        · simp; omega
  have := this t.ents fun e he => (right_len hre e he).2.2.2
  unfold addR
  split
  · simp
  · simp; omega
theorem right_msg {t : Tr} (hr : rightT t = true) (hk : t.kind = 3) : rightE t.ents 0 = true ∧ restT t.ents t.rest = true := by
  rcases right_kinds hr with ⟨h, _⟩ | ⟨h, _⟩ | ⟨_, _, _, h⟩
  · omega
  · omega
  · exact h
theorem enc_all : ∀ (t : Tr), lensT t = true → rightT t = true → t.kind = 3 → PFn Try.prog 91 [.box (ndV t) 0] (.tuple [.slice ((rawsT t).1.map encRaw), .int .i64 (rawsT t).2]) ∧ (rawsT t).1.length ≤ 100000 := by
  intro t
  induction h : SizeOf.sizeOf t using Nat.strongRecOn generalizing t with
  | _ sz ih =>
  subst h
  intro hlt hr hk
  obtain ⟨la1, la2, la3⟩ := lensT_mk hlt
  have hre := (right_msg hr hk).1
  refine enc_raws1 t hlt hre fun i e k x he hx => ?_
  have hrx := right_ents hre e (List.mem_of_getElem? he) x (List.mem_of_getElem? hx)
  refine enc_raw e.1 x hrx fun hkx => ?_
  have R := ih _ (size_ent he hx) x rfl (lensTs_at (lensE_at la3 he).2 hx) hrx hkx
  exact enc_bytes x (by omega) R.1
/-- What Raws and Encode answer. -/
def rawsA (t : Tr) : List Raw × Int := if okT t = true ∧ t.kind = 3 then rawsT t else ([], 1)
def encA (t : Tr) : List UInt8 × Int := if okT t = true ∧ t.kind = 3 then bytesT t else ([], 1)
theorem rawsA_len (t : Tr) (hlt : lensT t = true) : (rawsA t).1.length ≤ 100000 := by
  unfold rawsA
  split
  · rename_i h
    exact (enc_all t hlt (okT_right h.1) h.2).2
  · simp
set_option maxRecDepth 100000 in
set_option maxHeartbeats 1000000 in
theorem enc_Raws (t : Tr) (hlt : lensT t = true) : PFn Try.prog 67 [.agg (encTr t)] (.tuple [.slice ((rawsA t).1.map encRaw), .int .i64 (rawsA t).2]) := by
  have O1 := value_Of t hlt
  rw [encTr_eq] at O1
  refine PFn.of Try.func67 rfl (by decide) Try.ntmps67 Try.results67 (Nat.le_of_ble_eq_true rfl) ?_
  simp only [argsT]
  refine AW.rT (by rfl) fun K hK => ?_
  simp -implicitDefEqProofs only [go_sem, ↓reduceIte, Nat.reduceAdd, Nat.reduceMul, Nat.reduceEqDiff, Nat.reduceLeDiff, reduceCtorEq, Int.reduceToNat, encTr_eq]
  refine hK _ ?_; clear hK K
  cases ho : okT t with
  | false =>
    have eo : ofV t = .cst .nilIface := by rw [ofV, ho]; rfl
    have ea : rawsA t = ([], 1) := by rw [rawsA, ho]; simp
    rw [ho, eo] at O1
    refine AW.rT (by rfl) fun K hK => ?_
    simp -implicitDefEqProofs only [go_sem, ↓reduceIte, Nat.reduceAdd, Nat.reduceMul, Nat.reduceEqDiff, Nat.reduceLeDiff, reduceCtorEq, Int.reduceToNat]
    refine ⟨.pure _, O1, ?_⟩
    try simp -implicitDefEqProofs only [go_sem, ↓reduceIte, Nat.reduceAdd, Nat.reduceMul, Nat.reduceEqDiff, Nat.reduceLeDiff, reduceCtorEq, Int.reduceToNat]
    refine hK _ ?_; clear hK K
    refine AW.seq ?_
    refine AW.rT (by rfl) fun K hK => ?_
    simp -implicitDefEqProofs only [go_sem, ↓reduceIte, Nat.reduceAdd, Nat.reduceMul, Nat.reduceEqDiff, Nat.reduceLeDiff, reduceCtorEq, Int.reduceToNat]
    refine hK _ ?_; clear hK K
    refine AW.cond _ (by simp -implicitDefEqProofs only [go_sem, ↓reduceIte, Nat.reduceAdd, Nat.reduceMul, Nat.reduceEqDiff, Nat.reduceLeDiff, reduceCtorEq, Int.reduceToNat]; rfl) (fun hc => ?_) (fun hc => ?_)
    rotate_left
    · simp at hc
    refine AW.rT (by rfl) fun K hK => ?_
    simp -implicitDefEqProofs only [go_sem, ↓reduceIte, Nat.reduceAdd, Nat.reduceMul, Nat.reduceEqDiff, Nat.reduceLeDiff, reduceCtorEq, Int.reduceToNat]
    refine hK _ ?_; clear hK K
    refine AW.ret ?_
    simp -implicitDefEqProofs only [go_sem, ↓reduceIte, Nat.reduceAdd, Nat.reduceMul, Nat.reduceEqDiff, Nat.reduceLeDiff, reduceCtorEq, Int.reduceToNat, ea]
  | true =>
    have eo : ofV t = encV t := by rw [ofV, ho]; rfl
    have e1 := encV_one t
    rw [ho, eo] at O1
    refine AW.rT (by rfl) fun K hK => ?_
    simp -implicitDefEqProofs only [go_sem, ↓reduceIte, Nat.reduceAdd, Nat.reduceMul, Nat.reduceEqDiff, Nat.reduceLeDiff, reduceCtorEq, Int.reduceToNat]
    refine ⟨.pure _, O1, ?_⟩
    try simp -implicitDefEqProofs only [go_sem, ↓reduceIte, Nat.reduceAdd, Nat.reduceMul, Nat.reduceEqDiff, Nat.reduceLeDiff, reduceCtorEq, Int.reduceToNat]
    refine ⟨e1, ?_⟩
    refine hK _ ?_; clear hK K
    refine AW.seq ?_
    by_cases hk : t.kind = 3
    · have b1 : (t.kind != 3) = false := by simpa using hk
      have ea : rawsA t = rawsT t := by rw [rawsA, if_pos ⟨ho, hk⟩]
      have R := (enc_all t hlt (okT_right ho) hk).1
      have M := value_MustNode (ndV t)
      have eV : encIn (.node (ndV t)) = encV t := by rw [encV_eq, if_neg (by omega), if_neg (by omega)]; rfl
      rw [eV] at M
      refine AW.rT (by rfl) fun K hK => ?_
      simp -implicitDefEqProofs only [go_sem, ↓reduceIte, Nat.reduceAdd, Nat.reduceMul, Nat.reduceEqDiff, Nat.reduceLeDiff, reduceCtorEq, Int.reduceToNat, b1]
      refine hK _ ?_; clear hK K
      refine AW.cond _ (by simp -implicitDefEqProofs only [go_sem, ↓reduceIte, Nat.reduceAdd, Nat.reduceMul, Nat.reduceEqDiff, Nat.reduceLeDiff, reduceCtorEq, Int.reduceToNat]; rfl) (fun hc => ?_) (fun hc => ?_)
      · simp at hc
      refine AW.skip ?_
      simp only [andThen, inBlk, reduceCtorEq, ↓reduceIte, if_t, if_f]
      refine AW.rT (by rfl) fun K hK => ?_
      simp -implicitDefEqProofs only [go_sem, ↓reduceIte, Nat.reduceAdd, Nat.reduceMul, Nat.reduceEqDiff, Nat.reduceLeDiff, reduceCtorEq, Int.reduceToNat]
      refine ⟨.pure _, M, ?_⟩
      try simp -implicitDefEqProofs only [go_sem, ↓reduceIte, Nat.reduceAdd, Nat.reduceMul, Nat.reduceEqDiff, Nat.reduceLeDiff, reduceCtorEq, Int.reduceToNat]
      refine ⟨.pure _, R, ?_⟩
      try simp -implicitDefEqProofs only [go_sem, ↓reduceIte, Nat.reduceAdd, Nat.reduceMul, Nat.reduceEqDiff, Nat.reduceLeDiff, reduceCtorEq, Int.reduceToNat]
      refine hK _ ?_; clear hK K
      refine AW.ret ?_
      simp -implicitDefEqProofs only [go_sem, ↓reduceIte, Nat.reduceAdd, Nat.reduceMul, Nat.reduceEqDiff, Nat.reduceLeDiff, reduceCtorEq, Int.reduceToNat, ea]
    · have b1 : (t.kind != 3) = true := by simpa using hk
      have ea : rawsA t = ([], 1) := by rw [rawsA, if_neg (by simp [hk])]
      refine AW.rT (by rfl) fun K hK => ?_
      simp -implicitDefEqProofs only [go_sem, ↓reduceIte, Nat.reduceAdd, Nat.reduceMul, Nat.reduceEqDiff, Nat.reduceLeDiff, reduceCtorEq, Int.reduceToNat, b1]
      refine hK _ ?_; clear hK K
      refine AW.cond _ (by simp -implicitDefEqProofs only [go_sem, ↓reduceIte, Nat.reduceAdd, Nat.reduceMul, Nat.reduceEqDiff, Nat.reduceLeDiff, reduceCtorEq, Int.reduceToNat]; rfl) (fun hc => ?_) (fun hc => ?_)
      rotate_left
      · simp at hc
      refine AW.rT (by rfl) fun K hK => ?_
      simp -implicitDefEqProofs only [go_sem, ↓reduceIte, Nat.reduceAdd, Nat.reduceMul, Nat.reduceEqDiff, Nat.reduceLeDiff, reduceCtorEq, Int.reduceToNat]
      refine hK _ ?_; clear hK K
      refine AW.ret ?_
      simp -implicitDefEqProofs only [go_sem, ↓reduceIte, Nat.reduceAdd, Nat.reduceMul, Nat.reduceEqDiff, Nat.reduceLeDiff, reduceCtorEq, Int.reduceToNat, ea]
theorem enc_Encode (t : Tr) (hlt : lensT t = true) : PFn Try.prog 66 [.agg (encTr t)] (.tuple [.slice ((encA t).1.map encB), .int .i64 (encA t).2]) := by
  have R := enc_Raws t hlt
  have hl := rawsA_len t hlt
  rw [encTr_eq] at R
  have ee : encA t = if (rawsA t).2 ≠ 0 then ([], (rawsA t).2) else wirePut (rawsA t).1 := by
    unfold encA rawsA
    by_cases h : okT t = true ∧ t.kind = 3
    · rw [if_pos h, if_pos h]; rfl
    · rw [if_neg h, if_neg h]; simp
  refine PFn.of Try.func66 rfl (by decide) Try.ntmps66 Try.results66 (Nat.le_of_ble_eq_true rfl) ?_
  simp only [argsT]
  refine AW.rT (by rfl) fun K hK => ?_
  simp -implicitDefEqProofs only [go_sem, ↓reduceIte, Nat.reduceAdd, Nat.reduceMul, Nat.reduceEqDiff, Nat.reduceLeDiff, reduceCtorEq, Int.reduceToNat, encTr_eq]
  refine hK _ ?_; clear hK K
  refine AW.rT (by rfl) fun K hK => ?_
  simp -implicitDefEqProofs only [go_sem, ↓reduceIte, Nat.reduceAdd, Nat.reduceMul, Nat.reduceEqDiff, Nat.reduceLeDiff, reduceCtorEq, Int.reduceToNat]
  refine ⟨.pure _, R, ?_⟩
  try simp -implicitDefEqProofs only [go_sem, ↓reduceIte, Nat.reduceAdd, Nat.reduceMul, Nat.reduceEqDiff, Nat.reduceLeDiff, reduceCtorEq, Int.reduceToNat]
  refine hK _ ?_; clear hK K
  refine AW.seq ?_
  by_cases he : (rawsA t).2 = 0
  · have b : ((rawsA t).2 != 0) = false := by simp [he]
    rw [if_neg (by simpa using he)] at ee
    refine AW.rT (by rfl) fun K hK => ?_
    simp -implicitDefEqProofs only [go_sem, ↓reduceIte, Nat.reduceAdd, Nat.reduceMul, Nat.reduceEqDiff, Nat.reduceLeDiff, reduceCtorEq, Int.reduceToNat, b]
    refine hK _ ?_; clear hK K
    refine AW.cond _ (by simp -implicitDefEqProofs only [go_sem, ↓reduceIte, Nat.reduceAdd, Nat.reduceMul, Nat.reduceEqDiff, Nat.reduceLeDiff, reduceCtorEq, Int.reduceToNat]; rfl) (fun hc => ?_) (fun hc => ?_)
    · simp at hc
    refine AW.skip ?_
    simp only [andThen, inBlk, reduceCtorEq, ↓reduceIte, if_t, if_f]
    refine AW.rT (by rfl) fun K hK => ?_
    simp -implicitDefEqProofs only [go_sem, ↓reduceIte, Nat.reduceAdd, Nat.reduceMul, Nat.reduceEqDiff, Nat.reduceLeDiff, reduceCtorEq, Int.reduceToNat]
    refine ⟨.pure _, wire_PutAll (rawsA t).1 (by omega), ?_⟩
    try simp -implicitDefEqProofs only [go_sem, ↓reduceIte, Nat.reduceAdd, Nat.reduceMul, Nat.reduceEqDiff, Nat.reduceLeDiff, reduceCtorEq, Int.reduceToNat]
    refine hK _ ?_; clear hK K
    refine AW.ret ?_
    simp -implicitDefEqProofs only [go_sem, ↓reduceIte, Nat.reduceAdd, Nat.reduceMul, Nat.reduceEqDiff, Nat.reduceLeDiff, reduceCtorEq, Int.reduceToNat, ee]
  · have b : ((rawsA t).2 != 0) = true := by simp [he]
    rw [if_pos he] at ee
    refine AW.rT (by rfl) fun K hK => ?_
    simp -implicitDefEqProofs only [go_sem, ↓reduceIte, Nat.reduceAdd, Nat.reduceMul, Nat.reduceEqDiff, Nat.reduceLeDiff, reduceCtorEq, Int.reduceToNat, b]
    refine hK _ ?_; clear hK K
    refine AW.cond _ (by simp -implicitDefEqProofs only [go_sem, ↓reduceIte, Nat.reduceAdd, Nat.reduceMul, Nat.reduceEqDiff, Nat.reduceLeDiff, reduceCtorEq, Int.reduceToNat]; rfl) (fun hc => ?_) (fun hc => ?_)
    rotate_left
    · simp at hc
    refine AW.rT (by rfl) fun K hK => ?_
    simp -implicitDefEqProofs only [go_sem, ↓reduceIte, Nat.reduceAdd, Nat.reduceMul, Nat.reduceEqDiff, Nat.reduceLeDiff, reduceCtorEq, Int.reduceToNat]
    refine hK _ ?_; clear hK K
    refine AW.ret ?_
    simp -implicitDefEqProofs only [go_sem, ↓reduceIte, Nat.reduceAdd, Nat.reduceMul, Nat.reduceEqDiff, Nat.reduceLeDiff, reduceCtorEq, Int.reduceToNat, ee]
theorem enc_Len (t : Tr) (hlt : lensT t = true) : PFn Try.prog 70 [.agg (encTr t)] (.int .i64 ((encA t).1.length : Int)) := by
  have R := enc_Encode t hlt
  rw [encTr_eq] at R
  refine PFn.of Try.func70 rfl (by decide) Try.ntmps70 Try.results70 (Nat.le_of_ble_eq_true rfl) ?_
  simp only [argsT]
  refine AW.rT (by rfl) fun K hK => ?_
  simp -implicitDefEqProofs only [go_sem, ↓reduceIte, Nat.reduceAdd, Nat.reduceMul, Nat.reduceEqDiff, Nat.reduceLeDiff, reduceCtorEq, Int.reduceToNat, encTr_eq]
  refine hK _ ?_; clear hK K
  refine AW.rT (by rfl) fun K hK => ?_
  simp -implicitDefEqProofs only [go_sem, ↓reduceIte, Nat.reduceAdd, Nat.reduceMul, Nat.reduceEqDiff, Nat.reduceLeDiff, reduceCtorEq, Int.reduceToNat]
  refine ⟨.pure _, R, ?_⟩
  try simp -implicitDefEqProofs only [go_sem, ↓reduceIte, Nat.reduceAdd, Nat.reduceMul, Nat.reduceEqDiff, Nat.reduceLeDiff, reduceCtorEq, Int.reduceToNat]
  refine hK _ ?_; clear hK K
  refine AW.rT (by rfl) fun K hK => ?_
  simp -implicitDefEqProofs only [go_sem, ↓reduceIte, Nat.reduceAdd, Nat.reduceMul, Nat.reduceEqDiff, Nat.reduceLeDiff, reduceCtorEq, Int.reduceToNat, List.length_map]
  refine hK _ ?_; clear hK K
  refine AW.ret ?_
  simp -implicitDefEqProofs only [go_sem, ↓reduceIte, Nat.reduceAdd, Nat.reduceMul, Nat.reduceEqDiff, Nat.reduceLeDiff, reduceCtorEq, Int.reduceToNat]
end Go.Aw
