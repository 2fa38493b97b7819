/- The law ValueSame. -/
import Derived.Test.YtmeplhcfjihafaaAwTP
namespace Go.Aw
open Go.Proofs Go.RowKit
set_option linter.unusedSimpArgs false
set_option linter.unusedVariables false
theorem rowE_full {t : Tr} {a : Nat} {e : Int × List Tr} (h : t.ents[a]? = some e) : liftE ((t.ents.take a).map encEn) ++ [.p (.int .i64 e.1), .p (.slice (e.2.map encTr))] :: liftE (((t.ents.take t.ents.length).drop (a + 1)).map encEn) = liftE (t.ents.map encEn) := by
  obtain ⟨hl, he⟩ := List.getElem?_eq_some_iff.1 h
  have e1 : t.ents = t.ents.take a ++ e :: t.ents.drop (a + 1) := by
    conv => lhs; rw [← List.take_append_drop a t.ents, List.drop_eq_getElem_cons hl, he]
  rw [List.take_length]
  conv => rhs; rw [e1]
  rw [List.map_append, List.map_cons, liftE_append, liftE_cons]
  rfl
theorem rowE_by {p : Nat → Bool} (t : Tr) (a : Nat) (g : Int) (l i : Nat) (h : p l = true) : (Blk.row 2 (rowE t a g l i)).labsBy p = true := by
  have h1 := labsBy_lift (p := p) (sz := 2) (es := (t.ents.take i).map encEn)
  have h2 := labsBy_lift (p := p) (sz := 2) (es := (t.ents.take a).map encEn)
  have h3 := labsBy_lift (p := p) (sz := 2) (es := ((t.ents.take i).drop (a + 1)).map encEn)
  unfold rowE
  split
  · exact h1
  · simp only [Blk.labsBy] at h2 h3 ⊢
    rw [List.all_append, List.all_cons, h2, h3]
    simp [labsByL, AV.labsBy, h]
def vsE (t : Tr) (a : Nat) (e : Int × List Tr) : List (List AV) := liftE ((t.ents.take a).map encEn) ++ [.p (.int .i64 e.1), .p (.slice (e.2.map encTr))] :: liftE (((t.ents.take t.ents.length).drop (a + 1)).map encEn)
theorem vsE_eq {t : Tr} {a : Nat} {e : Int × List Tr} (h : t.ents[a]? = some e) : vsE t a e = liftE (t.ents.map encEn) := rowE_full h
theorem rowE_shut {t : Tr} {a : Nat} {e : Int × List Tr} {l : Nat} (h : a < t.ents.length) : (rowE t a e.1 l t.ents.length).map (fun x => x.map (thaw1 l (e.2.map encTr))) = vsE t a e := by
  unfold rowE vsE
  rw [if_neg (by omega), List.map_append, List.map_cons, thaw_lift, thaw_lift]
  simp [thaw1]
theorem lift_lens (l : List Tr) : (liftE (l.map encTr)).length = l.length := by rw [liftE_length, List.length_map]
theorem rowE_setL {t : Tr} {a : Nat} {g g' : Int} {l l' : Nat} (h : a < t.ents.length) : (rowE t a g l t.ents.length).set a [.p (.int .i64 g'), .own l'] = rowE t a g' l' t.ents.length := by
  unfold rowE
  rw [if_neg (by omega), if_neg (by omega)]
  have hl : (liftE ((t.ents.take a).map encEn)).length = a := by rw [liftE_length, List.length_map, List.length_take]; omega
  rw [List.set_append_right a _ (by omega), hl, Nat.sub_self, List.set_cons_zero]
theorem unlift_app : ∀ {a b : List (List AV)} {p q : List (List PV)}, unlift a = some p → unlift b = some q → unlift (a ++ b) = some (p ++ q)
  | [], b, p, q, h1, h2 => by
    rw [unlift] at h1
    injection h1 with h1
    subst h1
    exact h2
  | e :: a, b, p, q, h1, h2 => by
    rw [unlift] at h1
    split at h1
    · rename_i x l h3 h4
      injection h1 with h1
      subst h1
      rw [List.cons_append, unlift, h3, unlift_app h4 h2]
      rfl
    · cases h1
def vsS (t : Tr) (a : Nat) (e : Int × List Tr) (m : List (Nat × AV)) : St := ⟨ofL ((3, .ptr 0 0 0) :: (7, .ptr 1 0 0) :: m), ofH [(0, .row 5 [cellsT t]), (1, .row 5 [[.p (.int .i64 t.kind), .p (.int .i64 t.n), .p (.str t.s), .own 2, .own 3]]), (2, .row 2 (rowE t a e.1 4 t.ents.length)), (3, .row 4 (liftE (t.rest.map encRaw))), (4, .row 5 (liftE (e.2.map encTr)))], 5⟩
set_option maxRecDepth 100000 in
set_option maxHeartbeats 8000000 in
theorem law09_ValueSame (t : Tr) (v q : Int) (hv : i64ok v) (hq : i64ok q) : PFn Try.prog 10 [.agg (encTr t), .int .i64 v, .int .i64 q] (.bool true) := by
  refine PFn.of Try.func10 rfl (by decide) Try.ntmps10 Try.results10 (Nat.le_of_ble_eq_true rfl) ?_
  simp only [argsT, encTr_eq]
  have SM := law00_Small t
  rw [encTr_eq] at SM
  refine AW.rT (by rfl) fun K hK => ?_
  simp -implicitDefEqProofs only [go_sem, ↓reduceIte, Nat.reduceAdd, Nat.reduceMul, Nat.reduceEqDiff, Nat.reduceLeDiff, reduceCtorEq, Int.reduceToNat]
  refine hK _ ?_; clear hK K
  refine AW.seq ?_
  cases hs : smallB t with
  | false =>
    rw [hs] at SM
    refine AW.rT (by rfl) fun K hK => ?_
    simp -implicitDefEqProofs only [go_sem, ↓reduceIte, Nat.reduceAdd, Nat.reduceMul, Nat.reduceEqDiff, Nat.reduceLeDiff, reduceCtorEq, Int.reduceToNat]
    refine ⟨.pure _, SM, ?_⟩
    try simp -implicitDefEqProofs only [go_sem, ↓reduceIte, Nat.reduceAdd, Nat.reduceMul, Nat.reduceEqDiff, Nat.reduceLeDiff, reduceCtorEq, Int.reduceToNat]
    refine hK _ ?_; clear hK K
    refine AW.cond _ (by simp -implicitDefEqProofs only [go_sem, ↓reduceIte, Nat.reduceAdd, Nat.reduceMul, Nat.reduceEqDiff, Nat.reduceLeDiff, reduceCtorEq, Int.reduceToNat]; rfl) (fun hc => ?_) (fun hc => ?_)
    rotate_left
    · simp at hc
    refine AW.rT (by rfl) fun K hK => ?_
    simp -implicitDefEqProofs only [go_sem, ↓reduceIte, Nat.reduceAdd, Nat.reduceMul, Nat.reduceEqDiff, Nat.reduceLeDiff, reduceCtorEq, Int.reduceToNat]
    refine ⟨.pure _, law09_awake, ?_⟩
    try simp -implicitDefEqProofs only [go_sem, ↓reduceIte, Nat.reduceAdd, Nat.reduceMul, Nat.reduceEqDiff, Nat.reduceLeDiff, reduceCtorEq, Int.reduceToNat]
    refine hK _ ?_; clear hK K
    refine AW.ret ?_
    simp -implicitDefEqProofs only [go_sem, ↓reduceIte, Nat.reduceAdd, Nat.reduceMul, Nat.reduceEqDiff, Nat.reduceLeDiff, reduceCtorEq, Int.reduceToNat]
  | true =>
  rw [hs] at SM
  by_cases hk : t.kind = 3
  case neg =>
    have k1 : (t.kind != 3) = true := by simp [hk]
    refine AW.rT (by rfl) fun K hK => ?_
    simp -implicitDefEqProofs only [go_sem, ↓reduceIte, Nat.reduceAdd, Nat.reduceMul, Nat.reduceEqDiff, Nat.reduceLeDiff, reduceCtorEq, Int.reduceToNat]
    refine ⟨.pure _, SM, ?_⟩
    try simp -implicitDefEqProofs only [go_sem, ↓reduceIte, Nat.reduceAdd, Nat.reduceMul, Nat.reduceEqDiff, Nat.reduceLeDiff, reduceCtorEq, Int.reduceToNat, k1]
    refine hK _ ?_; clear hK K
    refine AW.cond _ (by simp -implicitDefEqProofs only [go_sem, ↓reduceIte, Nat.reduceAdd, Nat.reduceMul, Nat.reduceEqDiff, Nat.reduceLeDiff, reduceCtorEq, Int.reduceToNat]; rfl) (fun hc => ?_) (fun hc => ?_)
    rotate_left
    · simp at hc
    refine AW.rT (by rfl) fun K hK => ?_
    simp -implicitDefEqProofs only [go_sem, ↓reduceIte, Nat.reduceAdd, Nat.reduceMul, Nat.reduceEqDiff, Nat.reduceLeDiff, reduceCtorEq, Int.reduceToNat]
    refine ⟨.pure _, law09_awake, ?_⟩
    try simp -implicitDefEqProofs only [go_sem, ↓reduceIte, Nat.reduceAdd, Nat.reduceMul, Nat.reduceEqDiff, Nat.reduceLeDiff, reduceCtorEq, Int.reduceToNat]
    refine hK _ ?_; clear hK K
    refine AW.ret ?_
    simp -implicitDefEqProofs only [go_sem, ↓reduceIte, Nat.reduceAdd, Nat.reduceMul, Nat.reduceEqDiff, Nat.reduceLeDiff, reduceCtorEq, Int.reduceToNat]
  have k1 : (t.kind != 3) = false := by simp [hk]
  by_cases h0 : t.ents.length = 0
  · have k2 : ((t.ents.length : Int) == 0) = true := by rw [beq_iff_eq]; omega
    refine AW.rT (by rfl) fun K hK => ?_
    simp -implicitDefEqProofs only [go_sem, ↓reduceIte, Nat.reduceAdd, Nat.reduceMul, Nat.reduceEqDiff, Nat.reduceLeDiff, reduceCtorEq, Int.reduceToNat]
    refine ⟨.pure _, SM, ?_⟩
    try simp -implicitDefEqProofs only [go_sem, ↓reduceIte, Nat.reduceAdd, Nat.reduceMul, Nat.reduceEqDiff, Nat.reduceLeDiff, reduceCtorEq, Int.reduceToNat, k1, k2, List.length_map]
    refine hK _ ?_; clear hK K
    refine AW.cond _ (by simp -implicitDefEqProofs only [go_sem, ↓reduceIte, Nat.reduceAdd, Nat.reduceMul, Nat.reduceEqDiff, Nat.reduceLeDiff, reduceCtorEq, Int.reduceToNat]; rfl) (fun hc => ?_) (fun hc => ?_)
    rotate_left
    · simp at hc
    refine AW.rT (by rfl) fun K hK => ?_
    simp -implicitDefEqProofs only [go_sem, ↓reduceIte, Nat.reduceAdd, Nat.reduceMul, Nat.reduceEqDiff, Nat.reduceLeDiff, reduceCtorEq, Int.reduceToNat]
    refine ⟨.pure _, law09_awake, ?_⟩
    try simp -implicitDefEqProofs only [go_sem, ↓reduceIte, Nat.reduceAdd, Nat.reduceMul, Nat.reduceEqDiff, Nat.reduceLeDiff, reduceCtorEq, Int.reduceToNat]
    refine hK _ ?_; clear hK K
    refine AW.ret ?_
    simp -implicitDefEqProofs only [go_sem, ↓reduceIte, Nat.reduceAdd, Nat.reduceMul, Nat.reduceEqDiff, Nat.reduceLeDiff, reduceCtorEq, Int.reduceToNat]
  have k2 : ((t.ents.length : Int) == 0) = false := beq_eq_false_iff_ne.2 (by omega)
  refine AW.rT (by rfl) fun K hK => ?_
  simp -implicitDefEqProofs only [go_sem, ↓reduceIte, Nat.reduceAdd, Nat.reduceMul, Nat.reduceEqDiff, Nat.reduceLeDiff, reduceCtorEq, Int.reduceToNat]
  refine ⟨.pure _, SM, ?_⟩
  try simp -implicitDefEqProofs only [go_sem, ↓reduceIte, Nat.reduceAdd, Nat.reduceMul, Nat.reduceEqDiff, Nat.reduceLeDiff, reduceCtorEq, Int.reduceToNat, k1, k2, List.length_map]
  refine hK _ ?_; clear hK K
  refine AW.cond _ (by simp -implicitDefEqProofs only [go_sem, ↓reduceIte, Nat.reduceAdd, Nat.reduceMul, Nat.reduceEqDiff, Nat.reduceLeDiff, reduceCtorEq, Int.reduceToNat]; rfl) (fun hc => ?_) (fun hc => ?_)
  · simp at hc
  refine AW.skip ?_
  simp only [andThen, inBlk, reduceCtorEq, ↓reduceIte, if_t, if_f]
  have hl : lensT t = true := lens_small t 0 0 hs
  obtain ⟨la1, la2, la3⟩ := lensT_mk hl
  have hn : (0 : Int) < (t.ents.length : Int) := by omega
  have PL := law00_Place v (t.ents.length : Int) hv hn (i64ok_iff.2 (by constructor <;> omega))
  have hpr : 0 ≤ place v (t.ents.length : Int) ∧ place v (t.ents.length : Int) < (t.ents.length : Int) := by
    unfold place
    have h1 := Int.tmod_lt_of_pos v hn
    have h2 := Int.lt_tmod_of_pos v hn
    simp only
    split <;> omega
  obtain ⟨a, ha⟩ : ∃ a : Nat, place v (t.ents.length : Int) = (a : Int) := ⟨(place v (t.ents.length : Int)).toNat, by omega⟩
  rw [ha] at PL hpr
  have hal : a < t.ents.length := by omega
  obtain ⟨e, he⟩ : ∃ e, t.ents[a]? = some e := ⟨_, List.getElem?_eq_getElem hal⟩
  obtain ⟨le1, le2⟩ := lensE_at la3 he
  have TA := law00_TreeA t hl a e he
  rw [encTr_eq] at TA
  have T1 := law00_Tree t hl
  have S1 := value_Same t t hl
  have S2 := ref09_Same t t hl
  rw [(sameT_iff t t).2 rfl] at S1 S2
  rw [encTr_eq] at T1 S1 S2
  refine AW.rR (SeqR.ev 1 (by rfl) (by decide) ?_)
  simp -implicitDefEqProofs only [go_sem, ↓reduceIte, Nat.reduceAdd, Nat.reduceMul, Nat.reduceEqDiff, Nat.reduceLeDiff, reduceCtorEq, Int.reduceToNat]
  refine SeqR.call (fun k => k) rfl rfl TA ⟨?_, rfl, (fun x hx => by cases hx), rfl, rfl, rfl, rfl, rfl, ?_⟩ ?_
  · simp -implicitDefEqProofs only [go_sem, ↓reduceIte, Nat.reduceAdd, Nat.reduceMul, Nat.reduceEqDiff, Nat.reduceLeDiff, reduceCtorEq, Int.reduceToNat, argD]
  · have h1 := labsBy_lift (p := fun l => ([] : List Nat).contains l || decide (0 ≤ l)) (sz := 4) (es := t.rest.map encRaw)
    have h2 := labsBy_lift (p := fun l => ([] : List Nat).contains l || decide (0 ≤ l)) (sz := 5) (es := e.2.map encTr)
    have h3 := rowE_by (p := fun l => ([] : List Nat).contains l || decide (0 ≤ l)) t a e.1 2 t.ents.length rfl
    simp only [List.all_cons, List.all_nil, h1, h2, h3]
    rfl
  refine SeqR.ev 2 (by rfl) (by decide) ?_
  simp -implicitDefEqProofs only [go_sem, ↓reduceIte, Nat.reduceAdd, Nat.reduceMul, Nat.reduceEqDiff, Nat.reduceLeDiff, reduceCtorEq, Int.reduceToNat]
  refine SeqR.last rfl ?_
  refine AW.ghost (s' := vsS t a e [(1, .p (.int .i64 v)), (2, .p (.int .i64 q))]) ?_ ?_
  · simp only [vsS, cellsT]
    refine Ghost.ent (fun l => if l = 1 then 20 else if l = 2 then 17 else if l = 3 then 18 else if l = 4 then 19 else l) ?_ ?_ ?_ <;> simp -implicitDefEqProofs only [go_sem, ↓reduceIte, Nat.reduceAdd, Nat.reduceMul, Nat.reduceEqDiff, Nat.reduceLeDiff, reduceCtorEq, Int.reduceToNat, lift2, goneU, newU, Nat.reduceSub, rowE_ren, rowE_labs t a e.1 4 t.ents.length 5 (by decide), List.forall_mem_cons, List.not_mem_nil, false_implies, implies_true, and_self, map_renL_lift, labsIn_lift, List.all_append, List.all_cons, List.all_nil, List.map_append, Nat.reduceLT, labsInL, AV.labsIn]
    all_goals first | rfl | decide | skip
  have rl := rowE_len t a e.1 4 t.ents.length (Nat.le_refl _)
  have ra := rowE_at (g := e.1) (l := 4) hal
  have u2 : unlift (vsE t a e) = some (t.ents.map encEn) := by unfold vsE; rw [rowE_full he]; exact unlift_liftE _
  simp only [vsS, cellsT]
  refine AW.seq ?_
  refine AW.rR (SeqR.ev 2 (by rfl) (by decide) ?_)
  simp -implicitDefEqProofs only [go_sem, ↓reduceIte, Nat.reduceAdd, Nat.reduceMul, Nat.reduceEqDiff, Nat.reduceLeDiff, reduceCtorEq, Int.reduceToNat]
  refine SeqR.ghost (s' := vsS t a e [(1, .p (.int .i64 v)), (2, .p (.int .i64 q)), (26, .p (.agg [.int .i64 t.kind, .int .i64 t.n, .str t.s, .slice (t.ents.map encEn), .slice (t.rest.map encRaw)])), (27, .agg [.p (.int .i64 t.kind), .p (.int .i64 t.n), .p (.str t.s), .own 2, .own 3])]) ?_ ?_
  · simp only [vsS, cellsT]
    refine Ghost.sub ?_ ?_ <;> simp -implicitDefEqProofs only [go_sem, ↓reduceIte, Nat.reduceAdd, Nat.reduceMul, Nat.reduceEqDiff, Nat.reduceLeDiff, reduceCtorEq, Int.reduceToNat, rowE_labs t a e.1 4 t.ents.length 5 (by decide), List.forall_mem_cons, List.not_mem_nil, false_implies, implies_true, and_self, labsIn_lift, List.all_append, List.all_cons, List.all_nil, Nat.reduceLT, labsInL, AV.labsIn]
    done
  simp only [vsS, cellsT]
  refine SeqR.look (s0 := ⟨ofL [(26, .p (.agg [.int .i64 t.kind, .int .i64 t.n, .str t.s, .slice (t.ents.map encEn), .slice (t.rest.map encRaw)])), (27, .p (.agg [.int .i64 t.kind, .int .i64 t.n, .str t.s, .slice (t.ents.map encEn), .slice (t.rest.map encRaw)]))], ofH [], 5⟩) (Ghost.trans (Ghost.freeze (lb := 4) (sz := 5) (ps := e.2.map encTr) rfl (unlift_liftE _)) (Ghost.trans (s' := ⟨ofL [(26, .p (.agg [.int .i64 t.kind, .int .i64 t.n, .str t.s, .slice (t.ents.map encEn), .slice (t.rest.map encRaw)])), (27, .agg [.p (.int .i64 t.kind), .p (.int .i64 t.n), .p (.str t.s), .own 2, .own 3])], ofH [(2, .row 2 (vsE t a e)), (3, .row 4 (liftE (t.rest.map encRaw)))], 5⟩) ?_ (Ghost.trans (Ghost.freeze (lb := 3) (sz := 4) (ps := t.rest.map encRaw) rfl (unlift_liftE _)) (Ghost.trans (s' := ⟨ofL [(26, .p (.agg [.int .i64 t.kind, .int .i64 t.n, .str t.s, .slice (t.ents.map encEn), .slice (t.rest.map encRaw)])), (27, .agg [.p (.int .i64 t.kind), .p (.int .i64 t.n), .p (.str t.s), .own 2, .p (.slice (t.rest.map encRaw))])], ofH [(2, .row 2 (vsE t a e))], 5⟩) ?_ (Ghost.trans (Ghost.freeze (lb := 2) (sz := 2) (ps := t.ents.map encEn) rfl u2) ?_))))) rfl rfl rfl ?_ S1 rfl ?_
  · refine Ghost.sub ?_ ?_ <;> simp -implicitDefEqProofs only [go_sem, ↓reduceIte, Nat.reduceAdd, Nat.reduceMul, Nat.reduceEqDiff, Nat.reduceLeDiff, reduceCtorEq, Int.reduceToNat, thaw, thaw1, mkAgg, allP, Option.map_some, List.map_cons, List.map_nil, thaw_lift, rowE_shut hal, vsE_eq he, List.forall_mem_cons, List.not_mem_nil, false_implies, implies_true, and_self, labsIn_lift, List.all_append, List.all_cons, List.all_nil, Nat.reduceLT, labsInL, AV.labsIn]
    done
  · refine Ghost.sub ?_ ?_ <;> simp -implicitDefEqProofs only [go_sem, ↓reduceIte, Nat.reduceAdd, Nat.reduceMul, Nat.reduceEqDiff, Nat.reduceLeDiff, reduceCtorEq, Int.reduceToNat, thaw, thaw1, mkAgg, allP, Option.map_some, List.map_cons, List.map_nil, thaw_lift, vsE_eq he, List.forall_mem_cons, List.not_mem_nil, false_implies, implies_true, and_self, labsIn_lift, List.all_append, List.all_cons, List.all_nil, Nat.reduceLT, labsInL, AV.labsIn]
    done
  · refine Ghost.sub ?_ ?_ <;> simp -implicitDefEqProofs only [go_sem, ↓reduceIte, Nat.reduceAdd, Nat.reduceMul, Nat.reduceEqDiff, Nat.reduceLeDiff, reduceCtorEq, Int.reduceToNat, thaw, thaw1, mkAgg, allP, Option.map_some, List.map_cons, List.map_nil, thaw_lift, List.forall_mem_cons, List.not_mem_nil, false_implies, implies_true, and_self, labsIn_lift, List.all_append, List.all_cons, List.all_nil, Nat.reduceLT, labsInL, AV.labsIn]
    done
  · simp -implicitDefEqProofs only [go_sem, ↓reduceIte, Nat.reduceAdd, Nat.reduceMul, Nat.reduceEqDiff, Nat.reduceLeDiff, reduceCtorEq, Int.reduceToNat, List.map_cons, List.map_nil]
    done
  refine SeqR.ev 1 (by rfl) (by decide) ?_
  simp -implicitDefEqProofs only [go_sem, ↓reduceIte, Nat.reduceAdd, Nat.reduceMul, Nat.reduceEqDiff, Nat.reduceLeDiff, reduceCtorEq, Int.reduceToNat]
  refine SeqR.last rfl ?_
  refine AW.cond _ (by simp -implicitDefEqProofs only [go_sem, ↓reduceIte, Nat.reduceAdd, Nat.reduceMul, Nat.reduceEqDiff, Nat.reduceLeDiff, reduceCtorEq, Int.reduceToNat]; rfl) (fun hc => ?_) (fun hc => ?_)
  · simp at hc
  refine AW.skip ?_
  simp only [andThen, inBlk, reduceCtorEq, ↓reduceIte, if_t, if_f]
  refine AW.dT mixed (by rfl) (by decide +kernel) fun K hK => ?_
  simp -implicitDefEqProofs only [go_sem, ↓reduceIte, Nat.reduceAdd, Nat.reduceMul, Nat.reduceEqDiff, Nat.reduceLeDiff, reduceCtorEq, Int.reduceToNat, rl]
  refine ⟨.pure _, PL, ?_⟩
  try simp -implicitDefEqProofs only [go_sem, ↓reduceIte, Nat.reduceAdd, Nat.reduceMul, Nat.reduceEqDiff, Nat.reduceLeDiff, reduceCtorEq, Int.reduceToNat, rl, List.length_map]
  refine ⟨hpr, ?_⟩
  try simp -implicitDefEqProofs only [go_sem, ↓reduceIte, Nat.reduceAdd, Nat.reduceMul, Nat.reduceEqDiff, Nat.reduceLeDiff, reduceCtorEq, Int.reduceToNat]
  refine ⟨by decide +kernel, ?_⟩
  refine hK _ ?_; clear hK K
  have PQ := law00_Place q 4 hq (by decide) (i64ok_iff.2 (by decide))
  have hq4 : 0 ≤ place q 4 ∧ place q 4 < 4 := by
    unfold place
    have h1 := Int.tmod_lt_of_pos q (show (0 : Int) < 4 by decide)
    have h2 := Int.lt_tmod_of_pos q (show (0 : Int) < 4 by decide)
    simp only
    split <;> omega
  generalize place q 4 = h at *
  obtain ⟨sm1, sm2⟩ := small_top hs
  have sme := sm2 e (List.mem_of_getElem? he)
  have el := lift_lens e.2
  have rlen : (liftE (t.rest.map encRaw)).length = t.rest.length := by rw [liftE_length, List.length_map]
  refine AW.cut (fun u : Tr => vsZ t u) (fun u => u ≠ t ∧ lensT u = true) ?_ fun u hu => ?_
  rotate_left
  · obtain ⟨hu1, hu2⟩ := hu
    have S3 := value_Same t u hl
    have S4 := value_Same u t hu2
    have b3 : sameT t u = false := by rw [Bool.eq_false_iff, Ne, sameT_iff]; exact fun h => hu1 h.symm
    have b4 : sameT u t = false := by rw [Bool.eq_false_iff, Ne, sameT_iff]; exact hu1
    rw [b3] at S3
    rw [b4] at S4
    rw [encTr_eq, encTr_eq] at S3 S4
    simp only [vsZ, cellsT]
    refine AW.dT mixed (by rfl) (by decide +kernel) fun K hK => ?_
    simp -implicitDefEqProofs only [go_sem, ↓reduceIte, Nat.reduceAdd, Nat.reduceMul, Nat.reduceEqDiff, Nat.reduceLeDiff, reduceCtorEq, Int.reduceToNat]
    refine ⟨.pure _, S3, ?_⟩
    try simp -implicitDefEqProofs only [go_sem, ↓reduceIte, Nat.reduceAdd, Nat.reduceMul, Nat.reduceEqDiff, Nat.reduceLeDiff, reduceCtorEq, Int.reduceToNat]
    refine ⟨.pure _, S4, ?_⟩
    try simp -implicitDefEqProofs only [go_sem, ↓reduceIte, Nat.reduceAdd, Nat.reduceMul, Nat.reduceEqDiff, Nat.reduceLeDiff, reduceCtorEq, Int.reduceToNat]
    refine ⟨.pure _, T1, ?_⟩
    try simp -implicitDefEqProofs only [go_sem, ↓reduceIte, Nat.reduceAdd, Nat.reduceMul, Nat.reduceEqDiff, Nat.reduceLeDiff, reduceCtorEq, Int.reduceToNat]
    refine ⟨.pure _, S2, ?_⟩
    try simp -implicitDefEqProofs only [go_sem, ↓reduceIte, Nat.reduceAdd, Nat.reduceMul, Nat.reduceEqDiff, Nat.reduceLeDiff, reduceCtorEq, Int.reduceToNat]
    refine ⟨.pure _, law09_awake, ?_⟩
    try simp -implicitDefEqProofs only [go_sem, ↓reduceIte, Nat.reduceAdd, Nat.reduceMul, Nat.reduceEqDiff, Nat.reduceLeDiff, reduceCtorEq, Int.reduceToNat]
    refine ⟨by decide +kernel, ?_⟩
    refine hK _ ?_; clear hK K
    refine AW.ret ?_
    simp -implicitDefEqProofs only [go_sem, ↓reduceIte, Nat.reduceAdd, Nat.reduceMul, Nat.reduceEqDiff, Nat.reduceLeDiff, reduceCtorEq, Int.reduceToNat]
  refine AW.rT (by rfl) fun K hK => ?_
  simp -implicitDefEqProofs only [go_sem, ↓reduceIte, Nat.reduceAdd, Nat.reduceMul, Nat.reduceEqDiff, Nat.reduceLeDiff, reduceCtorEq, Int.reduceToNat]
  refine ⟨.pure _, PQ, ?_⟩
  try simp -implicitDefEqProofs only [go_sem, ↓reduceIte, Nat.reduceAdd, Nat.reduceMul, Nat.reduceEqDiff, Nat.reduceLeDiff, reduceCtorEq, Int.reduceToNat]
  refine hK _ ?_; clear hK K
  refine AW.block ?_
  have hh : h = 0 ∨ h = 1 ∨ h = 2 ∨ h = 3 := by omega
  rcases hh with rfl | rfl | rfl | rfl
  · have d0 : ((0 : Int) == 0) = true := rfl
    refine AW.rT (by rfl) fun K hK => ?_
    simp -implicitDefEqProofs only [go_sem, ↓reduceIte, Nat.reduceAdd, Nat.reduceMul, Nat.reduceEqDiff, Nat.reduceLeDiff, reduceCtorEq, Int.reduceToNat, d0]
    refine hK _ ?_; clear hK K
    refine AW.cond _ (by simp -implicitDefEqProofs only [go_sem, ↓reduceIte, Nat.reduceAdd, Nat.reduceMul, Nat.reduceEqDiff, Nat.reduceLeDiff, reduceCtorEq, Int.reduceToNat]; rfl) (fun hc => ?_) (fun hc => ?_)
    rotate_left
    · simp at hc
    refine AW.rE (by rfl) fun K hK => ?_
    simp -implicitDefEqProofs only [go_sem, ↓reduceIte, Nat.reduceAdd, Nat.reduceMul, Nat.reduceEqDiff, Nat.reduceLeDiff, reduceCtorEq, Int.reduceToNat, ra, rl]
    refine hK _ ?_; clear hK K
    simp only [andThen, inBlk, reduceCtorEq, ↓reduceIte, if_t, if_f]
    refine ⟨.mk t.kind t.n t.s (t.ents.set a (xorI .i64 e.1 1, e.2)) t.rest, ⟨fun hx => ?_, lens_set hl le1 le2 la1⟩, ?_⟩
    · have hx := congrArg Tr.ents hx
      have hx : t.ents.set a (xorI .i64 e.1 1, e.2) = t.ents := hx
      have h1 : (t.ents.set a (xorI .i64 e.1 1, e.2))[a]? = some (xorI .i64 e.1 1, e.2) := by rw [List.getElem?_set_self hal]
      rw [hx, he] at h1
      injection h1 with h1
      exact xor1_ne e.1 (congrArg Prod.fst h1).symm
    · refine Ghost.trans (s' := vsG t a (xorI .i64 e.1 1) (liftE (t.rest.map encRaw)) (liftE (e.2.map encTr))) ?_ (vs_shut hal (unlift_liftE _) (unlift_liftE _) (fun lb qs => thaw_lift _ _ _) (labsIn_lift _ _))
      simp only [vsG, cellsT]
      refine Ghost.sub ?_ ?_ <;> simp -implicitDefEqProofs only [go_sem, ↓reduceIte, Nat.reduceAdd, Nat.reduceMul, Nat.reduceEqDiff, Nat.reduceLeDiff, reduceCtorEq, Int.reduceToNat, rowE_set hal, rowE_labs t a (xorI .i64 e.1 1) 4 t.ents.length 5 (by decide), List.forall_mem_cons, List.not_mem_nil, false_implies, implies_true, and_self, labsIn_lift, List.all_append, List.all_cons, List.all_nil, Nat.reduceLT, labsInL, AV.labsIn]
      done
  · have d0 : ((1 : Int) == 0) = false := rfl
    have d1 : ((1 : Int) == 1) = true := rfl
    refine AW.rT (by rfl) fun K hK => ?_
    simp -implicitDefEqProofs only [go_sem, ↓reduceIte, Nat.reduceAdd, Nat.reduceMul, Nat.reduceEqDiff, Nat.reduceLeDiff, reduceCtorEq, Int.reduceToNat, d0]
    refine hK _ ?_; clear hK K
    refine AW.cond _ (by simp -implicitDefEqProofs only [go_sem, ↓reduceIte, Nat.reduceAdd, Nat.reduceMul, Nat.reduceEqDiff, Nat.reduceLeDiff, reduceCtorEq, Int.reduceToNat]; rfl) (fun hc => ?_) (fun hc => ?_)
    · simp at hc
    refine AW.rT (by rfl) fun K hK => ?_
    simp -implicitDefEqProofs only [go_sem, ↓reduceIte, Nat.reduceAdd, Nat.reduceMul, Nat.reduceEqDiff, Nat.reduceLeDiff, reduceCtorEq, Int.reduceToNat, d1]
    refine hK _ ?_; clear hK K
    refine AW.cond _ (by simp -implicitDefEqProofs only [go_sem, ↓reduceIte, Nat.reduceAdd, Nat.reduceMul, Nat.reduceEqDiff, Nat.reduceLeDiff, reduceCtorEq, Int.reduceToNat]; rfl) (fun hc => ?_) (fun hc => ?_)
    rotate_left
    · simp at hc
    refine AW.rE (by rfl) fun K hK => ?_
    simp -implicitDefEqProofs only [go_sem, ↓reduceIte, Nat.reduceAdd, Nat.reduceMul, Nat.reduceEqDiff, Nat.reduceLeDiff, reduceCtorEq, Int.reduceToNat, ra, rl]
    refine ⟨⟨by simp, by simp [oneAll, AV.one, PV.one], by simp⟩, by rw [el]; omega, ?_⟩
    try simp -implicitDefEqProofs only [go_sem, ↓reduceIte, Nat.reduceAdd, Nat.reduceMul, Nat.reduceEqDiff, Nat.reduceLeDiff, reduceCtorEq, Int.reduceToNat, ra, rl]
    refine hK _ ?_; clear hK K
    simp only [andThen, inBlk, reduceCtorEq, ↓reduceIte, if_t, if_f]
    refine ⟨.mk t.kind t.n t.s (t.ents.set a (e.1, e.2 ++ [.mk 1 0 [] [] []])) t.rest, ⟨fun hx => ?_, lens_set hl (by rw [List.length_append]; simp; omega) (lensTs_iff.2 fun x hx => ?_) la1⟩, ?_⟩
    · have hx := congrArg Tr.ents hx
      have hx : t.ents.set a (e.1, e.2 ++ [.mk 1 0 [] [] []]) = t.ents := hx
      have h1 : (t.ents.set a (e.1, e.2 ++ [Tr.mk 1 0 [] [] []]))[a]? = some (e.1, e.2 ++ [Tr.mk 1 0 [] [] []]) := by rw [List.getElem?_set_self hal]
      rw [hx, he] at h1
      injection h1 with h1
      have := congrArg (fun x => x.2.length) h1
      simp at this
    · rcases List.mem_append.1 hx with hx | hx
      · exact lensTs_iff.1 le2 x hx
      · rw [List.mem_singleton.1 hx]; rfl
    · have u4 : unlift (liftE (e.2.map encTr) ++ [[AV.p (.int .i64 1), .p (.int .i64 0), .p (.str []), .ex [], .ex []]]) = some ((e.2 ++ [Tr.mk 1 0 [] [] []]).map encTr) := by
        rw [List.map_append]
        exact unlift_app (unlift_liftE _) (by simp [unlift, pureL, pure1, encTr_eq, Tr.kind, Tr.n, Tr.s, Tr.ents, Tr.rest])
      refine Ghost.trans (s' := vsG t a e.1 (liftE (t.rest.map encRaw)) (liftE (e.2.map encTr) ++ [[AV.p (.int .i64 1), .p (.int .i64 0), .p (.str []), .ex [], .ex []]])) ?_ (vs_shut hal (unlift_liftE _) u4 (fun lb qs => thaw_lift _ _ _) (labsIn_lift _ _))
      simp only [vsG, cellsT]
      refine Ghost.ent (fun l => if l = 4 then 29 else l) ?_ ?_ ?_ <;> simp -implicitDefEqProofs only [go_sem, ↓reduceIte, Nat.reduceAdd, Nat.reduceMul, Nat.reduceEqDiff, Nat.reduceLeDiff, reduceCtorEq, Int.reduceToNat, rowE_setL hal, rowE_ren, rowE_labs t a e.1 4 t.ents.length 5 (by decide), List.map_append, List.all_append, List.forall_mem_cons, List.not_mem_nil, false_implies, implies_true, and_self, map_renL_lift, labsIn_lift, List.all_append, List.all_cons, List.all_nil, List.map_append, Nat.reduceLT, labsInL, AV.labsIn]
      done
  · have d0 : ((2 : Int) == 0) = false := rfl
    have d1 : ((2 : Int) == 1) = false := rfl
    have d2 : ((2 : Int) == 2) = true := rfl
    refine AW.rT (by rfl) fun K hK => ?_
    simp -implicitDefEqProofs only [go_sem, ↓reduceIte, Nat.reduceAdd, Nat.reduceMul, Nat.reduceEqDiff, Nat.reduceLeDiff, reduceCtorEq, Int.reduceToNat, d0]
    refine hK _ ?_; clear hK K
    refine AW.cond _ (by simp -implicitDefEqProofs only [go_sem, ↓reduceIte, Nat.reduceAdd, Nat.reduceMul, Nat.reduceEqDiff, Nat.reduceLeDiff, reduceCtorEq, Int.reduceToNat]; rfl) (fun hc => ?_) (fun hc => ?_)
    · simp at hc
    refine AW.rT (by rfl) fun K hK => ?_
    simp -implicitDefEqProofs only [go_sem, ↓reduceIte, Nat.reduceAdd, Nat.reduceMul, Nat.reduceEqDiff, Nat.reduceLeDiff, reduceCtorEq, Int.reduceToNat, d1]
    refine hK _ ?_; clear hK K
    refine AW.cond _ (by simp -implicitDefEqProofs only [go_sem, ↓reduceIte, Nat.reduceAdd, Nat.reduceMul, Nat.reduceEqDiff, Nat.reduceLeDiff, reduceCtorEq, Int.reduceToNat]; rfl) (fun hc => ?_) (fun hc => ?_)
    · simp at hc
    refine AW.rT (by rfl) fun K hK => ?_
    simp -implicitDefEqProofs only [go_sem, ↓reduceIte, Nat.reduceAdd, Nat.reduceMul, Nat.reduceEqDiff, Nat.reduceLeDiff, reduceCtorEq, Int.reduceToNat, d2]
    refine hK _ ?_; clear hK K
    refine AW.cond _ (by simp -implicitDefEqProofs only [go_sem, ↓reduceIte, Nat.reduceAdd, Nat.reduceMul, Nat.reduceEqDiff, Nat.reduceLeDiff, reduceCtorEq, Int.reduceToNat]; rfl) (fun hc => ?_) (fun hc => ?_)
    rotate_left
    · simp at hc
    refine AW.rE (by rfl) fun K hK => ?_
    simp -implicitDefEqProofs only [go_sem, ↓reduceIte, Nat.reduceAdd, Nat.reduceMul, Nat.reduceEqDiff, Nat.reduceLeDiff, reduceCtorEq, Int.reduceToNat, ra, rl]
    refine ⟨⟨by simp, by simp [oneAll, AV.one, PV.one], by simp⟩, by rw [rlen]; omega, ?_⟩
    try simp -implicitDefEqProofs only [go_sem, ↓reduceIte, Nat.reduceAdd, Nat.reduceMul, Nat.reduceEqDiff, Nat.reduceLeDiff, reduceCtorEq, Int.reduceToNat, ra, rl]
    refine hK _ ?_; clear hK K
    simp only [andThen, inBlk, reduceCtorEq, ↓reduceIte, if_t, if_f]
    refine ⟨.mk t.kind t.n t.s (t.ents.set a (e.1, e.2)) (t.rest ++ [⟨3, 0, 0, []⟩]), ⟨fun hx => ?_, lens_set hl le1 le2 (by rw [List.length_append]; simp; omega)⟩, ?_⟩
    · have hx := congrArg (fun x => (Tr.rest x).length) hx
      have hx : (t.rest ++ [(⟨3, 0, 0, []⟩ : Raw)]).length = t.rest.length := hx
      simp at hx
    · have u3 : unlift (liftE (t.rest.map encRaw) ++ [[AV.p (.int .i64 3), .p (.int .i64 0), .p (.int .i64 0), .p (.str [])]]) = some ((t.rest ++ [(⟨3, 0, 0, []⟩ : Raw)]).map encRaw) := by
        rw [List.map_append]
        exact unlift_app (unlift_liftE _) rfl
      refine Ghost.trans (s' := vsG t a e.1 (liftE (t.rest.map encRaw) ++ [[AV.p (.int .i64 3), .p (.int .i64 0), .p (.int .i64 0), .p (.str [])]]) (liftE (e.2.map encTr))) ?_ (vs_shut hal u3 (unlift_liftE _) (fun lb qs => by rw [List.map_append, thaw_lift]; rfl) (by rw [List.all_append, labsIn_lift]; rfl))
      simp only [vsG, cellsT]
      refine Ghost.ent (fun l => if l = 3 then 28 else l) ?_ ?_ ?_ <;> simp -implicitDefEqProofs only [go_sem, ↓reduceIte, Nat.reduceAdd, Nat.reduceMul, Nat.reduceEqDiff, Nat.reduceLeDiff, reduceCtorEq, Int.reduceToNat, rowE_ren, rowE_labs t a e.1 4 t.ents.length 5 (by decide), List.map_append, List.all_append, List.forall_mem_cons, List.not_mem_nil, false_implies, implies_true, and_self, map_renL_lift, labsIn_lift, List.all_append, List.all_cons, List.all_nil, List.map_append, Nat.reduceLT, labsInL, AV.labsIn]
      done
  · have d0 : ((3 : Int) == 0) = false := rfl
    have d1 : ((3 : Int) == 1) = false := rfl
    have d2 : ((3 : Int) == 2) = false := rfl
    refine AW.rT (by rfl) fun K hK => ?_
    simp -implicitDefEqProofs only [go_sem, ↓reduceIte, Nat.reduceAdd, Nat.reduceMul, Nat.reduceEqDiff, Nat.reduceLeDiff, reduceCtorEq, Int.reduceToNat, d0]
    refine hK _ ?_; clear hK K
    refine AW.cond _ (by simp -implicitDefEqProofs only [go_sem, ↓reduceIte, Nat.reduceAdd, Nat.reduceMul, Nat.reduceEqDiff, Nat.reduceLeDiff, reduceCtorEq, Int.reduceToNat]; rfl) (fun hc => ?_) (fun hc => ?_)
    · simp at hc
    refine AW.rT (by rfl) fun K hK => ?_
    simp -implicitDefEqProofs only [go_sem, ↓reduceIte, Nat.reduceAdd, Nat.reduceMul, Nat.reduceEqDiff, Nat.reduceLeDiff, reduceCtorEq, Int.reduceToNat, d1]
    refine hK _ ?_; clear hK K
    refine AW.cond _ (by simp -implicitDefEqProofs only [go_sem, ↓reduceIte, Nat.reduceAdd, Nat.reduceMul, Nat.reduceEqDiff, Nat.reduceLeDiff, reduceCtorEq, Int.reduceToNat]; rfl) (fun hc => ?_) (fun hc => ?_)
    · simp at hc
    refine AW.rT (by rfl) fun K hK => ?_
    simp -implicitDefEqProofs only [go_sem, ↓reduceIte, Nat.reduceAdd, Nat.reduceMul, Nat.reduceEqDiff, Nat.reduceLeDiff, reduceCtorEq, Int.reduceToNat, d2]
    refine hK _ ?_; clear hK K
    refine AW.cond _ (by simp -implicitDefEqProofs only [go_sem, ↓reduceIte, Nat.reduceAdd, Nat.reduceMul, Nat.reduceEqDiff, Nat.reduceLeDiff, reduceCtorEq, Int.reduceToNat]; rfl) (fun hc => ?_) (fun hc => ?_)
    · simp at hc
    refine AW.seq ?_
    by_cases hne : e.2 = []
    · have z0 : (((liftE (e.2.map encTr)).length : Int) == 0) = true := by rw [el, hne]; rfl
      refine AW.rT (by rfl) fun K hK => ?_
      simp -implicitDefEqProofs only [go_sem, ↓reduceIte, Nat.reduceAdd, Nat.reduceMul, Nat.reduceEqDiff, Nat.reduceLeDiff, reduceCtorEq, Int.reduceToNat, ra, rl, z0]
      refine hK _ ?_; clear hK K
      refine AW.cond _ (by simp -implicitDefEqProofs only [go_sem, ↓reduceIte, Nat.reduceAdd, Nat.reduceMul, Nat.reduceEqDiff, Nat.reduceLeDiff, reduceCtorEq, Int.reduceToNat]; rfl) (fun hc => ?_) (fun hc => ?_)
      rotate_left
      · simp at hc
      refine AW.rT (by rfl) fun K hK => ?_
      simp -implicitDefEqProofs only [go_sem, ↓reduceIte, Nat.reduceAdd, Nat.reduceMul, Nat.reduceEqDiff, Nat.reduceLeDiff, reduceCtorEq, Int.reduceToNat]
      refine ⟨.pure _, law09_awake, ?_⟩
      try simp -implicitDefEqProofs only [go_sem, ↓reduceIte, Nat.reduceAdd, Nat.reduceMul, Nat.reduceEqDiff, Nat.reduceLeDiff, reduceCtorEq, Int.reduceToNat]
      refine hK _ ?_; clear hK K
      refine AW.ret ?_
      simp -implicitDefEqProofs only [go_sem, ↓reduceIte, Nat.reduceAdd, Nat.reduceMul, Nat.reduceEqDiff, Nat.reduceLeDiff, reduceCtorEq, Int.reduceToNat]
    have lp : 0 < e.2.length := List.length_pos_iff.2 hne
    obtain ⟨y, hy⟩ : ∃ y, e.2[0]? = some y := ⟨_, List.getElem?_eq_getElem lp⟩
    have z0 : (((liftE (e.2.map encTr)).length : Int) == 0) = false := beq_eq_false_iff_ne.2 (by omega)
    have zp : 0 < ((liftE (e.2.map encTr)).length : Int) := by omega
    have g0 : (liftE (e.2.map encTr))[0]? = some [.p (.int .i64 y.kind), .p (.int .i64 y.n), .p (.str y.s), .p (.slice (y.ents.map encEn)), .p (.slice (y.rest.map encRaw))] := by
      have := at_lift encTr hy
      rw [encTr_eq] at this
      exact this
    refine AW.rT (by rfl) fun K hK => ?_
    simp -implicitDefEqProofs only [go_sem, ↓reduceIte, Nat.reduceAdd, Nat.reduceMul, Nat.reduceEqDiff, Nat.reduceLeDiff, reduceCtorEq, Int.reduceToNat, ra, rl, z0]
    refine hK _ ?_; clear hK K
    refine AW.cond _ (by simp -implicitDefEqProofs only [go_sem, ↓reduceIte, Nat.reduceAdd, Nat.reduceMul, Nat.reduceEqDiff, Nat.reduceLeDiff, reduceCtorEq, Int.reduceToNat]; rfl) (fun hc => ?_) (fun hc => ?_)
    · simp at hc
    refine AW.skip ?_
    simp only [andThen, inBlk, reduceCtorEq, ↓reduceIte, if_t, if_f]
    refine AW.dE mixed (by rfl) (by decide +kernel) fun K hK => ?_
    simp -implicitDefEqProofs only [go_sem, ↓reduceIte, Nat.reduceAdd, Nat.reduceMul, Nat.reduceEqDiff, Nat.reduceLeDiff, reduceCtorEq, Int.reduceToNat, ra, rl, g0]
    refine ⟨⟨Int.le_refl 0, zp⟩, ?_⟩
    try simp -implicitDefEqProofs only [go_sem, ↓reduceIte, Nat.reduceAdd, Nat.reduceMul, Nat.reduceEqDiff, Nat.reduceLeDiff, reduceCtorEq, Int.reduceToNat, ra, rl, g0]
    refine ⟨⟨Int.le_refl 0, zp⟩, by decide +kernel, ?_⟩
    refine hK _ ?_; clear hK K
    simp only [andThen, inBlk, reduceCtorEq, ↓reduceIte, if_t, if_f]
    refine ⟨.mk t.kind t.n t.s (t.ents.set a (e.1, e.2.set 0 (.mk y.kind (xorI .i64 y.n 1) y.s y.ents y.rest))) t.rest, ⟨fun hx => ?_, lens_set hl (by rw [List.length_set]; exact le1) (lensTs_iff.2 fun x hx => ?_) la1⟩, ?_⟩
    · have hx := congrArg Tr.ents hx
      have hx : t.ents.set a (e.1, e.2.set 0 (.mk y.kind (xorI .i64 y.n 1) y.s y.ents y.rest)) = t.ents := hx
      have h1 : (t.ents.set a (e.1, e.2.set 0 (Tr.mk y.kind (xorI .i64 y.n 1) y.s y.ents y.rest)))[a]? = some (e.1, e.2.set 0 (Tr.mk y.kind (xorI .i64 y.n 1) y.s y.ents y.rest)) := by rw [List.getElem?_set_self hal]
      rw [hx, he] at h1
      injection h1 with h1
      have h2 : e.2 = e.2.set 0 (Tr.mk y.kind (xorI .i64 y.n 1) y.s y.ents y.rest) := congrArg Prod.snd h1
      have h3 : e.2[0]? = some (Tr.mk y.kind (xorI .i64 y.n 1) y.s y.ents y.rest) := by rw [h2, List.getElem?_set_self lp]
      rw [hy] at h3
      injection h3 with h3
      exact xor1_ne y.n (congrArg Tr.n h3).symm
    · rcases List.mem_or_eq_of_mem_set hx with hx | rfl
      · exact lensTs_iff.1 le2 x hx
      · have hyl := lensTs_iff.1 le2 y (List.mem_of_getElem? hy)
        cases y
        exact hyl
    · have u4 : (liftE (e.2.map encTr)).set 0 [.p (.int .i64 y.kind), .p (.int .i64 (xorI .i64 y.n 1)), .p (.str y.s), .p (.slice (y.ents.map encEn)), .p (.slice (y.rest.map encRaw))] = liftE ((e.2.set 0 (Tr.mk y.kind (xorI .i64 y.n 1) y.s y.ents y.rest)).map encTr) := by
        have := setL encTr e.2 0 (Tr.mk y.kind (xorI .i64 y.n 1) y.s y.ents y.rest)
        rw [encTr_eq] at this
        exact this
      refine Ghost.trans (s' := vsG t a e.1 (liftE (t.rest.map encRaw)) (liftE ((e.2.set 0 (Tr.mk y.kind (xorI .i64 y.n 1) y.s y.ents y.rest)).map encTr))) ?_ (vs_shut hal (unlift_liftE _) (unlift_liftE _) (fun lb qs => thaw_lift _ _ _) (labsIn_lift _ _))
      simp only [vsG, cellsT]
      refine Ghost.sub ?_ ?_ <;> simp -implicitDefEqProofs only [go_sem, ↓reduceIte, Nat.reduceAdd, Nat.reduceMul, Nat.reduceEqDiff, Nat.reduceLeDiff, reduceCtorEq, Int.reduceToNat, u4, rowE_labs t a e.1 4 t.ents.length 5 (by decide), List.forall_mem_cons, List.not_mem_nil, false_implies, implies_true, and_self, labsIn_lift, List.all_append, List.all_cons, List.all_nil, Nat.reduceLT, labsInL, AV.labsIn]
      done
end Go.Aw
