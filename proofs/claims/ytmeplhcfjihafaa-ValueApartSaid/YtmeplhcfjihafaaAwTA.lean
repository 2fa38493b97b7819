/- A tree copied, its entries, what is not known of it and one entry's trees the caller's own. -/
import Derived.Test.YtmeplhcfjihafaaAwG5
import Derived.Test.YtmeplhcfjihafaaAwD5
namespace Go.Aw
open Go.Proofs Go.RowKit
set_option linter.unusedSimpArgs false
set_option linter.unusedVariables false
/-- An empty row more. -/
theorem Ghost.new {nt : Fm} {s : St} {sz : Nat} : Ghost nt s ⟨s.T, upd s.H s.nx (some (.row sz [])), s.nx + 1⟩ := by
  rintro w0 X I0 a w ⟨σ, I, hσ, m⟩
  have hl := hσ s.nx (Nat.le_refl _)
  have ext : ∀ l' s', σ l' = some s' → upd σ s.nx (some (.emp none)) l' = some s' := fun l' s' h' => by
    rw [upd_ne _ _ (by rintro rfl; rw [hl] at h'; cases h')]
    exact h'
  refine ⟨upd σ s.nx (some (.emp none)), I, fun l h => ?_, m.defers, m.size, m.pins, m.heap.empty hl none sz, fun i x hx => ?_⟩
  · simp only at h
    rw [upd_ne _ _ (by omega)]
    exact hσ l (by omega)
  · obtain ⟨v, hv, hrv⟩ := m.tmps i x hx
    exact ⟨v, hv, hrv.mono ext (fun _ h => h) (fun _ _ => rfl)⟩
theorem law00_RawsO (l : List Raw) (hl : l.length ≤ 1000000) : OFn Try.prog 28 [.slice (l.map encRaw)] 4 (l.map encRaw) := by
  refine OFn.of Try.func28 rfl (by decide) Try.ntmps28 Try.results28 (Nat.le_of_ble_eq_true rfl) ?_
  simp only [argsT]
  refine AW.rT (by rfl) fun K hK => ?_
  simp -implicitDefEqProofs only [go_sem, ↓reduceIte, Nat.reduceAdd, Nat.reduceMul, Nat.reduceEqDiff, Nat.reduceLeDiff, reduceCtorEq, Int.reduceToNat]
  refine hK _ ?_; clear hK K
  refine AW.rT (by rfl) fun K hK => ?_
  simp -implicitDefEqProofs only [go_sem, ↓reduceIte, Nat.reduceAdd, Nat.reduceMul, Nat.reduceEqDiff, Nat.reduceLeDiff, reduceCtorEq, Int.reduceToNat]
  refine ⟨⟨liftE_len fun e he => by
      obtain ⟨x, _, rfl⟩ := List.mem_map.1 he
      rfl, liftE_one fun e he p hp => by
      obtain ⟨x, _, rfl⟩ := List.mem_map.1 he
      simp [encRaw] at hp
      rcases hp with rfl | rfl | rfl | rfl <;> rfl, by simp⟩, ⟨.inl trivial, by simp, by simp [liftE_length]; omega⟩, ?_⟩
  refine hK _ ?_; clear hK K
  refine AW.ret ⟨_, _, rfl, rfl, ?_⟩
  simp -implicitDefEqProofs only [go_sem, ↓reduceIte, Nat.reduceAdd, Nat.reduceMul, Nat.reduceEqDiff, Nat.reduceLeDiff, reduceCtorEq, Int.reduceToNat, List.nil_append]
/-- The entries that are copied, so many: the a-th one's trees are at the label l. -/
def rowE (t : Tr) (a : Nat) (g : Int) (l i : Nat) : List (List AV) := if i ≤ a then liftE ((t.ents.take i).map encEn) else liftE ((t.ents.take a).map encEn) ++ [.p (.int .i64 g), .own l] :: liftE (((t.ents.take i).drop (a + 1)).map encEn)
def r5 (e : Int × List Tr) (a i : Nat) : List Tr := if i ≤ a then [] else e.2
theorem rowE_len (t : Tr) (a : Nat) (g : Int) (l i : Nat) (h : i ≤ t.ents.length) : (rowE t a g l i).length = i := by
  unfold rowE
  split
  · rw [liftE_length, List.length_map, List.length_take]; omega
  · rw [List.length_append, List.length_cons, liftE_length, liftE_length, List.length_map, List.length_map, List.length_take, List.length_drop, List.length_take]; omega
theorem rowE_ren (t : Tr) (a : Nat) (g : Int) (l i : Nat) (ρ : Nat → Nat) : (rowE t a g l i).map (renL ρ) = rowE t a g (ρ l) i := by
  unfold rowE
  split
  · rw [map_renL_lift]
  · rw [List.map_append, List.map_cons, map_renL_lift, map_renL_lift]
    rfl
theorem rowE_labs (t : Tr) (a : Nat) (g : Int) (l i n : Nat) (h : l < n) : (rowE t a g l i).all (labsInL n) = true := by
  unfold rowE
  split
  · exact labsIn_lift ..
  · rw [List.all_append, List.all_cons, labsIn_lift, labsIn_lift]
    simp [labsInL, AV.labsIn, h]
theorem rowE_thaw (t : Tr) (a : Nat) (g : Int) (l i lb : Nat) (ps : List (List PV)) (h : lb ≠ l) : (rowE t a g l i).map (fun e => e.map (thaw1 lb ps)) = rowE t a g l i := by
  unfold rowE
  split
  · rw [thaw_lift]
  · rw [List.map_append, List.map_cons, thaw_lift, thaw_lift]
    simp [thaw1, Ne.symm h]
theorem rowE_next {t : Tr} {a : Nat} {g : Int} {l i : Nat} {x : Int × List Tr} (hx : t.ents[i]? = some x) (h : i ≠ a) : rowE t a g l i ++ [[.p (.int .i64 x.1), .p (.slice (x.2.map encTr))]] = rowE t a g l (i + 1) := by
  have e1 : liftE ((t.ents.take i).map encEn) ++ [[AV.p (.int .i64 x.1), .p (.slice (x.2.map encTr))]] = liftE ((t.ents.take (i + 1)).map encEn) := by
    rw [List.take_add_one, hx]
    simp [liftE, encEn]
  unfold rowE
  rcases Nat.lt_or_gt_of_ne h with q | q
  · rw [if_pos (by omega), if_pos (by omega), e1]
  · rw [if_neg (by omega), if_neg (by omega), List.append_assoc, List.cons_append]
    congr 2
    have hl : i < t.ents.length := (List.getElem?_eq_some_iff.1 hx).1
    rw [List.take_add_one, hx, List.drop_append_of_le_length (by rw [List.length_take]; omega)]
    simp [liftE, encEn]
theorem rowE_this {t : Tr} {a : Nat} {l : Nat} {x : Int × List Tr} (hx : t.ents[a]? = some x) : rowE t a x.1 l a ++ [[.p (.int .i64 x.1), .own l]] = rowE t a x.1 l (a + 1) := by
  have hl : a < t.ents.length := (List.getElem?_eq_some_iff.1 hx).1
  unfold rowE
  rw [if_pos (Nat.le_refl _), if_neg (by omega), List.drop_of_length_le (by rw [List.length_take]; omega)]
  rfl
theorem rowE_any (t : Tr) (a : Nat) (g : Int) (l l' : Nat) : rowE t a g l a = rowE t a g l' a := by
  unfold rowE
  rw [if_pos (Nat.le_refl _), if_pos (Nat.le_refl _)]
def za (t : Tr) (a : Nat) (e : Int × List Tr) (i : Nat) (m : List (Nat × AV)) (h : List (Nat × Blk)) (n : Nat) : St := ⟨ofL ((1, .ptr 0 0 0) :: (2, .ptr 1 0 0) :: (3, .ptr 2 0 0) :: (4, .p (.int .i64 (i : Int))) :: m),
  ofH ((0, .row 5 [cellsT t]) :: (1, .row 5 [[.p (.int .i64 0), .p (.int .i64 0), .p (.str []), .ex [], .ex []]]) :: (2, .row 5 [[.p (.int .i64 t.kind), .p (.int .i64 t.n), .p (.str t.s), .own 3, .own 4]]) ::
    (3, .row 2 (rowE t a e.1 5 i)) :: (4, .row 4 (liftE (t.rest.map encRaw))) :: (5, .row 5 (liftE ((r5 e a i).map encTr))) :: h), n⟩
set_option maxRecDepth 100000 in
set_option maxHeartbeats 8000000 in
theorem law00_TreeA (t : Tr) (hlt : lensT t = true) (a : Nat) (e : Int × List Tr) (hea : t.ents[a]? = some e) : DFn Try.prog 43 [.p (.agg (encTr t))] [] 0 [] (.agg [.p (.int .i64 t.kind), .p (.int .i64 t.n), .p (.str t.s), .own 0, .own 1])
    [(0, .row 2 (rowE t a e.1 2 t.ents.length)), (1, .row 4 (liftE (t.rest.map encRaw))), (2, .row 5 (liftE (e.2.map encTr)))] 3 := by
  obtain ⟨la1, la2, la3⟩ := lensT_mk hlt
  refine DFn.of [] Try.func43 rfl (by decide) Try.ntmps43 Try.results43 (Nat.le_of_ble_eq_true rfl) (by simp) fun val => ?_
  simp only [avT]
  refine AW.rT (by rfl) fun K hK => ?_
  simp -implicitDefEqProofs only [go_sem, ↓reduceIte, Nat.reduceAdd, Nat.reduceMul, Nat.reduceEqDiff, Nat.reduceLeDiff, reduceCtorEq, Int.reduceToNat, encTr_eq]
  refine hK _ ?_; clear hK K
  refine AW.dT mixed (by rfl) (by decide +kernel) fun K hK => ?_
  simp -implicitDefEqProofs only [go_sem, ↓reduceIte, Nat.reduceAdd, Nat.reduceMul, Nat.reduceEqDiff, Nat.reduceLeDiff, reduceCtorEq, Int.reduceToNat]
  refine ⟨.own _ _, law00_RawsO t.rest (by omega), ?_⟩
  try simp -implicitDefEqProofs only [go_sem, ↓reduceIte, Nat.reduceAdd, Nat.reduceMul, Nat.reduceEqDiff, Nat.reduceLeDiff, reduceCtorEq, Int.reduceToNat]
  refine ⟨by decide +kernel, ?_⟩
  refine hK _ ?_; clear hK K
  refine AW.seq ?_
  refine AW.rT (by rfl) fun K hK => ?_
  simp -implicitDefEqProofs only [go_sem, ↓reduceIte, Nat.reduceAdd, Nat.reduceMul, Nat.reduceEqDiff, Nat.reduceLeDiff, reduceCtorEq, Int.reduceToNat]
  refine hK _ ?_; clear hK K
  refine AW.block ?_
  refine AW.loop (fun i : Nat => za t a e i [] [] 6) (fun i => i ≤ t.ents.length) (fun i => t.ents.length - i) 0 ?_ (by simp) fun i hi => ?_
  · refine Ghost.trans (Ghost.nilH (l := 12) (i := 0) (j := 3) (sz' := 2) rfl rfl rfl) (Ghost.trans (Ghost.new (sz := 5)) ?_)
    simp only [za, cellsT, rowE, r5, Nat.zero_le, if_true, List.take_zero, List.map_nil, liftE_nil]
    refine Ghost.ent (fun l => if l = 2 then 12 else if l = 3 then 15 else if l = 4 then 10 else if l = 5 then 16 else l) ?_ ?_ ?_ <;> simp -implicitDefEqProofs only [go_sem, ↓reduceIte, Nat.reduceAdd, Nat.reduceMul, Nat.reduceEqDiff, Nat.reduceLeDiff, reduceCtorEq, Int.reduceToNat, List.set_cons_zero, List.set_cons_succ, List.forall_mem_cons, List.not_mem_nil, false_implies, implies_true, and_self, map_renL_lift, labsIn_lift, List.all_append, List.all_cons, List.all_nil, List.map_append, Nat.reduceLT, labsInL, AV.labsIn]
    all_goals first | rfl | decide | skip
  have hal : a < t.ents.length := (List.getElem?_eq_some_iff.1 hea).1
  simp only [za, cellsT]
  refine AW.seq ?_
  by_cases hil : i < t.ents.length
  case neg =>
    have hi' : i = t.ents.length := by omega
    have hc1 : ((i : Int) < (t.ents.length : Int)) = False := eq_false (by omega)
    have e5 : r5 e a i = e.2 := by unfold r5; rw [if_neg (by omega)]
    rw [e5]
    refine AW.rT (by rfl) fun K hK => ?_
    simp -implicitDefEqProofs only [go_sem, ↓reduceIte, Nat.reduceAdd, Nat.reduceMul, Nat.reduceEqDiff, Nat.reduceLeDiff, reduceCtorEq, Int.reduceToNat, List.length_map, hc1]
    refine hK _ ?_; clear hK K
    refine AW.cond _ (by simp -implicitDefEqProofs only [go_sem, ↓reduceIte, Nat.reduceAdd, Nat.reduceMul, Nat.reduceEqDiff, Nat.reduceLeDiff, reduceCtorEq, Int.reduceToNat]; rfl) (fun hc => ?_) (fun hc => ?_)
    · simp at hc
    refine AW.exit ?_
    simp only [andThen, inBlk, reduceCtorEq, ↓reduceIte, if_t, if_f]
    refine AW.rT (by rfl) fun K hK => ?_
    simp -implicitDefEqProofs only [go_sem, ↓reduceIte, Nat.reduceAdd, Nat.reduceMul, Nat.reduceEqDiff, Nat.reduceLeDiff, reduceCtorEq, Int.reduceToNat]
    refine hK _ ?_; clear hK K
    rw [hi']
    refine AW.ret ⟨fun k => if k = 2 then 5 else k + 3, [.agg [.p (.int .i64 t.kind), .p (.int .i64 t.n), .p (.str t.s), .own 3, .own 4]], ⟨?_, trivial⟩, rfl, rfl, ?_, ?_, ?_⟩
    · simp -implicitDefEqProofs only [go_sem, ↓reduceIte, Nat.reduceAdd, Nat.reduceMul, Nat.reduceEqDiff, Nat.reduceLeDiff, reduceCtorEq, Int.reduceToNat]
      done
    · simp -implicitDefEqProofs only [go_sem, ↓reduceIte, Nat.reduceAdd, Nat.reduceMul, Nat.reduceEqDiff, Nat.reduceLeDiff, reduceCtorEq, Int.reduceToNat, List.forall_mem_cons, List.not_mem_nil, false_implies, implies_true, and_self, labsIn_lift, map_renL_lift, rowE_ren, rowE_labs t a e.1 2 t.ents.length 3 (by decide)]
      exact ⟨by decide, by decide, by decide⟩
    · simp
    · simp
  obtain ⟨x, hx⟩ : ∃ x, t.ents[i]? = some x := ⟨_, List.getElem?_eq_getElem hil⟩
  have ⟨he1, he2, he3⟩ := at_map' encEn hx
  have ⟨le1, le2⟩ := lensE_at la3 hx
  have hc1 : ((i : Int) < (t.ents.length : Int)) = True := eq_true (by omega)
  have w1 : IntKind.wrap .i64 ((i : Int) + 1) = ((i + 1 : Nat) : Int) := by rw [w64] <;> omega
  have rl := rowE_len t a e.1 5 i hi
  refine AW.rT (by rfl) fun K hK => ?_
  simp -implicitDefEqProofs only [go_sem, ↓reduceIte, Nat.reduceAdd, Nat.reduceMul, Nat.reduceEqDiff, Nat.reduceLeDiff, reduceCtorEq, Int.reduceToNat, List.length_map, hc1]
  refine hK _ ?_; clear hK K
  refine AW.cond _ (by simp -implicitDefEqProofs only [go_sem, ↓reduceIte, Nat.reduceAdd, Nat.reduceMul, Nat.reduceEqDiff, Nat.reduceLeDiff, reduceCtorEq, Int.reduceToNat]; rfl) (fun hc => ?_) (fun hc => ?_)
  rotate_left
  · simp at hc
  refine AW.skip ?_
  simp only [andThen, inBlk, reduceCtorEq, ↓reduceIte, if_t, if_f]
  refine AW.seq ?_
  refine AW.block ?_
  refine AW.rT (by rfl) fun K hK => ?_
  simp -implicitDefEqProofs only [go_sem, ↓reduceIte, Nat.reduceAdd, Nat.reduceMul, Nat.reduceEqDiff, Nat.reduceLeDiff, reduceCtorEq, Int.reduceToNat, he1, he2, he3, hc1, encEn, List.length_map]
  refine hK _ ?_; clear hK K
  refine AW.cut (fun _ : Unit => za t a e i [(5, .ptr 6 0 0)] [(6, .row 2 [[.p (.int .i64 x.1), .own 7]]), (7, .row 5 (liftE (x.2.map encTr)))] 8) (fun _ => True) ?_ fun _ _ => ?_
  · refine AW.rT (by rfl) fun K hK => ?_
    simp -implicitDefEqProofs only [go_sem, ↓reduceIte, Nat.reduceAdd, Nat.reduceMul, Nat.reduceEqDiff, Nat.reduceLeDiff, reduceCtorEq, Int.reduceToNat]
    refine hK _ ?_; clear hK K
    refine AW.block ?_
    refine AW.loop (fun k : Nat => za t a e i [(5, .ptr 6 0 0), (6, .p (.int .i64 (k : Int)))] [(6, .row 2 [[.p (.int .i64 x.1), .own 7]]), (7, .row 5 (liftE ((x.2.take k).map encTr)))] 8) (fun k => k ≤ x.2.length) (fun k => x.2.length - k) 0 ?_ (by simp) fun k hk => ?_
    · refine Ghost.trans (Ghost.nilH (l := 18) (i := 0) (j := 1) (sz' := 5) rfl rfl rfl) ?_
      simp only [za, cellsT, List.take_zero, List.map_nil, liftE_nil]
      refine Ghost.ent (fun l => if l = 6 then 18 else if l = 7 then 21 else l) ?_ ?_ ?_ <;> simp -implicitDefEqProofs only [go_sem, ↓reduceIte, Nat.reduceAdd, Nat.reduceMul, Nat.reduceEqDiff, Nat.reduceLeDiff, reduceCtorEq, Int.reduceToNat, List.set_cons_zero, List.set_cons_succ, rowE_ren, rowE_labs t a e.1 5 i 8 (by decide), List.forall_mem_cons, List.not_mem_nil, false_implies, implies_true, and_self, map_renL_lift, labsIn_lift, List.all_append, List.all_cons, List.all_nil, List.map_append, Nat.reduceLT, labsInL, AV.labsIn]
      all_goals first | rfl | decide | skip
    simp only [za, cellsT]
    refine AW.seq ?_
    by_cases hkl : k < x.2.length
    case neg =>
      have hk' : k = x.2.length := by omega
      subst hk'
      have hc2 : ((x.2.length : Int) < (x.2.length : Int)) = False := eq_false (by omega)
      rw [List.take_length]
      refine AW.rT (by rfl) fun K hK => ?_
      simp -implicitDefEqProofs only [go_sem, ↓reduceIte, Nat.reduceAdd, Nat.reduceMul, Nat.reduceEqDiff, Nat.reduceLeDiff, reduceCtorEq, Int.reduceToNat, he1, he2, he3, hc1, encEn, List.length_map, hc2]
      refine hK _ ?_; clear hK K
      refine AW.cond _ (by simp -implicitDefEqProofs only [go_sem, ↓reduceIte, Nat.reduceAdd, Nat.reduceMul, Nat.reduceEqDiff, Nat.reduceLeDiff, reduceCtorEq, Int.reduceToNat]; rfl) (fun hc => ?_) (fun hc => ?_)
      · simp at hc
      refine AW.exit ?_
      simp only [andThen, inBlk, reduceCtorEq, ↓reduceIte, if_t, if_f]
      refine ⟨(), trivial, ?_⟩
      show Ghost _ _ (za t a e i [(5, .ptr 6 0 0)] [(6, .row 2 [[.p (.int .i64 x.1), .own 7]]), (7, .row 5 (liftE (x.2.map encTr)))] 8)
      simp only [za, cellsT]
      refine Ghost.sub ?_ ?_ <;> simp -implicitDefEqProofs only [go_sem, ↓reduceIte, Nat.reduceAdd, Nat.reduceMul, Nat.reduceEqDiff, Nat.reduceLeDiff, reduceCtorEq, Int.reduceToNat, rowE_labs t a e.1 5 i 8 (by decide), List.forall_mem_cons, List.not_mem_nil, false_implies, implies_true, and_self, labsIn_lift, List.all_append, List.all_cons, List.all_nil, Nat.reduceLT, labsInL, AV.labsIn]
      done
    obtain ⟨y, hy⟩ : ∃ y, x.2[k]? = some y := ⟨_, List.getElem?_eq_getElem hkl⟩
    have ⟨hx1, hx2, hx3⟩ := at_map' encTr hy
    have hc2 : ((k : Int) < (x.2.length : Int)) = True := eq_true (by omega)
    have IH := law00_Tree y (lensTs_at le2 hy)
    rw [encTr_eq] at IH
    refine AW.rT (by rfl) fun K hK => ?_
    simp -implicitDefEqProofs only [go_sem, ↓reduceIte, Nat.reduceAdd, Nat.reduceMul, Nat.reduceEqDiff, Nat.reduceLeDiff, reduceCtorEq, Int.reduceToNat, he1, he2, he3, hc1, encEn, List.length_map, hc2]
    refine hK _ ?_; clear hK K
    refine AW.cond _ (by simp -implicitDefEqProofs only [go_sem, ↓reduceIte, Nat.reduceAdd, Nat.reduceMul, Nat.reduceEqDiff, Nat.reduceLeDiff, reduceCtorEq, Int.reduceToNat]; rfl) (fun hc => ?_) (fun hc => ?_)
    rotate_left
    · simp at hc
    refine AW.skip ?_
    simp only [andThen, inBlk, reduceCtorEq, ↓reduceIte, if_t, if_f]
    refine AW.seq ?_
    refine AW.block ?_
    refine AW.dE mixed (by rfl) (by decide +kernel) fun K hK => ?_
    simp -implicitDefEqProofs only [go_sem, ↓reduceIte, Nat.reduceAdd, Nat.reduceMul, Nat.reduceEqDiff, Nat.reduceLeDiff, reduceCtorEq, Int.reduceToNat, he1, he2, he3, hc1, encEn, List.length_map, hc2, hx1, hx2, hx3, encTr_eq]
    refine ⟨.pure _, IH, ?_⟩
    try simp -implicitDefEqProofs only [go_sem, ↓reduceIte, Nat.reduceAdd, Nat.reduceMul, Nat.reduceEqDiff, Nat.reduceLeDiff, reduceCtorEq, Int.reduceToNat]
    refine ⟨⟨by simp, by simp [oneAll, AV.one, PV.one], by simp⟩, by simp [liftE_length]; omega, by decide +kernel, ?_⟩
    refine hK _ ?_; clear hK K
    simp only [andThen, inBlk, reduceCtorEq, ↓reduceIte, if_t, if_f]
    have w2 : IntKind.wrap .i64 ((k : Int) + 1) = ((k + 1 : Nat) : Int) := by rw [w64] <;> omega
    have e7 : liftE ((x.2.take k).map encTr) ++ [[AV.p (.int .i64 y.kind), .p (.int .i64 y.n), .p (.str y.s), .p (.slice (y.ents.map encEn)), .p (.slice (y.rest.map encRaw))]] = liftE ((x.2.take (k + 1)).map encTr) := by
      rw [List.take_add_one, hy]
      simp [liftE, encTr_eq]
    refine AW.rE (by rfl) fun K hK => ?_
    simp -implicitDefEqProofs only [go_sem, ↓reduceIte, Nat.reduceAdd, Nat.reduceMul, Nat.reduceEqDiff, Nat.reduceLeDiff, reduceCtorEq, Int.reduceToNat, w2]
    refine hK _ ?_; clear hK K
    refine ⟨k + 1, by omega, by omega, ?_⟩
    show Ghost _ _ (za t a e i [(5, .ptr 6 0 0), (6, .p (.int .i64 ((k + 1 : Nat) : Int)))] [(6, .row 2 [[.p (.int .i64 x.1), .own 7]]), (7, .row 5 (liftE ((x.2.take (k + 1)).map encTr)))] 8)
    simp only [za, cellsT]
    rw [← e7]
    refine Ghost.ent (fun l => if l = 7 then 30 else l) ?_ ?_ ?_ <;> simp -implicitDefEqProofs only [go_sem, ↓reduceIte, Nat.reduceAdd, Nat.reduceMul, Nat.reduceEqDiff, Nat.reduceLeDiff, reduceCtorEq, Int.reduceToNat, rowE_ren, rowE_labs t a e.1 5 i 8 (by decide), List.set_cons_zero, List.set_cons_succ, List.all_append, List.forall_mem_cons, List.not_mem_nil, false_implies, implies_true, and_self, map_renL_lift, labsIn_lift, List.all_append, List.all_cons, List.all_nil, List.map_append, Nat.reduceLT, labsInL, AV.labsIn]
    all_goals first | rfl | decide | skip
  by_cases hia : i = a
  · subst hia
    have ex : x = e := by rw [hea] at hx; injection hx with hx; exact hx.symm
    subst ex
    have nx := rowE_this (l := 5) hx
    have e51 : r5 x i i = [] := by unfold r5; rw [if_pos (Nat.le_refl _)]
    have e52 : r5 x i (i + 1) = x.2 := by unfold r5; rw [if_neg (by omega)]
    simp only [za, cellsT, e51, List.map_nil, liftE_nil]
    refine AW.rE (by rfl) fun K hK => ?_
    simp -implicitDefEqProofs only [go_sem, ↓reduceIte, Nat.reduceAdd, Nat.reduceMul, Nat.reduceEqDiff, Nat.reduceLeDiff, reduceCtorEq, Int.reduceToNat]
    refine ⟨⟨by simp, by simp [oneAll, AV.one, PV.one], by simp⟩, by rw [rl]; omega, ?_⟩
    try simp -implicitDefEqProofs only [go_sem, ↓reduceIte, Nat.reduceAdd, Nat.reduceMul, Nat.reduceEqDiff, Nat.reduceLeDiff, reduceCtorEq, Int.reduceToNat]
    refine hK _ ?_; clear hK K
    simp only [andThen, inBlk, reduceCtorEq, ↓reduceIte, if_t, if_f]
    refine AW.rE (by rfl) fun K hK => ?_
    simp -implicitDefEqProofs only [go_sem, ↓reduceIte, Nat.reduceAdd, Nat.reduceMul, Nat.reduceEqDiff, Nat.reduceLeDiff, reduceCtorEq, Int.reduceToNat, w1]
    refine hK _ ?_; clear hK K
    refine ⟨i + 1, by omega, by omega, ?_⟩
    show Ghost _ _ (za t i x (i + 1) [] [] 6)
    simp only [za, cellsT, e52]
    rw [← nx]
    refine Ghost.ent (fun l => if l = 3 then 12 else if l = 5 then 7 else l) ?_ ?_ ?_ <;> simp -implicitDefEqProofs only [go_sem, ↓reduceIte, Nat.reduceAdd, Nat.reduceMul, Nat.reduceEqDiff, Nat.reduceLeDiff, reduceCtorEq, Int.reduceToNat, rowE_ren, rowE_labs t i x.1 5 i 6 (by decide), List.map_append, List.all_append, List.forall_mem_cons, List.not_mem_nil, false_implies, implies_true, and_self, map_renL_lift, labsIn_lift, List.all_append, List.all_cons, List.all_nil, List.map_append, Nat.reduceLT, labsInL, AV.labsIn]
    rw [rowE_any t i x.1 5 7]
  have nx := rowE_next (l := 5) (g := e.1) hx hia
  have e53 : r5 e a (i + 1) = r5 e a i := by
    unfold r5
    by_cases q : i + 1 ≤ a
    · rw [if_pos q, if_pos (by omega)]
    · rw [if_neg q, if_neg (by omega)]
  refine AW.ghost (s' := za t a e i [(5, .ptr 6 0 0)] [(6, .row 2 [[.p (.int .i64 x.1), .p (.slice (x.2.map encTr))]])] 8) (Ghost.trans (Ghost.freeze (lb := 7) (sz := 5) (ps := x.2.map encTr) rfl (unlift_liftE _)) ?_) ?_
  · simp only [za, cellsT]
    refine Ghost.sub ?_ ?_ <;> simp -implicitDefEqProofs only [go_sem, ↓reduceIte, Nat.reduceAdd, Nat.reduceMul, Nat.reduceEqDiff, Nat.reduceLeDiff, reduceCtorEq, Int.reduceToNat, thaw, thaw1, Option.map_some, List.map_cons, List.map_nil, thaw_lift, rowE_thaw t a e.1 5 i 7 _ (by decide), rowE_labs t a e.1 5 i 8 (by decide), List.forall_mem_cons, List.not_mem_nil, false_implies, implies_true, and_self, labsIn_lift, List.all_append, List.all_cons, List.all_nil, Nat.reduceLT, labsInL, AV.labsIn]
    done
  simp only [za, cellsT]
  refine AW.rE (by rfl) fun K hK => ?_
  simp -implicitDefEqProofs only [go_sem, ↓reduceIte, Nat.reduceAdd, Nat.reduceMul, Nat.reduceEqDiff, Nat.reduceLeDiff, reduceCtorEq, Int.reduceToNat]
  refine ⟨⟨by simp, by simp [oneAll, AV.one, PV.one], by simp⟩, by rw [rl]; omega, ?_⟩
  try simp -implicitDefEqProofs only [go_sem, ↓reduceIte, Nat.reduceAdd, Nat.reduceMul, Nat.reduceEqDiff, Nat.reduceLeDiff, reduceCtorEq, Int.reduceToNat]
  refine hK _ ?_; clear hK K
  simp only [andThen, inBlk, reduceCtorEq, ↓reduceIte, if_t, if_f]
  refine AW.rE (by rfl) fun K hK => ?_
  simp -implicitDefEqProofs only [go_sem, ↓reduceIte, Nat.reduceAdd, Nat.reduceMul, Nat.reduceEqDiff, Nat.reduceLeDiff, reduceCtorEq, Int.reduceToNat, w1]
  refine hK _ ?_; clear hK K
  refine ⟨i + 1, by omega, by omega, ?_⟩
  show Ghost _ _ (za t a e (i + 1) [] [] 6)
  simp only [za, cellsT, e53]
  rw [← nx]
  refine Ghost.ent (fun l => if l = 3 then 12 else l) ?_ ?_ ?_ <;> simp -implicitDefEqProofs only [go_sem, ↓reduceIte, Nat.reduceAdd, Nat.reduceMul, Nat.reduceEqDiff, Nat.reduceLeDiff, reduceCtorEq, Int.reduceToNat, rowE_ren, rowE_labs t a e.1 5 i 6 (by decide), List.map_append, List.all_append, List.forall_mem_cons, List.not_mem_nil, false_implies, implies_true, and_self, map_renL_lift, labsIn_lift, List.all_append, List.all_cons, List.all_nil, List.map_append, Nat.reduceLT, labsInL, AV.labsIn]
  all_goals first | rfl | decide | skip
end Go.Aw
