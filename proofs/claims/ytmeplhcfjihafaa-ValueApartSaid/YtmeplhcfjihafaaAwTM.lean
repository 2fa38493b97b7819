/- made: of a tree whose entries and whose first entry's trees are lent. -/
import Derived.Test.YtmeplhcfjihafaaAwTB
import Derived.Test.YtmeplhcfjihafaaAwG6
namespace Go.Aw
open Go.Proofs Go.RowKit
set_option linter.unusedSimpArgs false
set_option linter.unusedVariables false
/-- The two rows that are lent. -/
def hM (t : Tr) (e : Int × List Tr) (h : List (Nat × Blk)) : List (Nat × Blk) := (0, .row 2 (rowE t 0 e.1 1 t.ents.length)) :: (1, .row 5 (liftE (e.2.map encTr))) :: h
def mxD (t : Tr) (e : Int × List Tr) (i : Nat) : St := ⟨ofL [(0, .agg [.p (.int .i64 t.kind), .p (.int .i64 t.n), .p (.str t.s), .own 0, .p (.slice (t.rest.map encRaw))]), (2, .ptr 2 0 0), (3, .ptr 3 0 0), (27, .own 0), (28, .p (.int .i64 (t.ents.length : Int))), (29, .p (.int .i64 (i : Int)))],
  ofH (hM t e [(2, .row 1 [[.p (.cst .nilIface)]]), (3, .row 2 [[.own 4, .p (.slice (t.rest.map encRaw))]]), (4, .row 2 (liftE ((t.ents.take i).map encVn)))]), 5⟩
theorem rowE_off {t : Tr} {g : Int} {l i : Nat} {x : Int × List Tr} (hi : 0 < i) (hx : t.ents[i]? = some x) : (rowE t 0 g l t.ents.length)[i]? = some [.p (.int .i64 x.1), .p (.slice (x.2.map encTr))] := by
  have hil : i < t.ents.length := (List.getElem?_eq_some_iff.1 hx).1
  obtain ⟨j, rfl⟩ : ∃ j, i = j + 1 := ⟨i - 1, by omega⟩
  unfold rowE
  rw [if_neg (by omega), List.take_length, List.take_zero]
  simp only [List.map_nil, liftE_nil, List.nil_append, List.getElem?_cons_succ]
  have h1 : (t.ents.drop (0 + 1))[j]? = some x := by rw [List.getElem?_drop, Nat.zero_add, Nat.add_comm]; exact hx
  rw [at_lift encEn h1]
  rfl
theorem thawP_liftE (lb : Nat) (qs : List (List PV)) : ∀ l : List (List PV), (liftE l).map (fun e => e.map (thawP1 lb qs)) = liftE l := by
  intro l
  simp [liftE, thawP1, Function.comp_def]
theorem rowE_thawP (t : Tr) (a : Nat) (g : Int) (l i lb : Nat) (qs : List (List PV)) (h : lb ≠ l) : (rowE t a g l i).map (fun e => e.map (thawP1 lb qs)) = rowE t a g l i := by
  unfold rowE
  split
  · rw [thawP_liftE]
  · rw [List.map_append, List.map_cons, thawP_liftE, thawP_liftE]
    simp [thawP1, Ne.symm h]
def myD (t : Tr) (e0 : Int × List Tr) (A : AV) (i : Nat) (e : Int × List Tr) (k : Nat) : St := ⟨ofL [(0, .agg [.p (.int .i64 t.kind), .p (.int .i64 t.n), .p (.str t.s), .own 0, .p (.slice (t.rest.map encRaw))]), (2, .ptr 2 0 0), (3, .ptr 3 0 0), (27, .own 0), (28, .p (.int .i64 (t.ents.length : Int))), (29, .p (.int .i64 (i : Int))), (6, .ptr 5 0 0), (37, A), (38, .p (.int .i64 (e.2.length : Int))), (39, .p (.int .i64 (k : Int)))],
  ofH (hM t e0 [(2, .row 1 [[.p (.cst .nilIface)]]), (3, .row 2 [[.own 4, .p (.slice (t.rest.map encRaw))]]), (4, .row 2 (liftE ((t.ents.take i).map encVn))), (5, .row 2 [[.p (.int .i64 e.1), .own 6]]), (6, .row 1 (liftE ((e.2.take k).map encV1)))]), 7⟩
def mzD (t : Tr) (e0 : Int × List Tr) (i : Nat) (e : Int × List Tr) : St := ⟨ofL [(0, .agg [.p (.int .i64 t.kind), .p (.int .i64 t.n), .p (.str t.s), .own 0, .p (.slice (t.rest.map encRaw))]), (2, .ptr 2 0 0), (3, .ptr 3 0 0), (27, .own 0), (28, .p (.int .i64 (t.ents.length : Int))), (29, .p (.int .i64 (i : Int))), (6, .ptr 5 0 0)],
  ofH (hM t e0 [(2, .row 1 [[.p (.cst .nilIface)]]), (3, .row 2 [[.own 4, .p (.slice (t.rest.map encRaw))]]), (4, .row 2 (liftE ((t.ents.take i).map encVn))), (5, .row 2 [[.p (.int .i64 e.1), .p (.slice (e.2.map encV1))]])]), 6⟩
def mwD (t : Tr) (e : Int × List Tr) : St := ⟨ofL [(0, .agg [.p (.int .i64 t.kind), .p (.int .i64 t.n), .p (.str t.s), .own 0, .p (.slice (t.rest.map encRaw))]), (2, .ptr 2 0 0), (3, .ptr 3 0 0)],
  ofH (hM t e [(2, .row 1 [[.p (.cst .nilIface)]]), (3, .row 2 (liftE [[.slice (t.ents.map encVn), .slice (t.rest.map encRaw)]]))]), 4⟩
def mvD (t : Tr) (e : Int × List Tr) : St := ⟨ofL [(0, .agg [.p (.int .i64 t.kind), .p (.int .i64 t.n), .p (.str t.s), .own 0, .p (.slice (t.rest.map encRaw))]), (2, .ptr 2 0 0), (3, .p (.box [.slice (t.ents.map encVn), .slice (t.rest.map encRaw)] 0))],
  ofH (hM t e [(2, .row 1 [[.p (.cst .nilIface)]])]), 3⟩
/-- Behind the call: the entries keep their place, the trees are told anew. -/
def hN (t : Tr) (e : Int × List Tr) : List (Nat × Blk) := [(0, .row 2 (rowE t 0 e.1 2 t.ents.length)), (2, .row 5 (liftE (e.2.map encTr)))]
set_option maxRecDepth 100000 in
set_option maxHeartbeats 4000000 in
theorem made_D (t : Tr) (hlt : lensT t = true) (hk : t.kind = 3) (e : Int × List Tr) (he0 : t.ents[0]? = some e) :
    DFn Try.prog 86 [.agg [.p (.int .i64 t.kind), .p (.int .i64 t.n), .p (.str t.s), .own 0, .p (.slice (t.rest.map encRaw))]] (hM t e []) 2 [0] (.p (.agg [encV t])) (hN t e) 1 := by
  obtain ⟨la1, la2, la3⟩ := lensT_mk hlt
  have eV := encV_eq t
  have rl := rowE_len t 0 e.1 1 t.ents.length (Nat.le_refl _)
  refine DFn.of [0] Try.func86 rfl (by decide) Try.ntmps86 Try.results86 (Nat.le_of_ble_eq_true rfl) (by simp [hM]) fun val => ?_
  simp only [avT, hM, hN]
  refine AW.rT (by rfl) fun K hK => ?_
  simp -implicitDefEqProofs only [go_sem, ↓reduceIte, Nat.reduceAdd, Nat.reduceMul, Nat.reduceEqDiff, Nat.reduceLeDiff, reduceCtorEq, Int.reduceToNat]
  refine hK _ ?_; clear hK K
  refine AW.seq ?_
  refine AW.rT (by rfl) fun K hK => ?_
  simp -implicitDefEqProofs only [go_sem, ↓reduceIte, Nat.reduceAdd, Nat.reduceMul, Nat.reduceEqDiff, Nat.reduceLeDiff, reduceCtorEq, Int.reduceToNat]
  refine hK _ ?_; clear hK K
  refine AW.block ?_
  have b1 : (t.kind == 1) = false := by rw [hk]; rfl
  have b2 : (t.kind == 2) = false := by rw [hk]; rfl
  rw [if_neg (by omega), if_neg (by omega)] at eV
  refine AW.rT (by rfl) fun K hK => ?_
  simp -implicitDefEqProofs only [go_sem, ↓reduceIte, Nat.reduceAdd, Nat.reduceMul, Nat.reduceEqDiff, Nat.reduceLeDiff, reduceCtorEq, Int.reduceToNat, b1]
  refine hK _ ?_; clear hK K
  refine AW.cond _ (by simp -implicitDefEqProofs only [go_sem, ↓reduceIte, Nat.reduceAdd, Nat.reduceMul, Nat.reduceEqDiff, Nat.reduceLeDiff, reduceCtorEq, Int.reduceToNat]; rfl) (fun hc => ?_) (fun hc => ?_)
  · simp at hc
  refine AW.rT (by rfl) fun K hK => ?_
  simp -implicitDefEqProofs only [go_sem, ↓reduceIte, Nat.reduceAdd, Nat.reduceMul, Nat.reduceEqDiff, Nat.reduceLeDiff, reduceCtorEq, Int.reduceToNat, b2]
  refine hK _ ?_; clear hK K
  refine AW.cond _ (by simp -implicitDefEqProofs only [go_sem, ↓reduceIte, Nat.reduceAdd, Nat.reduceMul, Nat.reduceEqDiff, Nat.reduceLeDiff, reduceCtorEq, Int.reduceToNat]; rfl) (fun hc => ?_) (fun hc => ?_)
  · simp at hc
  refine AW.skip ?_
  simp only [andThen, inBlk, reduceCtorEq, ↓reduceIte, if_t, if_f]
  refine AW.rT (by rfl) fun K hK => ?_
  simp -implicitDefEqProofs only [go_sem, ↓reduceIte, Nat.reduceAdd, Nat.reduceMul, Nat.reduceEqDiff, Nat.reduceLeDiff, reduceCtorEq, Int.reduceToNat]
  refine ⟨.pure _, clone_Raws t.rest (by omega), ?_⟩
  try simp -implicitDefEqProofs only [go_sem, ↓reduceIte, Nat.reduceAdd, Nat.reduceMul, Nat.reduceEqDiff, Nat.reduceLeDiff, reduceCtorEq, Int.reduceToNat]
  refine hK _ ?_; clear hK K
  refine AW.seq ?_
  refine AW.rT (by rfl) fun K hK => ?_
  simp -implicitDefEqProofs only [go_sem, ↓reduceIte, Nat.reduceAdd, Nat.reduceMul, Nat.reduceEqDiff, Nat.reduceLeDiff, reduceCtorEq, Int.reduceToNat, rl]
  refine hK _ ?_; clear hK K
  refine AW.block ?_
  refine AW.loop (mxD t e) (fun i => i ≤ t.ents.length) (fun i => t.ents.length - i) 0 ?_ (by simp) fun i hi => ?_
  · refine Ghost.trans (Ghost.nilH (l := 14) (i := 0) (j := 0) (sz' := 2) rfl rfl rfl) ?_
    simp only [mxD, hM]
    refine Ghost.ent (fun l => if l = 2 then 3 else if l = 3 then 14 else if l = 4 then 20 else l) ?_ ?_ ?_ <;> simp -implicitDefEqProofs only [go_sem, ↓reduceIte, Nat.reduceAdd, Nat.reduceMul, Nat.reduceEqDiff, Nat.reduceLeDiff, reduceCtorEq, Int.reduceToNat, List.take_zero, List.map_nil, liftE_nil, List.set_cons_zero, List.set_cons_succ, rowE_ren, rowE_labs t 0 e.1 1 t.ents.length 5 (by decide), List.forall_mem_cons, List.not_mem_nil, false_implies, implies_true, and_self, map_renL_lift, labsIn_lift, List.all_append, List.all_cons, List.all_nil, List.map_append, Nat.reduceLT, labsInL, AV.labsIn]
    rfl
  simp only [mxD, hM]
  by_cases hil : i < t.ents.length
  case neg =>
    have hc1 : ((i : Int) < (t.ents.length : Int)) = False := by simp; omega
    have hi' : i = t.ents.length := by omega
    subst hi'
    refine AW.rT (by rfl) fun K hK => ?_
    simp -implicitDefEqProofs only [go_sem, ↓reduceIte, Nat.reduceAdd, Nat.reduceMul, Nat.reduceEqDiff, Nat.reduceLeDiff, reduceCtorEq, Int.reduceToNat, hc1]
    refine hK _ ?_; clear hK K
    refine AW.seq ?_
    refine AW.cond _ (by simp -implicitDefEqProofs only [go_sem, ↓reduceIte, Nat.reduceAdd, Nat.reduceMul, Nat.reduceEqDiff, Nat.reduceLeDiff, reduceCtorEq, Int.reduceToNat]; rfl) (fun hc => ?_) (fun hc => ?_)
    · simp at hc
    refine AW.exit ?_
    simp only [andThen, inBlk, reduceCtorEq, ↓reduceIte, if_t, if_f]
    refine AW.ghost (s' := mwD t e) (Ghost.trans (Ghost.freeze (lb := 4) (ps := (t.ents.take t.ents.length).map encVn) rfl (unlift_liftE _)) ?_) ?_
    · simp only [mwD, hM]
      refine Ghost.sub ?_ ?_ <;> simp -implicitDefEqProofs only [go_sem, ↓reduceIte, Nat.reduceAdd, Nat.reduceMul, Nat.reduceEqDiff, Nat.reduceLeDiff, reduceCtorEq, Int.reduceToNat, thaw, thaw1, Option.map_some, List.take_length, List.map_cons, List.map_nil, liftE_cons, liftE_nil, rowE_thaw t 0 e.1 1 t.ents.length 4 _ (by decide), rowE_labs t 0 e.1 1 t.ents.length 4 (by decide), thaw_lift, List.forall_mem_cons, List.not_mem_nil, false_implies, implies_true, and_self, labsIn_lift, List.all_append, List.all_cons, List.all_nil, Nat.reduceLT, labsInL, AV.labsIn]
      done
    simp only [mwD, hM]
    refine AW.ghost (s' := mvD t e) (Ghost.trans (Ghost.freezeP (lb := 3) (ps := [[.slice (t.ents.map encVn), .slice (t.rest.map encRaw)]]) rfl (unlift_liftE _)) ?_) ?_
    · simp only [mvD, hM]
      refine Ghost.sub ?_ ?_ <;> simp -implicitDefEqProofs only [go_sem, ↓reduceIte, Nat.reduceAdd, Nat.reduceMul, Nat.reduceEqDiff, Nat.reduceLeDiff, reduceCtorEq, Int.reduceToNat, thawP, thawP1, Option.map_some, List.take_length, List.map_cons, List.map_nil, rowE_thawP t 0 e.1 1 t.ents.length 3 _ (by decide), thawP_liftE, rowE_labs t 0 e.1 1 t.ents.length 3 (by decide), List.forall_mem_cons, List.not_mem_nil, false_implies, implies_true, and_self, labsIn_lift, List.all_append, List.all_cons, List.all_nil, Nat.reduceLT, labsInL, AV.labsIn]
      done
    simp only [mvD, hM]
    refine AW.rT (by rfl) fun K hK => ?_
    simp -implicitDefEqProofs only [go_sem, ↓reduceIte, Nat.reduceAdd, Nat.reduceMul, Nat.reduceEqDiff, Nat.reduceLeDiff, reduceCtorEq, Int.reduceToNat]
    refine hK _ ?_; clear hK K
    rw [← eV]
    refine AW.ret ⟨fun k => if k = 2 then 1 else k, [.p (.agg [encV t])], ⟨?_, trivial⟩, rfl, rfl, ?_, ?_, ?_⟩
    · simp -implicitDefEqProofs only [go_sem, ↓reduceIte, Nat.reduceAdd, Nat.reduceMul, Nat.reduceEqDiff, Nat.reduceLeDiff, reduceCtorEq, Int.reduceToNat]
      done
    · simp -implicitDefEqProofs only [go_sem, ↓reduceIte, Nat.reduceAdd, Nat.reduceMul, Nat.reduceEqDiff, Nat.reduceLeDiff, reduceCtorEq, Int.reduceToNat, List.forall_mem_cons, List.not_mem_nil, false_implies, implies_true, and_self, labsIn_lift, map_renL_lift, rowE_ren, rowE_labs t 0 e.1 2 t.ents.length 3 (by decide)]
      exact ⟨by decide, by decide⟩
    · simp
    · intro l hl
      have : l = 0 := by simpa using hl
      subst this
      refine ⟨by decide, .inr (.inr ⟨0, 3, [.p (.int .i64 t.kind), .p (.int .i64 t.n), .p (.str t.s), .own 0, .p (.slice (t.rest.map encRaw))], [.p (.int .i64 t.kind), .p (.int .i64 t.n), .p (.str t.s), .own 0, .p (.slice (t.rest.map encRaw))], 2, _, _, by simp, rfl, rfl, ?_, rfl, rfl, rfl, ?_, ?_⟩)⟩
      · simp -implicitDefEqProofs only [go_sem, ↓reduceIte, Nat.reduceAdd, Nat.reduceMul, Nat.reduceEqDiff, Nat.reduceLeDiff, reduceCtorEq, Int.reduceToNat]
        done
      all_goals
        intro h
        have rl := rowE_len t 0 e.1 1 t.ents.length (Nat.le_refl _)
        have rl2 := rowE_len t 0 e.1 2 t.ents.length (Nat.le_refl _)
        first | rw [h] at rl | (rw [h] at rl2; have rl := rl2)
        have : 0 < t.ents.length := (List.getElem?_eq_some_iff.1 he0).1
        simp at rl
        omega
  have hal : 0 < t.ents.length := by omega
  have hc1 : ((i : Int) < (t.ents.length : Int)) = True := by simp; omega
  refine AW.rT (by rfl) fun K hK => ?_
  simp -implicitDefEqProofs only [go_sem, ↓reduceIte, Nat.reduceAdd, Nat.reduceMul, Nat.reduceEqDiff, Nat.reduceLeDiff, reduceCtorEq, Int.reduceToNat, hc1]
  refine hK _ ?_; clear hK K
  refine AW.seq ?_
  refine AW.cond _ (by simp -implicitDefEqProofs only [go_sem, ↓reduceIte, Nat.reduceAdd, Nat.reduceMul, Nat.reduceEqDiff, Nat.reduceLeDiff, reduceCtorEq, Int.reduceToNat]; rfl) (fun hc => ?_) (fun hc => ?_)
  rotate_left
  · simp at hc
  refine AW.skip ?_
  simp only [andThen, inBlk, reduceCtorEq, ↓reduceIte, if_t, if_f]
  refine AW.seq ?_
  refine AW.block ?_
  rcases Nat.eq_zero_or_pos i with rfl | hi0
  · have ra := rowE_at (g := e.1) (l := 1) hal
    have li : (liftE (e.2.map encTr)).length = e.2.length := by rw [liftE_length, List.length_map]
    have ⟨le1, le2⟩ := lensE_at la3 he0
    have bnd : (0 ≤ ((0 : Nat) : Int)) = True := eq_true (by omega)
    refine AW.rT (by rfl) fun K hK => ?_
    simp -implicitDefEqProofs only [go_sem, ↓reduceIte, Nat.reduceAdd, Nat.reduceMul, Nat.reduceEqDiff, Nat.reduceLeDiff, reduceCtorEq, Int.reduceToNat, rl, ra, bnd, hc1]
    refine hK _ ?_; clear hK K
    refine AW.rT (by rfl) fun K hK => ?_
    simp -implicitDefEqProofs only [go_sem, ↓reduceIte, Nat.reduceAdd, Nat.reduceMul, Nat.reduceEqDiff, Nat.reduceLeDiff, reduceCtorEq, Int.reduceToNat]
    refine hK _ ?_; clear hK K
    refine AW.seq ?_
    refine AW.rT (by rfl) fun K hK => ?_
    simp -implicitDefEqProofs only [go_sem, ↓reduceIte, Nat.reduceAdd, Nat.reduceMul, Nat.reduceEqDiff, Nat.reduceLeDiff, reduceCtorEq, Int.reduceToNat, li]
    refine hK _ ?_; clear hK K
    refine AW.block ?_
    refine AW.loop (myD t e (.own 1) 0 e) (fun k => k ≤ e.2.length) (fun k => e.2.length - k) 0 ?_ (by simp) fun k hk => ?_
    · refine Ghost.trans (Ghost.nilH (l := 13) (i := 0) (j := 1) (sz' := 1) rfl rfl rfl) ?_
      simp only [myD, hM]
      refine Ghost.ent (fun l => if l = 5 then 13 else if l = 6 then 19 else l) ?_ ?_ ?_ <;> simp -implicitDefEqProofs only [go_sem, ↓reduceIte, Nat.reduceAdd, Nat.reduceMul, Nat.reduceEqDiff, Nat.reduceLeDiff, reduceCtorEq, Int.reduceToNat, List.take_zero, List.map_nil, liftE_nil, List.set_cons_zero, List.set_cons_succ, rowE_ren, rowE_labs t 0 e.1 1 t.ents.length 7 (by decide), List.forall_mem_cons, List.not_mem_nil, false_implies, implies_true, and_self, map_renL_lift, labsIn_lift, List.all_append, List.all_cons, List.all_nil, List.map_append, Nat.reduceLT, labsInL, AV.labsIn]
      rfl
    simp only [myD, hM]
    by_cases hkl : k < e.2.length
    · obtain ⟨x, hx⟩ : ∃ x, e.2[k]? = some x := ⟨_, List.getElem?_eq_getElem hkl⟩
      have gx := at_lift encTr hx
      rw [encTr_eq] at gx
      have hc2 : ((k : Int) < (e.2.length : Int)) = True := by simp; omega
      have bk : (0 ≤ (k : Int)) = True := eq_true (by omega)
      simp only [List.map_cons, List.map_nil] at gx
      have IH := value_made x (lensTs_at le2 hx)
      rw [encTr_eq] at IH
      have eo := encV_one x
      refine AW.rT (by rfl) fun K hK => ?_
      simp -implicitDefEqProofs only [go_sem, ↓reduceIte, Nat.reduceAdd, Nat.reduceMul, Nat.reduceEqDiff, Nat.reduceLeDiff, reduceCtorEq, Int.reduceToNat, hc2]
      refine hK _ ?_; clear hK K
      refine AW.seq ?_
      refine AW.cond _ (by simp -implicitDefEqProofs only [go_sem, ↓reduceIte, Nat.reduceAdd, Nat.reduceMul, Nat.reduceEqDiff, Nat.reduceLeDiff, reduceCtorEq, Int.reduceToNat]; rfl) (fun hc => ?_) (fun hc => ?_)
      rotate_left
      · simp at hc
      refine AW.skip ?_
      simp only [andThen, inBlk, reduceCtorEq, ↓reduceIte, if_t, if_f]
      refine AW.seq ?_
      refine AW.block ?_
      refine AW.rT (by rfl) fun K hK => ?_
      simp -implicitDefEqProofs only [go_sem, ↓reduceIte, Nat.reduceAdd, Nat.reduceMul, Nat.reduceEqDiff, Nat.reduceLeDiff, reduceCtorEq, Int.reduceToNat, hc2, gx, li, bk]
      refine hK _ ?_; clear hK K
      refine AW.dE mixed (by rfl) (by decide +kernel) fun K hK => ?_
      simp -implicitDefEqProofs only [go_sem, ↓reduceIte, Nat.reduceAdd, Nat.reduceMul, Nat.reduceEqDiff, Nat.reduceLeDiff, reduceCtorEq, Int.reduceToNat]
      refine ⟨.pure _, IH, ?_⟩
      try simp -implicitDefEqProofs only [go_sem, ↓reduceIte, Nat.reduceAdd, Nat.reduceMul, Nat.reduceEqDiff, Nat.reduceLeDiff, reduceCtorEq, Int.reduceToNat]
      refine ⟨encV_one x, ⟨by simp, by simp [oneAll, AV.one, eo], by simp⟩, by simp [liftE_length]; omega, by decide +kernel, ?_⟩
      refine hK _ ?_; clear hK K
      have w1 : IntKind.wrap .i64 ((k : Int) + 1) = ((k + 1 : Nat) : Int) := by rw [w64] <;> omega
      have e7 : liftE ((e.2.take k).map encV1) ++ [[AV.p (encV x)]] = liftE ((e.2.take (k + 1)).map encV1) := by
        rw [List.take_add_one, hx]
        simp [liftE, encV1]
      refine AW.rE (by rfl) fun K hK => ?_
      simp -implicitDefEqProofs only [go_sem, ↓reduceIte, Nat.reduceAdd, Nat.reduceMul, Nat.reduceEqDiff, Nat.reduceLeDiff, reduceCtorEq, Int.reduceToNat, w1]
      refine hK _ ?_; clear hK K
      refine ⟨k + 1, by omega, by omega, ?_⟩
      refine Ghost.ent (fun l => if l = 6 then 17 else l) ?_ ?_ ?_ <;> simp -implicitDefEqProofs only [go_sem, ↓reduceIte, Nat.reduceAdd, Nat.reduceMul, Nat.reduceEqDiff, Nat.reduceLeDiff, reduceCtorEq, Int.reduceToNat, e7, rowE_ren, rowE_labs t 0 e.1 1 t.ents.length 7 (by decide), List.forall_mem_cons, List.not_mem_nil, false_implies, implies_true, and_self, map_renL_lift, labsIn_lift, List.all_append, List.all_cons, List.all_nil, List.map_append, Nat.reduceLT, labsInL, AV.labsIn]
      done
    have hc2 : ((k : Int) < (e.2.length : Int)) = False := by simp; omega
    have hk' : k = e.2.length := by omega
    subst hk'
    refine AW.rT (by rfl) fun K hK => ?_
    simp -implicitDefEqProofs only [go_sem, ↓reduceIte, Nat.reduceAdd, Nat.reduceMul, Nat.reduceEqDiff, Nat.reduceLeDiff, reduceCtorEq, Int.reduceToNat, hc2]
    refine hK _ ?_; clear hK K
    refine AW.seq ?_
    refine AW.cond _ (by simp -implicitDefEqProofs only [go_sem, ↓reduceIte, Nat.reduceAdd, Nat.reduceMul, Nat.reduceEqDiff, Nat.reduceLeDiff, reduceCtorEq, Int.reduceToNat]; rfl) (fun hc => ?_) (fun hc => ?_)
    · simp at hc
    refine AW.exit ?_
    simp only [andThen, inBlk, reduceCtorEq, ↓reduceIte, if_t, if_f]
    refine AW.ghost (s' := mzD t e 0 e) (Ghost.trans (Ghost.freeze (lb := 6) (ps := (e.2.take e.2.length).map encV1) rfl (unlift_liftE _)) ?_) ?_
    · simp only [mzD, hM]
      refine Ghost.sub ?_ ?_ <;> simp -implicitDefEqProofs only [go_sem, ↓reduceIte, Nat.reduceAdd, Nat.reduceMul, Nat.reduceEqDiff, Nat.reduceLeDiff, reduceCtorEq, Int.reduceToNat, thaw, thaw1, Option.map_some, List.take_length, List.map_cons, List.map_nil, thaw_lift, rowE_thaw t 0 e.1 1 t.ents.length 6 _ (by decide), rowE_labs t 0 e.1 1 t.ents.length 6 (by decide), List.forall_mem_cons, List.not_mem_nil, false_implies, implies_true, and_self, labsIn_lift, List.all_append, List.all_cons, List.all_nil, Nat.reduceLT, labsInL, AV.labsIn]
      done
    simp only [mzD, hM]
    refine AW.dE mixed (by rfl) (by decide +kernel) fun K hK => ?_
    simp -implicitDefEqProofs only [go_sem, ↓reduceIte, Nat.reduceAdd, Nat.reduceMul, Nat.reduceEqDiff, Nat.reduceLeDiff, reduceCtorEq, Int.reduceToNat]
    refine ⟨⟨by simp, by simp [oneAll, AV.one, PV.one], by simp⟩, by decide, by decide +kernel, ?_⟩
    refine hK _ ?_; clear hK K
    have w1 : IntKind.wrap .i64 (((0 : Nat) : Int) + 1) = ((0 + 1 : Nat) : Int) := by rw [w64] <;> omega
    have e8 : [[AV.p (.int .i64 e.1), .p (.slice (e.2.map encV1))]] = liftE ((t.ents.take (0 + 1)).map encVn) := by
      rw [List.take_add_one, he0]
      simp [liftE, encVn]
    refine AW.rE (by rfl) fun K hK => ?_
    simp -implicitDefEqProofs only [go_sem, ↓reduceIte, Nat.reduceAdd, Nat.reduceMul, Nat.reduceEqDiff, Nat.reduceLeDiff, reduceCtorEq, Int.reduceToNat, w1]
    refine hK _ ?_; clear hK K
    refine ⟨0 + 1, by omega, by omega, ?_⟩
    refine Ghost.ent (fun l => if l = 4 then 13 else l) ?_ ?_ ?_ <;> simp -implicitDefEqProofs only [go_sem, ↓reduceIte, Nat.reduceAdd, Nat.reduceMul, Nat.reduceEqDiff, Nat.reduceLeDiff, reduceCtorEq, Int.reduceToNat, e8, rowE_ren, rowE_labs t 0 e.1 1 t.ents.length 5 (by decide), List.forall_mem_cons, List.not_mem_nil, false_implies, implies_true, and_self, map_renL_lift, labsIn_lift, List.all_append, List.all_cons, List.all_nil, List.map_append, Nat.reduceLT, labsInL, AV.labsIn]
    done
  obtain ⟨x, hx⟩ : ∃ x, t.ents[i]? = some x := ⟨_, List.getElem?_eq_getElem hil⟩
  have ⟨le1, le2⟩ := lensE_at la3 hx
  have ra := rowE_off (g := e.1) (l := 1) hi0 hx
  have bnd : (0 ≤ (i : Int)) = True := eq_true (by omega)
  refine AW.rT (by rfl) fun K hK => ?_
  simp -implicitDefEqProofs only [go_sem, ↓reduceIte, Nat.reduceAdd, Nat.reduceMul, Nat.reduceEqDiff, Nat.reduceLeDiff, reduceCtorEq, Int.reduceToNat, rl, ra, bnd, hc1]
  refine hK _ ?_; clear hK K
  refine AW.rT (by rfl) fun K hK => ?_
  simp -implicitDefEqProofs only [go_sem, ↓reduceIte, Nat.reduceAdd, Nat.reduceMul, Nat.reduceEqDiff, Nat.reduceLeDiff, reduceCtorEq, Int.reduceToNat]
  refine hK _ ?_; clear hK K
  refine AW.seq ?_
  refine AW.rT (by rfl) fun K hK => ?_
  simp -implicitDefEqProofs only [go_sem, ↓reduceIte, Nat.reduceAdd, Nat.reduceMul, Nat.reduceEqDiff, Nat.reduceLeDiff, reduceCtorEq, Int.reduceToNat, List.length_map]
  refine hK _ ?_; clear hK K
  refine AW.block ?_
  refine AW.loop (myD t e (.p (.slice (x.2.map encTr))) i x) (fun k => k ≤ x.2.length) (fun k => x.2.length - k) 0 ?_ (by simp) fun k hk => ?_
  · refine Ghost.trans (Ghost.nilH (l := 13) (i := 0) (j := 1) (sz' := 1) rfl rfl rfl) ?_
    simp only [myD, hM]
    refine Ghost.ent (fun l => if l = 5 then 13 else if l = 6 then 19 else l) ?_ ?_ ?_ <;> simp -implicitDefEqProofs only [go_sem, ↓reduceIte, Nat.reduceAdd, Nat.reduceMul, Nat.reduceEqDiff, Nat.reduceLeDiff, reduceCtorEq, Int.reduceToNat, List.take_zero, List.map_nil, liftE_nil, List.set_cons_zero, List.set_cons_succ, rowE_ren, rowE_labs t 0 e.1 1 t.ents.length 7 (by decide), List.forall_mem_cons, List.not_mem_nil, false_implies, implies_true, and_self, map_renL_lift, labsIn_lift, List.all_append, List.all_cons, List.all_nil, List.map_append, Nat.reduceLT, labsInL, AV.labsIn]
    rfl
  simp only [myD, hM]
  by_cases hkl : k < x.2.length
  · obtain ⟨y, hy⟩ : ∃ y, x.2[k]? = some y := ⟨_, List.getElem?_eq_getElem hkl⟩
    have ⟨hx1, hx2, hx3⟩ := at_map' encTr hy
    have hc2 : ((k : Int) < (x.2.length : Int)) = True := by simp; omega
    have IH := value_made y (lensTs_at le2 hy)
    rw [encTr_eq] at IH
    have eo := encV_one y
    refine AW.rT (by rfl) fun K hK => ?_
    simp -implicitDefEqProofs only [go_sem, ↓reduceIte, Nat.reduceAdd, Nat.reduceMul, Nat.reduceEqDiff, Nat.reduceLeDiff, reduceCtorEq, Int.reduceToNat, hc2]
    refine hK _ ?_; clear hK K
    refine AW.seq ?_
    refine AW.cond _ (by simp -implicitDefEqProofs only [go_sem, ↓reduceIte, Nat.reduceAdd, Nat.reduceMul, Nat.reduceEqDiff, Nat.reduceLeDiff, reduceCtorEq, Int.reduceToNat]; rfl) (fun hc => ?_) (fun hc => ?_)
    rotate_left
    · simp at hc
    refine AW.skip ?_
    simp only [andThen, inBlk, reduceCtorEq, ↓reduceIte, if_t, if_f]
    refine AW.seq ?_
    refine AW.block ?_
    refine AW.rT (by rfl) fun K hK => ?_
    simp -implicitDefEqProofs only [go_sem, ↓reduceIte, Nat.reduceAdd, Nat.reduceMul, Nat.reduceEqDiff, Nat.reduceLeDiff, reduceCtorEq, Int.reduceToNat, hc2, hx1, hx2, hx3, encTr_eq, List.length_map]
    refine hK _ ?_; clear hK K
    refine AW.dE mixed (by rfl) (by decide +kernel) fun K hK => ?_
    simp -implicitDefEqProofs only [go_sem, ↓reduceIte, Nat.reduceAdd, Nat.reduceMul, Nat.reduceEqDiff, Nat.reduceLeDiff, reduceCtorEq, Int.reduceToNat]
    refine ⟨.pure _, IH, ?_⟩
    try simp -implicitDefEqProofs only [go_sem, ↓reduceIte, Nat.reduceAdd, Nat.reduceMul, Nat.reduceEqDiff, Nat.reduceLeDiff, reduceCtorEq, Int.reduceToNat]
    refine ⟨encV_one y, ⟨by simp, by simp [oneAll, AV.one, eo], by simp⟩, by simp [liftE_length]; omega, by decide +kernel, ?_⟩
    refine hK _ ?_; clear hK K
    have w1 : IntKind.wrap .i64 ((k : Int) + 1) = ((k + 1 : Nat) : Int) := by rw [w64] <;> omega
    have e7 : liftE ((x.2.take k).map encV1) ++ [[AV.p (encV y)]] = liftE ((x.2.take (k + 1)).map encV1) := by
      rw [List.take_add_one, hy]
      simp [liftE, encV1]
    refine AW.rE (by rfl) fun K hK => ?_
    simp -implicitDefEqProofs only [go_sem, ↓reduceIte, Nat.reduceAdd, Nat.reduceMul, Nat.reduceEqDiff, Nat.reduceLeDiff, reduceCtorEq, Int.reduceToNat, w1]
    refine hK _ ?_; clear hK K
    refine ⟨k + 1, by omega, by omega, ?_⟩
    refine Ghost.ent (fun l => if l = 6 then 17 else l) ?_ ?_ ?_ <;> simp -implicitDefEqProofs only [go_sem, ↓reduceIte, Nat.reduceAdd, Nat.reduceMul, Nat.reduceEqDiff, Nat.reduceLeDiff, reduceCtorEq, Int.reduceToNat, e7, rowE_ren, rowE_labs t 0 e.1 1 t.ents.length 7 (by decide), List.forall_mem_cons, List.not_mem_nil, false_implies, implies_true, and_self, map_renL_lift, labsIn_lift, List.all_append, List.all_cons, List.all_nil, List.map_append, Nat.reduceLT, labsInL, AV.labsIn]
    done
  have hc2 : ((k : Int) < (x.2.length : Int)) = False := by simp; omega
  have hk' : k = x.2.length := by omega
  subst hk'
  refine AW.rT (by rfl) fun K hK => ?_
  simp -implicitDefEqProofs only [go_sem, ↓reduceIte, Nat.reduceAdd, Nat.reduceMul, Nat.reduceEqDiff, Nat.reduceLeDiff, reduceCtorEq, Int.reduceToNat, hc2]
  refine hK _ ?_; clear hK K
  refine AW.seq ?_
  refine AW.cond _ (by simp -implicitDefEqProofs only [go_sem, ↓reduceIte, Nat.reduceAdd, Nat.reduceMul, Nat.reduceEqDiff, Nat.reduceLeDiff, reduceCtorEq, Int.reduceToNat]; rfl) (fun hc => ?_) (fun hc => ?_)
  · simp at hc
  refine AW.exit ?_
  simp only [andThen, inBlk, reduceCtorEq, ↓reduceIte, if_t, if_f]
  refine AW.ghost (s' := mzD t e i x) (Ghost.trans (Ghost.freeze (lb := 6) (ps := (x.2.take x.2.length).map encV1) rfl (unlift_liftE _)) ?_) ?_
  · simp only [mzD, hM]
    refine Ghost.sub ?_ ?_ <;> simp -implicitDefEqProofs only [go_sem, ↓reduceIte, Nat.reduceAdd, Nat.reduceMul, Nat.reduceEqDiff, Nat.reduceLeDiff, reduceCtorEq, Int.reduceToNat, thaw, thaw1, Option.map_some, List.take_length, List.map_cons, List.map_nil, thaw_lift, rowE_thaw t 0 e.1 1 t.ents.length 6 _ (by decide), rowE_labs t 0 e.1 1 t.ents.length 6 (by decide), List.forall_mem_cons, List.not_mem_nil, false_implies, implies_true, and_self, labsIn_lift, List.all_append, List.all_cons, List.all_nil, Nat.reduceLT, labsInL, AV.labsIn]
    done
  simp only [mzD, hM]
  refine AW.dE mixed (by rfl) (by decide +kernel) fun K hK => ?_
  simp -implicitDefEqProofs only [go_sem, ↓reduceIte, Nat.reduceAdd, Nat.reduceMul, Nat.reduceEqDiff, Nat.reduceLeDiff, reduceCtorEq, Int.reduceToNat]
  refine ⟨⟨by simp, by simp [oneAll, AV.one, PV.one], by simp⟩, by simp [liftE_length]; omega, by decide +kernel, ?_⟩
  refine hK _ ?_; clear hK K
  have w1 : IntKind.wrap .i64 ((i : Int) + 1) = ((i + 1 : Nat) : Int) := by rw [w64] <;> omega
  have e8 : liftE ((t.ents.take i).map encVn) ++ [[AV.p (.int .i64 x.1), .p (.slice (x.2.map encV1))]] = liftE ((t.ents.take (i + 1)).map encVn) := by
    rw [List.take_add_one, hx]
    simp [liftE, encVn]
  refine AW.rE (by rfl) fun K hK => ?_
  simp -implicitDefEqProofs only [go_sem, ↓reduceIte, Nat.reduceAdd, Nat.reduceMul, Nat.reduceEqDiff, Nat.reduceLeDiff, reduceCtorEq, Int.reduceToNat, w1]
  refine hK _ ?_; clear hK K
  refine ⟨i + 1, by omega, by omega, ?_⟩
  refine Ghost.ent (fun l => if l = 4 then 13 else l) ?_ ?_ ?_ <;> simp -implicitDefEqProofs only [go_sem, ↓reduceIte, Nat.reduceAdd, Nat.reduceMul, Nat.reduceEqDiff, Nat.reduceLeDiff, reduceCtorEq, Int.reduceToNat, e8, rowE_ren, rowE_labs t 0 e.1 1 t.ents.length 5 (by decide), List.forall_mem_cons, List.not_mem_nil, false_implies, implies_true, and_self, map_renL_lift, labsIn_lift, List.all_append, List.all_cons, List.all_nil, List.map_append, Nat.reduceLT, labsInL, AV.labsIn]
  done
end Go.Aw
