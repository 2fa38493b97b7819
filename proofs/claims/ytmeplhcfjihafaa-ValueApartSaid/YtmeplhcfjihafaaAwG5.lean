/- Trees: in new memory, depth, which may be, Same. -/
import Derived.Test.YtmeplhcfjihafaaAwG4
import Derived.Test.YtmeplhcfjihafaaAwG2
import Derived.Test.YtmeplhcfjihafaaAwG3
/- A tree in new memory. -/
namespace Go.Aw
open Go.Proofs
set_option linter.unusedSimpArgs false
set_option linter.unusedVariables false
/-- A nil slice in a row is an empty row of one's own. -/
theorem Ghost.nilH {nt : Fm} {s : St} {l i j sz sz' : Nat} {es : List (List AV)} {e : List AV} (hl : s.H l = some (.row sz es)) (hi : es[i]? = some e) (hj : e[j]? = some (.ex [])) :
    Ghost nt s ⟨s.T, upd (upd s.H l (some (.row sz (es.set i (e.set j (.own s.nx)))))) s.nx (some (.row sz' [])), s.nx + 1⟩ := by
  rintro w0 X I0 a w ⟨σ, I, hσ, m⟩
  have hb := m.heap.rows l _ hl
  cases hb with
  | emp h => simp at hi
  | row h hg hcur hc hs ho hr =>
    rename_i g c cur et
    obtain ⟨u, hu, hru⟩ := hr i e j _ hi hj
    have hnx := hσ s.nx (Nat.le_refl _)
    have hln : l ≠ s.nx := by rintro rfl; rw [hnx] at h; cases h
    cases hru with
    | ex he hrep =>
      rename_i ad n
      subst he
      have ext : ∀ l' s', σ l' = some s' → upd σ s.nx (some (.emp ad)) l' = some s' := fun l' s' h' => by
        rw [upd_ne _ _ (by rintro rfl; rw [hnx] at h'; cases h')]
        exact h'
      have H2 := m.heap.empty hnx ad sz'
      refine ⟨upd σ s.nx (some (.emp ad)), I, fun l' h' => ?_, m.defers, m.size, m.pins, ⟨fun l' b' h' => ?_, fun l1 l2 g s1 s2 h1 h2 => ?_, fun l' g s' h1 => ?_, H2.imm, H2.sub, H2.fr⟩, fun i' x hx => ?_⟩
      · simp only at h'
        rw [upd_ne _ _ (by omega)]
        exact hσ l' (by omega)
      · simp only at h'
        by_cases e1 : l' = s.nx
        · subst e1
          rw [upd_same] at h'
          exact H2.rows s.nx b' (by rw [upd_same]; exact h')
        · rw [upd_ne _ _ e1] at h'
          by_cases e2 : l' = l
          · subst e2
            rw [upd_same] at h'
            injection h' with h'
            subst h'
            refine .row (by rw [List.length_set]; exact ext _ _ h) hg hcur (by rw [List.length_set]; exact hc) (fun e' he' => ?_) (fun e' he' x hx => ?_) fun i' e' j' x q1 q2 => ?_
            · rcases List.mem_or_eq_of_mem_set he' with he' | rfl
              · exact hs e' he'
              · rw [List.length_set]; exact hs e (List.mem_of_getElem? hi)
            · rcases List.mem_or_eq_of_mem_set he' with he' | rfl
              · exact ho e' he' x hx
              · rcases List.mem_or_eq_of_mem_set hx with hx | rfl
                · exact ho e (List.mem_of_getElem? hi) x hx
                · rfl
            · rw [List.getElem?_set] at q1
              split at q1
              · rename_i e3
                subst e3
                split at q1
                · injection q1 with q1
                  subst q1
                  rw [List.getElem?_set] at q2
                  split at q2
                  · rename_i e4
                    subst e4
                    split at q2
                    · injection q2 with q2
                      subst q2
                      exact ⟨_, hu, .ownE (upd_same _ _ _)⟩
                    · cases q2
                  · obtain ⟨u', hu', hr'⟩ := hr i e j' x hi q2
                    exact ⟨u', hu', hr'.mono ext (fun _ h => h) (fun _ _ => rfl)⟩
                · cases q1
              · obtain ⟨u', hu', hr'⟩ := hr i' e' j' x q1 q2
                exact ⟨u', hu', hr'.mono ext (fun _ h => h) (fun _ _ => rfl)⟩
          · rw [upd_ne _ _ e2] at h'
            exact H2.rows l' b' (by rw [upd_ne _ _ e1]; exact h')
      · refine H2.inj l1 l2 g s1 s2 ?_ ?_
        · intro h0; apply h1
          show upd (upd s.H l _) s.nx _ l1 = none
          by_cases e1 : l1 = s.nx
          · subst e1; rw [upd_same] at h0; cases h0
          · rw [upd_ne _ _ e1] at h0 ⊢
            by_cases e2 : l1 = l
            · subst e2; rw [hl] at h0; cases h0
            · rw [upd_ne _ _ e2]; exact h0
        · intro h0; apply h2
          show upd (upd s.H l _) s.nx _ l2 = none
          by_cases e1 : l2 = s.nx
          · subst e1; rw [upd_same] at h0; cases h0
          · rw [upd_ne _ _ e1] at h0 ⊢
            by_cases e2 : l2 = l
            · subst e2; rw [hl] at h0; cases h0
            · rw [upd_ne _ _ e2]; exact h0
      · refine H2.mine l' g s' ?_
        intro h0; apply h1
        show upd (upd s.H l _) s.nx _ l' = none
        by_cases e1 : l' = s.nx
        · subst e1; rw [upd_same] at h0; cases h0
        · rw [upd_ne _ _ e1] at h0 ⊢
          by_cases e2 : l' = l
          · subst e2; rw [hl] at h0; cases h0
          · rw [upd_ne _ _ e2]; exact h0
      · obtain ⟨v, hv, hrv⟩ := m.tmps i' x hx
        exact ⟨v, hv, hrv.mono ext (fun _ h => h) (fun _ _ => rfl)⟩
theorem law00_RawsB (l : List Raw) (hl : l.length ≤ 1000000) : PFn Try.prog 28 [.slice (l.map encRaw)] (.slice (l.map encRaw)) := by
  refine PFn.of Try.func28 rfl (by decide) Try.ntmps28 Try.results28 (Nat.le_of_ble_eq_true rfl) ?_
  simp only [argsT]
  refine AW.rT (by rfl) fun K hK => ?_
  simp -implicitDefEqProofs only [go_sem, ↓reduceIte, Nat.reduceAdd, Nat.reduceMul, Nat.reduceEqDiff, Nat.reduceLeDiff, reduceCtorEq, Int.reduceToNat]
  refine hK _ ?_; clear hK K
  refine AW.rT (by rfl) fun K hK => ?_
  simp -implicitDefEqProofs only [go_sem, ↓reduceIte, Nat.reduceAdd, Nat.reduceMul, Nat.reduceEqDiff, Nat.reduceLeDiff, reduceCtorEq, Int.reduceToNat]
  refine ⟨⟨liftE_len fun e he => by
      obtain ⟨x, _, rfl⟩ := List.mem_map.1 he
      rfl, liftE_one fun e he p hp => by
      obtain ⟨x, _, rfl⟩ := List.mem_map.1 he
      simp [encRaw] at hp
      rcases hp with rfl | rfl | rfl | rfl <;> rfl, by simp⟩, ⟨.inl trivial, by simp, by simp [liftE_length]; omega⟩, ?_⟩
  refine hK _ ?_; clear hK K
  refine AW.ret ?_
  simp -implicitDefEqProofs only [go_sem, ↓reduceIte, Nat.reduceAdd, Nat.reduceMul, Nat.reduceEqDiff, Nat.reduceLeDiff, reduceCtorEq, Int.reduceToNat]
/-- x under way: so many entries; y under way: so many trees. -/
def tx (t : Tr) (i : Nat) : St := ⟨ofL [(1, .ptr 0 0 0), (2, .ptr 1 0 0), (3, .ptr 2 0 0), (4, .p (.int .i64 (i : Int)))],
  ofH [(0, .row 5 [cellsT t]), (1, .row 5 [[.p (.int .i64 0), .p (.int .i64 0), .p (.str []), .ex [], .ex []]]), (2, .row 5 [[.p (.int .i64 t.kind), .p (.int .i64 t.n), .p (.str t.s), .own 3, .p (.slice (t.rest.map encRaw))]]),
    (3, .row 2 (liftE ((t.ents.take i).map encEn)))], 4⟩
def ty (t : Tr) (i : Nat) (e : Int × List Tr) (k : Nat) : St := ⟨ofL [(1, .ptr 0 0 0), (2, .ptr 1 0 0), (3, .ptr 2 0 0), (4, .p (.int .i64 (i : Int))), (5, .ptr 4 0 0), (6, .p (.int .i64 (k : Int)))],
  ofH [(0, .row 5 [cellsT t]), (1, .row 5 [[.p (.int .i64 0), .p (.int .i64 0), .p (.str []), .ex [], .ex []]]), (2, .row 5 [[.p (.int .i64 t.kind), .p (.int .i64 t.n), .p (.str t.s), .own 3, .p (.slice (t.rest.map encRaw))]]),
    (3, .row 2 (liftE ((t.ents.take i).map encEn))), (4, .row 2 [[.p (.int .i64 e.1), .own 5]]), (5, .row 5 (liftE ((e.2.take k).map encTr)))], 6⟩
theorem thaw_lift (lb : Nat) (qs ps : List (List PV)) : (liftE ps).map (fun e => e.map (thaw1 lb qs)) = liftE ps := by
  simp [liftE, thaw1]
def tz (t : Tr) (i : Nat) (e : Int × List Tr) : St := ⟨ofL [(1, .ptr 0 0 0), (2, .ptr 1 0 0), (3, .ptr 2 0 0), (4, .p (.int .i64 (i : Int))), (5, .ptr 4 0 0)],
  ofH [(0, .row 5 [cellsT t]), (1, .row 5 [[.p (.int .i64 0), .p (.int .i64 0), .p (.str []), .ex [], .ex []]]), (2, .row 5 [[.p (.int .i64 t.kind), .p (.int .i64 t.n), .p (.str t.s), .own 3, .p (.slice (t.rest.map encRaw))]]),
    (3, .row 2 (liftE ((t.ents.take i).map encEn))), (4, .row 2 [[.p (.int .i64 e.1), .p (.slice (e.2.map encTr))]])], 5⟩
def tw (t : Tr) : St := ⟨ofL [(2, .ptr 1 0 0), (3, .ptr 2 0 0)],
  ofH [(1, .row 5 [[.p (.int .i64 0), .p (.int .i64 0), .p (.str []), .ex [], .ex []]]), (2, .row 5 [[.p (.int .i64 t.kind), .p (.int .i64 t.n), .p (.str t.s), .p (.slice (t.ents.map encEn)), .p (.slice (t.rest.map encRaw))]])], 3⟩
theorem tr_five (x : Tr) : (encTr x).length = 5 := by rw [encTr_eq]; rfl
theorem tr_one (x : Tr) : ∀ p ∈ encTr x, p.one = true := by
  rw [encTr_eq]
  intro p hp
  simp at hp
  rcases hp with rfl | rfl | rfl | rfl | rfl <;> rfl
set_option maxRecDepth 100000 in
set_option maxHeartbeats 4000000 in
theorem law00_Tree : ∀ (t : Tr), lensT t = true → PFn Try.prog 43 [.agg (encTr t)] (.agg (encTr t)) := by
  intro t
  induction h : SizeOf.sizeOf t using Nat.strongRecOn generalizing t with
  | _ sz ih =>
  subst h
  intro hlt
  obtain ⟨la1, la2, la3⟩ := lensT_mk hlt
  refine PFn.of Try.func43 rfl (by decide) Try.ntmps43 Try.results43 (Nat.le_of_ble_eq_true rfl) ?_
  simp only [argsT]
  refine AW.rT (by rfl) fun K hK => ?_
  simp -implicitDefEqProofs only [go_sem, ↓reduceIte, Nat.reduceAdd, Nat.reduceMul, Nat.reduceEqDiff, Nat.reduceLeDiff, reduceCtorEq, Int.reduceToNat, encTr_eq]
  refine hK _ ?_; clear hK K
  refine AW.dT mixed (by rfl) (by decide +kernel) fun K hK => ?_
  simp -implicitDefEqProofs only [go_sem, ↓reduceIte, Nat.reduceAdd, Nat.reduceMul, Nat.reduceEqDiff, Nat.reduceLeDiff, reduceCtorEq, Int.reduceToNat]
  refine ⟨.pure _, law00_RawsB t.rest (by omega), ?_⟩
  try simp -implicitDefEqProofs only [go_sem, ↓reduceIte, Nat.reduceAdd, Nat.reduceMul, Nat.reduceEqDiff, Nat.reduceLeDiff, reduceCtorEq, Int.reduceToNat]
  refine ⟨by decide +kernel, ?_⟩
  refine hK _ ?_; clear hK K
  refine AW.seq ?_
  refine AW.rT (by rfl) fun K hK => ?_
  simp -implicitDefEqProofs only [go_sem, ↓reduceIte, Nat.reduceAdd, Nat.reduceMul, Nat.reduceEqDiff, Nat.reduceLeDiff, reduceCtorEq, Int.reduceToNat]
  refine hK _ ?_; clear hK K
  refine AW.block ?_
  refine AW.loop (tx t) (fun i => i ≤ t.ents.length) (fun i => t.ents.length - i) 0 ?_ (by simp) fun i hi => ?_
  · refine Ghost.trans (Ghost.nilH (l := 12) (i := 0) (j := 3) (sz' := 2) rfl rfl rfl) ?_
    simp only [tx, cellsT]
    refine Ghost.ent (fun l => if l = 2 then 12 else if l = 3 then 15 else l) ?_ ?_ ?_ <;> simp -implicitDefEqProofs only [go_sem, ↓reduceIte, Nat.reduceAdd, Nat.reduceMul, Nat.reduceEqDiff, Nat.reduceLeDiff, reduceCtorEq, Int.reduceToNat, List.take_zero, List.map_nil, liftE_nil, List.set_cons_zero, List.set_cons_succ, List.forall_mem_cons, List.not_mem_nil, false_implies, implies_true, and_self, map_renL_lift, labsIn_lift, List.all_append, List.all_cons, List.all_nil, List.map_append, Nat.reduceLT, labsInL, AV.labsIn]
    rfl
  simp only [tx, cellsT]
  refine AW.seq ?_
  by_cases hil : i < t.ents.length
  · obtain ⟨e, he⟩ : ∃ e, t.ents[i]? = some e := ⟨_, List.getElem?_eq_getElem hil⟩
    have ⟨he1, he2, he3⟩ := at_map' encEn he
    have ⟨le1, le2⟩ := lensE_at la3 he
    have hc1 : ((i : Int) < (t.ents.length : Int)) = True := by simp; omega
    refine AW.rT (by rfl) fun K hK => ?_
    simp -implicitDefEqProofs only [go_sem, ↓reduceIte, Nat.reduceAdd, Nat.reduceMul, Nat.reduceEqDiff, Nat.reduceLeDiff, reduceCtorEq, Int.reduceToNat, List.length_map, hc1]
    refine hK _ ?_; clear hK K
    refine AW.cond _ (by simp -implicitDefEqProofs only [go_sem, ↓reduceIte, Nat.reduceAdd, Nat.reduceMul, Nat.reduceEqDiff, Nat.reduceLeDiff, reduceCtorEq, Int.reduceToNat]; rfl) (fun hc => ?_) (fun hc => ?_)
    rotate_left
    · simp at hc
    refine AW.skip ?_
    simp only [andThen, inBlk, reduceCtorEq, ↓reduceIte, if_t, if_f]
    refine AW.seq ?_
    refine AW.block ?_
    refine AW.rT (by rfl) fun K hK => ?_
    simp -implicitDefEqProofs only [go_sem, ↓reduceIte, Nat.reduceAdd, Nat.reduceMul, Nat.reduceEqDiff, Nat.reduceLeDiff, reduceCtorEq, Int.reduceToNat, he1, he2, he3, hc1, encEn, List.length_map]
    refine hK _ ?_; clear hK K
    refine AW.seq ?_
    refine AW.rT (by rfl) fun K hK => ?_
    simp -implicitDefEqProofs only [go_sem, ↓reduceIte, Nat.reduceAdd, Nat.reduceMul, Nat.reduceEqDiff, Nat.reduceLeDiff, reduceCtorEq, Int.reduceToNat]
    refine hK _ ?_; clear hK K
    refine AW.block ?_
    refine AW.loop (ty t i e) (fun k => k ≤ e.2.length) (fun k => e.2.length - k) 0 ?_ (by simp) fun k hk => ?_
    · refine Ghost.trans (Ghost.nilH (l := 16) (i := 0) (j := 1) (sz' := 5) rfl rfl rfl) ?_
      simp only [ty, cellsT]
      refine Ghost.ent (fun l => if l = 4 then 16 else if l = 5 then 19 else l) ?_ ?_ ?_ <;> simp -implicitDefEqProofs only [go_sem, ↓reduceIte, Nat.reduceAdd, Nat.reduceMul, Nat.reduceEqDiff, Nat.reduceLeDiff, reduceCtorEq, Int.reduceToNat, List.take_zero, List.map_nil, liftE_nil, List.set_cons_zero, List.set_cons_succ, List.forall_mem_cons, List.not_mem_nil, false_implies, implies_true, and_self, map_renL_lift, labsIn_lift, List.all_append, List.all_cons, List.all_nil, List.map_append, Nat.reduceLT, labsInL, AV.labsIn]
      rfl
    simp only [ty, cellsT]
    refine AW.seq ?_
    by_cases hkl : k < e.2.length
    · obtain ⟨x, hx⟩ : ∃ x, e.2[k]? = some x := ⟨_, List.getElem?_eq_getElem hkl⟩
      have ⟨hx1, hx2, hx3⟩ := at_map' encTr hx
      have hc2 : ((k : Int) < (e.2.length : Int)) = True := by simp; omega
      have IH := ih _ (size_ent he hx) x rfl (lensTs_at le2 hx)
      rw [encTr_eq] at IH
      refine AW.rT (by rfl) fun K hK => ?_
      simp -implicitDefEqProofs only [go_sem, ↓reduceIte, Nat.reduceAdd, Nat.reduceMul, Nat.reduceEqDiff, Nat.reduceLeDiff, reduceCtorEq, Int.reduceToNat, he1, he2, he3, hc1, encEn, List.length_map, hc2]
      refine hK _ ?_; clear hK K
      refine AW.cond _ (by simp -implicitDefEqProofs only [go_sem, ↓reduceIte, Nat.reduceAdd, Nat.reduceMul, Nat.reduceEqDiff, Nat.reduceLeDiff, reduceCtorEq, Int.reduceToNat]; rfl) (fun hc => ?_) (fun hc => ?_)
      rotate_left
      · simp at hc
      refine AW.skip ?_
      simp only [andThen, inBlk, reduceCtorEq, ↓reduceIte, if_t, if_f]
      refine AW.seq ?_
      refine AW.block ?_
      refine AW.dE mixed (by rfl) (by decide +kernel) fun K hK => ?_
      simp -implicitDefEqProofs only [go_sem, ↓reduceIte, Nat.reduceAdd, Nat.reduceMul, Nat.reduceEqDiff, Nat.reduceLeDiff, reduceCtorEq, Int.reduceToNat, he1, he2, he3, hc1, encEn, List.length_map, hc2, hx1, hx2, hx3, encTr_eq]
      refine ⟨.pure _, IH, ?_⟩
      try simp -implicitDefEqProofs only [go_sem, ↓reduceIte, Nat.reduceAdd, Nat.reduceMul, Nat.reduceEqDiff, Nat.reduceLeDiff, reduceCtorEq, Int.reduceToNat]
      refine ⟨⟨by simp, by simp [oneAll, AV.one, PV.one], by simp⟩, by simp [liftE_length]; omega, by decide +kernel, ?_⟩
      refine hK _ ?_; clear hK K
      have w1 : IntKind.wrap .i64 ((k : Int) + 1) = ((k + 1 : Nat) : Int) := by rw [w64] <;> omega
      have e7 : liftE ((e.2.take k).map encTr) ++ [[AV.p (.int .i64 x.kind), .p (.int .i64 x.n), .p (.str x.s), .p (.slice (x.ents.map encEn)), .p (.slice (x.rest.map encRaw))]] = liftE ((e.2.take (k + 1)).map encTr) := by
        rw [List.take_add_one, hx]
        simp [liftE, encTr_eq]
      refine AW.rE (by rfl) fun K hK => ?_
      simp -implicitDefEqProofs only [go_sem, ↓reduceIte, Nat.reduceAdd, Nat.reduceMul, Nat.reduceEqDiff, Nat.reduceLeDiff, reduceCtorEq, Int.reduceToNat, w1]
      refine hK _ ?_; clear hK K
      refine ⟨k + 1, by omega, by omega, ?_⟩
      refine Ghost.ent (fun l => if l = 5 then 28 else l) ?_ ?_ ?_ <;> simp -implicitDefEqProofs only [go_sem, ↓reduceIte, Nat.reduceAdd, Nat.reduceMul, Nat.reduceEqDiff, Nat.reduceLeDiff, reduceCtorEq, Int.reduceToNat, e7, List.forall_mem_cons, List.not_mem_nil, false_implies, implies_true, and_self, map_renL_lift, labsIn_lift, List.all_append, List.all_cons, List.all_nil, List.map_append, Nat.reduceLT, labsInL, AV.labsIn]
    · have hc2 : ((k : Int) < (e.2.length : Int)) = False := by simp; omega
      have hk' : k = e.2.length := by omega
      subst hk'
      refine AW.rT (by rfl) fun K hK => ?_
      simp -implicitDefEqProofs only [go_sem, ↓reduceIte, Nat.reduceAdd, Nat.reduceMul, Nat.reduceEqDiff, Nat.reduceLeDiff, reduceCtorEq, Int.reduceToNat, he1, he2, he3, hc1, encEn, List.length_map, hc2]
      refine hK _ ?_; clear hK K
      refine AW.cond _ (by simp -implicitDefEqProofs only [go_sem, ↓reduceIte, Nat.reduceAdd, Nat.reduceMul, Nat.reduceEqDiff, Nat.reduceLeDiff, reduceCtorEq, Int.reduceToNat]; rfl) (fun hc => ?_) (fun hc => ?_)
      · simp at hc
      refine AW.exit ?_
      simp only [andThen, inBlk, reduceCtorEq, ↓reduceIte, if_t, if_f]
      refine AW.ghost (s' := tz t i e) (Ghost.trans (Ghost.freeze (lb := 5) (ps := (e.2.take e.2.length).map encTr) rfl (unlift_liftE _)) ?_) ?_
      · simp only [tz, cellsT]
        refine Ghost.sub ?_ ?_ <;> simp -implicitDefEqProofs only [go_sem, ↓reduceIte, Nat.reduceAdd, Nat.reduceMul, Nat.reduceEqDiff, Nat.reduceLeDiff, reduceCtorEq, Int.reduceToNat, thaw, thaw1, Option.map_some, List.take_length, List.map_cons, List.map_nil, thaw_lift, List.forall_mem_cons, List.not_mem_nil, false_implies, implies_true, and_self, labsIn_lift, List.all_append, List.all_cons, List.all_nil, Nat.reduceLT, labsInL, AV.labsIn]
      simp only [tz, cellsT]
      refine AW.rE (by rfl) fun K hK => ?_
      simp -implicitDefEqProofs only [go_sem, ↓reduceIte, Nat.reduceAdd, Nat.reduceMul, Nat.reduceEqDiff, Nat.reduceLeDiff, reduceCtorEq, Int.reduceToNat]
      refine ⟨⟨by simp, by simp [oneAll, AV.one, PV.one], by simp⟩, by simp [liftE_length]; omega, ?_⟩
      refine hK _ ?_; clear hK K
      simp only [andThen, inBlk, reduceCtorEq, ↓reduceIte, if_t, if_f]
      have w1 : IntKind.wrap .i64 ((i : Int) + 1) = ((i + 1 : Nat) : Int) := by rw [w64] <;> omega
      have e8 : liftE ((t.ents.take i).map encEn) ++ [[AV.p (.int .i64 e.1), .p (.slice (e.2.map encTr))]] = liftE ((t.ents.take (i + 1)).map encEn) := by
        rw [List.take_add_one, he]
        simp [liftE, encEn]
      refine AW.rE (by rfl) fun K hK => ?_
      simp -implicitDefEqProofs only [go_sem, ↓reduceIte, Nat.reduceAdd, Nat.reduceMul, Nat.reduceEqDiff, Nat.reduceLeDiff, reduceCtorEq, Int.reduceToNat, w1]
      refine hK _ ?_; clear hK K
      refine ⟨i + 1, by omega, by omega, ?_⟩
      refine Ghost.ent (fun l => if l = 3 then 9 else l) ?_ ?_ ?_ <;> simp -implicitDefEqProofs only [go_sem, ↓reduceIte, Nat.reduceAdd, Nat.reduceMul, Nat.reduceEqDiff, Nat.reduceLeDiff, reduceCtorEq, Int.reduceToNat, e8, List.forall_mem_cons, List.not_mem_nil, false_implies, implies_true, and_self, map_renL_lift, labsIn_lift, List.all_append, List.all_cons, List.all_nil, List.map_append, Nat.reduceLT, labsInL, AV.labsIn]
  · have hc1 : ((i : Int) < (t.ents.length : Int)) = False := by simp; omega
    have hi' : i = t.ents.length := by omega
    subst hi'
    refine AW.rT (by rfl) fun K hK => ?_
    simp -implicitDefEqProofs only [go_sem, ↓reduceIte, Nat.reduceAdd, Nat.reduceMul, Nat.reduceEqDiff, Nat.reduceLeDiff, reduceCtorEq, Int.reduceToNat, List.length_map, hc1]
    refine hK _ ?_; clear hK K
    refine AW.cond _ (by simp -implicitDefEqProofs only [go_sem, ↓reduceIte, Nat.reduceAdd, Nat.reduceMul, Nat.reduceEqDiff, Nat.reduceLeDiff, reduceCtorEq, Int.reduceToNat]; rfl) (fun hc => ?_) (fun hc => ?_)
    · simp at hc
    refine AW.exit ?_
    simp only [andThen, inBlk, reduceCtorEq, ↓reduceIte, if_t, if_f]
    refine AW.ghost (s' := tw t) (Ghost.trans (Ghost.freeze (lb := 3) (ps := (t.ents.take t.ents.length).map encEn) rfl (unlift_liftE _)) ?_) ?_
    · simp only [tw, cellsT]
      refine Ghost.sub ?_ ?_ <;> simp -implicitDefEqProofs only [go_sem, ↓reduceIte, Nat.reduceAdd, Nat.reduceMul, Nat.reduceEqDiff, Nat.reduceLeDiff, reduceCtorEq, Int.reduceToNat, thaw, thaw1, Option.map_some, List.take_length, List.map_cons, List.map_nil, List.forall_mem_cons, List.not_mem_nil, false_implies, implies_true, and_self, labsIn_lift, List.all_append, List.all_cons, List.all_nil, Nat.reduceLT, labsInL, AV.labsIn]
    simp only [tw, cellsT]
    refine AW.rT (by rfl) fun K hK => ?_
    simp -implicitDefEqProofs only [go_sem, ↓reduceIte, Nat.reduceAdd, Nat.reduceMul, Nat.reduceEqDiff, Nat.reduceLeDiff, reduceCtorEq, Int.reduceToNat]
    refine hK _ ?_; clear hK K
    refine AW.ret ?_
    simp -implicitDefEqProofs only [go_sem, ↓reduceIte, Nat.reduceAdd, Nat.reduceMul, Nat.reduceEqDiff, Nat.reduceLeDiff, reduceCtorEq, Int.reduceToNat, encTr_eq]
end Go.Aw
/- How deep a tree is. -/
namespace Go.Aw
open Go.Proofs
set_option linter.unusedSimpArgs false
set_option linter.unusedVariables false
mutual
def dT : Tr → Nat → Nat
  | .mk k _ _ es _, m => if k ≠ 3 ∨ m = 0 then 0 else dE es (m - 1) 0 + 1
def dE : List (Int × List Tr) → Nat → Nat → Nat
  | [], _, d => d
  | (_, l) :: r, m, d => dE r m (dTs l m d)
def dTs : List Tr → Nat → Nat → Nat
  | [], _, d => d
  | x :: l, m, d => dTs l m (max d (dT x m))
end
mutual
theorem dT_le : ∀ (t : Tr) (m : Nat), dT t m ≤ m
  | .mk k _ _ es _, m => by
    rw [dT]
    split
    · omega
    · rename_i h
      have := dE_le es (m - 1) 0
      omega
theorem dE_le : ∀ (es : List (Int × List Tr)) (m d : Nat), dE es m d ≤ max d m
  | [], m, d => by rw [dE]; omega
  | (_, l) :: r, m, d => by
    rw [dE]
    have h1 := dE_le r m (dTs l m d)
    have h2 := dTs_le l m d
    omega
theorem dTs_le : ∀ (l : List Tr) (m d : Nat), dTs l m d ≤ max d m
  | [], m, d => by rw [dTs]; omega
  | x :: l, m, d => by
    rw [dTs]
    have h1 := dTs_le l m (max d (dT x m))
    have h2 := dT_le x m
    omega
end
theorem dT_mk (t : Tr) (m : Nat) : dT t m = if t.kind ≠ 3 ∨ m = 0 then 0 else dE t.ents (m - 1) 0 + 1 := by
  cases t; rw [dT]; rfl
theorem dE_at {es : List (Int × List Tr)} {i : Nat} {e : Int × List Tr} (h : es[i]? = some e) (m d : Nat) : dE (es.drop i) m d = dE (es.drop (i + 1)) m (dTs e.2 m d) := by
  rw [List.drop_eq_getElem_cons (List.getElem?_eq_some_iff.1 h).1, (List.getElem?_eq_some_iff.1 h).2]
  obtain ⟨a, l⟩ := e
  rw [dE]
theorem dTs_at {l : List Tr} {k : Nat} {x : Tr} (h : l[k]? = some x) (m d : Nat) : dTs (l.drop k) m d = dTs (l.drop (k + 1)) m (max d (dT x m)) := by
  rw [List.drop_eq_getElem_cons (List.getElem?_eq_some_iff.1 h).1, (List.getElem?_eq_some_iff.1 h).2, dTs]
def dS (t : Tr) (m d : Nat) (l : List (Nat × AV)) : St := ⟨ofL ([(1, .p (.int .i64 (m : Int))), (2, .ptr 0 0 0), (5, .p (.int .i64 (d : Int)))] ++ l), ofH [(0, .row 5 [cellsT t])], 1⟩
set_option maxRecDepth 100000 in
set_option maxHeartbeats 4000000 in
theorem value_deep : ∀ (t : Tr) (m : Nat), lensT t = true → m ≤ 1000 → PFn Try.prog 84 [.agg (encTr t), .int .i64 (m : Int)] (.int .i64 (dT t m : Int)) := by
  intro t
  induction h : SizeOf.sizeOf t using Nat.strongRecOn generalizing t with
  | _ sz ih =>
  subst h
  intro m hlt hm
  obtain ⟨la1, la2, la3⟩ := lensT_mk hlt
  have sT := dT_mk t m
  refine PFn.of Try.func84 rfl (by decide) Try.ntmps84 Try.results84 (Nat.le_of_ble_eq_true rfl) ?_
  simp only [argsT]
  refine AW.rT (by rfl) fun K hK => ?_
  simp -implicitDefEqProofs only [go_sem, ↓reduceIte, Nat.reduceAdd, Nat.reduceMul, Nat.reduceEqDiff, Nat.reduceLeDiff, reduceCtorEq, Int.reduceToNat, encTr_eq]
  refine hK _ ?_; clear hK K
  refine AW.seq ?_
  by_cases c1 : t.kind = 3
  case neg =>
    have b1 : (t.kind != 3) = true := by simpa using c1
    rw [if_pos (.inl c1)] at sT
    refine AW.rT (by rfl) fun K hK => ?_
    simp -implicitDefEqProofs only [go_sem, ↓reduceIte, Nat.reduceAdd, Nat.reduceMul, Nat.reduceEqDiff, Nat.reduceLeDiff, reduceCtorEq, Int.reduceToNat, b1]
    refine hK _ ?_; clear hK K
    refine AW.cond _ (by simp -implicitDefEqProofs only [go_sem, ↓reduceIte, Nat.reduceAdd, Nat.reduceMul, Nat.reduceEqDiff, Nat.reduceLeDiff, reduceCtorEq, Int.reduceToNat]; rfl) (fun hc => ?_) (fun hc => ?_)
    · refine AW.rT (by rfl) fun K hK => ?_
      simp -implicitDefEqProofs only [go_sem, ↓reduceIte, Nat.reduceAdd, Nat.reduceMul, Nat.reduceEqDiff, Nat.reduceLeDiff, reduceCtorEq, Int.reduceToNat]
      refine hK _ ?_; clear hK K
      refine AW.ret ?_
      simp -implicitDefEqProofs only [go_sem, ↓reduceIte, Nat.reduceAdd, Nat.reduceMul, Nat.reduceEqDiff, Nat.reduceLeDiff, reduceCtorEq, Int.reduceToNat, sT]
      rfl
    · simp at hc
  have b1 : (t.kind != 3) = false := by simpa using c1
  by_cases c2 : m = 0
  case pos =>
    have b2 : ((m : Int) == 0) = true := by simp; exact c2
    rw [if_pos (.inr c2)] at sT
    refine AW.rT (by rfl) fun K hK => ?_
    simp -implicitDefEqProofs only [go_sem, ↓reduceIte, Nat.reduceAdd, Nat.reduceMul, Nat.reduceEqDiff, Nat.reduceLeDiff, reduceCtorEq, Int.reduceToNat, b1, b2]
    refine hK _ ?_; clear hK K
    refine AW.cond _ (by simp -implicitDefEqProofs only [go_sem, ↓reduceIte, Nat.reduceAdd, Nat.reduceMul, Nat.reduceEqDiff, Nat.reduceLeDiff, reduceCtorEq, Int.reduceToNat]; rfl) (fun hc => ?_) (fun hc => ?_)
    · refine AW.rT (by rfl) fun K hK => ?_
      simp -implicitDefEqProofs only [go_sem, ↓reduceIte, Nat.reduceAdd, Nat.reduceMul, Nat.reduceEqDiff, Nat.reduceLeDiff, reduceCtorEq, Int.reduceToNat]
      refine hK _ ?_; clear hK K
      refine AW.ret ?_
      simp -implicitDefEqProofs only [go_sem, ↓reduceIte, Nat.reduceAdd, Nat.reduceMul, Nat.reduceEqDiff, Nat.reduceLeDiff, reduceCtorEq, Int.reduceToNat, sT]
      rfl
    · simp at hc
  have b2 : ((m : Int) == 0) = false := by simp; exact c2
  rw [if_neg (by omega)] at sT
  refine AW.rT (by rfl) fun K hK => ?_
  simp -implicitDefEqProofs only [go_sem, ↓reduceIte, Nat.reduceAdd, Nat.reduceMul, Nat.reduceEqDiff, Nat.reduceLeDiff, reduceCtorEq, Int.reduceToNat, b1, b2]
  refine hK _ ?_; clear hK K
  refine AW.cond _ (by simp -implicitDefEqProofs only [go_sem, ↓reduceIte, Nat.reduceAdd, Nat.reduceMul, Nat.reduceEqDiff, Nat.reduceLeDiff, reduceCtorEq, Int.reduceToNat]; rfl) (fun hc => ?_) (fun hc => ?_)
  · simp at hc
  refine AW.skip ?_
  simp only [andThen, inBlk, reduceCtorEq, ↓reduceIte, if_t, if_f]
  refine AW.rT (by rfl) fun K hK => ?_
  simp -implicitDefEqProofs only [go_sem, ↓reduceIte, Nat.reduceAdd, Nat.reduceMul, Nat.reduceEqDiff, Nat.reduceLeDiff, reduceCtorEq, Int.reduceToNat]
  refine hK _ ?_; clear hK K
  refine AW.seq ?_
  refine AW.rT (by rfl) fun K hK => ?_
  simp -implicitDefEqProofs only [go_sem, ↓reduceIte, Nat.reduceAdd, Nat.reduceMul, Nat.reduceEqDiff, Nat.reduceLeDiff, reduceCtorEq, Int.reduceToNat, List.length_map]
  refine hK _ ?_; clear hK K
  refine AW.block ?_
  refine AW.loop (fun x : Nat × Nat => dS t m x.2 [(18, .p (.slice (t.ents.map encEn))), (19, .p (.int .i64 (t.ents.length : Int))), (20, .p (.int .i64 (x.1 : Int)))]) (fun x => x.1 ≤ t.ents.length ∧ x.2 ≤ 1000 ∧ dE t.ents (m - 1) 0 = dE (t.ents.drop x.1) (m - 1) x.2) (fun x => t.ents.length - x.1) (0, 0) ?_ ⟨by simp, by simp, by rw [List.drop_zero]⟩ fun x hx => ?_
  · simp only [dS, cellsT, List.cons_append, List.nil_append]
    refine Ghost.sub ?_ ?_ <;> simp -implicitDefEqProofs only [go_sem, ↓reduceIte, Nat.reduceAdd, Nat.reduceMul, Nat.reduceEqDiff, Nat.reduceLeDiff, reduceCtorEq, Int.reduceToNat,  List.forall_mem_cons, List.not_mem_nil, false_implies, implies_true, and_self, labsIn_lift, List.all_append, List.all_cons, List.all_nil, Nat.reduceLT, labsInL, AV.labsIn]
    rfl
  obtain ⟨i, d⟩ := x
  obtain ⟨e1, e2, e3⟩ := hx
  dsimp only at e1 e2 e3
  simp only [dS, cellsT, List.cons_append, List.nil_append]
  by_cases hil : i < t.ents.length
  case neg =>
    have hc1 : ((i : Int) < (t.ents.length : Int)) = False := by simp; omega
    rw [List.drop_of_length_le (by omega), dE] at e3
    refine AW.rT (by rfl) fun K hK => ?_
    simp -implicitDefEqProofs only [go_sem, ↓reduceIte, Nat.reduceAdd, Nat.reduceMul, Nat.reduceEqDiff, Nat.reduceLeDiff, reduceCtorEq, Int.reduceToNat, hc1]
    refine hK _ ?_; clear hK K
    refine AW.seq ?_
    refine AW.cond _ (by simp -implicitDefEqProofs only [go_sem, ↓reduceIte, Nat.reduceAdd, Nat.reduceMul, Nat.reduceEqDiff, Nat.reduceLeDiff, reduceCtorEq, Int.reduceToNat]; rfl) (fun hc => ?_) (fun hc => ?_)
    · simp at hc
    refine AW.exit ?_
    simp only [andThen, inBlk, reduceCtorEq, ↓reduceIte, if_t, if_f]
    have w1 : IntKind.wrap .i64 ((d : Int) + 1) = ((d + 1 : Nat) : Int) := by rw [w64] <;> omega
    refine AW.rT (by rfl) fun K hK => ?_
    simp -implicitDefEqProofs only [go_sem, ↓reduceIte, Nat.reduceAdd, Nat.reduceMul, Nat.reduceEqDiff, Nat.reduceLeDiff, reduceCtorEq, Int.reduceToNat, w1]
    refine hK _ ?_; clear hK K
    refine AW.ret ?_
    simp -implicitDefEqProofs only [go_sem, ↓reduceIte, Nat.reduceAdd, Nat.reduceMul, Nat.reduceEqDiff, Nat.reduceLeDiff, reduceCtorEq, Int.reduceToNat, sT, e3]
  obtain ⟨e, he⟩ : ∃ e, t.ents[i]? = some e := ⟨_, List.getElem?_eq_getElem hil⟩
  have ⟨he1, he2, he3⟩ := at_map' encEn he
  have ⟨le1, le2⟩ := lensE_at la3 he
  have hc1 : ((i : Int) < (t.ents.length : Int)) = True := by simp; omega
  have sE := dE_at he (m - 1) d
  refine AW.rT (by rfl) fun K hK => ?_
  simp -implicitDefEqProofs only [go_sem, ↓reduceIte, Nat.reduceAdd, Nat.reduceMul, Nat.reduceEqDiff, Nat.reduceLeDiff, reduceCtorEq, Int.reduceToNat, hc1]
  refine hK _ ?_; clear hK K
  refine AW.seq ?_
  refine AW.cond _ (by simp -implicitDefEqProofs only [go_sem, ↓reduceIte, Nat.reduceAdd, Nat.reduceMul, Nat.reduceEqDiff, Nat.reduceLeDiff, reduceCtorEq, Int.reduceToNat]; rfl) (fun hc => ?_) (fun hc => ?_)
  rotate_left
  · simp at hc
  refine AW.skip ?_
  simp only [andThen, inBlk, reduceCtorEq, ↓reduceIte, if_t, if_f]
  refine AW.seq ?_
  refine AW.block ?_
  refine AW.rT (by rfl) fun K hK => ?_
  simp -implicitDefEqProofs only [go_sem, ↓reduceIte, Nat.reduceAdd, Nat.reduceMul, Nat.reduceEqDiff, Nat.reduceLeDiff, reduceCtorEq, Int.reduceToNat, he1, he2, he3, hc1, encEn, List.length_map]
  refine hK _ ?_; clear hK K
  refine AW.rT (by rfl) fun K hK => ?_
  simp -implicitDefEqProofs only [go_sem, ↓reduceIte, Nat.reduceAdd, Nat.reduceMul, Nat.reduceEqDiff, Nat.reduceLeDiff, reduceCtorEq, Int.reduceToNat, List.length_map]
  refine hK _ ?_; clear hK K
  refine AW.block ?_
  refine AW.loop (fun y : Nat × Nat => dS t m y.2 [(18, .p (.slice (t.ents.map encEn))), (19, .p (.int .i64 (t.ents.length : Int))), (20, .p (.int .i64 (i : Int))), (25, .p (.slice (e.2.map encTr))), (26, .p (.int .i64 (e.2.length : Int))), (27, .p (.int .i64 (y.1 : Int)))])
    (fun y => y.1 ≤ e.2.length ∧ y.2 ≤ 1000 ∧ dTs e.2 (m - 1) d = dTs (e.2.drop y.1) (m - 1) y.2) (fun y => e.2.length - y.1) (0, d) ?_ ⟨by simp, e2, by rw [List.drop_zero]⟩ fun y hy => ?_
  · simp only [dS, cellsT, List.cons_append, List.nil_append]
    refine Ghost.sub ?_ ?_ <;> simp -implicitDefEqProofs only [go_sem, ↓reduceIte, Nat.reduceAdd, Nat.reduceMul, Nat.reduceEqDiff, Nat.reduceLeDiff, reduceCtorEq, Int.reduceToNat,  List.forall_mem_cons, List.not_mem_nil, false_implies, implies_true, and_self, labsIn_lift, List.all_append, List.all_cons, List.all_nil, Nat.reduceLT, labsInL, AV.labsIn]
    rfl
  obtain ⟨k, d'⟩ := y
  obtain ⟨f1, f2, f3⟩ := hy
  dsimp only at f1 f2 f3
  simp only [dS, cellsT, List.cons_append, List.nil_append]
  by_cases hkl : k < e.2.length
  · obtain ⟨x, hx⟩ : ∃ x, e.2[k]? = some x := ⟨_, List.getElem?_eq_getElem hkl⟩
    have ⟨hx1, hx2, hx3⟩ := at_map' encTr hx
    have hc2 : ((k : Int) < (e.2.length : Int)) = True := by simp; omega
    have sK := dTs_at hx (m - 1) d'
    have IH := ih _ (size_ent he hx) x rfl (m - 1) (lensTs_at le2 hx) (by omega)
    rw [encTr_eq] at IH
    have dl := dT_le x (m - 1)
    refine AW.rT (by rfl) fun K hK => ?_
    simp -implicitDefEqProofs only [go_sem, ↓reduceIte, Nat.reduceAdd, Nat.reduceMul, Nat.reduceEqDiff, Nat.reduceLeDiff, reduceCtorEq, Int.reduceToNat, hc2]
    refine hK _ ?_; clear hK K
    refine AW.seq ?_
    refine AW.cond _ (by simp -implicitDefEqProofs only [go_sem, ↓reduceIte, Nat.reduceAdd, Nat.reduceMul, Nat.reduceEqDiff, Nat.reduceLeDiff, reduceCtorEq, Int.reduceToNat]; rfl) (fun hc => ?_) (fun hc => ?_)
    rotate_left
    · simp at hc
    refine AW.skip ?_
    simp only [andThen, inBlk, reduceCtorEq, ↓reduceIte, if_t, if_f]
    refine AW.seq ?_
    refine AW.block ?_
    refine AW.rT (by rfl) fun K hK => ?_
    simp -implicitDefEqProofs only [go_sem, ↓reduceIte, Nat.reduceAdd, Nat.reduceMul, Nat.reduceEqDiff, Nat.reduceLeDiff, reduceCtorEq, Int.reduceToNat, hx1, hx2, hx3, hc2, encTr_eq, List.length_map]
    refine hK _ ?_; clear hK K
    have wm : IntKind.wrap .i64 ((m : Int) - 1) = ((m - 1 : Nat) : Int) := by rw [w64] <;> omega
    refine AW.rE (by rfl) fun K hK => ?_
    simp -implicitDefEqProofs only [go_sem, ↓reduceIte, Nat.reduceAdd, Nat.reduceMul, Nat.reduceEqDiff, Nat.reduceLeDiff, reduceCtorEq, Int.reduceToNat, wm]
    refine ⟨.pure _, IH, ?_⟩
    try simp -implicitDefEqProofs only [go_sem, ↓reduceIte, Nat.reduceAdd, Nat.reduceMul, Nat.reduceEqDiff, Nat.reduceLeDiff, reduceCtorEq, Int.reduceToNat]
    have wx : (if ((dT x (m - 1) : Nat) : Int) > (d' : Int) then ((dT x (m - 1) : Nat) : Int) else (d' : Int)) = ((max d' (dT x (m - 1)) : Nat) : Int) := by
      split <;> omega
    simp -implicitDefEqProofs only [go_sem, ↓reduceIte, Nat.reduceAdd, Nat.reduceMul, Nat.reduceEqDiff, Nat.reduceLeDiff, reduceCtorEq, Int.reduceToNat, wx]
    refine hK _ ?_; clear hK K
    simp only [andThen, inBlk, reduceCtorEq, ↓reduceIte, if_t, if_f]
    have w1 : IntKind.wrap .i64 ((k : Int) + 1) = ((k + 1 : Nat) : Int) := by rw [w64] <;> omega
    refine AW.rE (by rfl) fun K hK => ?_
    simp -implicitDefEqProofs only [go_sem, ↓reduceIte, Nat.reduceAdd, Nat.reduceMul, Nat.reduceEqDiff, Nat.reduceLeDiff, reduceCtorEq, Int.reduceToNat, w1]
    refine hK _ ?_; clear hK K
    refine ⟨(k + 1, max d' (dT x (m - 1))), ⟨by show k + 1 ≤ e.2.length; omega, by show max d' (dT x (m - 1)) ≤ 1000; omega, f3.trans sK⟩, by show e.2.length - (k + 1) < e.2.length - k; omega, ?_⟩
    refine Ghost.sub ?_ ?_ <;> simp -implicitDefEqProofs only [go_sem, ↓reduceIte, Nat.reduceAdd, Nat.reduceMul, Nat.reduceEqDiff, Nat.reduceLeDiff, reduceCtorEq, Int.reduceToNat,  List.forall_mem_cons, List.not_mem_nil, false_implies, implies_true, and_self, labsIn_lift, List.all_append, List.all_cons, List.all_nil, Nat.reduceLT, labsInL, AV.labsIn]
  · have hc2 : ((k : Int) < (e.2.length : Int)) = False := by simp; omega
    rw [List.drop_of_length_le (by omega), dTs] at f3
    refine AW.rT (by rfl) fun K hK => ?_
    simp -implicitDefEqProofs only [go_sem, ↓reduceIte, Nat.reduceAdd, Nat.reduceMul, Nat.reduceEqDiff, Nat.reduceLeDiff, reduceCtorEq, Int.reduceToNat, hc2]
    refine hK _ ?_; clear hK K
    refine AW.seq ?_
    refine AW.cond _ (by simp -implicitDefEqProofs only [go_sem, ↓reduceIte, Nat.reduceAdd, Nat.reduceMul, Nat.reduceEqDiff, Nat.reduceLeDiff, reduceCtorEq, Int.reduceToNat]; rfl) (fun hc => ?_) (fun hc => ?_)
    · simp at hc
    refine AW.exit ?_
    simp only [andThen, inBlk, reduceCtorEq, ↓reduceIte, if_t, if_f]
    have w1 : IntKind.wrap .i64 ((i : Int) + 1) = ((i + 1 : Nat) : Int) := by rw [w64] <;> omega
    refine AW.rE (by rfl) fun K hK => ?_
    simp -implicitDefEqProofs only [go_sem, ↓reduceIte, Nat.reduceAdd, Nat.reduceMul, Nat.reduceEqDiff, Nat.reduceLeDiff, reduceCtorEq, Int.reduceToNat, w1]
    refine hK _ ?_; clear hK K
    refine ⟨(i + 1, d'), ⟨by show i + 1 ≤ t.ents.length; omega, f2, by show _ = dE (t.ents.drop (i + 1)) (m - 1) d'; rw [e3, sE, f3]⟩, by show t.ents.length - (i + 1) < t.ents.length - i; omega, ?_⟩
    refine Ghost.sub ?_ ?_ <;> simp -implicitDefEqProofs only [go_sem, ↓reduceIte, Nat.reduceAdd, Nat.reduceMul, Nat.reduceEqDiff, Nat.reduceLeDiff, reduceCtorEq, Int.reduceToNat,  List.forall_mem_cons, List.not_mem_nil, false_implies, implies_true, and_self, labsIn_lift, List.all_append, List.all_cons, List.all_nil, Nat.reduceLT, labsInL, AV.labsIn]
theorem value_Depth (t : Tr) (hl : lensT t = true) : PFn Try.prog 48 [.agg (encTr t)] (.int .i64 (dT t 101 : Int)) := by
  have := value_deep t 101 hl (by decide)
  rw [encTr_eq] at this
  refine PFn.of Try.func48 rfl (by decide) Try.ntmps48 Try.results48 (Nat.le_of_ble_eq_true rfl) ?_
  simp only [argsT]
  refine AW.rT (by rfl) fun K hK => ?_
  simp -implicitDefEqProofs only [go_sem, ↓reduceIte, Nat.reduceAdd, Nat.reduceMul, Nat.reduceEqDiff, Nat.reduceLeDiff, reduceCtorEq, Int.reduceToNat, encTr_eq]
  refine hK _ ?_; clear hK K
  refine AW.rT (by rfl) fun K hK => ?_
  simp -implicitDefEqProofs only [go_sem, ↓reduceIte, Nat.reduceAdd, Nat.reduceMul, Nat.reduceEqDiff, Nat.reduceLeDiff, reduceCtorEq, Int.reduceToNat]
  refine ⟨.pure _, this, ?_⟩
  try simp -implicitDefEqProofs only [go_sem, ↓reduceIte, Nat.reduceAdd, Nat.reduceMul, Nat.reduceEqDiff, Nat.reduceLeDiff, reduceCtorEq, Int.reduceToNat]
  refine hK _ ?_; clear hK K
  refine AW.ret ?_
  simp -implicitDefEqProofs only [go_sem, ↓reduceIte, Nat.reduceAdd, Nat.reduceMul, Nat.reduceEqDiff, Nat.reduceLeDiff, reduceCtorEq, Int.reduceToNat]
def rS (t : Tr) (m d : Nat) (l : List (Nat × AV)) : St := ⟨ofL ([(1, .p (.int .i64 ((101 : Int) - m))), (2, .ptr 0 0 0), (5, .p (.int .i64 (d : Int)))] ++ l), ofH [(0, .row 5 [cellsT t])], 1⟩
set_option maxRecDepth 100000 in
set_option maxHeartbeats 4000000 in
theorem ref09_depth : ∀ (t : Tr) (m : Nat), lensT t = true → m ≤ 101 → PFn Try.prog 85 [.agg (encTr t), .int .i64 ((101 : Int) - m)] (.int .i64 (dT t m : Int)) := by
  intro t
  induction h : SizeOf.sizeOf t using Nat.strongRecOn generalizing t with
  | _ sz ih =>
  subst h
  intro m hlt hm
  obtain ⟨la1, la2, la3⟩ := lensT_mk hlt
  have sT := dT_mk t m
  have sl := dT_le t m
  refine PFn.of Try.func85 rfl (by decide) Try.ntmps85 Try.results85 (Nat.le_of_ble_eq_true rfl) ?_
  simp only [argsT]
  refine AW.rT (by rfl) fun K hK => ?_
  simp -implicitDefEqProofs only [go_sem, ↓reduceIte, Nat.reduceAdd, Nat.reduceMul, Nat.reduceEqDiff, Nat.reduceLeDiff, reduceCtorEq, Int.reduceToNat, encTr_eq]
  refine hK _ ?_; clear hK K
  refine AW.seq ?_
  by_cases c1 : t.kind = 3
  case neg =>
    have b1 : (t.kind != 3) = true := by simpa using c1
    rw [if_pos (.inl c1)] at sT
    refine AW.rT (by rfl) fun K hK => ?_
    simp -implicitDefEqProofs only [go_sem, ↓reduceIte, Nat.reduceAdd, Nat.reduceMul, Nat.reduceEqDiff, Nat.reduceLeDiff, reduceCtorEq, Int.reduceToNat, b1]
    refine hK _ ?_; clear hK K
    refine AW.cond _ (by simp -implicitDefEqProofs only [go_sem, ↓reduceIte, Nat.reduceAdd, Nat.reduceMul, Nat.reduceEqDiff, Nat.reduceLeDiff, reduceCtorEq, Int.reduceToNat]; rfl) (fun hc => ?_) (fun hc => ?_)
    · refine AW.rT (by rfl) fun K hK => ?_
      simp -implicitDefEqProofs only [go_sem, ↓reduceIte, Nat.reduceAdd, Nat.reduceMul, Nat.reduceEqDiff, Nat.reduceLeDiff, reduceCtorEq, Int.reduceToNat]
      refine hK _ ?_; clear hK K
      refine AW.ret ?_
      simp -implicitDefEqProofs only [go_sem, ↓reduceIte, Nat.reduceAdd, Nat.reduceMul, Nat.reduceEqDiff, Nat.reduceLeDiff, reduceCtorEq, Int.reduceToNat, sT]
      rfl
    · simp at hc
  have b1 : (t.kind != 3) = false := by simpa using c1
  by_cases c2 : m = 0
  case pos =>
    have b2 : ((101 : Int) - (m : Int) > 100) = True := by simp; omega
    rw [if_pos (.inr c2)] at sT
    refine AW.rT (by rfl) fun K hK => ?_
    simp -implicitDefEqProofs only [go_sem, ↓reduceIte, Nat.reduceAdd, Nat.reduceMul, Nat.reduceEqDiff, Nat.reduceLeDiff, reduceCtorEq, Int.reduceToNat, b1, b2]
    refine hK _ ?_; clear hK K
    refine AW.cond _ (by simp -implicitDefEqProofs only [go_sem, ↓reduceIte, Nat.reduceAdd, Nat.reduceMul, Nat.reduceEqDiff, Nat.reduceLeDiff, reduceCtorEq, Int.reduceToNat]; rfl) (fun hc => ?_) (fun hc => ?_)
    · refine AW.rT (by rfl) fun K hK => ?_
      simp -implicitDefEqProofs only [go_sem, ↓reduceIte, Nat.reduceAdd, Nat.reduceMul, Nat.reduceEqDiff, Nat.reduceLeDiff, reduceCtorEq, Int.reduceToNat]
      refine hK _ ?_; clear hK K
      refine AW.ret ?_
      simp -implicitDefEqProofs only [go_sem, ↓reduceIte, Nat.reduceAdd, Nat.reduceMul, Nat.reduceEqDiff, Nat.reduceLeDiff, reduceCtorEq, Int.reduceToNat, sT]
      rfl
    · simp at hc
  have b2 : ((101 : Int) - (m : Int) > 100) = False := by simp; omega
  rw [if_neg (by omega)] at sT
  refine AW.rT (by rfl) fun K hK => ?_
  simp -implicitDefEqProofs only [go_sem, ↓reduceIte, Nat.reduceAdd, Nat.reduceMul, Nat.reduceEqDiff, Nat.reduceLeDiff, reduceCtorEq, Int.reduceToNat, b1, b2]
  refine hK _ ?_; clear hK K
  refine AW.cond _ (by simp -implicitDefEqProofs only [go_sem, ↓reduceIte, Nat.reduceAdd, Nat.reduceMul, Nat.reduceEqDiff, Nat.reduceLeDiff, reduceCtorEq, Int.reduceToNat]; rfl) (fun hc => ?_) (fun hc => ?_)
  · simp at hc
  refine AW.skip ?_
  simp only [andThen, inBlk, reduceCtorEq, ↓reduceIte, if_t, if_f]
  refine AW.rT (by rfl) fun K hK => ?_
  simp -implicitDefEqProofs only [go_sem, ↓reduceIte, Nat.reduceAdd, Nat.reduceMul, Nat.reduceEqDiff, Nat.reduceLeDiff, reduceCtorEq, Int.reduceToNat]
  refine hK _ ?_; clear hK K
  refine AW.seq ?_
  refine AW.rT (by rfl) fun K hK => ?_
  simp -implicitDefEqProofs only [go_sem, ↓reduceIte, Nat.reduceAdd, Nat.reduceMul, Nat.reduceEqDiff, Nat.reduceLeDiff, reduceCtorEq, Int.reduceToNat]
  refine hK _ ?_; clear hK K
  refine AW.block ?_
  refine AW.loop (fun x : Nat × Nat => rS t m x.2 [(6, .p (.int .i64 (x.1 : Int)))]) (fun x => x.1 ≤ t.ents.length ∧ x.2 ≤ 1000 ∧ dE t.ents (m - 1) 0 = dE (t.ents.drop x.1) (m - 1) x.2) (fun x => t.ents.length - x.1) (0, 0) ?_ ⟨by simp, by simp, by rw [List.drop_zero]⟩ fun x hx => ?_
  · simp only [rS, cellsT, List.cons_append, List.nil_append]
    refine Ghost.sub ?_ ?_ <;> simp -implicitDefEqProofs only [go_sem, ↓reduceIte, Nat.reduceAdd, Nat.reduceMul, Nat.reduceEqDiff, Nat.reduceLeDiff, reduceCtorEq, Int.reduceToNat,  List.forall_mem_cons, List.not_mem_nil, false_implies, implies_true, and_self, labsIn_lift, List.all_append, List.all_cons, List.all_nil, Nat.reduceLT, labsInL, AV.labsIn]
    rfl
  obtain ⟨i, d⟩ := x
  obtain ⟨e1, e2, e3⟩ := hx
  dsimp only at e1 e2 e3
  simp only [rS, cellsT, List.cons_append, List.nil_append]
  refine AW.seq ?_
  by_cases hil : i < t.ents.length
  case neg =>
    have hc1 : ((i : Int) < (t.ents.length : Int)) = False := by simp; omega
    rw [List.drop_of_length_le (by omega), dE] at e3
    refine AW.rT (by rfl) fun K hK => ?_
    simp -implicitDefEqProofs only [go_sem, ↓reduceIte, Nat.reduceAdd, Nat.reduceMul, Nat.reduceEqDiff, Nat.reduceLeDiff, reduceCtorEq, Int.reduceToNat, hc1, List.length_map]
    refine hK _ ?_; clear hK K
    refine AW.cond _ (by simp -implicitDefEqProofs only [go_sem, ↓reduceIte, Nat.reduceAdd, Nat.reduceMul, Nat.reduceEqDiff, Nat.reduceLeDiff, reduceCtorEq, Int.reduceToNat]; rfl) (fun hc => ?_) (fun hc => ?_)
    · simp at hc
    refine AW.exit ?_
    simp only [andThen, inBlk, reduceCtorEq, ↓reduceIte, if_t, if_f]
    have w1 : IntKind.wrap .i64 ((d : Int) + 1) = ((d + 1 : Nat) : Int) := by rw [w64] <;> omega
    have wmn : (if (101 : Int) < ((d + 1 : Nat) : Int) then (101 : Int) else ((d + 1 : Nat) : Int)) = ((d + 1 : Nat) : Int) := by split <;> omega
    refine AW.rT (by rfl) fun K hK => ?_
    simp -implicitDefEqProofs only [go_sem, ↓reduceIte, Nat.reduceAdd, Nat.reduceMul, Nat.reduceEqDiff, Nat.reduceLeDiff, reduceCtorEq, Int.reduceToNat, w1, wmn]
    refine hK _ ?_; clear hK K
    refine AW.ret ?_
    simp -implicitDefEqProofs only [go_sem, ↓reduceIte, Nat.reduceAdd, Nat.reduceMul, Nat.reduceEqDiff, Nat.reduceLeDiff, reduceCtorEq, Int.reduceToNat, sT, e3]
  obtain ⟨e, he⟩ : ∃ e, t.ents[i]? = some e := ⟨_, List.getElem?_eq_getElem hil⟩
  have ⟨he1, he2, he3⟩ := at_map' encEn he
  have ⟨le1, le2⟩ := lensE_at la3 he
  have hc1 : ((i : Int) < (t.ents.length : Int)) = True := by simp; omega
  have sE := dE_at he (m - 1) d
  refine AW.rT (by rfl) fun K hK => ?_
  simp -implicitDefEqProofs only [go_sem, ↓reduceIte, Nat.reduceAdd, Nat.reduceMul, Nat.reduceEqDiff, Nat.reduceLeDiff, reduceCtorEq, Int.reduceToNat, hc1, List.length_map]
  refine hK _ ?_; clear hK K
  refine AW.cond _ (by simp -implicitDefEqProofs only [go_sem, ↓reduceIte, Nat.reduceAdd, Nat.reduceMul, Nat.reduceEqDiff, Nat.reduceLeDiff, reduceCtorEq, Int.reduceToNat]; rfl) (fun hc => ?_) (fun hc => ?_)
  rotate_left
  · simp at hc
  refine AW.skip ?_
  simp only [andThen, inBlk, reduceCtorEq, ↓reduceIte, if_t, if_f]
  refine AW.seq ?_
  refine AW.block ?_
  refine AW.rT (by rfl) fun K hK => ?_
  simp -implicitDefEqProofs only [go_sem, ↓reduceIte, Nat.reduceAdd, Nat.reduceMul, Nat.reduceEqDiff, Nat.reduceLeDiff, reduceCtorEq, Int.reduceToNat]
  refine hK _ ?_; clear hK K
  refine AW.block ?_
  refine AW.loop (fun y : Nat × Nat => rS t m y.2 [(6, .p (.int .i64 (i : Int))), (7, .p (.int .i64 (y.1 : Int)))])
    (fun y => y.1 ≤ e.2.length ∧ y.2 ≤ 1000 ∧ dTs e.2 (m - 1) d = dTs (e.2.drop y.1) (m - 1) y.2) (fun y => e.2.length - y.1) (0, d) ?_ ⟨by simp, e2, by rw [List.drop_zero]⟩ fun y hy => ?_
  · simp only [rS, cellsT, List.cons_append, List.nil_append]
    refine Ghost.sub ?_ ?_ <;> simp -implicitDefEqProofs only [go_sem, ↓reduceIte, Nat.reduceAdd, Nat.reduceMul, Nat.reduceEqDiff, Nat.reduceLeDiff, reduceCtorEq, Int.reduceToNat,  List.forall_mem_cons, List.not_mem_nil, false_implies, implies_true, and_self, labsIn_lift, List.all_append, List.all_cons, List.all_nil, Nat.reduceLT, labsInL, AV.labsIn]
    rfl
  obtain ⟨k, d'⟩ := y
  obtain ⟨f1, f2, f3⟩ := hy
  dsimp only at f1 f2 f3
  simp only [rS, cellsT, List.cons_append, List.nil_append]
  refine AW.seq ?_
  by_cases hkl : k < e.2.length
  · obtain ⟨x, hx⟩ : ∃ x, e.2[k]? = some x := ⟨_, List.getElem?_eq_getElem hkl⟩
    have ⟨hx1, hx2, hx3⟩ := at_map' encTr hx
    have hc2 : ((k : Int) < (e.2.length : Int)) = True := by simp; omega
    have sK := dTs_at hx (m - 1) d'
    have IH := ih _ (size_ent he hx) x rfl (m - 1) (lensTs_at le2 hx) (by omega)
    rw [encTr_eq] at IH
    have dl := dT_le x (m - 1)
    refine AW.rT (by rfl) fun K hK => ?_
    simp -implicitDefEqProofs only [go_sem, ↓reduceIte, Nat.reduceAdd, Nat.reduceMul, Nat.reduceEqDiff, Nat.reduceLeDiff, reduceCtorEq, Int.reduceToNat, he1, he2, he3, hc1, encEn, List.length_map, hc2]
    refine hK _ ?_; clear hK K
    refine AW.cond _ (by simp -implicitDefEqProofs only [go_sem, ↓reduceIte, Nat.reduceAdd, Nat.reduceMul, Nat.reduceEqDiff, Nat.reduceLeDiff, reduceCtorEq, Int.reduceToNat]; rfl) (fun hc => ?_) (fun hc => ?_)
    rotate_left
    · simp at hc
    refine AW.skip ?_
    simp only [andThen, inBlk, reduceCtorEq, ↓reduceIte, if_t, if_f]
    refine AW.seq ?_
    refine AW.block ?_
    have wm : IntKind.wrap .i64 ((101 : Int) - (m : Int) + 1) = (101 : Int) - ((m - 1 : Nat) : Int) := by rw [w64] <;> omega
    refine AW.rE (by rfl) fun K hK => ?_
    simp -implicitDefEqProofs only [go_sem, ↓reduceIte, Nat.reduceAdd, Nat.reduceMul, Nat.reduceEqDiff, Nat.reduceLeDiff, reduceCtorEq, Int.reduceToNat, he1, he2, he3, hc1, encEn, hx1, hx2, hx3, hc2, encTr_eq, List.length_map, wm]
    refine ⟨.pure _, IH, ?_⟩
    try simp -implicitDefEqProofs only [go_sem, ↓reduceIte, Nat.reduceAdd, Nat.reduceMul, Nat.reduceEqDiff, Nat.reduceLeDiff, reduceCtorEq, Int.reduceToNat]
    have wx : (if ((dT x (m - 1) : Nat) : Int) > (d' : Int) then ((dT x (m - 1) : Nat) : Int) else (d' : Int)) = ((max d' (dT x (m - 1)) : Nat) : Int) := by
      split <;> omega
    simp -implicitDefEqProofs only [go_sem, ↓reduceIte, Nat.reduceAdd, Nat.reduceMul, Nat.reduceEqDiff, Nat.reduceLeDiff, reduceCtorEq, Int.reduceToNat, wx]
    refine hK _ ?_; clear hK K
    simp only [andThen, inBlk, reduceCtorEq, ↓reduceIte, if_t, if_f]
    have w1 : IntKind.wrap .i64 ((k : Int) + 1) = ((k + 1 : Nat) : Int) := by rw [w64] <;> omega
    refine AW.rE (by rfl) fun K hK => ?_
    simp -implicitDefEqProofs only [go_sem, ↓reduceIte, Nat.reduceAdd, Nat.reduceMul, Nat.reduceEqDiff, Nat.reduceLeDiff, reduceCtorEq, Int.reduceToNat, w1]
    refine hK _ ?_; clear hK K
    refine ⟨(k + 1, max d' (dT x (m - 1))), ⟨by show k + 1 ≤ e.2.length; omega, by show max d' (dT x (m - 1)) ≤ 1000; omega, f3.trans sK⟩, by show e.2.length - (k + 1) < e.2.length - k; omega, ?_⟩
    refine Ghost.sub ?_ ?_ <;> simp -implicitDefEqProofs only [go_sem, ↓reduceIte, Nat.reduceAdd, Nat.reduceMul, Nat.reduceEqDiff, Nat.reduceLeDiff, reduceCtorEq, Int.reduceToNat,  List.forall_mem_cons, List.not_mem_nil, false_implies, implies_true, and_self, labsIn_lift, List.all_append, List.all_cons, List.all_nil, Nat.reduceLT, labsInL, AV.labsIn]
  · have hc2 : ((k : Int) < (e.2.length : Int)) = False := by simp; omega
    rw [List.drop_of_length_le (by omega), dTs] at f3
    refine AW.rT (by rfl) fun K hK => ?_
    simp -implicitDefEqProofs only [go_sem, ↓reduceIte, Nat.reduceAdd, Nat.reduceMul, Nat.reduceEqDiff, Nat.reduceLeDiff, reduceCtorEq, Int.reduceToNat, he1, he2, he3, hc1, encEn, List.length_map, hc2]
    refine hK _ ?_; clear hK K
    refine AW.cond _ (by simp -implicitDefEqProofs only [go_sem, ↓reduceIte, Nat.reduceAdd, Nat.reduceMul, Nat.reduceEqDiff, Nat.reduceLeDiff, reduceCtorEq, Int.reduceToNat]; rfl) (fun hc => ?_) (fun hc => ?_)
    · simp at hc
    refine AW.exit ?_
    simp only [andThen, inBlk, reduceCtorEq, ↓reduceIte, if_t, if_f]
    have w1 : IntKind.wrap .i64 ((i : Int) + 1) = ((i + 1 : Nat) : Int) := by rw [w64] <;> omega
    refine AW.rE (by rfl) fun K hK => ?_
    simp -implicitDefEqProofs only [go_sem, ↓reduceIte, Nat.reduceAdd, Nat.reduceMul, Nat.reduceEqDiff, Nat.reduceLeDiff, reduceCtorEq, Int.reduceToNat, w1]
    refine hK _ ?_; clear hK K
    refine ⟨(i + 1, d'), ⟨by show i + 1 ≤ t.ents.length; omega, f2, by show _ = dE (t.ents.drop (i + 1)) (m - 1) d'; rw [e3, sE, f3]⟩, by show t.ents.length - (i + 1) < t.ents.length - i; omega, ?_⟩
    refine Ghost.sub ?_ ?_ <;> simp -implicitDefEqProofs only [go_sem, ↓reduceIte, Nat.reduceAdd, Nat.reduceMul, Nat.reduceEqDiff, Nat.reduceLeDiff, reduceCtorEq, Int.reduceToNat,  List.forall_mem_cons, List.not_mem_nil, false_implies, implies_true, and_self, labsIn_lift, List.all_append, List.all_cons, List.all_nil, Nat.reduceLT, labsInL, AV.labsIn]
theorem ref09_Depth (t : Tr) (hl : lensT t = true) : PFn Try.prog 49 [.agg (encTr t)] (.int .i64 (dT t 101 : Int)) := by
  have := ref09_depth t 101 hl (by decide)
  rw [encTr_eq] at this
  refine PFn.of Try.func49 rfl (by decide) Try.ntmps49 Try.results49 (Nat.le_of_ble_eq_true rfl) ?_
  simp only [argsT]
  refine AW.rT (by rfl) fun K hK => ?_
  simp -implicitDefEqProofs only [go_sem, ↓reduceIte, Nat.reduceAdd, Nat.reduceMul, Nat.reduceEqDiff, Nat.reduceLeDiff, reduceCtorEq, Int.reduceToNat, encTr_eq]
  refine hK _ ?_; clear hK K
  refine AW.rT (by rfl) fun K hK => ?_
  simp -implicitDefEqProofs only [go_sem, ↓reduceIte, Nat.reduceAdd, Nat.reduceMul, Nat.reduceEqDiff, Nat.reduceLeDiff, reduceCtorEq, Int.reduceToNat]
  refine ⟨.pure _, this, ?_⟩
  try simp -implicitDefEqProofs only [go_sem, ↓reduceIte, Nat.reduceAdd, Nat.reduceMul, Nat.reduceEqDiff, Nat.reduceLeDiff, reduceCtorEq, Int.reduceToNat]
  refine hK _ ?_; clear hK K
  refine AW.ret ?_
  simp -implicitDefEqProofs only [go_sem, ↓reduceIte, Nat.reduceAdd, Nat.reduceMul, Nat.reduceEqDiff, Nat.reduceLeDiff, reduceCtorEq, Int.reduceToNat]
end Go.Aw
/- Which trees may be: the program's right, entries, rest. -/
namespace Go.Aw
open Go.Proofs
set_option linter.unusedSimpArgs false
set_option linter.unusedVariables false
def headK : List Tr → Int
  | [] => 0
  | x :: _ => x.kind
def restT (es : List (Int × List Tr)) (rest : List Raw) : Bool := rest.all (fun r => checkR r && es.all (fun e => e.1 != r.tag)) && rising rest
mutual
def rightT : Tr → Bool
  | .mk k n s es rest => if k = 1 then decide (s = []) && es.isEmpty && decide (rest = []) else if k = 2 then decide (n = 0) && es.isEmpty && decide (rest = []) else if k = 3 then decide (n = 0) && decide (s = []) && rightE es 0 && restT es rest else false
def rightE : List (Int × List Tr) → Int → Bool
  | [], _ => true
  | (t, l) :: r, last => if t ≤ last ∨ 500 < t ∨ l.length < 1 ∨ 64 < l.length then false else if rightTs l (headK l) = true then rightE r t else false
def rightTs : List Tr → Int → Bool
  | [], _ => true
  | x :: l, k => if x.kind ≠ k then false else if rightT x = true then rightTs l k else false
end
theorem rightT_mk (t : Tr) : rightT t = if t.kind = 1 then decide (t.s = []) && t.ents.isEmpty && decide (t.rest = []) else if t.kind = 2 then decide (t.n = 0) && t.ents.isEmpty && decide (t.rest = []) else if t.kind = 3 then decide (t.n = 0) && decide (t.s = []) && rightE t.ents 0 && restT t.ents t.rest else false := by
  cases t; rw [rightT]; rfl
theorem rightE_at {es : List (Int × List Tr)} {i : Nat} {e : Int × List Tr} (h : es[i]? = some e) (last : Int) :
    rightE (es.drop i) last = if e.1 ≤ last ∨ 500 < e.1 ∨ e.2.length < 1 ∨ 64 < e.2.length then false else if rightTs e.2 (headK e.2) = true then rightE (es.drop (i + 1)) e.1 else false := by
  rw [List.drop_eq_getElem_cons (List.getElem?_eq_some_iff.1 h).1, (List.getElem?_eq_some_iff.1 h).2]
  obtain ⟨a, l⟩ := e
  rw [rightE]
theorem rightTs_at {l : List Tr} {k : Nat} {x : Tr} (h : l[k]? = some x) (c : Int) : rightTs (l.drop k) c = if x.kind ≠ c then false else if rightT x = true then rightTs (l.drop (k + 1)) c else false := by
  rw [List.drop_eq_getElem_cons (List.getElem?_eq_some_iff.1 h).1, (List.getElem?_eq_some_iff.1 h).2, rightTs]
def subOK (f : FuncId) (es : List (Int × List Tr)) : Prop := ∀ (i : Nat) e (k : Nat) x, es[i]? = some e → e.2[k]? = some x → PFn Try.prog f [.agg (encTr x)] (.bool (rightT x))
def eS (t : Tr) (i : Nat) (last : Int) : St := ⟨ofL [(1, .ptr 0 0 0), (3, .p (.int .i64 last)), (9, .p (.slice (t.ents.map encEn))), (10, .p (.int .i64 (t.ents.length : Int))), (11, .p (.int .i64 (i : Int)))], ofH [(0, .row 5 [cellsT t])], 1⟩
def eT (t : Tr) (i : Nat) (e : Int × List Tr) (k : Nat) : St := ⟨ofL [(1, .ptr 0 0 0), (3, .p (.int .i64 e.1)), (5, .ptr 1 0 0), (9, .p (.slice (t.ents.map encEn))), (10, .p (.int .i64 (t.ents.length : Int))), (11, .p (.int .i64 (i : Int))), (39, .p (.slice (e.2.map encTr))), (40, .p (.int .i64 (e.2.length : Int))), (41, .p (.int .i64 (k : Int)))],
  ofH [(0, .row 5 [cellsT t]), (1, .row 2 [[.p (.int .i64 e.1), .p (.slice (e.2.map encTr))]])], 2⟩
set_option maxRecDepth 100000 in
set_option maxHeartbeats 4000000 in
theorem value_entries (t : Tr) (hlt : lensT t = true) (ih : subOK 82 t.ents) : PFn Try.prog 96 [.agg (encTr t)] (.bool (rightE t.ents 0)) := by
  obtain ⟨la1, la2, la3⟩ := lensT_mk hlt
  refine PFn.of Try.func96 rfl (by decide) Try.ntmps96 Try.results96 (Nat.le_of_ble_eq_true rfl) ?_
  simp only [argsT]
  refine AW.rT (by rfl) fun K hK => ?_
  simp -implicitDefEqProofs only [go_sem, ↓reduceIte, Nat.reduceAdd, Nat.reduceMul, Nat.reduceEqDiff, Nat.reduceLeDiff, reduceCtorEq, Int.reduceToNat, encTr_eq]
  refine hK _ ?_; clear hK K
  refine AW.rT (by rfl) fun K hK => ?_
  simp -implicitDefEqProofs only [go_sem, ↓reduceIte, Nat.reduceAdd, Nat.reduceMul, Nat.reduceEqDiff, Nat.reduceLeDiff, reduceCtorEq, Int.reduceToNat]
  refine hK _ ?_; clear hK K
  refine AW.seq ?_
  refine AW.rT (by rfl) fun K hK => ?_
  simp -implicitDefEqProofs only [go_sem, ↓reduceIte, Nat.reduceAdd, Nat.reduceMul, Nat.reduceEqDiff, Nat.reduceLeDiff, reduceCtorEq, Int.reduceToNat, List.length_map]
  refine hK _ ?_; clear hK K
  refine AW.block ?_
  refine AW.loop (fun x : Nat × Int => eS t x.1 x.2) (fun x => x.1 ≤ t.ents.length ∧ rightE t.ents 0 = rightE (t.ents.drop x.1) x.2) (fun x => t.ents.length - x.1) (0, 0) ?_ ⟨by simp, by rw [List.drop_zero]⟩ fun x hx => ?_
  · simp only [eS, cellsT]
    refine Ghost.sub ?_ ?_ <;> simp -implicitDefEqProofs only [go_sem, ↓reduceIte, Nat.reduceAdd, Nat.reduceMul, Nat.reduceEqDiff, Nat.reduceLeDiff, reduceCtorEq, Int.reduceToNat,  List.forall_mem_cons, List.not_mem_nil, false_implies, implies_true, and_self, labsIn_lift, List.all_append, List.all_cons, List.all_nil, Nat.reduceLT, labsInL, AV.labsIn]
    rfl
  obtain ⟨i, last⟩ := x
  obtain ⟨e1, e2⟩ := hx
  dsimp only at e1 e2
  simp only [eS, cellsT]
  by_cases hil : i < t.ents.length
  case neg =>
    have hc1 : ((i : Int) < (t.ents.length : Int)) = False := by simp; omega
    rw [List.drop_of_length_le (by omega), rightE] at e2
    refine AW.rT (by rfl) fun K hK => ?_
    simp -implicitDefEqProofs only [go_sem, ↓reduceIte, Nat.reduceAdd, Nat.reduceMul, Nat.reduceEqDiff, Nat.reduceLeDiff, reduceCtorEq, Int.reduceToNat, hc1]
    refine hK _ ?_; clear hK K
    refine AW.seq ?_
    refine AW.cond _ (by simp -implicitDefEqProofs only [go_sem, ↓reduceIte, Nat.reduceAdd, Nat.reduceMul, Nat.reduceEqDiff, Nat.reduceLeDiff, reduceCtorEq, Int.reduceToNat]; rfl) (fun hc => ?_) (fun hc => ?_)
    · simp at hc
    refine AW.exit ?_
    simp only [andThen, inBlk, reduceCtorEq, ↓reduceIte, if_t, if_f]
    refine AW.rT (by rfl) fun K hK => ?_
    simp -implicitDefEqProofs only [go_sem, ↓reduceIte, Nat.reduceAdd, Nat.reduceMul, Nat.reduceEqDiff, Nat.reduceLeDiff, reduceCtorEq, Int.reduceToNat]
    refine hK _ ?_; clear hK K
    refine AW.ret ?_
    simp -implicitDefEqProofs only [go_sem, ↓reduceIte, Nat.reduceAdd, Nat.reduceMul, Nat.reduceEqDiff, Nat.reduceLeDiff, reduceCtorEq, Int.reduceToNat, e2]
  obtain ⟨e, he⟩ : ∃ e, t.ents[i]? = some e := ⟨_, List.getElem?_eq_getElem hil⟩
  have ⟨he1, he2, he3⟩ := at_map' encEn he
  have ⟨le1, le2⟩ := lensE_at la3 he
  have hc1 : ((i : Int) < (t.ents.length : Int)) = True := by simp; omega
  have sE := rightE_at he last
  refine AW.rT (by rfl) fun K hK => ?_
  simp -implicitDefEqProofs only [go_sem, ↓reduceIte, Nat.reduceAdd, Nat.reduceMul, Nat.reduceEqDiff, Nat.reduceLeDiff, reduceCtorEq, Int.reduceToNat, hc1]
  refine hK _ ?_; clear hK K
  refine AW.seq ?_
  refine AW.cond _ (by simp -implicitDefEqProofs only [go_sem, ↓reduceIte, Nat.reduceAdd, Nat.reduceMul, Nat.reduceEqDiff, Nat.reduceLeDiff, reduceCtorEq, Int.reduceToNat]; rfl) (fun hc => ?_) (fun hc => ?_)
  rotate_left
  · simp at hc
  refine AW.skip ?_
  simp only [andThen, inBlk, reduceCtorEq, ↓reduceIte, if_t, if_f]
  refine AW.seq ?_
  refine AW.block ?_
  refine AW.rT (by rfl) fun K hK => ?_
  simp -implicitDefEqProofs only [go_sem, ↓reduceIte, Nat.reduceAdd, Nat.reduceMul, Nat.reduceEqDiff, Nat.reduceLeDiff, reduceCtorEq, Int.reduceToNat, he1, he2, he3, hc1, encEn, List.length_map]
  refine hK _ ?_; clear hK K
  refine AW.seq ?_
  by_cases d1 : e.1 ≤ last
  · rw [if_pos (.inl d1)] at sE
    have HH := e2.trans sE
    refine AW.rT (by rfl) fun K hK => ?_
    simp -implicitDefEqProofs only [go_sem, ↓reduceIte, Nat.reduceAdd, Nat.reduceMul, Nat.reduceEqDiff, Nat.reduceLeDiff, reduceCtorEq, Int.reduceToNat, d1]
    refine hK _ ?_; clear hK K
    refine AW.cond _ (by simp -implicitDefEqProofs only [go_sem, ↓reduceIte, Nat.reduceAdd, Nat.reduceMul, Nat.reduceEqDiff, Nat.reduceLeDiff, reduceCtorEq, Int.reduceToNat]; rfl) (fun hc => ?_) (fun hc => ?_)
    · refine AW.rT (by rfl) fun K hK => ?_
      simp -implicitDefEqProofs only [go_sem, ↓reduceIte, Nat.reduceAdd, Nat.reduceMul, Nat.reduceEqDiff, Nat.reduceLeDiff, reduceCtorEq, Int.reduceToNat]
      refine hK _ ?_; clear hK K
      refine AW.ret ?_
      simp -implicitDefEqProofs only [go_sem, ↓reduceIte, Nat.reduceAdd, Nat.reduceMul, Nat.reduceEqDiff, Nat.reduceLeDiff, reduceCtorEq, Int.reduceToNat, HH]
    · simp at hc
  by_cases d2 : 500 < e.1
  · have b2 : (e.1 > 500) = True := by simp; omega
    rw [if_pos (.inr (.inl d2))] at sE
    have HH := e2.trans sE
    refine AW.rT (by rfl) fun K hK => ?_
    simp -implicitDefEqProofs only [go_sem, ↓reduceIte, Nat.reduceAdd, Nat.reduceMul, Nat.reduceEqDiff, Nat.reduceLeDiff, reduceCtorEq, Int.reduceToNat, d1, b2]
    refine hK _ ?_; clear hK K
    refine AW.cond _ (by simp -implicitDefEqProofs only [go_sem, ↓reduceIte, Nat.reduceAdd, Nat.reduceMul, Nat.reduceEqDiff, Nat.reduceLeDiff, reduceCtorEq, Int.reduceToNat]; rfl) (fun hc => ?_) (fun hc => ?_)
    · refine AW.rT (by rfl) fun K hK => ?_
      simp -implicitDefEqProofs only [go_sem, ↓reduceIte, Nat.reduceAdd, Nat.reduceMul, Nat.reduceEqDiff, Nat.reduceLeDiff, reduceCtorEq, Int.reduceToNat]
      refine hK _ ?_; clear hK K
      refine AW.ret ?_
      simp -implicitDefEqProofs only [go_sem, ↓reduceIte, Nat.reduceAdd, Nat.reduceMul, Nat.reduceEqDiff, Nat.reduceLeDiff, reduceCtorEq, Int.reduceToNat, HH]
    · simp at hc
  have b2 : (e.1 > 500) = False := by simp; omega
  by_cases d3 : e.2.length < 1
  · have b3 : ((e.2.length : Int) < 1) = True := by simp; omega
    rw [if_pos (.inr (.inr (.inl d3)))] at sE
    have HH := e2.trans sE
    refine AW.rT (by rfl) fun K hK => ?_
    simp -implicitDefEqProofs only [go_sem, ↓reduceIte, Nat.reduceAdd, Nat.reduceMul, Nat.reduceEqDiff, Nat.reduceLeDiff, reduceCtorEq, Int.reduceToNat, d1, b2, b3, List.length_map]
    refine hK _ ?_; clear hK K
    refine AW.cond _ (by simp -implicitDefEqProofs only [go_sem, ↓reduceIte, Nat.reduceAdd, Nat.reduceMul, Nat.reduceEqDiff, Nat.reduceLeDiff, reduceCtorEq, Int.reduceToNat]; rfl) (fun hc => ?_) (fun hc => ?_)
    · refine AW.rT (by rfl) fun K hK => ?_
      simp -implicitDefEqProofs only [go_sem, ↓reduceIte, Nat.reduceAdd, Nat.reduceMul, Nat.reduceEqDiff, Nat.reduceLeDiff, reduceCtorEq, Int.reduceToNat]
      refine hK _ ?_; clear hK K
      refine AW.ret ?_
      simp -implicitDefEqProofs only [go_sem, ↓reduceIte, Nat.reduceAdd, Nat.reduceMul, Nat.reduceEqDiff, Nat.reduceLeDiff, reduceCtorEq, Int.reduceToNat, HH]
    · simp at hc
  have b3 : ((e.2.length : Int) < 1) = False := by simp; omega
  by_cases d4 : 64 < e.2.length
  · have b4 : ((e.2.length : Int) > 64) = True := by simp; omega
    rw [if_pos (.inr (.inr (.inr d4)))] at sE
    have HH := e2.trans sE
    refine AW.rT (by rfl) fun K hK => ?_
    simp -implicitDefEqProofs only [go_sem, ↓reduceIte, Nat.reduceAdd, Nat.reduceMul, Nat.reduceEqDiff, Nat.reduceLeDiff, reduceCtorEq, Int.reduceToNat, d1, b2, b3, b4, List.length_map]
    refine hK _ ?_; clear hK K
    refine AW.cond _ (by simp -implicitDefEqProofs only [go_sem, ↓reduceIte, Nat.reduceAdd, Nat.reduceMul, Nat.reduceEqDiff, Nat.reduceLeDiff, reduceCtorEq, Int.reduceToNat]; rfl) (fun hc => ?_) (fun hc => ?_)
    · refine AW.rT (by rfl) fun K hK => ?_
      simp -implicitDefEqProofs only [go_sem, ↓reduceIte, Nat.reduceAdd, Nat.reduceMul, Nat.reduceEqDiff, Nat.reduceLeDiff, reduceCtorEq, Int.reduceToNat]
      refine hK _ ?_; clear hK K
      refine AW.ret ?_
      simp -implicitDefEqProofs only [go_sem, ↓reduceIte, Nat.reduceAdd, Nat.reduceMul, Nat.reduceEqDiff, Nat.reduceLeDiff, reduceCtorEq, Int.reduceToNat, HH]
    · simp at hc
  have b4 : ((e.2.length : Int) > 64) = False := by simp; omega
  rw [if_neg (by omega)] at sE
  refine AW.rT (by rfl) fun K hK => ?_
  simp -implicitDefEqProofs only [go_sem, ↓reduceIte, Nat.reduceAdd, Nat.reduceMul, Nat.reduceEqDiff, Nat.reduceLeDiff, reduceCtorEq, Int.reduceToNat, d1, b2, b3, b4, List.length_map]
  refine hK _ ?_; clear hK K
  refine AW.cond _ (by simp -implicitDefEqProofs only [go_sem, ↓reduceIte, Nat.reduceAdd, Nat.reduceMul, Nat.reduceEqDiff, Nat.reduceLeDiff, reduceCtorEq, Int.reduceToNat]; rfl) (fun hc => ?_) (fun hc => ?_)
  · simp at hc
  refine AW.skip ?_
  simp only [andThen, inBlk, reduceCtorEq, ↓reduceIte, if_t, if_f]
  refine AW.rT (by rfl) fun K hK => ?_
  simp -implicitDefEqProofs only [go_sem, ↓reduceIte, Nat.reduceAdd, Nat.reduceMul, Nat.reduceEqDiff, Nat.reduceLeDiff, reduceCtorEq, Int.reduceToNat]
  refine hK _ ?_; clear hK K
  refine AW.rT (by rfl) fun K hK => ?_
  simp -implicitDefEqProofs only [go_sem, ↓reduceIte, Nat.reduceAdd, Nat.reduceMul, Nat.reduceEqDiff, Nat.reduceLeDiff, reduceCtorEq, Int.reduceToNat, List.length_map]
  refine hK _ ?_; clear hK K
  refine AW.block ?_
  refine AW.loop (fun k : Nat => eT t i e k) (fun k => k ≤ e.2.length ∧ rightTs e.2 (headK e.2) = rightTs (e.2.drop k) (headK e.2)) (fun k => e.2.length - k) 0 ?_ ⟨by simp, by rw [List.drop_zero]⟩ fun k hk => ?_
  · simp only [eT, cellsT]
    refine Ghost.ent (fun l => if l = 1 then 4 else l) ?_ ?_ ?_ <;> simp -implicitDefEqProofs only [go_sem, ↓reduceIte, Nat.reduceAdd, Nat.reduceMul, Nat.reduceEqDiff, Nat.reduceLeDiff, reduceCtorEq, Int.reduceToNat,  List.forall_mem_cons, List.not_mem_nil, false_implies, implies_true, and_self, map_renL_lift, labsIn_lift, List.all_append, List.all_cons, List.all_nil, List.map_append, Nat.reduceLT, labsInL, AV.labsIn]
    rfl
  obtain ⟨f1, f2⟩ := hk
  simp only [eT, cellsT]
  obtain ⟨x0, hx0⟩ : ∃ x, e.2[0]? = some x := ⟨_, List.getElem?_eq_getElem (by omega)⟩
  have ⟨_, _, h03⟩ := at_map' encTr hx0
  have hk0 : headK e.2 = x0.kind := by
    cases hq : e.2 with
    | nil => rw [hq] at hx0; simp at hx0
    | cons y l => rw [hq] at hx0; simp at hx0; subst hx0; rfl
  rw [hk0] at f2 sE
  have hz : ((0 : Int) < (e.2.length : Int)) = True := by simp; omega
  have hz0 : ((0 : Int) ≤ 0) = True := by simp
  by_cases hkl : k < e.2.length
  · obtain ⟨x, hx⟩ : ∃ x, e.2[k]? = some x := ⟨_, List.getElem?_eq_getElem hkl⟩
    have ⟨hx1, hx2, hx3⟩ := at_map' encTr hx
    have hc2 : ((k : Int) < (e.2.length : Int)) = True := by simp; omega
    have sK := rightTs_at hx x0.kind
    have IH := ih i e k x he hx
    rw [encTr_eq] at IH
    refine AW.rT (by rfl) fun K hK => ?_
    simp -implicitDefEqProofs only [go_sem, ↓reduceIte, Nat.reduceAdd, Nat.reduceMul, Nat.reduceEqDiff, Nat.reduceLeDiff, reduceCtorEq, Int.reduceToNat, hc2]
    refine hK _ ?_; clear hK K
    refine AW.seq ?_
    refine AW.cond _ (by simp -implicitDefEqProofs only [go_sem, ↓reduceIte, Nat.reduceAdd, Nat.reduceMul, Nat.reduceEqDiff, Nat.reduceLeDiff, reduceCtorEq, Int.reduceToNat]; rfl) (fun hc => ?_) (fun hc => ?_)
    rotate_left
    · simp at hc
    refine AW.skip ?_
    simp only [andThen, inBlk, reduceCtorEq, ↓reduceIte, if_t, if_f]
    refine AW.seq ?_
    refine AW.block ?_
    refine AW.rT (by rfl) fun K hK => ?_
    simp -implicitDefEqProofs only [go_sem, ↓reduceIte, Nat.reduceAdd, Nat.reduceMul, Nat.reduceEqDiff, Nat.reduceLeDiff, reduceCtorEq, Int.reduceToNat, hx1, hx2, hx3, hc2, encTr_eq, List.length_map]
    refine hK _ ?_; clear hK K
    by_cases hkk : x.kind = x0.kind
    · have bk : (x.kind != x0.kind) = false := by simpa using hkk
      rw [if_neg (by simpa using hkk)] at sK
      refine AW.dT mixed (by rfl) (by decide +kernel) fun K hK => ?_
      simp -implicitDefEqProofs only [go_sem, ↓reduceIte, Nat.reduceAdd, Nat.reduceMul, Nat.reduceEqDiff, Nat.reduceLeDiff, reduceCtorEq, Int.reduceToNat, hx1, hx2, hx3, hc2, h03, hz, hz0, encTr_eq, List.length_map, bk]
      refine ⟨.pure _, IH, ?_⟩
      try simp -implicitDefEqProofs only [go_sem, ↓reduceIte, Nat.reduceAdd, Nat.reduceMul, Nat.reduceEqDiff, Nat.reduceLeDiff, reduceCtorEq, Int.reduceToNat]
      refine ⟨heapOK_nil rfl, ?_⟩
      refine hK _ ?_; clear hK K
      cases hq : rightT x with
      | false =>
        rw [if_neg (by rw [hq]; simp)] at sK
        rw [if_neg (by rw [f2, sK]; simp)] at sE
        have HH := e2.trans sE
        refine AW.cond _ (by simp -implicitDefEqProofs only [go_sem, ↓reduceIte, Nat.reduceAdd, Nat.reduceMul, Nat.reduceEqDiff, Nat.reduceLeDiff, reduceCtorEq, Int.reduceToNat]; rfl) (fun hc => ?_) (fun hc => ?_)
        · refine AW.rT (by rfl) fun K hK => ?_
          simp -implicitDefEqProofs only [go_sem, ↓reduceIte, Nat.reduceAdd, Nat.reduceMul, Nat.reduceEqDiff, Nat.reduceLeDiff, reduceCtorEq, Int.reduceToNat]
          refine hK _ ?_; clear hK K
          refine AW.ret ?_
          simp -implicitDefEqProofs only [go_sem, ↓reduceIte, Nat.reduceAdd, Nat.reduceMul, Nat.reduceEqDiff, Nat.reduceLeDiff, reduceCtorEq, Int.reduceToNat, HH]
        · simp at hc
      | true =>
        rw [if_pos hq] at sK
        refine AW.cond _ (by simp -implicitDefEqProofs only [go_sem, ↓reduceIte, Nat.reduceAdd, Nat.reduceMul, Nat.reduceEqDiff, Nat.reduceLeDiff, reduceCtorEq, Int.reduceToNat]; rfl) (fun hc => ?_) (fun hc => ?_)
        · simp at hc
        refine AW.skip ?_
        simp only [andThen, inBlk, reduceCtorEq, ↓reduceIte, if_t, if_f]
        have w1 : IntKind.wrap .i64 ((k : Int) + 1) = ((k + 1 : Nat) : Int) := by rw [w64] <;> omega
        refine AW.rE (by rfl) fun K hK => ?_
        simp -implicitDefEqProofs only [go_sem, ↓reduceIte, Nat.reduceAdd, Nat.reduceMul, Nat.reduceEqDiff, Nat.reduceLeDiff, reduceCtorEq, Int.reduceToNat, w1]
        refine hK _ ?_; clear hK K
        refine ⟨k + 1, ⟨by omega, by rw [hk0]; exact f2.trans sK⟩, by omega, ?_⟩
        refine Ghost.sub ?_ ?_ <;> simp -implicitDefEqProofs only [go_sem, ↓reduceIte, Nat.reduceAdd, Nat.reduceMul, Nat.reduceEqDiff, Nat.reduceLeDiff, reduceCtorEq, Int.reduceToNat,  List.forall_mem_cons, List.not_mem_nil, false_implies, implies_true, and_self, labsIn_lift, List.all_append, List.all_cons, List.all_nil, Nat.reduceLT, labsInL, AV.labsIn]
    · have bk : (x.kind != x0.kind) = true := by simpa using hkk
      rw [if_pos hkk] at sK
      rw [if_neg (by rw [f2, sK]; simp)] at sE
      have HH := e2.trans sE
      refine AW.dT mixed (by rfl) (by decide +kernel) fun K hK => ?_
      simp -implicitDefEqProofs only [go_sem, ↓reduceIte, Nat.reduceAdd, Nat.reduceMul, Nat.reduceEqDiff, Nat.reduceLeDiff, reduceCtorEq, Int.reduceToNat, hx1, hx2, hx3, hc2, h03, hz, hz0, encTr_eq, List.length_map, bk]
      refine ⟨heapOK_nil rfl, ?_⟩
      refine hK _ ?_; clear hK K
      refine AW.cond _ (by simp -implicitDefEqProofs only [go_sem, ↓reduceIte, Nat.reduceAdd, Nat.reduceMul, Nat.reduceEqDiff, Nat.reduceLeDiff, reduceCtorEq, Int.reduceToNat]; rfl) (fun hc => ?_) (fun hc => ?_)
      · refine AW.rT (by rfl) fun K hK => ?_
        simp -implicitDefEqProofs only [go_sem, ↓reduceIte, Nat.reduceAdd, Nat.reduceMul, Nat.reduceEqDiff, Nat.reduceLeDiff, reduceCtorEq, Int.reduceToNat]
        refine hK _ ?_; clear hK K
        refine AW.ret ?_
        simp -implicitDefEqProofs only [go_sem, ↓reduceIte, Nat.reduceAdd, Nat.reduceMul, Nat.reduceEqDiff, Nat.reduceLeDiff, reduceCtorEq, Int.reduceToNat, HH]
      · simp at hc
  · have hc2 : ((k : Int) < (e.2.length : Int)) = False := by simp; omega
    rw [List.drop_of_length_le (by omega), rightTs] at f2
    rw [if_pos f2] at sE
    refine AW.rT (by rfl) fun K hK => ?_
    simp -implicitDefEqProofs only [go_sem, ↓reduceIte, Nat.reduceAdd, Nat.reduceMul, Nat.reduceEqDiff, Nat.reduceLeDiff, reduceCtorEq, Int.reduceToNat, hc2]
    refine hK _ ?_; clear hK K
    refine AW.seq ?_
    refine AW.cond _ (by simp -implicitDefEqProofs only [go_sem, ↓reduceIte, Nat.reduceAdd, Nat.reduceMul, Nat.reduceEqDiff, Nat.reduceLeDiff, reduceCtorEq, Int.reduceToNat]; rfl) (fun hc => ?_) (fun hc => ?_)
    · simp at hc
    refine AW.exit ?_
    simp only [andThen, inBlk, reduceCtorEq, ↓reduceIte, if_t, if_f]
    have w1 : IntKind.wrap .i64 ((i : Int) + 1) = ((i + 1 : Nat) : Int) := by rw [w64] <;> omega
    refine AW.rE (by rfl) fun K hK => ?_
    simp -implicitDefEqProofs only [go_sem, ↓reduceIte, Nat.reduceAdd, Nat.reduceMul, Nat.reduceEqDiff, Nat.reduceLeDiff, reduceCtorEq, Int.reduceToNat, w1]
    refine hK _ ?_; clear hK K
    refine ⟨(i + 1, e.1), ⟨by show i + 1 ≤ t.ents.length; omega, e2.trans sE⟩, by show t.ents.length - (i + 1) < t.ents.length - i; omega, ?_⟩
    refine Ghost.sub ?_ ?_ <;> simp -implicitDefEqProofs only [go_sem, ↓reduceIte, Nat.reduceAdd, Nat.reduceMul, Nat.reduceEqDiff, Nat.reduceLeDiff, reduceCtorEq, Int.reduceToNat,  List.forall_mem_cons, List.not_mem_nil, false_implies, implies_true, and_self, labsIn_lift, List.all_append, List.all_cons, List.all_nil, Nat.reduceLT, labsInL, AV.labsIn]
end Go.Aw
/- Which trees may be: rest, right, Check. -/
namespace Go.Aw
open Go.Proofs
set_option linter.unusedSimpArgs false
set_option linter.unusedVariables false
def okRest (es : List (Int × List Tr)) (r : Raw) : Bool := checkR r && es.all (fun e => e.1 != r.tag)
theorem all_next {α : Type} {l : List α} {p : α → Bool} {k : Nat} {r : α} (h : l[k]? = some r) (ha : (l.take k).all p = true) (hr : p r = true) : (l.take (k + 1)).all p = true := by
  rw [List.take_add_one, h, List.all_append, ha]
  simp [hr]
theorem all_not {α : Type} {l : List α} {p : α → Bool} {k : Nat} {r : α} (h : l[k]? = some r) (hr : p r = false) : l.all p = false := by
  rw [List.all_eq_false]
  exact ⟨r, List.mem_of_getElem? h, by simp [hr]⟩
def hS1 (t : Tr) (i : Nat) : St := ⟨ofL [(1, .ptr 0 0 0), (8, .p (.slice (t.rest.map encRaw))), (9, .p (.int .i64 (t.rest.length : Int))), (10, .p (.int .i64 (i : Int)))], ofH [(0, .row 5 [cellsT t])], 1⟩
def hS2 (t : Tr) (i : Nat) (r : Raw) (k : Nat) : St := ⟨ofL [(1, .ptr 0 0 0), (4, .ptr 1 0 0), (8, .p (.slice (t.rest.map encRaw))), (9, .p (.int .i64 (t.rest.length : Int))), (10, .p (.int .i64 (i : Int))), (18, .p (.slice (t.ents.map encEn))), (19, .p (.int .i64 (t.ents.length : Int))), (20, .p (.int .i64 (k : Int)))],
  ofH [(0, .row 5 [cellsT t]), (1, .row 4 [[.p (.int .i64 r.tag), .p (.int .i64 r.wire), .p (.int .i64 r.n), .p (.str r.b)]])], 2⟩
set_option maxRecDepth 100000 in
set_option maxHeartbeats 4000000 in
theorem value_rest (t : Tr) (hlt : lensT t = true) : PFn Try.prog 97 [.agg (encTr t)] (.bool (restT t.ents t.rest)) := by
  obtain ⟨la1, la2, la3⟩ := lensT_mk hlt
  have hm : maxLen = 9223372036854775807 := by decide
  have RT : restT t.ents t.rest = (t.rest.all (okRest t.ents) && rising t.rest) := rfl
  refine PFn.of Try.func97 rfl (by decide) Try.ntmps97 Try.results97 (Nat.le_of_ble_eq_true rfl) ?_
  simp only [argsT]
  refine AW.rT (by rfl) fun K hK => ?_
  simp -implicitDefEqProofs only [go_sem, ↓reduceIte, Nat.reduceAdd, Nat.reduceMul, Nat.reduceEqDiff, Nat.reduceLeDiff, reduceCtorEq, Int.reduceToNat, encTr_eq]
  refine hK _ ?_; clear hK K
  refine AW.seq ?_
  refine AW.rT (by rfl) fun K hK => ?_
  simp -implicitDefEqProofs only [go_sem, ↓reduceIte, Nat.reduceAdd, Nat.reduceMul, Nat.reduceEqDiff, Nat.reduceLeDiff, reduceCtorEq, Int.reduceToNat, List.length_map]
  refine hK _ ?_; clear hK K
  refine AW.block ?_
  refine AW.loop (hS1 t) (fun i => i ≤ t.rest.length ∧ (t.rest.take i).all (okRest t.ents) = true) (fun i => t.rest.length - i) 0 ?_ (by simp) fun i hi => ?_
  · simp only [hS1, cellsT]
    refine Ghost.sub ?_ ?_ <;> simp -implicitDefEqProofs only [go_sem, ↓reduceIte, Nat.reduceAdd, Nat.reduceMul, Nat.reduceEqDiff, Nat.reduceLeDiff, reduceCtorEq, Int.reduceToNat,  List.forall_mem_cons, List.not_mem_nil, false_implies, implies_true, and_self, labsIn_lift, List.all_append, List.all_cons, List.all_nil, Nat.reduceLT, labsInL, AV.labsIn]
    rfl
  obtain ⟨g1, g2⟩ := hi
  simp only [hS1, cellsT]
  by_cases hil : i < t.rest.length
  case neg =>
    have hc1 : ((i : Int) < (t.rest.length : Int)) = False := by simp; omega
    have hi' : i = t.rest.length := by omega
    subst hi'
    rw [List.take_length] at g2
    refine AW.rT (by rfl) fun K hK => ?_
    simp -implicitDefEqProofs only [go_sem, ↓reduceIte, Nat.reduceAdd, Nat.reduceMul, Nat.reduceEqDiff, Nat.reduceLeDiff, reduceCtorEq, Int.reduceToNat, hc1]
    refine hK _ ?_; clear hK K
    refine AW.seq ?_
    refine AW.cond _ (by simp -implicitDefEqProofs only [go_sem, ↓reduceIte, Nat.reduceAdd, Nat.reduceMul, Nat.reduceEqDiff, Nat.reduceLeDiff, reduceCtorEq, Int.reduceToNat]; rfl) (fun hc => ?_) (fun hc => ?_)
    · simp at hc
    refine AW.exit ?_
    simp only [andThen, inBlk, reduceCtorEq, ↓reduceIte, if_t, if_f]
    refine AW.rT (by rfl) fun K hK => ?_
    simp -implicitDefEqProofs only [go_sem, ↓reduceIte, Nat.reduceAdd, Nat.reduceMul, Nat.reduceEqDiff, Nat.reduceLeDiff, reduceCtorEq, Int.reduceToNat]
    refine ⟨.pure _, wire_Rising t.rest (by omega), ?_⟩
    try simp -implicitDefEqProofs only [go_sem, ↓reduceIte, Nat.reduceAdd, Nat.reduceMul, Nat.reduceEqDiff, Nat.reduceLeDiff, reduceCtorEq, Int.reduceToNat]
    refine hK _ ?_; clear hK K
    refine AW.ret ?_
    simp -implicitDefEqProofs only [go_sem, ↓reduceIte, Nat.reduceAdd, Nat.reduceMul, Nat.reduceEqDiff, Nat.reduceLeDiff, reduceCtorEq, Int.reduceToNat]
    rw [RT, g2, Bool.true_and]
  obtain ⟨r, hr⟩ : ∃ r, t.rest[i]? = some r := ⟨_, List.getElem?_eq_getElem hil⟩
  have ⟨hr1, hr2, hr3⟩ := at_map' encRaw hr
  have hc1 : ((i : Int) < (t.rest.length : Int)) = True := by simp; omega
  refine AW.rT (by rfl) fun K hK => ?_
  simp -implicitDefEqProofs only [go_sem, ↓reduceIte, Nat.reduceAdd, Nat.reduceMul, Nat.reduceEqDiff, Nat.reduceLeDiff, reduceCtorEq, Int.reduceToNat, hc1]
  refine hK _ ?_; clear hK K
  refine AW.seq ?_
  refine AW.cond _ (by simp -implicitDefEqProofs only [go_sem, ↓reduceIte, Nat.reduceAdd, Nat.reduceMul, Nat.reduceEqDiff, Nat.reduceLeDiff, reduceCtorEq, Int.reduceToNat]; rfl) (fun hc => ?_) (fun hc => ?_)
  rotate_left
  · simp at hc
  refine AW.skip ?_
  simp only [andThen, inBlk, reduceCtorEq, ↓reduceIte, if_t, if_f]
  refine AW.seq ?_
  refine AW.block ?_
  refine AW.rT (by rfl) fun K hK => ?_
  simp -implicitDefEqProofs only [go_sem, ↓reduceIte, Nat.reduceAdd, Nat.reduceMul, Nat.reduceEqDiff, Nat.reduceLeDiff, reduceCtorEq, Int.reduceToNat, hr1, hr2, hr3, hc1, encRaw, List.length_map]
  refine hK _ ?_; clear hK K
  refine AW.seq ?_
  cases hcr : checkR r with
  | false =>
    have C1 : PFn Try.prog 35 [.agg (encRaw r)] (.bool false) := hcr ▸ wire_Check r
    have HH : restT t.ents t.rest = false := by rw [RT, all_not hr (by simp [okRest, hcr])]; rfl
    refine AW.rT (by rfl) fun K hK => ?_
    simp -implicitDefEqProofs only [go_sem, ↓reduceIte, Nat.reduceAdd, Nat.reduceMul, Nat.reduceEqDiff, Nat.reduceLeDiff, reduceCtorEq, Int.reduceToNat]
    refine ⟨.pure _, C1, ?_⟩
    try simp -implicitDefEqProofs only [go_sem, ↓reduceIte, Nat.reduceAdd, Nat.reduceMul, Nat.reduceEqDiff, Nat.reduceLeDiff, reduceCtorEq, Int.reduceToNat]
    refine hK _ ?_; clear hK K
    refine AW.cond _ (by simp -implicitDefEqProofs only [go_sem, ↓reduceIte, Nat.reduceAdd, Nat.reduceMul, Nat.reduceEqDiff, Nat.reduceLeDiff, reduceCtorEq, Int.reduceToNat]; rfl) (fun hc => ?_) (fun hc => ?_)
    · refine AW.rT (by rfl) fun K hK => ?_
      simp -implicitDefEqProofs only [go_sem, ↓reduceIte, Nat.reduceAdd, Nat.reduceMul, Nat.reduceEqDiff, Nat.reduceLeDiff, reduceCtorEq, Int.reduceToNat]
      refine hK _ ?_; clear hK K
      refine AW.ret ?_
      simp -implicitDefEqProofs only [go_sem, ↓reduceIte, Nat.reduceAdd, Nat.reduceMul, Nat.reduceEqDiff, Nat.reduceLeDiff, reduceCtorEq, Int.reduceToNat, HH]
    · simp at hc
  | true =>
  have C1 : PFn Try.prog 35 [.agg (encRaw r)] (.bool true) := hcr ▸ wire_Check r
  refine AW.rT (by rfl) fun K hK => ?_
  simp -implicitDefEqProofs only [go_sem, ↓reduceIte, Nat.reduceAdd, Nat.reduceMul, Nat.reduceEqDiff, Nat.reduceLeDiff, reduceCtorEq, Int.reduceToNat]
  refine ⟨.pure _, C1, ?_⟩
  try simp -implicitDefEqProofs only [go_sem, ↓reduceIte, Nat.reduceAdd, Nat.reduceMul, Nat.reduceEqDiff, Nat.reduceLeDiff, reduceCtorEq, Int.reduceToNat]
  refine hK _ ?_; clear hK K
  refine AW.cond _ (by simp -implicitDefEqProofs only [go_sem, ↓reduceIte, Nat.reduceAdd, Nat.reduceMul, Nat.reduceEqDiff, Nat.reduceLeDiff, reduceCtorEq, Int.reduceToNat]; rfl) (fun hc => ?_) (fun hc => ?_)
  · simp at hc
  refine AW.skip ?_
  simp only [andThen, inBlk, reduceCtorEq, ↓reduceIte, if_t, if_f]
  refine AW.rT (by rfl) fun K hK => ?_
  simp -implicitDefEqProofs only [go_sem, ↓reduceIte, Nat.reduceAdd, Nat.reduceMul, Nat.reduceEqDiff, Nat.reduceLeDiff, reduceCtorEq, Int.reduceToNat, List.length_map]
  refine hK _ ?_; clear hK K
  refine AW.block ?_
  refine AW.loop (fun k : Nat => hS2 t i r k) (fun k => k ≤ t.ents.length ∧ (t.ents.take k).all (fun e => e.1 != r.tag) = true) (fun k => t.ents.length - k) 0 ?_ (by simp) fun k hk => ?_
  · simp only [hS2, cellsT]
    refine Ghost.ent (fun l => if l = 1 then 4 else l) ?_ ?_ ?_ <;> simp -implicitDefEqProofs only [go_sem, ↓reduceIte, Nat.reduceAdd, Nat.reduceMul, Nat.reduceEqDiff, Nat.reduceLeDiff, reduceCtorEq, Int.reduceToNat,  List.forall_mem_cons, List.not_mem_nil, false_implies, implies_true, and_self, map_renL_lift, labsIn_lift, List.all_append, List.all_cons, List.all_nil, List.map_append, Nat.reduceLT, labsInL, AV.labsIn]
    rfl
  obtain ⟨k1, k2⟩ := hk
  simp only [hS2, cellsT]
  by_cases hkl : k < t.ents.length
  · obtain ⟨e, he⟩ : ∃ e, t.ents[k]? = some e := ⟨_, List.getElem?_eq_getElem hkl⟩
    have ⟨he1, he2, he3⟩ := at_map' encEn he
    have hc2 : ((k : Int) < (t.ents.length : Int)) = True := by simp; omega
    refine AW.rT (by rfl) fun K hK => ?_
    simp -implicitDefEqProofs only [go_sem, ↓reduceIte, Nat.reduceAdd, Nat.reduceMul, Nat.reduceEqDiff, Nat.reduceLeDiff, reduceCtorEq, Int.reduceToNat, hc2]
    refine hK _ ?_; clear hK K
    refine AW.seq ?_
    refine AW.cond _ (by simp -implicitDefEqProofs only [go_sem, ↓reduceIte, Nat.reduceAdd, Nat.reduceMul, Nat.reduceEqDiff, Nat.reduceLeDiff, reduceCtorEq, Int.reduceToNat]; rfl) (fun hc => ?_) (fun hc => ?_)
    rotate_left
    · simp at hc
    refine AW.skip ?_
    simp only [andThen, inBlk, reduceCtorEq, ↓reduceIte, if_t, if_f]
    refine AW.seq ?_
    refine AW.block ?_
    refine AW.rT (by rfl) fun K hK => ?_
    simp -implicitDefEqProofs only [go_sem, ↓reduceIte, Nat.reduceAdd, Nat.reduceMul, Nat.reduceEqDiff, Nat.reduceLeDiff, reduceCtorEq, Int.reduceToNat, he1, he2, he3, hc2, encEn, List.length_map]
    refine hK _ ?_; clear hK K
    by_cases heq : e.1 = r.tag
    · have b1 : (e.1 == r.tag) = true := by simpa using heq
      have HH : restT t.ents t.rest = false := by
        rw [RT, all_not hr (by simp only [okRest]; rw [all_not he (by simpa using heq)]; simp)]; rfl
      refine AW.rT (by rfl) fun K hK => ?_
      simp -implicitDefEqProofs only [go_sem, ↓reduceIte, Nat.reduceAdd, Nat.reduceMul, Nat.reduceEqDiff, Nat.reduceLeDiff, reduceCtorEq, Int.reduceToNat, b1]
      refine hK _ ?_; clear hK K
      refine AW.cond _ (by simp -implicitDefEqProofs only [go_sem, ↓reduceIte, Nat.reduceAdd, Nat.reduceMul, Nat.reduceEqDiff, Nat.reduceLeDiff, reduceCtorEq, Int.reduceToNat]; rfl) (fun hc => ?_) (fun hc => ?_)
      · refine AW.rT (by rfl) fun K hK => ?_
        simp -implicitDefEqProofs only [go_sem, ↓reduceIte, Nat.reduceAdd, Nat.reduceMul, Nat.reduceEqDiff, Nat.reduceLeDiff, reduceCtorEq, Int.reduceToNat]
        refine hK _ ?_; clear hK K
        refine AW.ret ?_
        simp -implicitDefEqProofs only [go_sem, ↓reduceIte, Nat.reduceAdd, Nat.reduceMul, Nat.reduceEqDiff, Nat.reduceLeDiff, reduceCtorEq, Int.reduceToNat, HH]
      · simp at hc
    · have b1 : (e.1 == r.tag) = false := beqf heq
      refine AW.rT (by rfl) fun K hK => ?_
      simp -implicitDefEqProofs only [go_sem, ↓reduceIte, Nat.reduceAdd, Nat.reduceMul, Nat.reduceEqDiff, Nat.reduceLeDiff, reduceCtorEq, Int.reduceToNat, b1]
      refine hK _ ?_; clear hK K
      refine AW.cond _ (by simp -implicitDefEqProofs only [go_sem, ↓reduceIte, Nat.reduceAdd, Nat.reduceMul, Nat.reduceEqDiff, Nat.reduceLeDiff, reduceCtorEq, Int.reduceToNat]; rfl) (fun hc => ?_) (fun hc => ?_)
      · simp at hc
      refine AW.skip ?_
      simp only [andThen, inBlk, reduceCtorEq, ↓reduceIte, if_t, if_f]
      have w1 : IntKind.wrap .i64 ((k : Int) + 1) = ((k + 1 : Nat) : Int) := by rw [w64] <;> omega
      refine AW.rE (by rfl) fun K hK => ?_
      simp -implicitDefEqProofs only [go_sem, ↓reduceIte, Nat.reduceAdd, Nat.reduceMul, Nat.reduceEqDiff, Nat.reduceLeDiff, reduceCtorEq, Int.reduceToNat, w1]
      refine hK _ ?_; clear hK K
      refine ⟨k + 1, ⟨by omega, all_next he k2 (by simpa using heq)⟩, by omega, ?_⟩
      refine Ghost.sub ?_ ?_ <;> simp -implicitDefEqProofs only [go_sem, ↓reduceIte, Nat.reduceAdd, Nat.reduceMul, Nat.reduceEqDiff, Nat.reduceLeDiff, reduceCtorEq, Int.reduceToNat,  List.forall_mem_cons, List.not_mem_nil, false_implies, implies_true, and_self, labsIn_lift, List.all_append, List.all_cons, List.all_nil, Nat.reduceLT, labsInL, AV.labsIn]
  · have hc2 : ((k : Int) < (t.ents.length : Int)) = False := by simp; omega
    have hk' : k = t.ents.length := by omega
    subst hk'
    rw [List.take_length] at k2
    refine AW.rT (by rfl) fun K hK => ?_
    simp -implicitDefEqProofs only [go_sem, ↓reduceIte, Nat.reduceAdd, Nat.reduceMul, Nat.reduceEqDiff, Nat.reduceLeDiff, reduceCtorEq, Int.reduceToNat, hc2]
    refine hK _ ?_; clear hK K
    refine AW.seq ?_
    refine AW.cond _ (by simp -implicitDefEqProofs only [go_sem, ↓reduceIte, Nat.reduceAdd, Nat.reduceMul, Nat.reduceEqDiff, Nat.reduceLeDiff, reduceCtorEq, Int.reduceToNat]; rfl) (fun hc => ?_) (fun hc => ?_)
    · simp at hc
    refine AW.exit ?_
    simp only [andThen, inBlk, reduceCtorEq, ↓reduceIte, if_t, if_f]
    have w1 : IntKind.wrap .i64 ((i : Int) + 1) = ((i + 1 : Nat) : Int) := by rw [w64] <;> omega
    refine AW.rE (by rfl) fun K hK => ?_
    simp -implicitDefEqProofs only [go_sem, ↓reduceIte, Nat.reduceAdd, Nat.reduceMul, Nat.reduceEqDiff, Nat.reduceLeDiff, reduceCtorEq, Int.reduceToNat, w1]
    refine hK _ ?_; clear hK K
    refine ⟨i + 1, ⟨by omega, all_next hr g2 (by simp only [okRest]; rw [hcr, k2]; rfl)⟩, by omega, ?_⟩
    refine Ghost.sub ?_ ?_ <;> simp -implicitDefEqProofs only [go_sem, ↓reduceIte, Nat.reduceAdd, Nat.reduceMul, Nat.reduceEqDiff, Nat.reduceLeDiff, reduceCtorEq, Int.reduceToNat,  List.forall_mem_cons, List.not_mem_nil, false_implies, implies_true, and_self, labsIn_lift, List.all_append, List.all_cons, List.all_nil, Nat.reduceLT, labsInL, AV.labsIn]
set_option maxRecDepth 100000 in
set_option maxHeartbeats 4000000 in
theorem value_right : ∀ (t : Tr), lensT t = true → PFn Try.prog 82 [.agg (encTr t)] (.bool (rightT t)) := by
  intro t
  induction h : SizeOf.sizeOf t using Nat.strongRecOn generalizing t with
  | _ sz ih =>
  subst h
  intro hlt
  obtain ⟨la1, la2, la3⟩ := lensT_mk hlt
  have sT := rightT_mk t
  have E1 := value_entries t hlt fun i e k x he hx => ih _ (size_ent he hx) x rfl (lensTs_at (lensE_at la3 he).2 hx)
  have E2 := value_rest t hlt
  rw [encTr_eq] at E1 E2
  have z1 : ((t.ents.length : Int) == 0) = t.ents.isEmpty := by cases t.ents <;> simp; omega
  have z2 : ((t.rest.length : Int) == 0) = decide (t.rest = []) := by cases t.rest <;> simp; omega
  refine PFn.of Try.func82 rfl (by decide) Try.ntmps82 Try.results82 (Nat.le_of_ble_eq_true rfl) ?_
  simp only [argsT]
  refine AW.rT (by rfl) fun K hK => ?_
  simp -implicitDefEqProofs only [go_sem, ↓reduceIte, Nat.reduceAdd, Nat.reduceMul, Nat.reduceEqDiff, Nat.reduceLeDiff, reduceCtorEq, Int.reduceToNat, encTr_eq]
  refine hK _ ?_; clear hK K
  refine AW.seq ?_
  refine AW.rT (by rfl) fun K hK => ?_
  simp -implicitDefEqProofs only [go_sem, ↓reduceIte, Nat.reduceAdd, Nat.reduceMul, Nat.reduceEqDiff, Nat.reduceLeDiff, reduceCtorEq, Int.reduceToNat]
  refine hK _ ?_; clear hK K
  refine AW.block ?_
  by_cases c1 : t.kind = 1
  · have b1 : (t.kind == 1) = true := by simpa using c1
    rw [if_pos c1] at sT
    refine AW.rT (by rfl) fun K hK => ?_
    simp -implicitDefEqProofs only [go_sem, ↓reduceIte, Nat.reduceAdd, Nat.reduceMul, Nat.reduceEqDiff, Nat.reduceLeDiff, reduceCtorEq, Int.reduceToNat, b1]
    refine hK _ ?_; clear hK K
    refine AW.cond _ (by simp -implicitDefEqProofs only [go_sem, ↓reduceIte, Nat.reduceAdd, Nat.reduceMul, Nat.reduceEqDiff, Nat.reduceLeDiff, reduceCtorEq, Int.reduceToNat]; rfl) (fun hc => ?_) (fun hc => ?_)
    rotate_left
    · simp at hc
    cases hs : decide (t.s = []) <;> cases hz : t.ents.isEmpty
    all_goals
      rw [hs, hz] at sT
      have b2 : (t.s == []) = decide (t.s = []) := by cases t.s <;> simp
      refine AW.rT (by rfl) fun K hK => ?_
      try simp -implicitDefEqProofs only [go_sem, ↓reduceIte, Nat.reduceAdd, Nat.reduceMul, Nat.reduceEqDiff, Nat.reduceLeDiff, reduceCtorEq, Int.reduceToNat, b2, hs, z1, hz, z2, List.length_map]
      refine hK _ ?_; clear hK K
      refine AW.ret ?_
      try simp -implicitDefEqProofs only [go_sem, ↓reduceIte, Nat.reduceAdd, Nat.reduceMul, Nat.reduceEqDiff, Nat.reduceLeDiff, reduceCtorEq, Int.reduceToNat, sT, Bool.false_and, Bool.true_and]
  · have b1 : (t.kind == 1) = false := beqf c1
    rw [if_neg c1] at sT
    refine AW.rT (by rfl) fun K hK => ?_
    simp -implicitDefEqProofs only [go_sem, ↓reduceIte, Nat.reduceAdd, Nat.reduceMul, Nat.reduceEqDiff, Nat.reduceLeDiff, reduceCtorEq, Int.reduceToNat, b1]
    refine hK _ ?_; clear hK K
    refine AW.cond _ (by simp -implicitDefEqProofs only [go_sem, ↓reduceIte, Nat.reduceAdd, Nat.reduceMul, Nat.reduceEqDiff, Nat.reduceLeDiff, reduceCtorEq, Int.reduceToNat]; rfl) (fun hc => ?_) (fun hc => ?_)
    · simp at hc
    by_cases c2 : t.kind = 2
    · have b1 : (t.kind == 2) = true := by simpa using c2
      have hq : (t.n == 0) = decide (t.n = 0) := by by_cases h : t.n = 0 <;> simp [h]
      rw [if_pos c2] at sT
      refine AW.rT (by rfl) fun K hK => ?_
      simp -implicitDefEqProofs only [go_sem, ↓reduceIte, Nat.reduceAdd, Nat.reduceMul, Nat.reduceEqDiff, Nat.reduceLeDiff, reduceCtorEq, Int.reduceToNat, b1]
      refine hK _ ?_; clear hK K
      refine AW.cond _ (by simp -implicitDefEqProofs only [go_sem, ↓reduceIte, Nat.reduceAdd, Nat.reduceMul, Nat.reduceEqDiff, Nat.reduceLeDiff, reduceCtorEq, Int.reduceToNat]; rfl) (fun hc => ?_) (fun hc => ?_)
      rotate_left
      · simp at hc
      cases hs : decide (t.n = 0) <;> cases hz : t.ents.isEmpty
      all_goals
        rw [hs, hz] at sT
        refine AW.rT (by rfl) fun K hK => ?_
        try simp -implicitDefEqProofs only [go_sem, ↓reduceIte, Nat.reduceAdd, Nat.reduceMul, Nat.reduceEqDiff, Nat.reduceLeDiff, reduceCtorEq, Int.reduceToNat, hq, hs, z1, hz, z2, List.length_map]
        refine hK _ ?_; clear hK K
        refine AW.ret ?_
        try simp -implicitDefEqProofs only [go_sem, ↓reduceIte, Nat.reduceAdd, Nat.reduceMul, Nat.reduceEqDiff, Nat.reduceLeDiff, reduceCtorEq, Int.reduceToNat, sT, Bool.false_and, Bool.true_and]
    · have b1 : (t.kind == 2) = false := beqf c2
      rw [if_neg c2] at sT
      refine AW.rT (by rfl) fun K hK => ?_
      simp -implicitDefEqProofs only [go_sem, ↓reduceIte, Nat.reduceAdd, Nat.reduceMul, Nat.reduceEqDiff, Nat.reduceLeDiff, reduceCtorEq, Int.reduceToNat, b1]
      refine hK _ ?_; clear hK K
      refine AW.cond _ (by simp -implicitDefEqProofs only [go_sem, ↓reduceIte, Nat.reduceAdd, Nat.reduceMul, Nat.reduceEqDiff, Nat.reduceLeDiff, reduceCtorEq, Int.reduceToNat]; rfl) (fun hc => ?_) (fun hc => ?_)
      · simp at hc
      by_cases c3 : t.kind = 3
      · have b1 : (t.kind == 3) = true := by simpa using c3
        have hq : (t.n == 0) = decide (t.n = 0) := by by_cases h : t.n = 0 <;> simp [h]
        have b2 : (t.s == []) = decide (t.s = []) := by cases t.s <;> simp
        rw [if_pos c3] at sT
        refine AW.rT (by rfl) fun K hK => ?_
        simp -implicitDefEqProofs only [go_sem, ↓reduceIte, Nat.reduceAdd, Nat.reduceMul, Nat.reduceEqDiff, Nat.reduceLeDiff, reduceCtorEq, Int.reduceToNat, b1]
        refine hK _ ?_; clear hK K
        refine AW.cond _ (by simp -implicitDefEqProofs only [go_sem, ↓reduceIte, Nat.reduceAdd, Nat.reduceMul, Nat.reduceEqDiff, Nat.reduceLeDiff, reduceCtorEq, Int.reduceToNat]; rfl) (fun hc => ?_) (fun hc => ?_)
        rotate_left
        · simp at hc
        cases hn : decide (t.n = 0)
        · rw [hn] at sT
          refine AW.rT (by rfl) fun K hK => ?_
          try simp -implicitDefEqProofs only [go_sem, ↓reduceIte, Nat.reduceAdd, Nat.reduceMul, Nat.reduceEqDiff, Nat.reduceLeDiff, reduceCtorEq, Int.reduceToNat, hq, hn, b2]
          refine hK _ ?_; clear hK K
          refine AW.ret ?_
          try simp -implicitDefEqProofs only [go_sem, ↓reduceIte, Nat.reduceAdd, Nat.reduceMul, Nat.reduceEqDiff, Nat.reduceLeDiff, reduceCtorEq, Int.reduceToNat, sT, Bool.false_and, Bool.true_and]
        cases hs : decide (t.s = [])
        · rw [hn, hs] at sT
          refine AW.rT (by rfl) fun K hK => ?_
          try simp -implicitDefEqProofs only [go_sem, ↓reduceIte, Nat.reduceAdd, Nat.reduceMul, Nat.reduceEqDiff, Nat.reduceLeDiff, reduceCtorEq, Int.reduceToNat, hq, hn, b2, hs]
          refine hK _ ?_; clear hK K
          refine AW.ret ?_
          try simp -implicitDefEqProofs only [go_sem, ↓reduceIte, Nat.reduceAdd, Nat.reduceMul, Nat.reduceEqDiff, Nat.reduceLeDiff, reduceCtorEq, Int.reduceToNat, sT, Bool.false_and, Bool.true_and]
        cases he : rightE t.ents 0
        · rw [hn, hs, he] at sT
          rw [he] at E1
          refine AW.rT (by rfl) fun K hK => ?_
          try simp -implicitDefEqProofs only [go_sem, ↓reduceIte, Nat.reduceAdd, Nat.reduceMul, Nat.reduceEqDiff, Nat.reduceLeDiff, reduceCtorEq, Int.reduceToNat, hq, hn, b2, hs]
          refine ⟨.pure _, E1, ?_⟩
          try simp -implicitDefEqProofs only [go_sem, ↓reduceIte, Nat.reduceAdd, Nat.reduceMul, Nat.reduceEqDiff, Nat.reduceLeDiff, reduceCtorEq, Int.reduceToNat]
          refine hK _ ?_; clear hK K
          refine AW.ret ?_
          try simp -implicitDefEqProofs only [go_sem, ↓reduceIte, Nat.reduceAdd, Nat.reduceMul, Nat.reduceEqDiff, Nat.reduceLeDiff, reduceCtorEq, Int.reduceToNat, sT, Bool.false_and, Bool.true_and]
        · rw [hn, hs, he] at sT
          rw [he] at E1
          refine AW.rT (by rfl) fun K hK => ?_
          try simp -implicitDefEqProofs only [go_sem, ↓reduceIte, Nat.reduceAdd, Nat.reduceMul, Nat.reduceEqDiff, Nat.reduceLeDiff, reduceCtorEq, Int.reduceToNat, hq, hn, b2, hs]
          refine ⟨.pure _, E1, ?_⟩
          try simp -implicitDefEqProofs only [go_sem, ↓reduceIte, Nat.reduceAdd, Nat.reduceMul, Nat.reduceEqDiff, Nat.reduceLeDiff, reduceCtorEq, Int.reduceToNat]
          refine ⟨.pure _, E2, ?_⟩
          try simp -implicitDefEqProofs only [go_sem, ↓reduceIte, Nat.reduceAdd, Nat.reduceMul, Nat.reduceEqDiff, Nat.reduceLeDiff, reduceCtorEq, Int.reduceToNat]
          refine hK _ ?_; clear hK K
          refine AW.ret ?_
          try simp -implicitDefEqProofs only [go_sem, ↓reduceIte, Nat.reduceAdd, Nat.reduceMul, Nat.reduceEqDiff, Nat.reduceLeDiff, reduceCtorEq, Int.reduceToNat, sT, Bool.false_and, Bool.true_and]
      · have b1 : (t.kind == 3) = false := beqf c3
        rw [if_neg c3] at sT
        refine AW.rT (by rfl) fun K hK => ?_
        simp -implicitDefEqProofs only [go_sem, ↓reduceIte, Nat.reduceAdd, Nat.reduceMul, Nat.reduceEqDiff, Nat.reduceLeDiff, reduceCtorEq, Int.reduceToNat, b1]
        refine hK _ ?_; clear hK K
        refine AW.cond _ (by simp -implicitDefEqProofs only [go_sem, ↓reduceIte, Nat.reduceAdd, Nat.reduceMul, Nat.reduceEqDiff, Nat.reduceLeDiff, reduceCtorEq, Int.reduceToNat]; rfl) (fun hc => ?_) (fun hc => ?_)
        · simp at hc
        refine AW.skip ?_
        simp only [andThen, inBlk, reduceCtorEq, ↓reduceIte, if_t, if_f]
        refine AW.rT (by rfl) fun K hK => ?_
        simp -implicitDefEqProofs only [go_sem, ↓reduceIte, Nat.reduceAdd, Nat.reduceMul, Nat.reduceEqDiff, Nat.reduceLeDiff, reduceCtorEq, Int.reduceToNat]
        refine hK _ ?_; clear hK K
        refine AW.ret ?_
        simp -implicitDefEqProofs only [go_sem, ↓reduceIte, Nat.reduceAdd, Nat.reduceMul, Nat.reduceEqDiff, Nat.reduceLeDiff, reduceCtorEq, Int.reduceToNat, sT]
def okT (t : Tr) : Bool := decide (dT t 101 ≤ 10) && rightT t
set_option maxHeartbeats 1000000 in
theorem value_Check (t : Tr) (hlt : lensT t = true) : PFn Try.prog 46 [.agg (encTr t)] (.bool (okT t)) := by
  have E1 := value_Depth t hlt
  have E2 := value_right t hlt
  rw [encTr_eq] at E1 E2
  have hd : ((dT t 101 : Int) ≤ 10) = (dT t 101 ≤ 10) := by simp; omega
  refine PFn.of Try.func46 rfl (by decide) Try.ntmps46 Try.results46 (Nat.le_of_ble_eq_true rfl) ?_
  simp only [argsT]
  refine AW.rT (by rfl) fun K hK => ?_
  simp -implicitDefEqProofs only [go_sem, ↓reduceIte, Nat.reduceAdd, Nat.reduceMul, Nat.reduceEqDiff, Nat.reduceLeDiff, reduceCtorEq, Int.reduceToNat, encTr_eq]
  refine hK _ ?_; clear hK K
  cases hc : decide (dT t 101 ≤ 10)
  · refine AW.rT (by rfl) fun K hK => ?_
    try simp -implicitDefEqProofs only [go_sem, ↓reduceIte, Nat.reduceAdd, Nat.reduceMul, Nat.reduceEqDiff, Nat.reduceLeDiff, reduceCtorEq, Int.reduceToNat]
    refine ⟨.pure _, E1, ?_⟩
    try simp -implicitDefEqProofs only [go_sem, ↓reduceIte, Nat.reduceAdd, Nat.reduceMul, Nat.reduceEqDiff, Nat.reduceLeDiff, reduceCtorEq, Int.reduceToNat, hd, hc]
    refine hK _ ?_; clear hK K
    refine AW.ret ?_
    try simp -implicitDefEqProofs only [go_sem, ↓reduceIte, Nat.reduceAdd, Nat.reduceMul, Nat.reduceEqDiff, Nat.reduceLeDiff, reduceCtorEq, Int.reduceToNat, okT, hc, Bool.false_and]
  · refine AW.rT (by rfl) fun K hK => ?_
    try simp -implicitDefEqProofs only [go_sem, ↓reduceIte, Nat.reduceAdd, Nat.reduceMul, Nat.reduceEqDiff, Nat.reduceLeDiff, reduceCtorEq, Int.reduceToNat]
    refine ⟨.pure _, E1, ?_⟩
    try simp -implicitDefEqProofs only [go_sem, ↓reduceIte, Nat.reduceAdd, Nat.reduceMul, Nat.reduceEqDiff, Nat.reduceLeDiff, reduceCtorEq, Int.reduceToNat, hd, hc]
    refine ⟨.pure _, E2, ?_⟩
    try simp -implicitDefEqProofs only [go_sem, ↓reduceIte, Nat.reduceAdd, Nat.reduceMul, Nat.reduceEqDiff, Nat.reduceLeDiff, reduceCtorEq, Int.reduceToNat]
    refine hK _ ?_; clear hK K
    refine AW.ret ?_
    try simp -implicitDefEqProofs only [go_sem, ↓reduceIte, Nat.reduceAdd, Nat.reduceMul, Nat.reduceEqDiff, Nat.reduceLeDiff, reduceCtorEq, Int.reduceToNat, okT, hc, Bool.true_and]
end Go.Aw
/- The document's check of trees: entries, Has, rest, check, Check. -/
namespace Go.Aw
open Go.Proofs
set_option linter.unusedSimpArgs false
set_option linter.unusedVariables false
def qS (es : List (Int × List Tr)) (i : Nat) (last : Int) : St := ⟨ofL [(0, .p (.slice (es.map encEn))), (3, .p (.int .i64 last)), (4, .p (.int .i64 (i : Int)))], ofH [], 0⟩
def qT (es : List (Int × List Tr)) (i : Nat) (e : Int × List Tr) (k : Nat) : St := ⟨ofL [(0, .p (.slice (es.map encEn))), (3, .p (.int .i64 e.1)), (4, .p (.int .i64 (i : Int))), (5, .ptr 0 0 0), (6, .p (.int .i64 (k : Int)))],
  ofH [(0, .row 2 [[.p (.int .i64 e.1), .p (.slice (e.2.map encTr))]])], 1⟩
set_option maxRecDepth 100000 in
set_option maxHeartbeats 4000000 in
theorem ref_entries (es : List (Int × List Tr)) (la2 : es.length ≤ 1000) (la3 : lensE es = true) (ih : subOK 83 es) : PFn Try.prog 98 [.slice (es.map encEn)] (.bool (rightE es 0)) := by
  refine PFn.of Try.func98 rfl (by decide) Try.ntmps98 Try.results98 (Nat.le_of_ble_eq_true rfl) ?_
  simp only [argsT]
  refine AW.rT (by rfl) fun K hK => ?_
  simp -implicitDefEqProofs only [go_sem, ↓reduceIte, Nat.reduceAdd, Nat.reduceMul, Nat.reduceEqDiff, Nat.reduceLeDiff, reduceCtorEq, Int.reduceToNat]
  refine hK _ ?_; clear hK K
  refine AW.rT (by rfl) fun K hK => ?_
  simp -implicitDefEqProofs only [go_sem, ↓reduceIte, Nat.reduceAdd, Nat.reduceMul, Nat.reduceEqDiff, Nat.reduceLeDiff, reduceCtorEq, Int.reduceToNat]
  refine hK _ ?_; clear hK K
  refine AW.seq ?_
  refine AW.rT (by rfl) fun K hK => ?_
  simp -implicitDefEqProofs only [go_sem, ↓reduceIte, Nat.reduceAdd, Nat.reduceMul, Nat.reduceEqDiff, Nat.reduceLeDiff, reduceCtorEq, Int.reduceToNat]
  refine hK _ ?_; clear hK K
  refine AW.block ?_
  refine AW.loop (fun x : Nat × Int => qS es x.1 x.2) (fun x => x.1 ≤ es.length ∧ rightE es 0 = rightE (es.drop x.1) x.2) (fun x => es.length - x.1) (0, 0) ?_ ⟨by simp, by rw [List.drop_zero]⟩ fun x hx => ?_
  · simp only [qS]
    refine Ghost.sub ?_ ?_ <;> simp -implicitDefEqProofs only [go_sem, ↓reduceIte, Nat.reduceAdd, Nat.reduceMul, Nat.reduceEqDiff, Nat.reduceLeDiff, reduceCtorEq, Int.reduceToNat,  List.forall_mem_cons, List.not_mem_nil, false_implies, implies_true, and_self, labsIn_lift, List.all_append, List.all_cons, List.all_nil, Nat.reduceLT, labsInL, AV.labsIn]
    rfl
  obtain ⟨i, last⟩ := x
  obtain ⟨e1, e2⟩ := hx
  dsimp only at e1 e2
  simp only [qS]
  by_cases hil : i < es.length
  case neg =>
    have hc1 : ((i : Int) < (es.length : Int)) = False := by simp; omega
    rw [List.drop_of_length_le (by omega), rightE] at e2
    refine AW.seq ?_
    refine AW.rT (by rfl) fun K hK => ?_
    simp -implicitDefEqProofs only [go_sem, ↓reduceIte, Nat.reduceAdd, Nat.reduceMul, Nat.reduceEqDiff, Nat.reduceLeDiff, reduceCtorEq, Int.reduceToNat, hc1, List.length_map]
    refine hK _ ?_; clear hK K
    refine AW.cond _ (by simp -implicitDefEqProofs only [go_sem, ↓reduceIte, Nat.reduceAdd, Nat.reduceMul, Nat.reduceEqDiff, Nat.reduceLeDiff, reduceCtorEq, Int.reduceToNat]; rfl) (fun hc => ?_) (fun hc => ?_)
    · simp at hc
    refine AW.exit ?_
    simp only [andThen, inBlk, reduceCtorEq, ↓reduceIte, if_t, if_f]
    refine AW.rT (by rfl) fun K hK => ?_
    simp -implicitDefEqProofs only [go_sem, ↓reduceIte, Nat.reduceAdd, Nat.reduceMul, Nat.reduceEqDiff, Nat.reduceLeDiff, reduceCtorEq, Int.reduceToNat]
    refine hK _ ?_; clear hK K
    refine AW.ret ?_
    simp -implicitDefEqProofs only [go_sem, ↓reduceIte, Nat.reduceAdd, Nat.reduceMul, Nat.reduceEqDiff, Nat.reduceLeDiff, reduceCtorEq, Int.reduceToNat, e2]
  obtain ⟨e, he⟩ : ∃ e, es[i]? = some e := ⟨_, List.getElem?_eq_getElem hil⟩
  have ⟨he1, he2, he3⟩ := at_map' encEn he
  have ⟨le1, le2⟩ := lensE_at la3 he
  have hc1 : ((i : Int) < (es.length : Int)) = True := by simp; omega
  have sE := rightE_at he last
  refine AW.seq ?_
  refine AW.rT (by rfl) fun K hK => ?_
  simp -implicitDefEqProofs only [go_sem, ↓reduceIte, Nat.reduceAdd, Nat.reduceMul, Nat.reduceEqDiff, Nat.reduceLeDiff, reduceCtorEq, Int.reduceToNat, hc1, List.length_map]
  refine hK _ ?_; clear hK K
  refine AW.cond _ (by simp -implicitDefEqProofs only [go_sem, ↓reduceIte, Nat.reduceAdd, Nat.reduceMul, Nat.reduceEqDiff, Nat.reduceLeDiff, reduceCtorEq, Int.reduceToNat]; rfl) (fun hc => ?_) (fun hc => ?_)
  rotate_left
  · simp at hc
  refine AW.skip ?_
  simp only [andThen, inBlk, reduceCtorEq, ↓reduceIte, if_t, if_f]
  refine AW.seq ?_
  refine AW.block ?_
  refine AW.rT (by rfl) fun K hK => ?_
  simp -implicitDefEqProofs only [go_sem, ↓reduceIte, Nat.reduceAdd, Nat.reduceMul, Nat.reduceEqDiff, Nat.reduceLeDiff, reduceCtorEq, Int.reduceToNat, he1, he2, he3, hc1, encEn, List.length_map]
  refine hK _ ?_; clear hK K
  refine AW.seq ?_
  by_cases d1 : e.1 ≤ last
  · rw [if_pos (.inl d1)] at sE
    have HH := e2.trans sE
    refine AW.rT (by rfl) fun K hK => ?_
    simp -implicitDefEqProofs only [go_sem, ↓reduceIte, Nat.reduceAdd, Nat.reduceMul, Nat.reduceEqDiff, Nat.reduceLeDiff, reduceCtorEq, Int.reduceToNat, d1]
    refine hK _ ?_; clear hK K
    refine AW.cond _ (by simp -implicitDefEqProofs only [go_sem, ↓reduceIte, Nat.reduceAdd, Nat.reduceMul, Nat.reduceEqDiff, Nat.reduceLeDiff, reduceCtorEq, Int.reduceToNat]; rfl) (fun hc => ?_) (fun hc => ?_)
    · refine AW.rT (by rfl) fun K hK => ?_
      simp -implicitDefEqProofs only [go_sem, ↓reduceIte, Nat.reduceAdd, Nat.reduceMul, Nat.reduceEqDiff, Nat.reduceLeDiff, reduceCtorEq, Int.reduceToNat]
      refine hK _ ?_; clear hK K
      refine AW.ret ?_
      simp -implicitDefEqProofs only [go_sem, ↓reduceIte, Nat.reduceAdd, Nat.reduceMul, Nat.reduceEqDiff, Nat.reduceLeDiff, reduceCtorEq, Int.reduceToNat, HH]
    · simp at hc
  by_cases d2 : 500 < e.1
  · have b2 : (e.1 > 500) = True := by simp; omega
    rw [if_pos (.inr (.inl d2))] at sE
    have HH := e2.trans sE
    refine AW.rT (by rfl) fun K hK => ?_
    simp -implicitDefEqProofs only [go_sem, ↓reduceIte, Nat.reduceAdd, Nat.reduceMul, Nat.reduceEqDiff, Nat.reduceLeDiff, reduceCtorEq, Int.reduceToNat, d1, b2]
    refine hK _ ?_; clear hK K
    refine AW.cond _ (by simp -implicitDefEqProofs only [go_sem, ↓reduceIte, Nat.reduceAdd, Nat.reduceMul, Nat.reduceEqDiff, Nat.reduceLeDiff, reduceCtorEq, Int.reduceToNat]; rfl) (fun hc => ?_) (fun hc => ?_)
    · refine AW.rT (by rfl) fun K hK => ?_
      simp -implicitDefEqProofs only [go_sem, ↓reduceIte, Nat.reduceAdd, Nat.reduceMul, Nat.reduceEqDiff, Nat.reduceLeDiff, reduceCtorEq, Int.reduceToNat]
      refine hK _ ?_; clear hK K
      refine AW.ret ?_
      simp -implicitDefEqProofs only [go_sem, ↓reduceIte, Nat.reduceAdd, Nat.reduceMul, Nat.reduceEqDiff, Nat.reduceLeDiff, reduceCtorEq, Int.reduceToNat, HH]
    · simp at hc
  have b2 : (e.1 > 500) = False := by simp; omega
  by_cases d3 : e.2.length < 1
  · have b3 : ((e.2.length : Int) < 1) = True := by simp; omega
    rw [if_pos (.inr (.inr (.inl d3)))] at sE
    have HH := e2.trans sE
    refine AW.rT (by rfl) fun K hK => ?_
    simp -implicitDefEqProofs only [go_sem, ↓reduceIte, Nat.reduceAdd, Nat.reduceMul, Nat.reduceEqDiff, Nat.reduceLeDiff, reduceCtorEq, Int.reduceToNat, d1, b2, b3, List.length_map]
    refine hK _ ?_; clear hK K
    refine AW.cond _ (by simp -implicitDefEqProofs only [go_sem, ↓reduceIte, Nat.reduceAdd, Nat.reduceMul, Nat.reduceEqDiff, Nat.reduceLeDiff, reduceCtorEq, Int.reduceToNat]; rfl) (fun hc => ?_) (fun hc => ?_)
    · refine AW.rT (by rfl) fun K hK => ?_
      simp -implicitDefEqProofs only [go_sem, ↓reduceIte, Nat.reduceAdd, Nat.reduceMul, Nat.reduceEqDiff, Nat.reduceLeDiff, reduceCtorEq, Int.reduceToNat]
      refine hK _ ?_; clear hK K
      refine AW.ret ?_
      simp -implicitDefEqProofs only [go_sem, ↓reduceIte, Nat.reduceAdd, Nat.reduceMul, Nat.reduceEqDiff, Nat.reduceLeDiff, reduceCtorEq, Int.reduceToNat, HH]
    · simp at hc
  have b3 : ((e.2.length : Int) < 1) = False := by simp; omega
  by_cases d4 : 64 < e.2.length
  · have b4 : ((e.2.length : Int) > 64) = True := by simp; omega
    rw [if_pos (.inr (.inr (.inr d4)))] at sE
    have HH := e2.trans sE
    refine AW.rT (by rfl) fun K hK => ?_
    simp -implicitDefEqProofs only [go_sem, ↓reduceIte, Nat.reduceAdd, Nat.reduceMul, Nat.reduceEqDiff, Nat.reduceLeDiff, reduceCtorEq, Int.reduceToNat, d1, b2, b3, b4, List.length_map]
    refine hK _ ?_; clear hK K
    refine AW.cond _ (by simp -implicitDefEqProofs only [go_sem, ↓reduceIte, Nat.reduceAdd, Nat.reduceMul, Nat.reduceEqDiff, Nat.reduceLeDiff, reduceCtorEq, Int.reduceToNat]; rfl) (fun hc => ?_) (fun hc => ?_)
    · refine AW.rT (by rfl) fun K hK => ?_
      simp -implicitDefEqProofs only [go_sem, ↓reduceIte, Nat.reduceAdd, Nat.reduceMul, Nat.reduceEqDiff, Nat.reduceLeDiff, reduceCtorEq, Int.reduceToNat]
      refine hK _ ?_; clear hK K
      refine AW.ret ?_
      simp -implicitDefEqProofs only [go_sem, ↓reduceIte, Nat.reduceAdd, Nat.reduceMul, Nat.reduceEqDiff, Nat.reduceLeDiff, reduceCtorEq, Int.reduceToNat, HH]
    · simp at hc
  have b4 : ((e.2.length : Int) > 64) = False := by simp; omega
  rw [if_neg (by omega)] at sE
  refine AW.rT (by rfl) fun K hK => ?_
  simp -implicitDefEqProofs only [go_sem, ↓reduceIte, Nat.reduceAdd, Nat.reduceMul, Nat.reduceEqDiff, Nat.reduceLeDiff, reduceCtorEq, Int.reduceToNat, d1, b2, b3, b4, List.length_map]
  refine hK _ ?_; clear hK K
  refine AW.cond _ (by simp -implicitDefEqProofs only [go_sem, ↓reduceIte, Nat.reduceAdd, Nat.reduceMul, Nat.reduceEqDiff, Nat.reduceLeDiff, reduceCtorEq, Int.reduceToNat]; rfl) (fun hc => ?_) (fun hc => ?_)
  · simp at hc
  refine AW.skip ?_
  simp only [andThen, inBlk, reduceCtorEq, ↓reduceIte, if_t, if_f]
  refine AW.rT (by rfl) fun K hK => ?_
  simp -implicitDefEqProofs only [go_sem, ↓reduceIte, Nat.reduceAdd, Nat.reduceMul, Nat.reduceEqDiff, Nat.reduceLeDiff, reduceCtorEq, Int.reduceToNat]
  refine hK _ ?_; clear hK K
  refine AW.rT (by rfl) fun K hK => ?_
  simp -implicitDefEqProofs only [go_sem, ↓reduceIte, Nat.reduceAdd, Nat.reduceMul, Nat.reduceEqDiff, Nat.reduceLeDiff, reduceCtorEq, Int.reduceToNat]
  refine hK _ ?_; clear hK K
  refine AW.block ?_
  refine AW.loop (fun k : Nat => qT es i e k) (fun k => k ≤ e.2.length ∧ rightTs e.2 (headK e.2) = rightTs (e.2.drop k) (headK e.2)) (fun k => e.2.length - k) 0 ?_ ⟨by simp, by rw [List.drop_zero]⟩ fun k hk => ?_
  · simp only [qT]
    refine Ghost.ent (fun l => if l = 0 then 8 else l) ?_ ?_ ?_ <;> simp -implicitDefEqProofs only [go_sem, ↓reduceIte, Nat.reduceAdd, Nat.reduceMul, Nat.reduceEqDiff, Nat.reduceLeDiff, reduceCtorEq, Int.reduceToNat,  List.forall_mem_cons, List.not_mem_nil, false_implies, implies_true, and_self, map_renL_lift, labsIn_lift, List.all_append, List.all_cons, List.all_nil, List.map_append, Nat.reduceLT, labsInL, AV.labsIn]
    rfl
  obtain ⟨f1, f2⟩ := hk
  simp only [qT]
  obtain ⟨x0, hx0⟩ : ∃ x, e.2[0]? = some x := ⟨_, List.getElem?_eq_getElem (by omega)⟩
  have ⟨_, _, h03⟩ := at_map' encTr hx0
  have hk0 : headK e.2 = x0.kind := by
    cases hq : e.2 with
    | nil => rw [hq] at hx0; simp at hx0
    | cons y l => rw [hq] at hx0; simp at hx0; subst hx0; rfl
  rw [hk0] at f2 sE
  have hz : ((0 : Int) < (e.2.length : Int)) = True := by simp; omega
  have hz0 : ((0 : Int) ≤ 0) = True := by simp
  by_cases hkl : k < e.2.length
  · obtain ⟨x, hx⟩ : ∃ x, e.2[k]? = some x := ⟨_, List.getElem?_eq_getElem hkl⟩
    have ⟨hx1, hx2, hx3⟩ := at_map' encTr hx
    have hc2 : ((k : Int) < (e.2.length : Int)) = True := by simp; omega
    have sK := rightTs_at hx x0.kind
    have IH := ih i e k x he hx
    rw [encTr_eq] at IH
    refine AW.seq ?_
    refine AW.rT (by rfl) fun K hK => ?_
    simp -implicitDefEqProofs only [go_sem, ↓reduceIte, Nat.reduceAdd, Nat.reduceMul, Nat.reduceEqDiff, Nat.reduceLeDiff, reduceCtorEq, Int.reduceToNat, hc2, List.length_map]
    refine hK _ ?_; clear hK K
    refine AW.cond _ (by simp -implicitDefEqProofs only [go_sem, ↓reduceIte, Nat.reduceAdd, Nat.reduceMul, Nat.reduceEqDiff, Nat.reduceLeDiff, reduceCtorEq, Int.reduceToNat]; rfl) (fun hc => ?_) (fun hc => ?_)
    rotate_left
    · simp at hc
    refine AW.skip ?_
    simp only [andThen, inBlk, reduceCtorEq, ↓reduceIte, if_t, if_f]
    refine AW.seq ?_
    refine AW.block ?_
    by_cases hkk : x.kind = x0.kind
    · have bk : (x.kind != x0.kind) = false := by simpa using hkk
      rw [if_neg (by simpa using hkk)] at sK
      refine AW.dT mixed (by rfl) (by decide +kernel) fun K hK => ?_
      simp -implicitDefEqProofs only [go_sem, ↓reduceIte, Nat.reduceAdd, Nat.reduceMul, Nat.reduceEqDiff, Nat.reduceLeDiff, reduceCtorEq, Int.reduceToNat, hx1, hx2, hx3, hc2, h03, hz, hz0, encTr_eq, List.length_map, bk]
      refine ⟨.pure _, IH, ?_⟩
      try simp -implicitDefEqProofs only [go_sem, ↓reduceIte, Nat.reduceAdd, Nat.reduceMul, Nat.reduceEqDiff, Nat.reduceLeDiff, reduceCtorEq, Int.reduceToNat]
      refine ⟨heapOK_nil rfl, ?_⟩
      refine hK _ ?_; clear hK K
      cases hq : rightT x with
      | false =>
        rw [if_neg (by rw [hq]; simp)] at sK
        rw [if_neg (by rw [f2, sK]; simp)] at sE
        have HH := e2.trans sE
        refine AW.cond _ (by simp -implicitDefEqProofs only [go_sem, ↓reduceIte, Nat.reduceAdd, Nat.reduceMul, Nat.reduceEqDiff, Nat.reduceLeDiff, reduceCtorEq, Int.reduceToNat]; rfl) (fun hc => ?_) (fun hc => ?_)
        · refine AW.rT (by rfl) fun K hK => ?_
          simp -implicitDefEqProofs only [go_sem, ↓reduceIte, Nat.reduceAdd, Nat.reduceMul, Nat.reduceEqDiff, Nat.reduceLeDiff, reduceCtorEq, Int.reduceToNat]
          refine hK _ ?_; clear hK K
          refine AW.ret ?_
          simp -implicitDefEqProofs only [go_sem, ↓reduceIte, Nat.reduceAdd, Nat.reduceMul, Nat.reduceEqDiff, Nat.reduceLeDiff, reduceCtorEq, Int.reduceToNat, HH]
        · simp at hc
      | true =>
        rw [if_pos hq] at sK
        refine AW.cond _ (by simp -implicitDefEqProofs only [go_sem, ↓reduceIte, Nat.reduceAdd, Nat.reduceMul, Nat.reduceEqDiff, Nat.reduceLeDiff, reduceCtorEq, Int.reduceToNat]; rfl) (fun hc => ?_) (fun hc => ?_)
        · simp at hc
        refine AW.skip ?_
        simp only [andThen, inBlk, reduceCtorEq, ↓reduceIte, if_t, if_f]
        have w1 : IntKind.wrap .i64 ((k : Int) + 1) = ((k + 1 : Nat) : Int) := by rw [w64] <;> omega
        refine AW.rE (by rfl) fun K hK => ?_
        simp -implicitDefEqProofs only [go_sem, ↓reduceIte, Nat.reduceAdd, Nat.reduceMul, Nat.reduceEqDiff, Nat.reduceLeDiff, reduceCtorEq, Int.reduceToNat, w1]
        refine hK _ ?_; clear hK K
        refine ⟨k + 1, ⟨by omega, by rw [hk0]; exact f2.trans sK⟩, by omega, ?_⟩
        refine Ghost.sub ?_ ?_ <;> simp -implicitDefEqProofs only [go_sem, ↓reduceIte, Nat.reduceAdd, Nat.reduceMul, Nat.reduceEqDiff, Nat.reduceLeDiff, reduceCtorEq, Int.reduceToNat,  List.forall_mem_cons, List.not_mem_nil, false_implies, implies_true, and_self, labsIn_lift, List.all_append, List.all_cons, List.all_nil, Nat.reduceLT, labsInL, AV.labsIn]
    · have bk : (x.kind != x0.kind) = true := by simpa using hkk
      rw [if_pos hkk] at sK
      rw [if_neg (by rw [f2, sK]; simp)] at sE
      have HH := e2.trans sE
      refine AW.dT mixed (by rfl) (by decide +kernel) fun K hK => ?_
      simp -implicitDefEqProofs only [go_sem, ↓reduceIte, Nat.reduceAdd, Nat.reduceMul, Nat.reduceEqDiff, Nat.reduceLeDiff, reduceCtorEq, Int.reduceToNat, hx1, hx2, hx3, hc2, h03, hz, hz0, encTr_eq, List.length_map, bk]
      refine ⟨heapOK_nil rfl, ?_⟩
      refine hK _ ?_; clear hK K
      refine AW.cond _ (by simp -implicitDefEqProofs only [go_sem, ↓reduceIte, Nat.reduceAdd, Nat.reduceMul, Nat.reduceEqDiff, Nat.reduceLeDiff, reduceCtorEq, Int.reduceToNat]; rfl) (fun hc => ?_) (fun hc => ?_)
      · refine AW.rT (by rfl) fun K hK => ?_
        simp -implicitDefEqProofs only [go_sem, ↓reduceIte, Nat.reduceAdd, Nat.reduceMul, Nat.reduceEqDiff, Nat.reduceLeDiff, reduceCtorEq, Int.reduceToNat]
        refine hK _ ?_; clear hK K
        refine AW.ret ?_
        simp -implicitDefEqProofs only [go_sem, ↓reduceIte, Nat.reduceAdd, Nat.reduceMul, Nat.reduceEqDiff, Nat.reduceLeDiff, reduceCtorEq, Int.reduceToNat, HH]
      · simp at hc
  · have hc2 : ((k : Int) < (e.2.length : Int)) = False := by simp; omega
    rw [List.drop_of_length_le (by omega), rightTs] at f2
    rw [if_pos f2] at sE
    refine AW.seq ?_
    refine AW.rT (by rfl) fun K hK => ?_
    simp -implicitDefEqProofs only [go_sem, ↓reduceIte, Nat.reduceAdd, Nat.reduceMul, Nat.reduceEqDiff, Nat.reduceLeDiff, reduceCtorEq, Int.reduceToNat, hc2, List.length_map]
    refine hK _ ?_; clear hK K
    refine AW.cond _ (by simp -implicitDefEqProofs only [go_sem, ↓reduceIte, Nat.reduceAdd, Nat.reduceMul, Nat.reduceEqDiff, Nat.reduceLeDiff, reduceCtorEq, Int.reduceToNat]; rfl) (fun hc => ?_) (fun hc => ?_)
    · simp at hc
    refine AW.exit ?_
    simp only [andThen, inBlk, reduceCtorEq, ↓reduceIte, if_t, if_f]
    have w1 : IntKind.wrap .i64 ((i : Int) + 1) = ((i + 1 : Nat) : Int) := by rw [w64] <;> omega
    refine AW.rE (by rfl) fun K hK => ?_
    simp -implicitDefEqProofs only [go_sem, ↓reduceIte, Nat.reduceAdd, Nat.reduceMul, Nat.reduceEqDiff, Nat.reduceLeDiff, reduceCtorEq, Int.reduceToNat, w1]
    refine hK _ ?_; clear hK K
    refine ⟨(i + 1, e.1), ⟨by show i + 1 ≤ es.length; omega, e2.trans sE⟩, by show es.length - (i + 1) < es.length - i; omega, ?_⟩
    refine Ghost.sub ?_ ?_ <;> simp -implicitDefEqProofs only [go_sem, ↓reduceIte, Nat.reduceAdd, Nat.reduceMul, Nat.reduceEqDiff, Nat.reduceLeDiff, reduceCtorEq, Int.reduceToNat,  List.forall_mem_cons, List.not_mem_nil, false_implies, implies_true, and_self, labsIn_lift, List.all_append, List.all_cons, List.all_nil, Nat.reduceLT, labsInL, AV.labsIn]
def hasS (t : Tr) (g : Int) (i : Nat) : St := ⟨ofL [(2, .ptr 0 0 0), (1, .p (.int .i64 g)), (5, .p (.int .i64 (i : Int)))], ofH [(0, .row 5 [cellsT t])], 1⟩
set_option maxRecDepth 100000 in
set_option maxHeartbeats 4000000 in
theorem ref_Has (t : Tr) (hlt : lensT t = true) (g : Int) : PFn Try.prog 64 [.agg (encTr t), .int .i64 g] (.bool (t.ents.any (fun e => e.1 == g))) := by
  obtain ⟨la1, la2, la3⟩ := lensT_mk hlt
  refine PFn.of Try.func64 rfl (by decide) Try.ntmps64 Try.results64 (Nat.le_of_ble_eq_true rfl) ?_
  simp only [argsT]
  refine AW.rT (by rfl) fun K hK => ?_
  simp -implicitDefEqProofs only [go_sem, ↓reduceIte, Nat.reduceAdd, Nat.reduceMul, Nat.reduceEqDiff, Nat.reduceLeDiff, reduceCtorEq, Int.reduceToNat, encTr_eq]
  refine hK _ ?_; clear hK K
  refine AW.seq ?_
  refine AW.rT (by rfl) fun K hK => ?_
  simp -implicitDefEqProofs only [go_sem, ↓reduceIte, Nat.reduceAdd, Nat.reduceMul, Nat.reduceEqDiff, Nat.reduceLeDiff, reduceCtorEq, Int.reduceToNat]
  refine hK _ ?_; clear hK K
  refine AW.block ?_
  refine AW.loop (hasS t g) (fun i => i ≤ t.ents.length ∧ (t.ents.take i).all (fun e => e.1 != g) = true) (fun i => t.ents.length - i) 0 ?_ (by simp) fun i hi => ?_
  · simp only [hasS, cellsT]
    refine Ghost.sub ?_ ?_ <;> simp -implicitDefEqProofs only [go_sem, ↓reduceIte, Nat.reduceAdd, Nat.reduceMul, Nat.reduceEqDiff, Nat.reduceLeDiff, reduceCtorEq, Int.reduceToNat,  List.forall_mem_cons, List.not_mem_nil, false_implies, implies_true, and_self, labsIn_lift, List.all_append, List.all_cons, List.all_nil, Nat.reduceLT, labsInL, AV.labsIn]
    rfl
  obtain ⟨g1, g2⟩ := hi
  simp only [hasS, cellsT]
  by_cases hil : i < t.ents.length
  case neg =>
    have hc1 : ((i : Int) < (t.ents.length : Int)) = False := by simp; omega
    have hi' : i = t.ents.length := by omega
    subst hi'
    rw [List.take_length] at g2
    have HH : t.ents.any (fun e => e.1 == g) = false := by
      rw [List.any_eq_false]
      intro x hx
      have := List.all_eq_true.1 g2 x hx
      simpa using this
    refine AW.seq ?_
    refine AW.rT (by rfl) fun K hK => ?_
    simp -implicitDefEqProofs only [go_sem, ↓reduceIte, Nat.reduceAdd, Nat.reduceMul, Nat.reduceEqDiff, Nat.reduceLeDiff, reduceCtorEq, Int.reduceToNat, hc1, List.length_map]
    refine hK _ ?_; clear hK K
    refine AW.cond _ (by simp -implicitDefEqProofs only [go_sem, ↓reduceIte, Nat.reduceAdd, Nat.reduceMul, Nat.reduceEqDiff, Nat.reduceLeDiff, reduceCtorEq, Int.reduceToNat]; rfl) (fun hc => ?_) (fun hc => ?_)
    · simp at hc
    refine AW.exit ?_
    simp only [andThen, inBlk, reduceCtorEq, ↓reduceIte, if_t, if_f]
    refine AW.rT (by rfl) fun K hK => ?_
    simp -implicitDefEqProofs only [go_sem, ↓reduceIte, Nat.reduceAdd, Nat.reduceMul, Nat.reduceEqDiff, Nat.reduceLeDiff, reduceCtorEq, Int.reduceToNat]
    refine hK _ ?_; clear hK K
    refine AW.ret ?_
    simp -implicitDefEqProofs only [go_sem, ↓reduceIte, Nat.reduceAdd, Nat.reduceMul, Nat.reduceEqDiff, Nat.reduceLeDiff, reduceCtorEq, Int.reduceToNat, HH]
  obtain ⟨e, he⟩ : ∃ e, t.ents[i]? = some e := ⟨_, List.getElem?_eq_getElem hil⟩
  have ⟨he1, he2, he3⟩ := at_map' encEn he
  have hc1 : ((i : Int) < (t.ents.length : Int)) = True := by simp; omega
  refine AW.seq ?_
  refine AW.rT (by rfl) fun K hK => ?_
  simp -implicitDefEqProofs only [go_sem, ↓reduceIte, Nat.reduceAdd, Nat.reduceMul, Nat.reduceEqDiff, Nat.reduceLeDiff, reduceCtorEq, Int.reduceToNat, hc1, List.length_map]
  refine hK _ ?_; clear hK K
  refine AW.cond _ (by simp -implicitDefEqProofs only [go_sem, ↓reduceIte, Nat.reduceAdd, Nat.reduceMul, Nat.reduceEqDiff, Nat.reduceLeDiff, reduceCtorEq, Int.reduceToNat]; rfl) (fun hc => ?_) (fun hc => ?_)
  rotate_left
  · simp at hc
  refine AW.skip ?_
  simp only [andThen, inBlk, reduceCtorEq, ↓reduceIte, if_t, if_f]
  refine AW.seq ?_
  refine AW.block ?_
  by_cases heq : e.1 = g
  · have b1 : (e.1 == g) = true := by simpa using heq
    have HH : t.ents.any (fun e => e.1 == g) = true := by
      rw [List.any_eq_true]
      exact ⟨e, List.mem_of_getElem? he, b1⟩
    refine AW.rT (by rfl) fun K hK => ?_
    simp -implicitDefEqProofs only [go_sem, ↓reduceIte, Nat.reduceAdd, Nat.reduceMul, Nat.reduceEqDiff, Nat.reduceLeDiff, reduceCtorEq, Int.reduceToNat, he1, he2, he3, hc1, encEn, List.length_map, b1]
    refine hK _ ?_; clear hK K
    refine AW.cond _ (by simp -implicitDefEqProofs only [go_sem, ↓reduceIte, Nat.reduceAdd, Nat.reduceMul, Nat.reduceEqDiff, Nat.reduceLeDiff, reduceCtorEq, Int.reduceToNat]; rfl) (fun hc => ?_) (fun hc => ?_)
    · refine AW.rT (by rfl) fun K hK => ?_
      simp -implicitDefEqProofs only [go_sem, ↓reduceIte, Nat.reduceAdd, Nat.reduceMul, Nat.reduceEqDiff, Nat.reduceLeDiff, reduceCtorEq, Int.reduceToNat]
      refine hK _ ?_; clear hK K
      refine AW.ret ?_
      simp -implicitDefEqProofs only [go_sem, ↓reduceIte, Nat.reduceAdd, Nat.reduceMul, Nat.reduceEqDiff, Nat.reduceLeDiff, reduceCtorEq, Int.reduceToNat, HH]
    · simp at hc
  · have b1 : (e.1 == g) = false := beqf heq
    refine AW.rT (by rfl) fun K hK => ?_
    simp -implicitDefEqProofs only [go_sem, ↓reduceIte, Nat.reduceAdd, Nat.reduceMul, Nat.reduceEqDiff, Nat.reduceLeDiff, reduceCtorEq, Int.reduceToNat, he1, he2, he3, hc1, encEn, List.length_map, b1]
    refine hK _ ?_; clear hK K
    refine AW.cond _ (by simp -implicitDefEqProofs only [go_sem, ↓reduceIte, Nat.reduceAdd, Nat.reduceMul, Nat.reduceEqDiff, Nat.reduceLeDiff, reduceCtorEq, Int.reduceToNat]; rfl) (fun hc => ?_) (fun hc => ?_)
    · simp at hc
    refine AW.skip ?_
    simp only [andThen, inBlk, reduceCtorEq, ↓reduceIte, if_t, if_f]
    have w1 : IntKind.wrap .i64 ((i : Int) + 1) = ((i + 1 : Nat) : Int) := by rw [w64] <;> omega
    refine AW.rE (by rfl) fun K hK => ?_
    simp -implicitDefEqProofs only [go_sem, ↓reduceIte, Nat.reduceAdd, Nat.reduceMul, Nat.reduceEqDiff, Nat.reduceLeDiff, reduceCtorEq, Int.reduceToNat, w1]
    refine hK _ ?_; clear hK K
    refine ⟨i + 1, ⟨by omega, all_next he g2 (by simpa using heq)⟩, by omega, ?_⟩
    refine Ghost.sub ?_ ?_ <;> simp -implicitDefEqProofs only [go_sem, ↓reduceIte, Nat.reduceAdd, Nat.reduceMul, Nat.reduceEqDiff, Nat.reduceLeDiff, reduceCtorEq, Int.reduceToNat,  List.forall_mem_cons, List.not_mem_nil, false_implies, implies_true, and_self, labsIn_lift, List.all_append, List.all_cons, List.all_nil, Nat.reduceLT, labsInL, AV.labsIn]
def hR1 (t : Tr) (i : Nat) : St := ⟨ofL [(1, .ptr 0 0 0), (3, .p (.int .i64 (i : Int)))], ofH [(0, .row 5 [cellsT t])], 1⟩
theorem any_all (es : List (Int × List Tr)) (g : Int) : es.all (fun e => e.1 != g) = !es.any (fun e => e.1 == g) := by
  induction es with
  | nil => rfl
  | cons a l ih => rw [List.all_cons, List.any_cons, ih, Bool.not_or]; rfl
set_option maxRecDepth 100000 in
set_option maxHeartbeats 4000000 in
theorem ref_rest (t : Tr) (hlt : lensT t = true) : PFn Try.prog 99 [.agg (encTr t)] (.bool (restT t.ents t.rest)) := by
  obtain ⟨la1, la2, la3⟩ := lensT_mk hlt
  have hm : maxLen = 9223372036854775807 := by decide
  have RT : restT t.ents t.rest = (t.rest.all (okRest t.ents) && rising t.rest) := rfl
  refine PFn.of Try.func99 rfl (by decide) Try.ntmps99 Try.results99 (Nat.le_of_ble_eq_true rfl) ?_
  simp only [argsT]
  refine AW.rT (by rfl) fun K hK => ?_
  simp -implicitDefEqProofs only [go_sem, ↓reduceIte, Nat.reduceAdd, Nat.reduceMul, Nat.reduceEqDiff, Nat.reduceLeDiff, reduceCtorEq, Int.reduceToNat, encTr_eq]
  refine hK _ ?_; clear hK K
  refine AW.seq ?_
  refine AW.rT (by rfl) fun K hK => ?_
  simp -implicitDefEqProofs only [go_sem, ↓reduceIte, Nat.reduceAdd, Nat.reduceMul, Nat.reduceEqDiff, Nat.reduceLeDiff, reduceCtorEq, Int.reduceToNat]
  refine hK _ ?_; clear hK K
  refine AW.block ?_
  refine AW.loop (hR1 t) (fun i => i ≤ t.rest.length ∧ (t.rest.take i).all (okRest t.ents) = true) (fun i => t.rest.length - i) 0 ?_ (by simp) fun i hi => ?_
  · simp only [hR1, cellsT]
    refine Ghost.sub ?_ ?_ <;> simp -implicitDefEqProofs only [go_sem, ↓reduceIte, Nat.reduceAdd, Nat.reduceMul, Nat.reduceEqDiff, Nat.reduceLeDiff, reduceCtorEq, Int.reduceToNat,  List.forall_mem_cons, List.not_mem_nil, false_implies, implies_true, and_self, labsIn_lift, List.all_append, List.all_cons, List.all_nil, Nat.reduceLT, labsInL, AV.labsIn]
    rfl
  obtain ⟨g1, g2⟩ := hi
  simp only [hR1, cellsT]
  by_cases hil : i < t.rest.length
  case neg =>
    have hc1 : ((i : Int) < (t.rest.length : Int)) = False := by simp; omega
    have hi' : i = t.rest.length := by omega
    subst hi'
    rw [List.take_length] at g2
    refine AW.seq ?_
    refine AW.rT (by rfl) fun K hK => ?_
    simp -implicitDefEqProofs only [go_sem, ↓reduceIte, Nat.reduceAdd, Nat.reduceMul, Nat.reduceEqDiff, Nat.reduceLeDiff, reduceCtorEq, Int.reduceToNat, hc1, List.length_map]
    refine hK _ ?_; clear hK K
    refine AW.cond _ (by simp -implicitDefEqProofs only [go_sem, ↓reduceIte, Nat.reduceAdd, Nat.reduceMul, Nat.reduceEqDiff, Nat.reduceLeDiff, reduceCtorEq, Int.reduceToNat]; rfl) (fun hc => ?_) (fun hc => ?_)
    · simp at hc
    refine AW.exit ?_
    simp only [andThen, inBlk, reduceCtorEq, ↓reduceIte, if_t, if_f]
    refine AW.rT (by rfl) fun K hK => ?_
    simp -implicitDefEqProofs only [go_sem, ↓reduceIte, Nat.reduceAdd, Nat.reduceMul, Nat.reduceEqDiff, Nat.reduceLeDiff, reduceCtorEq, Int.reduceToNat]
    refine ⟨.pure _, ref04_Rising t.rest (by omega), ?_⟩
    try simp -implicitDefEqProofs only [go_sem, ↓reduceIte, Nat.reduceAdd, Nat.reduceMul, Nat.reduceEqDiff, Nat.reduceLeDiff, reduceCtorEq, Int.reduceToNat]
    refine hK _ ?_; clear hK K
    refine AW.ret ?_
    simp -implicitDefEqProofs only [go_sem, ↓reduceIte, Nat.reduceAdd, Nat.reduceMul, Nat.reduceEqDiff, Nat.reduceLeDiff, reduceCtorEq, Int.reduceToNat]
    rw [RT, g2, Bool.true_and]
  obtain ⟨r, hr⟩ : ∃ r, t.rest[i]? = some r := ⟨_, List.getElem?_eq_getElem hil⟩
  have ⟨hr1, hr2, hr3⟩ := at_map' encRaw hr
  have hc1 : ((i : Int) < (t.rest.length : Int)) = True := by simp; omega
  refine AW.seq ?_
  refine AW.rT (by rfl) fun K hK => ?_
  simp -implicitDefEqProofs only [go_sem, ↓reduceIte, Nat.reduceAdd, Nat.reduceMul, Nat.reduceEqDiff, Nat.reduceLeDiff, reduceCtorEq, Int.reduceToNat, hc1, List.length_map]
  refine hK _ ?_; clear hK K
  refine AW.cond _ (by simp -implicitDefEqProofs only [go_sem, ↓reduceIte, Nat.reduceAdd, Nat.reduceMul, Nat.reduceEqDiff, Nat.reduceLeDiff, reduceCtorEq, Int.reduceToNat]; rfl) (fun hc => ?_) (fun hc => ?_)
  rotate_left
  · simp at hc
  refine AW.skip ?_
  simp only [andThen, inBlk, reduceCtorEq, ↓reduceIte, if_t, if_f]
  refine AW.seq ?_
  refine AW.block ?_
  cases hcr : checkR r with
  | false =>
    have C1 : PFn Try.prog 31 [.agg (encRaw r)] (.bool false) := hcr ▸ ref04_Check r
    have HH : restT t.ents t.rest = false := by rw [RT, all_not hr (by simp [okRest, hcr])]; rfl
    rw [encRaw] at C1
    refine AW.dT mixed (by rfl) (by decide +kernel) fun K hK => ?_
    simp -implicitDefEqProofs only [go_sem, ↓reduceIte, Nat.reduceAdd, Nat.reduceMul, Nat.reduceEqDiff, Nat.reduceLeDiff, reduceCtorEq, Int.reduceToNat, hr1, hr2, hr3, hc1, encRaw, List.length_map]
    refine ⟨.pure _, C1, ?_⟩
    try simp -implicitDefEqProofs only [go_sem, ↓reduceIte, Nat.reduceAdd, Nat.reduceMul, Nat.reduceEqDiff, Nat.reduceLeDiff, reduceCtorEq, Int.reduceToNat]
    refine ⟨heapOK_nil rfl, ?_⟩
    refine hK _ ?_; clear hK K
    refine AW.cond _ (by simp -implicitDefEqProofs only [go_sem, ↓reduceIte, Nat.reduceAdd, Nat.reduceMul, Nat.reduceEqDiff, Nat.reduceLeDiff, reduceCtorEq, Int.reduceToNat]; rfl) (fun hc => ?_) (fun hc => ?_)
    · refine AW.rT (by rfl) fun K hK => ?_
      simp -implicitDefEqProofs only [go_sem, ↓reduceIte, Nat.reduceAdd, Nat.reduceMul, Nat.reduceEqDiff, Nat.reduceLeDiff, reduceCtorEq, Int.reduceToNat]
      refine hK _ ?_; clear hK K
      refine AW.ret ?_
      simp -implicitDefEqProofs only [go_sem, ↓reduceIte, Nat.reduceAdd, Nat.reduceMul, Nat.reduceEqDiff, Nat.reduceLeDiff, reduceCtorEq, Int.reduceToNat, HH]
    · simp at hc
  | true =>
    have C1 : PFn Try.prog 31 [.agg (encRaw r)] (.bool true) := hcr ▸ ref04_Check r
    rw [encRaw] at C1
    have C2 := ref_Has t hlt r.tag
    rw [encTr_eq] at C2
    have AA := any_all t.ents r.tag
    refine AW.dT mixed (by rfl) (by decide +kernel) fun K hK => ?_
    simp -implicitDefEqProofs only [go_sem, ↓reduceIte, Nat.reduceAdd, Nat.reduceMul, Nat.reduceEqDiff, Nat.reduceLeDiff, reduceCtorEq, Int.reduceToNat, hr1, hr2, hr3, hc1, encRaw, List.length_map]
    refine ⟨.pure _, C1, ?_⟩
    try simp -implicitDefEqProofs only [go_sem, ↓reduceIte, Nat.reduceAdd, Nat.reduceMul, Nat.reduceEqDiff, Nat.reduceLeDiff, reduceCtorEq, Int.reduceToNat, hr1, hr2, hr3, hc1, encRaw, List.length_map]
    refine ⟨.pure _, C2, ?_⟩
    try simp -implicitDefEqProofs only [go_sem, ↓reduceIte, Nat.reduceAdd, Nat.reduceMul, Nat.reduceEqDiff, Nat.reduceLeDiff, reduceCtorEq, Int.reduceToNat]
    refine ⟨heapOK_nil rfl, ?_⟩
    refine hK _ ?_; clear hK K
    cases hh : t.ents.any (fun e => e.1 == r.tag) with
    | true =>
      rw [hh] at AA
      have HH : restT t.ents t.rest = false := by rw [RT, all_not hr (by rw [okRest, AA]; simp)]; rfl
      refine AW.cond _ (by simp -implicitDefEqProofs only [go_sem, ↓reduceIte, Nat.reduceAdd, Nat.reduceMul, Nat.reduceEqDiff, Nat.reduceLeDiff, reduceCtorEq, Int.reduceToNat]; rfl) (fun hc => ?_) (fun hc => ?_)
      · refine AW.rT (by rfl) fun K hK => ?_
        simp -implicitDefEqProofs only [go_sem, ↓reduceIte, Nat.reduceAdd, Nat.reduceMul, Nat.reduceEqDiff, Nat.reduceLeDiff, reduceCtorEq, Int.reduceToNat]
        refine hK _ ?_; clear hK K
        refine AW.ret ?_
        simp -implicitDefEqProofs only [go_sem, ↓reduceIte, Nat.reduceAdd, Nat.reduceMul, Nat.reduceEqDiff, Nat.reduceLeDiff, reduceCtorEq, Int.reduceToNat, HH]
      · simp at hc
    | false =>
      rw [hh] at AA
      refine AW.cond _ (by simp -implicitDefEqProofs only [go_sem, ↓reduceIte, Nat.reduceAdd, Nat.reduceMul, Nat.reduceEqDiff, Nat.reduceLeDiff, reduceCtorEq, Int.reduceToNat]; rfl) (fun hc => ?_) (fun hc => ?_)
      · simp at hc
      refine AW.skip ?_
      simp only [andThen, inBlk, reduceCtorEq, ↓reduceIte, if_t, if_f]
      have w1 : IntKind.wrap .i64 ((i : Int) + 1) = ((i + 1 : Nat) : Int) := by rw [w64] <;> omega
      refine AW.rE (by rfl) fun K hK => ?_
      simp -implicitDefEqProofs only [go_sem, ↓reduceIte, Nat.reduceAdd, Nat.reduceMul, Nat.reduceEqDiff, Nat.reduceLeDiff, reduceCtorEq, Int.reduceToNat, w1]
      refine hK _ ?_; clear hK K
      refine ⟨i + 1, ⟨by omega, all_next hr g2 (by simp only [okRest]; rw [hcr, AA]; rfl)⟩, by omega, ?_⟩
      refine Ghost.sub ?_ ?_ <;> simp -implicitDefEqProofs only [go_sem, ↓reduceIte, Nat.reduceAdd, Nat.reduceMul, Nat.reduceEqDiff, Nat.reduceLeDiff, reduceCtorEq, Int.reduceToNat,  List.forall_mem_cons, List.not_mem_nil, false_implies, implies_true, and_self, labsIn_lift, List.all_append, List.all_cons, List.all_nil, Nat.reduceLT, labsInL, AV.labsIn]
set_option maxRecDepth 100000 in
set_option maxHeartbeats 4000000 in
theorem ref_check : ∀ (t : Tr), lensT t = true → PFn Try.prog 83 [.agg (encTr t)] (.bool (rightT t)) := by
  intro t
  induction h : SizeOf.sizeOf t using Nat.strongRecOn generalizing t with
  | _ sz ih =>
  subst h
  intro hlt
  obtain ⟨la1, la2, la3⟩ := lensT_mk hlt
  have sT := rightT_mk t
  have E1 := ref_entries t.ents la2 la3 fun i e k x he hx => ih _ (size_ent he hx) x rfl (lensTs_at (lensE_at la3 he).2 hx)
  have E2 := ref_rest t hlt
  rw [encTr_eq] at E2
  have z1 : ((t.ents.length : Int) == 0) = t.ents.isEmpty := by cases t.ents <;> simp; omega
  have z2 : ((t.rest.length : Int) == 0) = decide (t.rest = []) := by cases t.rest <;> simp; omega
  refine PFn.of Try.func83 rfl (by decide) Try.ntmps83 Try.results83 (Nat.le_of_ble_eq_true rfl) ?_
  simp only [argsT]
  refine AW.rT (by rfl) fun K hK => ?_
  simp -implicitDefEqProofs only [go_sem, ↓reduceIte, Nat.reduceAdd, Nat.reduceMul, Nat.reduceEqDiff, Nat.reduceLeDiff, reduceCtorEq, Int.reduceToNat, encTr_eq]
  refine hK _ ?_; clear hK K
  refine AW.seq ?_
  refine AW.rT (by rfl) fun K hK => ?_
  simp -implicitDefEqProofs only [go_sem, ↓reduceIte, Nat.reduceAdd, Nat.reduceMul, Nat.reduceEqDiff, Nat.reduceLeDiff, reduceCtorEq, Int.reduceToNat]
  refine hK _ ?_; clear hK K
  refine AW.block ?_
  by_cases c1 : t.kind = 1
  · have b1 : (t.kind == 1) = true := by simpa using c1
    rw [if_pos c1] at sT
    refine AW.rT (by rfl) fun K hK => ?_
    simp -implicitDefEqProofs only [go_sem, ↓reduceIte, Nat.reduceAdd, Nat.reduceMul, Nat.reduceEqDiff, Nat.reduceLeDiff, reduceCtorEq, Int.reduceToNat, b1]
    refine hK _ ?_; clear hK K
    refine AW.cond _ (by simp -implicitDefEqProofs only [go_sem, ↓reduceIte, Nat.reduceAdd, Nat.reduceMul, Nat.reduceEqDiff, Nat.reduceLeDiff, reduceCtorEq, Int.reduceToNat]; rfl) (fun hc => ?_) (fun hc => ?_)
    rotate_left
    · simp at hc
    cases hs : decide (t.s = []) <;> cases hz : t.ents.isEmpty
    all_goals
      rw [hs, hz] at sT
      have b2 : (t.s == []) = decide (t.s = []) := by cases t.s <;> simp
      refine AW.rT (by rfl) fun K hK => ?_
      try simp -implicitDefEqProofs only [go_sem, ↓reduceIte, Nat.reduceAdd, Nat.reduceMul, Nat.reduceEqDiff, Nat.reduceLeDiff, reduceCtorEq, Int.reduceToNat, b2, hs, z1, hz, z2, List.length_map]
      refine hK _ ?_; clear hK K
      refine AW.ret ?_
      try simp -implicitDefEqProofs only [go_sem, ↓reduceIte, Nat.reduceAdd, Nat.reduceMul, Nat.reduceEqDiff, Nat.reduceLeDiff, reduceCtorEq, Int.reduceToNat, sT, Bool.false_and, Bool.true_and]
  · have b1 : (t.kind == 1) = false := beqf c1
    rw [if_neg c1] at sT
    refine AW.rT (by rfl) fun K hK => ?_
    simp -implicitDefEqProofs only [go_sem, ↓reduceIte, Nat.reduceAdd, Nat.reduceMul, Nat.reduceEqDiff, Nat.reduceLeDiff, reduceCtorEq, Int.reduceToNat, b1]
    refine hK _ ?_; clear hK K
    refine AW.cond _ (by simp -implicitDefEqProofs only [go_sem, ↓reduceIte, Nat.reduceAdd, Nat.reduceMul, Nat.reduceEqDiff, Nat.reduceLeDiff, reduceCtorEq, Int.reduceToNat]; rfl) (fun hc => ?_) (fun hc => ?_)
    · simp at hc
    by_cases c2 : t.kind = 2
    · have b1 : (t.kind == 2) = true := by simpa using c2
      have hq : (t.n == 0) = decide (t.n = 0) := by by_cases h : t.n = 0 <;> simp [h]
      rw [if_pos c2] at sT
      refine AW.rT (by rfl) fun K hK => ?_
      simp -implicitDefEqProofs only [go_sem, ↓reduceIte, Nat.reduceAdd, Nat.reduceMul, Nat.reduceEqDiff, Nat.reduceLeDiff, reduceCtorEq, Int.reduceToNat, b1]
      refine hK _ ?_; clear hK K
      refine AW.cond _ (by simp -implicitDefEqProofs only [go_sem, ↓reduceIte, Nat.reduceAdd, Nat.reduceMul, Nat.reduceEqDiff, Nat.reduceLeDiff, reduceCtorEq, Int.reduceToNat]; rfl) (fun hc => ?_) (fun hc => ?_)
      rotate_left
      · simp at hc
      cases hs : decide (t.n = 0) <;> cases hz : t.ents.isEmpty
      all_goals
        rw [hs, hz] at sT
        refine AW.rT (by rfl) fun K hK => ?_
        try simp -implicitDefEqProofs only [go_sem, ↓reduceIte, Nat.reduceAdd, Nat.reduceMul, Nat.reduceEqDiff, Nat.reduceLeDiff, reduceCtorEq, Int.reduceToNat, hq, hs, z1, hz, z2, List.length_map]
        refine hK _ ?_; clear hK K
        refine AW.ret ?_
        try simp -implicitDefEqProofs only [go_sem, ↓reduceIte, Nat.reduceAdd, Nat.reduceMul, Nat.reduceEqDiff, Nat.reduceLeDiff, reduceCtorEq, Int.reduceToNat, sT, Bool.false_and, Bool.true_and]
    · have b1 : (t.kind == 2) = false := beqf c2
      rw [if_neg c2] at sT
      refine AW.rT (by rfl) fun K hK => ?_
      simp -implicitDefEqProofs only [go_sem, ↓reduceIte, Nat.reduceAdd, Nat.reduceMul, Nat.reduceEqDiff, Nat.reduceLeDiff, reduceCtorEq, Int.reduceToNat, b1]
      refine hK _ ?_; clear hK K
      refine AW.cond _ (by simp -implicitDefEqProofs only [go_sem, ↓reduceIte, Nat.reduceAdd, Nat.reduceMul, Nat.reduceEqDiff, Nat.reduceLeDiff, reduceCtorEq, Int.reduceToNat]; rfl) (fun hc => ?_) (fun hc => ?_)
      · simp at hc
      by_cases c3 : t.kind = 3
      · have b1 : (t.kind == 3) = true := by simpa using c3
        have hq : (t.n == 0) = decide (t.n = 0) := by by_cases h : t.n = 0 <;> simp [h]
        have b2 : (t.s == []) = decide (t.s = []) := by cases t.s <;> simp
        rw [if_pos c3] at sT
        refine AW.rT (by rfl) fun K hK => ?_
        simp -implicitDefEqProofs only [go_sem, ↓reduceIte, Nat.reduceAdd, Nat.reduceMul, Nat.reduceEqDiff, Nat.reduceLeDiff, reduceCtorEq, Int.reduceToNat, b1]
        refine hK _ ?_; clear hK K
        refine AW.cond _ (by simp -implicitDefEqProofs only [go_sem, ↓reduceIte, Nat.reduceAdd, Nat.reduceMul, Nat.reduceEqDiff, Nat.reduceLeDiff, reduceCtorEq, Int.reduceToNat]; rfl) (fun hc => ?_) (fun hc => ?_)
        rotate_left
        · simp at hc
        cases hn : decide (t.n = 0)
        · rw [hn] at sT
          refine AW.rT (by rfl) fun K hK => ?_
          try simp -implicitDefEqProofs only [go_sem, ↓reduceIte, Nat.reduceAdd, Nat.reduceMul, Nat.reduceEqDiff, Nat.reduceLeDiff, reduceCtorEq, Int.reduceToNat, hq, hn, b2]
          refine hK _ ?_; clear hK K
          refine AW.ret ?_
          try simp -implicitDefEqProofs only [go_sem, ↓reduceIte, Nat.reduceAdd, Nat.reduceMul, Nat.reduceEqDiff, Nat.reduceLeDiff, reduceCtorEq, Int.reduceToNat, sT, Bool.false_and, Bool.true_and]
        cases hs : decide (t.s = [])
        · rw [hn, hs] at sT
          refine AW.rT (by rfl) fun K hK => ?_
          try simp -implicitDefEqProofs only [go_sem, ↓reduceIte, Nat.reduceAdd, Nat.reduceMul, Nat.reduceEqDiff, Nat.reduceLeDiff, reduceCtorEq, Int.reduceToNat, hq, hn, b2, hs]
          refine hK _ ?_; clear hK K
          refine AW.ret ?_
          try simp -implicitDefEqProofs only [go_sem, ↓reduceIte, Nat.reduceAdd, Nat.reduceMul, Nat.reduceEqDiff, Nat.reduceLeDiff, reduceCtorEq, Int.reduceToNat, sT, Bool.false_and, Bool.true_and]
        cases he : rightE t.ents 0
        · rw [hn, hs, he] at sT
          rw [he] at E1
          refine AW.rT (by rfl) fun K hK => ?_
          try simp -implicitDefEqProofs only [go_sem, ↓reduceIte, Nat.reduceAdd, Nat.reduceMul, Nat.reduceEqDiff, Nat.reduceLeDiff, reduceCtorEq, Int.reduceToNat, hq, hn, b2, hs]
          refine ⟨.pure _, E1, ?_⟩
          try simp -implicitDefEqProofs only [go_sem, ↓reduceIte, Nat.reduceAdd, Nat.reduceMul, Nat.reduceEqDiff, Nat.reduceLeDiff, reduceCtorEq, Int.reduceToNat]
          refine hK _ ?_; clear hK K
          refine AW.ret ?_
          try simp -implicitDefEqProofs only [go_sem, ↓reduceIte, Nat.reduceAdd, Nat.reduceMul, Nat.reduceEqDiff, Nat.reduceLeDiff, reduceCtorEq, Int.reduceToNat, sT, Bool.false_and, Bool.true_and]
        · rw [hn, hs, he] at sT
          rw [he] at E1
          refine AW.rT (by rfl) fun K hK => ?_
          try simp -implicitDefEqProofs only [go_sem, ↓reduceIte, Nat.reduceAdd, Nat.reduceMul, Nat.reduceEqDiff, Nat.reduceLeDiff, reduceCtorEq, Int.reduceToNat, hq, hn, b2, hs]
          refine ⟨.pure _, E1, ?_⟩
          try simp -implicitDefEqProofs only [go_sem, ↓reduceIte, Nat.reduceAdd, Nat.reduceMul, Nat.reduceEqDiff, Nat.reduceLeDiff, reduceCtorEq, Int.reduceToNat]
          refine ⟨.pure _, E2, ?_⟩
          try simp -implicitDefEqProofs only [go_sem, ↓reduceIte, Nat.reduceAdd, Nat.reduceMul, Nat.reduceEqDiff, Nat.reduceLeDiff, reduceCtorEq, Int.reduceToNat]
          refine hK _ ?_; clear hK K
          refine AW.ret ?_
          try simp -implicitDefEqProofs only [go_sem, ↓reduceIte, Nat.reduceAdd, Nat.reduceMul, Nat.reduceEqDiff, Nat.reduceLeDiff, reduceCtorEq, Int.reduceToNat, sT, Bool.false_and, Bool.true_and]
      · have b1 : (t.kind == 3) = false := beqf c3
        rw [if_neg c3] at sT
        refine AW.rT (by rfl) fun K hK => ?_
        simp -implicitDefEqProofs only [go_sem, ↓reduceIte, Nat.reduceAdd, Nat.reduceMul, Nat.reduceEqDiff, Nat.reduceLeDiff, reduceCtorEq, Int.reduceToNat, b1]
        refine hK _ ?_; clear hK K
        refine AW.cond _ (by simp -implicitDefEqProofs only [go_sem, ↓reduceIte, Nat.reduceAdd, Nat.reduceMul, Nat.reduceEqDiff, Nat.reduceLeDiff, reduceCtorEq, Int.reduceToNat]; rfl) (fun hc => ?_) (fun hc => ?_)
        · simp at hc
        refine AW.skip ?_
        simp only [andThen, inBlk, reduceCtorEq, ↓reduceIte, if_t, if_f]
        refine AW.rT (by rfl) fun K hK => ?_
        simp -implicitDefEqProofs only [go_sem, ↓reduceIte, Nat.reduceAdd, Nat.reduceMul, Nat.reduceEqDiff, Nat.reduceLeDiff, reduceCtorEq, Int.reduceToNat]
        refine hK _ ?_; clear hK K
        refine AW.ret ?_
        simp -implicitDefEqProofs only [go_sem, ↓reduceIte, Nat.reduceAdd, Nat.reduceMul, Nat.reduceEqDiff, Nat.reduceLeDiff, reduceCtorEq, Int.reduceToNat, sT]
set_option maxHeartbeats 1000000 in
theorem ref_Check (t : Tr) (hlt : lensT t = true) : PFn Try.prog 47 [.agg (encTr t)] (.bool (okT t)) := by
  have E1 := ref09_Depth t hlt
  have E2 := ref_check t hlt
  rw [encTr_eq] at E1 E2
  have hd : ((dT t 101 : Int) ≤ 10) = (dT t 101 ≤ 10) := by simp; omega
  refine PFn.of Try.func47 rfl (by decide) Try.ntmps47 Try.results47 (Nat.le_of_ble_eq_true rfl) ?_
  simp only [argsT]
  refine AW.rT (by rfl) fun K hK => ?_
  simp -implicitDefEqProofs only [go_sem, ↓reduceIte, Nat.reduceAdd, Nat.reduceMul, Nat.reduceEqDiff, Nat.reduceLeDiff, reduceCtorEq, Int.reduceToNat, encTr_eq]
  refine hK _ ?_; clear hK K
  cases hc : decide (dT t 101 ≤ 10)
  · refine AW.rT (by rfl) fun K hK => ?_
    try simp -implicitDefEqProofs only [go_sem, ↓reduceIte, Nat.reduceAdd, Nat.reduceMul, Nat.reduceEqDiff, Nat.reduceLeDiff, reduceCtorEq, Int.reduceToNat]
    refine ⟨.pure _, E1, ?_⟩
    try simp -implicitDefEqProofs only [go_sem, ↓reduceIte, Nat.reduceAdd, Nat.reduceMul, Nat.reduceEqDiff, Nat.reduceLeDiff, reduceCtorEq, Int.reduceToNat, hd, hc]
    refine hK _ ?_; clear hK K
    refine AW.ret ?_
    try simp -implicitDefEqProofs only [go_sem, ↓reduceIte, Nat.reduceAdd, Nat.reduceMul, Nat.reduceEqDiff, Nat.reduceLeDiff, reduceCtorEq, Int.reduceToNat, okT, hc, Bool.false_and]
  · refine AW.rT (by rfl) fun K hK => ?_
    try simp -implicitDefEqProofs only [go_sem, ↓reduceIte, Nat.reduceAdd, Nat.reduceMul, Nat.reduceEqDiff, Nat.reduceLeDiff, reduceCtorEq, Int.reduceToNat]
    refine ⟨.pure _, E1, ?_⟩
    try simp -implicitDefEqProofs only [go_sem, ↓reduceIte, Nat.reduceAdd, Nat.reduceMul, Nat.reduceEqDiff, Nat.reduceLeDiff, reduceCtorEq, Int.reduceToNat, hd, hc]
    refine ⟨.pure _, E2, ?_⟩
    try simp -implicitDefEqProofs only [go_sem, ↓reduceIte, Nat.reduceAdd, Nat.reduceMul, Nat.reduceEqDiff, Nat.reduceLeDiff, reduceCtorEq, Int.reduceToNat]
    refine hK _ ?_; clear hK K
    refine AW.ret ?_
    try simp -implicitDefEqProofs only [go_sem, ↓reduceIte, Nat.reduceAdd, Nat.reduceMul, Nat.reduceEqDiff, Nat.reduceLeDiff, reduceCtorEq, Int.reduceToNat, okT, hc, Bool.true_and]
end Go.Aw
/- The program's Same of trees. -/
namespace Go.Aw
open Go.Proofs
set_option linter.unusedSimpArgs false
set_option linter.unusedVariables false
def qE (l l' : List Raw) (i : Nat) : St := ⟨ofL [(0, .p (.slice (l.map encRaw))), (1, .p (.slice (l'.map encRaw))), (12, .p (.int .i64 (l.length : Int))), (13, .p (.int .i64 (i : Int)))], ofH [], 0⟩
set_option maxRecDepth 100000 in
set_option maxHeartbeats 4000000 in
theorem slices_Equal (l l' : List Raw) (hl : l.length ≤ 1000) : PFn Try.prog 78 [.slice (l.map encRaw), .slice (l'.map encRaw)] (.bool (decide (l = l'))) := by
  refine PFn.of Try.func78 rfl (by decide) Try.ntmps78 Try.results78 (Nat.le_of_ble_eq_true rfl) ?_
  simp only [argsT]
  refine AW.rT (by rfl) fun K hK => ?_
  simp -implicitDefEqProofs only [go_sem, ↓reduceIte, Nat.reduceAdd, Nat.reduceMul, Nat.reduceEqDiff, Nat.reduceLeDiff, reduceCtorEq, Int.reduceToNat]
  refine hK _ ?_; clear hK K
  refine AW.seq ?_
  by_cases c4 : l.length = l'.length
  case neg =>
    have b4 : ((l.length : Int) != (l'.length : Int)) = true := by simp; omega
    have HH : decide (l = l') = false := by
      simp only [decide_eq_false_iff_not]
      rintro rfl
      exact c4 rfl
    refine AW.rT (by rfl) fun K hK => ?_
    simp -implicitDefEqProofs only [go_sem, ↓reduceIte, Nat.reduceAdd, Nat.reduceMul, Nat.reduceEqDiff, Nat.reduceLeDiff, reduceCtorEq, Int.reduceToNat, b4, List.length_map]
    refine hK _ ?_; clear hK K
    refine AW.cond _ (by simp -implicitDefEqProofs only [go_sem, ↓reduceIte, Nat.reduceAdd, Nat.reduceMul, Nat.reduceEqDiff, Nat.reduceLeDiff, reduceCtorEq, Int.reduceToNat]; rfl) (fun hc => ?_) (fun hc => ?_)
    · refine AW.rT (by rfl) fun K hK => ?_
      simp -implicitDefEqProofs only [go_sem, ↓reduceIte, Nat.reduceAdd, Nat.reduceMul, Nat.reduceEqDiff, Nat.reduceLeDiff, reduceCtorEq, Int.reduceToNat]
      refine hK _ ?_; clear hK K
      refine AW.ret ?_
      simp -implicitDefEqProofs only [go_sem, ↓reduceIte, Nat.reduceAdd, Nat.reduceMul, Nat.reduceEqDiff, Nat.reduceLeDiff, reduceCtorEq, Int.reduceToNat, HH]
    · simp at hc
  have b4 : ((l.length : Int) != (l'.length : Int)) = false := by simp; omega
  refine AW.rT (by rfl) fun K hK => ?_
  simp -implicitDefEqProofs only [go_sem, ↓reduceIte, Nat.reduceAdd, Nat.reduceMul, Nat.reduceEqDiff, Nat.reduceLeDiff, reduceCtorEq, Int.reduceToNat, b4, List.length_map]
  refine hK _ ?_; clear hK K
  refine AW.cond _ (by simp -implicitDefEqProofs only [go_sem, ↓reduceIte, Nat.reduceAdd, Nat.reduceMul, Nat.reduceEqDiff, Nat.reduceLeDiff, reduceCtorEq, Int.reduceToNat]; rfl) (fun hc => ?_) (fun hc => ?_)
  · simp at hc
  refine AW.skip ?_
  simp only [andThen, inBlk, reduceCtorEq, ↓reduceIte, if_t, if_f]
  refine AW.seq ?_
  refine AW.rT (by rfl) fun K hK => ?_
  simp -implicitDefEqProofs only [go_sem, ↓reduceIte, Nat.reduceAdd, Nat.reduceMul, Nat.reduceEqDiff, Nat.reduceLeDiff, reduceCtorEq, Int.reduceToNat, List.length_map]
  refine hK _ ?_; clear hK K
  refine AW.block ?_
  refine AW.loop (qE l l') (fun i => i ≤ l.length ∧ l.take i = l'.take i) (fun i => l.length - i) 0 ?_ (by simp) fun i hi => ?_
  · simp only [qE]
    refine Ghost.sub ?_ ?_ <;> simp -implicitDefEqProofs only [go_sem, ↓reduceIte, Nat.reduceAdd, Nat.reduceMul, Nat.reduceEqDiff, Nat.reduceLeDiff, reduceCtorEq, Int.reduceToNat,  List.forall_mem_cons, List.not_mem_nil, false_implies, implies_true, and_self, labsIn_lift, List.all_append, List.all_cons, List.all_nil, Nat.reduceLT, labsInL, AV.labsIn]
    rfl
  obtain ⟨g1, g2⟩ := hi
  simp only [qE]
  by_cases hil : i < l.length
  · obtain ⟨x, hx⟩ : ∃ x, l[i]? = some x := ⟨_, List.getElem?_eq_getElem hil⟩
    obtain ⟨y, hy⟩ : ∃ y, l'[i]? = some y := ⟨_, List.getElem?_eq_getElem (by omega)⟩
    have ⟨hx1, hx2, hx3⟩ := at_map' encRaw hx
    have ⟨hy1, hy2, hy3⟩ := at_map' encRaw hy
    have ex : (encRaw x).length = 4 := rfl
    have ey : (encRaw y).length = 4 := rfl
    have hc1 : ((i : Int) < (l.length : Int)) = True := by simp; omega
    refine AW.rT (by rfl) fun K hK => ?_
    simp -implicitDefEqProofs only [go_sem, ↓reduceIte, Nat.reduceAdd, Nat.reduceMul, Nat.reduceEqDiff, Nat.reduceLeDiff, reduceCtorEq, Int.reduceToNat, hc1]
    refine hK _ ?_; clear hK K
    refine AW.seq ?_
    refine AW.cond _ (by simp -implicitDefEqProofs only [go_sem, ↓reduceIte, Nat.reduceAdd, Nat.reduceMul, Nat.reduceEqDiff, Nat.reduceLeDiff, reduceCtorEq, Int.reduceToNat]; rfl) (fun hc => ?_) (fun hc => ?_)
    rotate_left
    · simp at hc
    refine AW.skip ?_
    simp only [andThen, inBlk, reduceCtorEq, ↓reduceIte, if_t, if_f]
    refine AW.seq ?_
    refine AW.block ?_
    refine AW.rT (by rfl) fun K hK => ?_
    simp -implicitDefEqProofs only [go_sem, ↓reduceIte, Nat.reduceAdd, Nat.reduceMul, Nat.reduceEqDiff, Nat.reduceLeDiff, reduceCtorEq, Int.reduceToNat]
    refine hK _ ?_; clear hK K
    refine AW.dT mixed (by rfl) (by decide +kernel) fun K hK => ?_
    simp -implicitDefEqProofs only [go_sem, ↓reduceIte, Nat.reduceAdd, Nat.reduceMul, Nat.reduceEqDiff, Nat.reduceLeDiff, reduceCtorEq, Int.reduceToNat, hx1, hx2, hx3, hy1, hy2, hy3, ex, ey]
    refine ⟨_, eqP_raw x y, ?_⟩
    simp only [boolE]
    try simp -implicitDefEqProofs only [go_sem, ↓reduceIte, Nat.reduceAdd, Nat.reduceMul, Nat.reduceEqDiff, Nat.reduceLeDiff, reduceCtorEq, Int.reduceToNat]
    refine ⟨heapOK_nil rfl, ?_⟩
    refine hK _ ?_; clear hK K
    by_cases hxy : x = y
    · have bx : decide (x = y) = true := by simpa using hxy
      rw [bx]
      refine AW.cond _ (by simp -implicitDefEqProofs only [go_sem, ↓reduceIte, Nat.reduceAdd, Nat.reduceMul, Nat.reduceEqDiff, Nat.reduceLeDiff, reduceCtorEq, Int.reduceToNat]; rfl) (fun hc => ?_) (fun hc => ?_)
      · simp at hc
      refine AW.skip ?_
      simp only [andThen, inBlk, reduceCtorEq, ↓reduceIte, if_t, if_f]
      have w2 : IntKind.wrap .i64 ((i : Int) + 1) = ((i + 1 : Nat) : Int) := by rw [w64] <;> omega
      refine AW.rE (by rfl) fun K hK => ?_
      simp -implicitDefEqProofs only [go_sem, ↓reduceIte, Nat.reduceAdd, Nat.reduceMul, Nat.reduceEqDiff, Nat.reduceLeDiff, reduceCtorEq, Int.reduceToNat, w2]
      refine hK _ ?_; clear hK K
      refine ⟨i + 1, ⟨by omega, by rw [List.take_add_one, List.take_add_one, hx, hy, g2, hxy]⟩, by omega, ?_⟩
      refine Ghost.sub ?_ ?_ <;> simp -implicitDefEqProofs only [go_sem, ↓reduceIte, Nat.reduceAdd, Nat.reduceMul, Nat.reduceEqDiff, Nat.reduceLeDiff, reduceCtorEq, Int.reduceToNat,  List.forall_mem_cons, List.not_mem_nil, false_implies, implies_true, and_self, labsIn_lift, List.all_append, List.all_cons, List.all_nil, Nat.reduceLT, labsInL, AV.labsIn]
    · have bx : decide (x = y) = false := by simpa using hxy
      rw [bx]
      have HH : decide (l = l') = false := by
        simp only [decide_eq_false_iff_not]
        rintro rfl
        rw [hx] at hy
        injection hy with hy
        exact hxy hy
      refine AW.cond _ (by simp -implicitDefEqProofs only [go_sem, ↓reduceIte, Nat.reduceAdd, Nat.reduceMul, Nat.reduceEqDiff, Nat.reduceLeDiff, reduceCtorEq, Int.reduceToNat]; rfl) (fun hc => ?_) (fun hc => ?_)
      · refine AW.rT (by rfl) fun K hK => ?_
        simp -implicitDefEqProofs only [go_sem, ↓reduceIte, Nat.reduceAdd, Nat.reduceMul, Nat.reduceEqDiff, Nat.reduceLeDiff, reduceCtorEq, Int.reduceToNat]
        refine hK _ ?_; clear hK K
        refine AW.ret ?_
        simp -implicitDefEqProofs only [go_sem, ↓reduceIte, Nat.reduceAdd, Nat.reduceMul, Nat.reduceEqDiff, Nat.reduceLeDiff, reduceCtorEq, Int.reduceToNat, HH]
      · simp at hc
  have hc1 : ((i : Int) < (l.length : Int)) = False := by simp; omega
  have hi' : i = l.length := by omega
  subst hi'
  rw [List.take_length, c4, List.take_length] at g2
  have HH : decide (l = l') = true := by simpa using g2
  refine AW.rT (by rfl) fun K hK => ?_
  simp -implicitDefEqProofs only [go_sem, ↓reduceIte, Nat.reduceAdd, Nat.reduceMul, Nat.reduceEqDiff, Nat.reduceLeDiff, reduceCtorEq, Int.reduceToNat, hc1]
  refine hK _ ?_; clear hK K
  refine AW.seq ?_
  refine AW.cond _ (by simp -implicitDefEqProofs only [go_sem, ↓reduceIte, Nat.reduceAdd, Nat.reduceMul, Nat.reduceEqDiff, Nat.reduceLeDiff, reduceCtorEq, Int.reduceToNat]; rfl) (fun hc => ?_) (fun hc => ?_)
  · simp at hc
  refine AW.exit ?_
  simp only [andThen, inBlk, reduceCtorEq, ↓reduceIte, if_t, if_f]
  refine AW.rT (by rfl) fun K hK => ?_
  simp -implicitDefEqProofs only [go_sem, ↓reduceIte, Nat.reduceAdd, Nat.reduceMul, Nat.reduceEqDiff, Nat.reduceLeDiff, reduceCtorEq, Int.reduceToNat]
  refine hK _ ?_; clear hK K
  refine AW.ret ?_
  simp -implicitDefEqProofs only [go_sem, ↓reduceIte, Nat.reduceAdd, Nat.reduceMul, Nat.reduceEqDiff, Nat.reduceLeDiff, reduceCtorEq, Int.reduceToNat, HH]
def fnV (f : FuncId) : PV := .cst (.func (.func f) #[] #[])
def qF (l l' : List Tr) (i : Nat) : St := ⟨ofL [(0, .p (.slice (l.map encTr))), (1, .p (.slice (l'.map encTr))), (2, .p (fnV 44)), (15, .p (.slice (l.map encTr))), (16, .p (.int .i64 (l.length : Int))), (17, .p (.int .i64 (i : Int)))], ofH [], 0⟩
set_option maxRecDepth 100000 in
set_option maxHeartbeats 4000000 in
theorem slices_EqualTs (l l' : List Tr) (hl : l.length ≤ 1000) (ih : ∀ (k : Nat) x y, l[k]? = some x → PFn Try.prog 44 [.agg (encTr x), .agg (encTr y)] (.bool (sameT x y))) : PFn Try.prog 81 [.slice (l.map encTr), .slice (l'.map encTr), fnV 44] (.bool (sameTs l l')) := by
  refine PFn.of Try.func81 rfl (by decide) Try.ntmps81 Try.results81 (Nat.le_of_ble_eq_true rfl) ?_
  simp only [argsT, fnV]
  refine AW.rT (by rfl) fun K hK => ?_
  simp -implicitDefEqProofs only [go_sem, ↓reduceIte, Nat.reduceAdd, Nat.reduceMul, Nat.reduceEqDiff, Nat.reduceLeDiff, reduceCtorEq, Int.reduceToNat]
  refine hK _ ?_; clear hK K
  refine AW.seq ?_
  by_cases c4 : l.length = l'.length
  case neg =>
    have b4 : ((l.length : Int) != (l'.length : Int)) = true := by simp; omega
    have HH : sameTs l l' = false := by
      rw [Bool.eq_false_iff, Ne, sameTs_iff]
      rintro rfl
      exact c4 rfl
    refine AW.rT (by rfl) fun K hK => ?_
    simp -implicitDefEqProofs only [go_sem, ↓reduceIte, Nat.reduceAdd, Nat.reduceMul, Nat.reduceEqDiff, Nat.reduceLeDiff, reduceCtorEq, Int.reduceToNat, b4, List.length_map]
    refine hK _ ?_; clear hK K
    refine AW.cond _ (by simp -implicitDefEqProofs only [go_sem, ↓reduceIte, Nat.reduceAdd, Nat.reduceMul, Nat.reduceEqDiff, Nat.reduceLeDiff, reduceCtorEq, Int.reduceToNat]; rfl) (fun hc => ?_) (fun hc => ?_)
    · refine AW.rT (by rfl) fun K hK => ?_
      simp -implicitDefEqProofs only [go_sem, ↓reduceIte, Nat.reduceAdd, Nat.reduceMul, Nat.reduceEqDiff, Nat.reduceLeDiff, reduceCtorEq, Int.reduceToNat]
      refine hK _ ?_; clear hK K
      refine AW.ret ?_
      simp -implicitDefEqProofs only [go_sem, ↓reduceIte, Nat.reduceAdd, Nat.reduceMul, Nat.reduceEqDiff, Nat.reduceLeDiff, reduceCtorEq, Int.reduceToNat, HH]
    · simp at hc
  have b4 : ((l.length : Int) != (l'.length : Int)) = false := by simp; omega
  refine AW.rT (by rfl) fun K hK => ?_
  simp -implicitDefEqProofs only [go_sem, ↓reduceIte, Nat.reduceAdd, Nat.reduceMul, Nat.reduceEqDiff, Nat.reduceLeDiff, reduceCtorEq, Int.reduceToNat, b4, List.length_map]
  refine hK _ ?_; clear hK K
  refine AW.cond _ (by simp -implicitDefEqProofs only [go_sem, ↓reduceIte, Nat.reduceAdd, Nat.reduceMul, Nat.reduceEqDiff, Nat.reduceLeDiff, reduceCtorEq, Int.reduceToNat]; rfl) (fun hc => ?_) (fun hc => ?_)
  · simp at hc
  refine AW.skip ?_
  simp only [andThen, inBlk, reduceCtorEq, ↓reduceIte, if_t, if_f]
  refine AW.seq ?_
  refine AW.rT (by rfl) fun K hK => ?_
  simp -implicitDefEqProofs only [go_sem, ↓reduceIte, Nat.reduceAdd, Nat.reduceMul, Nat.reduceEqDiff, Nat.reduceLeDiff, reduceCtorEq, Int.reduceToNat, List.length_map]
  refine hK _ ?_; clear hK K
  refine AW.block ?_
  refine AW.loop (qF l l') (fun i => i ≤ l.length ∧ sameTs l l' = sameTs (l.drop i) (l'.drop i)) (fun i => l.length - i) 0 ?_ ⟨by simp, by rw [List.drop_zero, List.drop_zero]⟩ fun i hi => ?_
  · simp only [qF, fnV]
    refine Ghost.sub ?_ ?_ <;> simp -implicitDefEqProofs only [go_sem, ↓reduceIte, Nat.reduceAdd, Nat.reduceMul, Nat.reduceEqDiff, Nat.reduceLeDiff, reduceCtorEq, Int.reduceToNat,  List.forall_mem_cons, List.not_mem_nil, false_implies, implies_true, and_self, labsIn_lift, List.all_append, List.all_cons, List.all_nil, Nat.reduceLT, labsInL, AV.labsIn]
    rfl
  obtain ⟨g1, g2⟩ := hi
  simp only [qF, fnV]
  by_cases hil : i < l.length
  · obtain ⟨x, hx⟩ : ∃ x, l[i]? = some x := ⟨_, List.getElem?_eq_getElem hil⟩
    obtain ⟨y, hy⟩ : ∃ y, l'[i]? = some y := ⟨_, List.getElem?_eq_getElem (by omega)⟩
    have ⟨hx1, hx2, hx3⟩ := at_map' encTr hx
    have ⟨hy1, hy2, hy3⟩ := at_map' encTr hy
    have hc1 : ((i : Int) < (l.length : Int)) = True := by simp; omega
    have hc1' : ((i : Int) < (l'.length : Int)) = True := by simp; omega
    have sK := sameTs_at hx hy
    have IH := ih i x y hx
    rw [encTr_eq, encTr_eq] at IH
    refine AW.rT (by rfl) fun K hK => ?_
    simp -implicitDefEqProofs only [go_sem, ↓reduceIte, Nat.reduceAdd, Nat.reduceMul, Nat.reduceEqDiff, Nat.reduceLeDiff, reduceCtorEq, Int.reduceToNat, hc1]
    refine hK _ ?_; clear hK K
    refine AW.seq ?_
    refine AW.cond _ (by simp -implicitDefEqProofs only [go_sem, ↓reduceIte, Nat.reduceAdd, Nat.reduceMul, Nat.reduceEqDiff, Nat.reduceLeDiff, reduceCtorEq, Int.reduceToNat]; rfl) (fun hc => ?_) (fun hc => ?_)
    rotate_left
    · simp at hc
    refine AW.skip ?_
    simp only [andThen, inBlk, reduceCtorEq, ↓reduceIte, if_t, if_f]
    refine AW.seq ?_
    refine AW.block ?_
    refine AW.rT (by rfl) fun K hK => ?_
    simp -implicitDefEqProofs only [go_sem, ↓reduceIte, Nat.reduceAdd, Nat.reduceMul, Nat.reduceEqDiff, Nat.reduceLeDiff, reduceCtorEq, Int.reduceToNat, hx1, hx2, hx3, hc1, encTr_eq, List.length_map]
    refine hK _ ?_; clear hK K
    refine AW.rT (by rfl) fun K hK => ?_
    simp -implicitDefEqProofs only [go_sem, ↓reduceIte, Nat.reduceAdd, Nat.reduceMul, Nat.reduceEqDiff, Nat.reduceLeDiff, reduceCtorEq, Int.reduceToNat, hy1, hy2, hy3, hc1', encTr_eq, List.length_map]
    refine hK _ ?_; clear hK K
    refine AW.rT (by rfl) fun K hK => ?_
    simp -implicitDefEqProofs only [go_sem, ↓reduceIte, Nat.reduceAdd, Nat.reduceMul, Nat.reduceEqDiff, Nat.reduceLeDiff, reduceCtorEq, Int.reduceToNat]
    refine ⟨.pure _, IH, ?_⟩
    try simp -implicitDefEqProofs only [go_sem, ↓reduceIte, Nat.reduceAdd, Nat.reduceMul, Nat.reduceEqDiff, Nat.reduceLeDiff, reduceCtorEq, Int.reduceToNat]
    refine hK _ ?_; clear hK K
    cases hq : sameT x y with
    | true =>
      rw [if_pos hq] at sK
      refine AW.cond _ (by simp -implicitDefEqProofs only [go_sem, ↓reduceIte, Nat.reduceAdd, Nat.reduceMul, Nat.reduceEqDiff, Nat.reduceLeDiff, reduceCtorEq, Int.reduceToNat]; rfl) (fun hc => ?_) (fun hc => ?_)
      · simp at hc
      refine AW.skip ?_
      simp only [andThen, inBlk, reduceCtorEq, ↓reduceIte, if_t, if_f]
      have w2 : IntKind.wrap .i64 ((i : Int) + 1) = ((i + 1 : Nat) : Int) := by rw [w64] <;> omega
      refine AW.rE (by rfl) fun K hK => ?_
      simp -implicitDefEqProofs only [go_sem, ↓reduceIte, Nat.reduceAdd, Nat.reduceMul, Nat.reduceEqDiff, Nat.reduceLeDiff, reduceCtorEq, Int.reduceToNat, w2]
      refine hK _ ?_; clear hK K
      refine ⟨i + 1, ⟨by omega, g2.trans sK⟩, by omega, ?_⟩
      refine Ghost.sub ?_ ?_ <;> simp -implicitDefEqProofs only [go_sem, ↓reduceIte, Nat.reduceAdd, Nat.reduceMul, Nat.reduceEqDiff, Nat.reduceLeDiff, reduceCtorEq, Int.reduceToNat,  List.forall_mem_cons, List.not_mem_nil, false_implies, implies_true, and_self, labsIn_lift, List.all_append, List.all_cons, List.all_nil, Nat.reduceLT, labsInL, AV.labsIn]
    | false =>
      rw [if_neg (by rw [hq]; simp)] at sK
      have HH := g2.trans sK
      refine AW.cond _ (by simp -implicitDefEqProofs only [go_sem, ↓reduceIte, Nat.reduceAdd, Nat.reduceMul, Nat.reduceEqDiff, Nat.reduceLeDiff, reduceCtorEq, Int.reduceToNat]; rfl) (fun hc => ?_) (fun hc => ?_)
      · refine AW.rT (by rfl) fun K hK => ?_
        simp -implicitDefEqProofs only [go_sem, ↓reduceIte, Nat.reduceAdd, Nat.reduceMul, Nat.reduceEqDiff, Nat.reduceLeDiff, reduceCtorEq, Int.reduceToNat]
        refine hK _ ?_; clear hK K
        refine AW.ret ?_
        simp -implicitDefEqProofs only [go_sem, ↓reduceIte, Nat.reduceAdd, Nat.reduceMul, Nat.reduceEqDiff, Nat.reduceLeDiff, reduceCtorEq, Int.reduceToNat, HH]
      · simp at hc
  have hc1 : ((i : Int) < (l.length : Int)) = False := by simp; omega
  rw [List.drop_of_length_le (by omega), List.drop_of_length_le (by omega), sameTs] at g2
  refine AW.rT (by rfl) fun K hK => ?_
  simp -implicitDefEqProofs only [go_sem, ↓reduceIte, Nat.reduceAdd, Nat.reduceMul, Nat.reduceEqDiff, Nat.reduceLeDiff, reduceCtorEq, Int.reduceToNat, hc1]
  refine hK _ ?_; clear hK K
  refine AW.seq ?_
  refine AW.cond _ (by simp -implicitDefEqProofs only [go_sem, ↓reduceIte, Nat.reduceAdd, Nat.reduceMul, Nat.reduceEqDiff, Nat.reduceLeDiff, reduceCtorEq, Int.reduceToNat]; rfl) (fun hc => ?_) (fun hc => ?_)
  · simp at hc
  refine AW.exit ?_
  simp only [andThen, inBlk, reduceCtorEq, ↓reduceIte, if_t, if_f]
  refine AW.rT (by rfl) fun K hK => ?_
  simp -implicitDefEqProofs only [go_sem, ↓reduceIte, Nat.reduceAdd, Nat.reduceMul, Nat.reduceEqDiff, Nat.reduceLeDiff, reduceCtorEq, Int.reduceToNat]
  refine hK _ ?_; clear hK K
  refine AW.ret ?_
  simp -implicitDefEqProofs only [go_sem, ↓reduceIte, Nat.reduceAdd, Nat.reduceMul, Nat.reduceEqDiff, Nat.reduceLeDiff, reduceCtorEq, Int.reduceToNat, g2]
def sameEn (e f : Int × List Tr) : Bool := decide (e.1 = f.1) && sameTs e.2 f.2
set_option maxRecDepth 100000 in
set_option maxHeartbeats 4000000 in
theorem value_Same1 (e f : Int × List Tr) (hl : e.2.length ≤ 1000) (ih : ∀ (k : Nat) x y, e.2[k]? = some x → PFn Try.prog 44 [.agg (encTr x), .agg (encTr y)] (.bool (sameT x y))) : PFn Try.prog 80 [.agg (encEn e), .agg (encEn f)] (.bool (sameEn e f)) := by
  have E1 := slices_EqualTs e.2 f.2 hl ih
  rw [fnV] at E1
  refine PFn.of Try.func80 rfl (by decide) Try.ntmps80 Try.results80 (Nat.le_of_ble_eq_true rfl) ?_
  simp only [argsT, encEn]
  refine AW.rT (by rfl) fun K hK => ?_
  simp -implicitDefEqProofs only [go_sem, ↓reduceIte, Nat.reduceAdd, Nat.reduceMul, Nat.reduceEqDiff, Nat.reduceLeDiff, reduceCtorEq, Int.reduceToNat]
  refine hK _ ?_; clear hK K
  have q1 : (e.1 == f.1) = decide (e.1 = f.1) := by by_cases h : e.1 = f.1 <;> simp [h]
  cases hd : decide (e.1 = f.1)
  · refine AW.rT (by rfl) fun K hK => ?_
    try simp -implicitDefEqProofs only [go_sem, ↓reduceIte, Nat.reduceAdd, Nat.reduceMul, Nat.reduceEqDiff, Nat.reduceLeDiff, reduceCtorEq, Int.reduceToNat, q1, hd]
    refine hK _ ?_; clear hK K
    refine AW.ret ?_
    try simp -implicitDefEqProofs only [go_sem, ↓reduceIte, Nat.reduceAdd, Nat.reduceMul, Nat.reduceEqDiff, Nat.reduceLeDiff, reduceCtorEq, Int.reduceToNat, sameEn, hd, Bool.false_and]
  · refine AW.rT (by rfl) fun K hK => ?_
    try simp -implicitDefEqProofs only [go_sem, ↓reduceIte, Nat.reduceAdd, Nat.reduceMul, Nat.reduceEqDiff, Nat.reduceLeDiff, reduceCtorEq, Int.reduceToNat, q1, hd]
    refine ⟨.pure _, E1, ?_⟩
    try simp -implicitDefEqProofs only [go_sem, ↓reduceIte, Nat.reduceAdd, Nat.reduceMul, Nat.reduceEqDiff, Nat.reduceLeDiff, reduceCtorEq, Int.reduceToNat]
    refine hK _ ?_; clear hK K
    refine AW.ret ?_
    try simp -implicitDefEqProofs only [go_sem, ↓reduceIte, Nat.reduceAdd, Nat.reduceMul, Nat.reduceEqDiff, Nat.reduceLeDiff, reduceCtorEq, Int.reduceToNat, sameEn, hd, Bool.true_and]
theorem sameE_at' {es es' : List (Int × List Tr)} {i : Nat} {e f : Int × List Tr} (he : es[i]? = some e) (hf : es'[i]? = some f) : sameE (es.drop i) (es'.drop i) = if sameEn e f = true then sameE (es.drop (i + 1)) (es'.drop (i + 1)) else false := by
  rw [sameE_at he hf]
  by_cases h : e.1 = f.1 ∧ e.2.length = f.2.length ∧ sameTs e.2 f.2 = true
  · rw [if_pos h, if_pos (by rw [sameEn, h.2.2]; simpa using h.1)]
  · rw [if_neg h, if_neg]
    intro h'
    rw [sameEn, Bool.and_eq_true, decide_eq_true_eq] at h'
    refine h ⟨h'.1, ?_, h'.2⟩
    rw [(sameTs_iff _ _).1 h'.2]
def qG (l l' : List (Int × List Tr)) (i : Nat) : St := ⟨ofL [(0, .p (.slice (l.map encEn))), (1, .p (.slice (l'.map encEn))), (2, .p (fnV 80)), (15, .p (.slice (l.map encEn))), (16, .p (.int .i64 (l.length : Int))), (17, .p (.int .i64 (i : Int)))], ofH [], 0⟩
set_option maxRecDepth 100000 in
set_option maxHeartbeats 4000000 in
theorem slices_EqualEs (l l' : List (Int × List Tr)) (hl : l.length ≤ 1000) (ih : ∀ (k : Nat) e f, l[k]? = some e → PFn Try.prog 80 [.agg (encEn e), .agg (encEn f)] (.bool (sameEn e f))) : PFn Try.prog 79 [.slice (l.map encEn), .slice (l'.map encEn), fnV 80] (.bool (sameE l l')) := by
  refine PFn.of Try.func79 rfl (by decide) Try.ntmps79 Try.results79 (Nat.le_of_ble_eq_true rfl) ?_
  simp only [argsT, fnV]
  refine AW.rT (by rfl) fun K hK => ?_
  simp -implicitDefEqProofs only [go_sem, ↓reduceIte, Nat.reduceAdd, Nat.reduceMul, Nat.reduceEqDiff, Nat.reduceLeDiff, reduceCtorEq, Int.reduceToNat]
  refine hK _ ?_; clear hK K
  refine AW.seq ?_
  by_cases c4 : l.length = l'.length
  case neg =>
    have b4 : ((l.length : Int) != (l'.length : Int)) = true := by simp; omega
    have HH : sameE l l' = false := by
      rw [Bool.eq_false_iff, Ne, sameE_iff]
      rintro rfl
      exact c4 rfl
    refine AW.rT (by rfl) fun K hK => ?_
    simp -implicitDefEqProofs only [go_sem, ↓reduceIte, Nat.reduceAdd, Nat.reduceMul, Nat.reduceEqDiff, Nat.reduceLeDiff, reduceCtorEq, Int.reduceToNat, b4, List.length_map]
    refine hK _ ?_; clear hK K
    refine AW.cond _ (by simp -implicitDefEqProofs only [go_sem, ↓reduceIte, Nat.reduceAdd, Nat.reduceMul, Nat.reduceEqDiff, Nat.reduceLeDiff, reduceCtorEq, Int.reduceToNat]; rfl) (fun hc => ?_) (fun hc => ?_)
    · refine AW.rT (by rfl) fun K hK => ?_
      simp -implicitDefEqProofs only [go_sem, ↓reduceIte, Nat.reduceAdd, Nat.reduceMul, Nat.reduceEqDiff, Nat.reduceLeDiff, reduceCtorEq, Int.reduceToNat]
      refine hK _ ?_; clear hK K
      refine AW.ret ?_
      simp -implicitDefEqProofs only [go_sem, ↓reduceIte, Nat.reduceAdd, Nat.reduceMul, Nat.reduceEqDiff, Nat.reduceLeDiff, reduceCtorEq, Int.reduceToNat, HH]
    · simp at hc
  have b4 : ((l.length : Int) != (l'.length : Int)) = false := by simp; omega
  refine AW.rT (by rfl) fun K hK => ?_
  simp -implicitDefEqProofs only [go_sem, ↓reduceIte, Nat.reduceAdd, Nat.reduceMul, Nat.reduceEqDiff, Nat.reduceLeDiff, reduceCtorEq, Int.reduceToNat, b4, List.length_map]
  refine hK _ ?_; clear hK K
  refine AW.cond _ (by simp -implicitDefEqProofs only [go_sem, ↓reduceIte, Nat.reduceAdd, Nat.reduceMul, Nat.reduceEqDiff, Nat.reduceLeDiff, reduceCtorEq, Int.reduceToNat]; rfl) (fun hc => ?_) (fun hc => ?_)
  · simp at hc
  refine AW.skip ?_
  simp only [andThen, inBlk, reduceCtorEq, ↓reduceIte, if_t, if_f]
  refine AW.seq ?_
  refine AW.rT (by rfl) fun K hK => ?_
  simp -implicitDefEqProofs only [go_sem, ↓reduceIte, Nat.reduceAdd, Nat.reduceMul, Nat.reduceEqDiff, Nat.reduceLeDiff, reduceCtorEq, Int.reduceToNat, List.length_map]
  refine hK _ ?_; clear hK K
  refine AW.block ?_
  refine AW.loop (qG l l') (fun i => i ≤ l.length ∧ sameE l l' = sameE (l.drop i) (l'.drop i)) (fun i => l.length - i) 0 ?_ ⟨by simp, by rw [List.drop_zero, List.drop_zero]⟩ fun i hi => ?_
  · simp only [qG, fnV]
    refine Ghost.sub ?_ ?_ <;> simp -implicitDefEqProofs only [go_sem, ↓reduceIte, Nat.reduceAdd, Nat.reduceMul, Nat.reduceEqDiff, Nat.reduceLeDiff, reduceCtorEq, Int.reduceToNat,  List.forall_mem_cons, List.not_mem_nil, false_implies, implies_true, and_self, labsIn_lift, List.all_append, List.all_cons, List.all_nil, Nat.reduceLT, labsInL, AV.labsIn]
    rfl
  obtain ⟨g1, g2⟩ := hi
  simp only [qG, fnV]
  by_cases hil : i < l.length
  · obtain ⟨x, hx⟩ : ∃ x, l[i]? = some x := ⟨_, List.getElem?_eq_getElem hil⟩
    obtain ⟨y, hy⟩ : ∃ y, l'[i]? = some y := ⟨_, List.getElem?_eq_getElem (by omega)⟩
    have ⟨hx1, hx2, hx3⟩ := at_map' encEn hx
    have ⟨hy1, hy2, hy3⟩ := at_map' encEn hy
    have hc1 : ((i : Int) < (l.length : Int)) = True := by simp; omega
    have hc1' : ((i : Int) < (l'.length : Int)) = True := by simp; omega
    have sK := sameE_at' hx hy
    have IH := ih i x y hx
    rw [encEn, encEn] at IH
    refine AW.rT (by rfl) fun K hK => ?_
    simp -implicitDefEqProofs only [go_sem, ↓reduceIte, Nat.reduceAdd, Nat.reduceMul, Nat.reduceEqDiff, Nat.reduceLeDiff, reduceCtorEq, Int.reduceToNat, hc1]
    refine hK _ ?_; clear hK K
    refine AW.seq ?_
    refine AW.cond _ (by simp -implicitDefEqProofs only [go_sem, ↓reduceIte, Nat.reduceAdd, Nat.reduceMul, Nat.reduceEqDiff, Nat.reduceLeDiff, reduceCtorEq, Int.reduceToNat]; rfl) (fun hc => ?_) (fun hc => ?_)
    rotate_left
    · simp at hc
    refine AW.skip ?_
    simp only [andThen, inBlk, reduceCtorEq, ↓reduceIte, if_t, if_f]
    refine AW.seq ?_
    refine AW.block ?_
    refine AW.rT (by rfl) fun K hK => ?_
    simp -implicitDefEqProofs only [go_sem, ↓reduceIte, Nat.reduceAdd, Nat.reduceMul, Nat.reduceEqDiff, Nat.reduceLeDiff, reduceCtorEq, Int.reduceToNat, hx1, hx2, hx3, hc1, encEn, List.length_map]
    refine hK _ ?_; clear hK K
    refine AW.rT (by rfl) fun K hK => ?_
    simp -implicitDefEqProofs only [go_sem, ↓reduceIte, Nat.reduceAdd, Nat.reduceMul, Nat.reduceEqDiff, Nat.reduceLeDiff, reduceCtorEq, Int.reduceToNat, hy1, hy2, hy3, hc1', encEn, List.length_map]
    refine hK _ ?_; clear hK K
    refine AW.rT (by rfl) fun K hK => ?_
    simp -implicitDefEqProofs only [go_sem, ↓reduceIte, Nat.reduceAdd, Nat.reduceMul, Nat.reduceEqDiff, Nat.reduceLeDiff, reduceCtorEq, Int.reduceToNat]
    refine ⟨.pure _, IH, ?_⟩
    try simp -implicitDefEqProofs only [go_sem, ↓reduceIte, Nat.reduceAdd, Nat.reduceMul, Nat.reduceEqDiff, Nat.reduceLeDiff, reduceCtorEq, Int.reduceToNat]
    refine hK _ ?_; clear hK K
    cases hq : sameEn x y with
    | true =>
      rw [if_pos hq] at sK
      refine AW.cond _ (by simp -implicitDefEqProofs only [go_sem, ↓reduceIte, Nat.reduceAdd, Nat.reduceMul, Nat.reduceEqDiff, Nat.reduceLeDiff, reduceCtorEq, Int.reduceToNat]; rfl) (fun hc => ?_) (fun hc => ?_)
      · simp at hc
      refine AW.skip ?_
      simp only [andThen, inBlk, reduceCtorEq, ↓reduceIte, if_t, if_f]
      have w2 : IntKind.wrap .i64 ((i : Int) + 1) = ((i + 1 : Nat) : Int) := by rw [w64] <;> omega
      refine AW.rE (by rfl) fun K hK => ?_
      simp -implicitDefEqProofs only [go_sem, ↓reduceIte, Nat.reduceAdd, Nat.reduceMul, Nat.reduceEqDiff, Nat.reduceLeDiff, reduceCtorEq, Int.reduceToNat, w2]
      refine hK _ ?_; clear hK K
      refine ⟨i + 1, ⟨by omega, g2.trans sK⟩, by omega, ?_⟩
      refine Ghost.sub ?_ ?_ <;> simp -implicitDefEqProofs only [go_sem, ↓reduceIte, Nat.reduceAdd, Nat.reduceMul, Nat.reduceEqDiff, Nat.reduceLeDiff, reduceCtorEq, Int.reduceToNat,  List.forall_mem_cons, List.not_mem_nil, false_implies, implies_true, and_self, labsIn_lift, List.all_append, List.all_cons, List.all_nil, Nat.reduceLT, labsInL, AV.labsIn]
    | false =>
      rw [if_neg (by rw [hq]; simp)] at sK
      have HH := g2.trans sK
      refine AW.cond _ (by simp -implicitDefEqProofs only [go_sem, ↓reduceIte, Nat.reduceAdd, Nat.reduceMul, Nat.reduceEqDiff, Nat.reduceLeDiff, reduceCtorEq, Int.reduceToNat]; rfl) (fun hc => ?_) (fun hc => ?_)
      · refine AW.rT (by rfl) fun K hK => ?_
        simp -implicitDefEqProofs only [go_sem, ↓reduceIte, Nat.reduceAdd, Nat.reduceMul, Nat.reduceEqDiff, Nat.reduceLeDiff, reduceCtorEq, Int.reduceToNat]
        refine hK _ ?_; clear hK K
        refine AW.ret ?_
        simp -implicitDefEqProofs only [go_sem, ↓reduceIte, Nat.reduceAdd, Nat.reduceMul, Nat.reduceEqDiff, Nat.reduceLeDiff, reduceCtorEq, Int.reduceToNat, HH]
      · simp at hc
  have hc1 : ((i : Int) < (l.length : Int)) = False := by simp; omega
  rw [List.drop_of_length_le (by omega), List.drop_of_length_le (by omega), sameE] at g2
  refine AW.rT (by rfl) fun K hK => ?_
  simp -implicitDefEqProofs only [go_sem, ↓reduceIte, Nat.reduceAdd, Nat.reduceMul, Nat.reduceEqDiff, Nat.reduceLeDiff, reduceCtorEq, Int.reduceToNat, hc1]
  refine hK _ ?_; clear hK K
  refine AW.seq ?_
  refine AW.cond _ (by simp -implicitDefEqProofs only [go_sem, ↓reduceIte, Nat.reduceAdd, Nat.reduceMul, Nat.reduceEqDiff, Nat.reduceLeDiff, reduceCtorEq, Int.reduceToNat]; rfl) (fun hc => ?_) (fun hc => ?_)
  · simp at hc
  refine AW.exit ?_
  simp only [andThen, inBlk, reduceCtorEq, ↓reduceIte, if_t, if_f]
  refine AW.rT (by rfl) fun K hK => ?_
  simp -implicitDefEqProofs only [go_sem, ↓reduceIte, Nat.reduceAdd, Nat.reduceMul, Nat.reduceEqDiff, Nat.reduceLeDiff, reduceCtorEq, Int.reduceToNat]
  refine hK _ ?_; clear hK K
  refine AW.ret ?_
  simp -implicitDefEqProofs only [go_sem, ↓reduceIte, Nat.reduceAdd, Nat.reduceMul, Nat.reduceEqDiff, Nat.reduceLeDiff, reduceCtorEq, Int.reduceToNat, g2]
set_option maxRecDepth 100000 in
set_option maxHeartbeats 4000000 in
theorem value_Same : ∀ (a b : Tr), lensT a = true → PFn Try.prog 44 [.agg (encTr a), .agg (encTr b)] (.bool (sameT a b)) := by
  intro a
  induction h : SizeOf.sizeOf a using Nat.strongRecOn generalizing a with
  | _ sz ih =>
  subst h
  intro b hlt
  obtain ⟨la1, la2, la3⟩ := lensT_mk hlt
  have sT := sameT_mk a b
  have E1 := slices_Equal a.rest b.rest la1
  have E2 := slices_EqualEs a.ents b.ents la2 fun i e f he => value_Same1 e f (lensE_at la3 he).1 fun k x y hx => ih _ (size_ent he hx) x rfl y (lensTs_at (lensE_at la3 he).2 hx)
  rw [fnV] at E2
  have q1 : (a.kind == b.kind) = decide (a.kind = b.kind) := by by_cases h : a.kind = b.kind <;> simp [h]
  have q2 : (a.n == b.n) = decide (a.n = b.n) := by by_cases h : a.n = b.n <;> simp [h]
  have q3 : (a.s == b.s) = decide (a.s = b.s) := by by_cases h : a.s = b.s <;> simp [h]
  have HH : sameT a b = (decide (a.kind = b.kind) && decide (a.n = b.n) && decide (a.s = b.s) && decide (a.rest = b.rest) && sameE a.ents b.ents) := by
    rw [sT]
    split
    · rename_i h
      obtain ⟨h1, h2, h3, h4, h5, h6⟩ := h
      simp [h1, h2, h3, h6]
    · rename_i h
      rw [eq_comm, Bool.eq_false_iff]
      intro h'
      simp only [Bool.and_eq_true, decide_eq_true_eq] at h'
      obtain ⟨⟨⟨⟨h1, h2⟩, h3⟩, h6⟩, h7⟩ := h'
      exact h ⟨h1, h2, h3, by rw [(sameE_iff _ _).1 h7], by rw [h6], h6⟩
  refine PFn.of Try.func44 rfl (by decide) Try.ntmps44 Try.results44 (Nat.le_of_ble_eq_true rfl) ?_
  simp only [argsT]
  refine AW.rT (by rfl) fun K hK => ?_
  simp -implicitDefEqProofs only [go_sem, ↓reduceIte, Nat.reduceAdd, Nat.reduceMul, Nat.reduceEqDiff, Nat.reduceLeDiff, reduceCtorEq, Int.reduceToNat, encTr_eq]
  refine hK _ ?_; clear hK K
  refine AW.rT (by rfl) fun K hK => ?_
  cases d1 : decide (a.kind = b.kind)
  · rw [d1] at HH
    try simp -implicitDefEqProofs only [go_sem, ↓reduceIte, Nat.reduceAdd, Nat.reduceMul, Nat.reduceEqDiff, Nat.reduceLeDiff, reduceCtorEq, Int.reduceToNat, q1, d1]
    refine hK _ ?_; clear hK K
    refine AW.ret ?_
    try simp -implicitDefEqProofs only [go_sem, ↓reduceIte, Nat.reduceAdd, Nat.reduceMul, Nat.reduceEqDiff, Nat.reduceLeDiff, reduceCtorEq, Int.reduceToNat, HH, Bool.false_and]
  cases d2 : decide (a.n = b.n)
  · rw [d1, d2] at HH
    try simp -implicitDefEqProofs only [go_sem, ↓reduceIte, Nat.reduceAdd, Nat.reduceMul, Nat.reduceEqDiff, Nat.reduceLeDiff, reduceCtorEq, Int.reduceToNat, q1, d1, q2, d2]
    refine hK _ ?_; clear hK K
    refine AW.ret ?_
    try simp -implicitDefEqProofs only [go_sem, ↓reduceIte, Nat.reduceAdd, Nat.reduceMul, Nat.reduceEqDiff, Nat.reduceLeDiff, reduceCtorEq, Int.reduceToNat, HH, Bool.false_and, Bool.true_and]
  cases d3 : decide (a.s = b.s)
  · rw [d1, d2, d3] at HH
    try simp -implicitDefEqProofs only [go_sem, ↓reduceIte, Nat.reduceAdd, Nat.reduceMul, Nat.reduceEqDiff, Nat.reduceLeDiff, reduceCtorEq, Int.reduceToNat, q1, d1, q2, d2, q3, d3]
    refine hK _ ?_; clear hK K
    refine AW.ret ?_
    try simp -implicitDefEqProofs only [go_sem, ↓reduceIte, Nat.reduceAdd, Nat.reduceMul, Nat.reduceEqDiff, Nat.reduceLeDiff, reduceCtorEq, Int.reduceToNat, HH, Bool.false_and, Bool.true_and]
  cases d4 : decide (a.rest = b.rest)
  · rw [d1, d2, d3, d4] at HH
    rw [d4] at E1
    try simp -implicitDefEqProofs only [go_sem, ↓reduceIte, Nat.reduceAdd, Nat.reduceMul, Nat.reduceEqDiff, Nat.reduceLeDiff, reduceCtorEq, Int.reduceToNat, q1, d1, q2, d2, q3, d3]
    refine ⟨.pure _, E1, ?_⟩
    try simp -implicitDefEqProofs only [go_sem, ↓reduceIte, Nat.reduceAdd, Nat.reduceMul, Nat.reduceEqDiff, Nat.reduceLeDiff, reduceCtorEq, Int.reduceToNat]
    refine hK _ ?_; clear hK K
    refine AW.ret ?_
    try simp -implicitDefEqProofs only [go_sem, ↓reduceIte, Nat.reduceAdd, Nat.reduceMul, Nat.reduceEqDiff, Nat.reduceLeDiff, reduceCtorEq, Int.reduceToNat, HH, Bool.false_and, Bool.true_and]
  · rw [d1, d2, d3, d4] at HH
    rw [d4] at E1
    try simp -implicitDefEqProofs only [go_sem, ↓reduceIte, Nat.reduceAdd, Nat.reduceMul, Nat.reduceEqDiff, Nat.reduceLeDiff, reduceCtorEq, Int.reduceToNat, q1, d1, q2, d2, q3, d3]
    refine ⟨.pure _, E1, ?_⟩
    try simp -implicitDefEqProofs only [go_sem, ↓reduceIte, Nat.reduceAdd, Nat.reduceMul, Nat.reduceEqDiff, Nat.reduceLeDiff, reduceCtorEq, Int.reduceToNat]
    refine ⟨.pure _, E2, ?_⟩
    try simp -implicitDefEqProofs only [go_sem, ↓reduceIte, Nat.reduceAdd, Nat.reduceMul, Nat.reduceEqDiff, Nat.reduceLeDiff, reduceCtorEq, Int.reduceToNat]
    refine hK _ ?_; clear hK K
    refine AW.ret ?_
    try simp -implicitDefEqProofs only [go_sem, ↓reduceIte, Nat.reduceAdd, Nat.reduceMul, Nat.reduceEqDiff, Nat.reduceLeDiff, reduceCtorEq, Int.reduceToNat, HH, Bool.false_and, Bool.true_and]
end Go.Aw
