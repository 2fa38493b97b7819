/- Of: a tree whose entries and whose first entry's trees are lent. -/
import Derived.Test.YtmeplhcfjihafaaAwTM
namespace Go.Aw
open Go.Proofs Go.RowKit
set_option linter.unusedSimpArgs false
set_option linter.unusedVariables false
def cellsM (t : Tr) : List AV := [.p (.int .i64 t.kind), .p (.int .i64 t.n), .p (.str t.s), .own 0, .p (.slice (t.rest.map encRaw))]
def ofS (t : Tr) (e : Int × List Tr) (m : List (Nat × AV)) (n : Nat) : St := ⟨ofL ((0, .agg (cellsM t)) :: (1, .ptr 2 0 0) :: (2, .ptr 3 0 0) :: (3, .p (.bool false)) :: m), ofH (hM t e [(2, .row 5 [cellsM t]), (3, .row 1 [[.p (.cst .nilIface)]])]), n⟩
def ofE (t : Tr) (e : Int × List Tr) : St := ⟨ofL [(0, .agg (cellsM t)), (2, .ptr 2 0 0), (3, .p (.bool true))], ofH (hM t e [(2, .row 1 [[.p (encV t)]])]), 3⟩
set_option maxRecDepth 100000 in
set_option maxHeartbeats 4000000 in
theorem Of_D (t : Tr) (hlt : lensT t = true) (hk : t.kind = 3) (ok : okT t = true) (e : Int × List Tr) (he0 : t.ents[0]? = some e) :
    DFn Try.prog 50 [.agg [.p (.int .i64 t.kind), .p (.int .i64 t.n), .p (.str t.s), .own 0, .p (.slice (t.rest.map encRaw))]] (hM t e []) 2 [0] (.tuple [.p (.agg [encV t]), .p (.bool true)]) (hN t e) 1 := by
  have E1 := value_Check t hlt
  have E2 := made_D t hlt hk e he0
  rw [encTr_eq] at E1
  rw [ok] at E1
  have rl := rowE_len t 0 e.1 1 t.ents.length (Nat.le_refl _)
  have hal : 0 < t.ents.length := (List.getElem?_eq_some_iff.1 he0).1
  have u2 : unlift (vsE t 0 e) = some (t.ents.map encEn) := by unfold vsE; rw [rowE_full he0]; exact unlift_liftE _
  refine DFn.of [0] Try.func50 rfl (by decide) Try.ntmps50 Try.results50 (Nat.le_of_ble_eq_true rfl) (by simp) fun val => ?_
  simp only [avT, hM]
  refine AW.rT (by rfl) fun K hK => ?_
  simp -implicitDefEqProofs only [go_sem, ↓reduceIte, Nat.reduceAdd, Nat.reduceMul, Nat.reduceEqDiff, Nat.reduceLeDiff, reduceCtorEq, Int.reduceToNat]
  refine hK _ ?_; clear hK K
  refine AW.seq ?_
  refine AW.rR (SeqR.ev 1 (by rfl) (by decide) ?_)
  simp -implicitDefEqProofs only [go_sem, ↓reduceIte, Nat.reduceAdd, Nat.reduceMul, Nat.reduceEqDiff, Nat.reduceLeDiff, reduceCtorEq, Int.reduceToNat]
  refine SeqR.ghost (s' := ofS t e [(4, .agg (cellsM t))] 6) ?_ ?_
  · simp only [ofS, cellsM, hM]
    refine Ghost.sub ?_ ?_ <;> simp -implicitDefEqProofs only [go_sem, ↓reduceIte, Nat.reduceAdd, Nat.reduceMul, Nat.reduceEqDiff, Nat.reduceLeDiff, reduceCtorEq, Int.reduceToNat, rowE_labs t 0 e.1 1 t.ents.length 6 (by decide), List.forall_mem_cons, List.not_mem_nil, false_implies, implies_true, and_self, labsIn_lift, List.all_append, List.all_cons, List.all_nil, Nat.reduceLT, labsInL, AV.labsIn]
    done
  simp only [ofS, cellsM, hM]
  refine SeqR.look (s0 := ⟨ofL [(4, .p (.agg [.int .i64 t.kind, .int .i64 t.n, .str t.s, .slice (t.ents.map encEn), .slice (t.rest.map encRaw)]))], ofH [], 6⟩) (Ghost.trans (Ghost.freeze (lb := 1) (sz := 5) (ps := e.2.map encTr) rfl (unlift_liftE _)) (Ghost.trans (s' := ⟨ofL [(4, .agg (cellsM t))], ofH [(0, .row 2 (vsE t 0 e))], 6⟩) ?_ (Ghost.trans (Ghost.freeze (lb := 0) (sz := 2) (ps := t.ents.map encEn) rfl u2) ?_))) rfl rfl rfl ?_ E1 rfl ?_
  · simp only [cellsM]
    refine Ghost.sub ?_ ?_ <;> simp -implicitDefEqProofs only [go_sem, ↓reduceIte, Nat.reduceAdd, Nat.reduceMul, Nat.reduceEqDiff, Nat.reduceLeDiff, reduceCtorEq, Int.reduceToNat, thaw, thaw1, mkAgg, allP, Option.map_some, List.map_cons, List.map_nil, thaw_lift, rowE_shut hal, vsE_eq he0, List.forall_mem_cons, List.not_mem_nil, false_implies, implies_true, and_self, labsIn_lift, List.all_append, List.all_cons, List.all_nil, Nat.reduceLT, labsInL, AV.labsIn]
    done
  · simp only [cellsM]
    refine Ghost.sub ?_ ?_ <;> simp -implicitDefEqProofs only [go_sem, ↓reduceIte, Nat.reduceAdd, Nat.reduceMul, Nat.reduceEqDiff, Nat.reduceLeDiff, reduceCtorEq, Int.reduceToNat, thaw, thaw1, mkAgg, allP, Option.map_some, List.map_cons, List.map_nil, thaw_lift, vsE_eq he0, List.forall_mem_cons, List.not_mem_nil, false_implies, implies_true, and_self, labsIn_lift, List.all_append, List.all_cons, List.all_nil, Nat.reduceLT, labsInL, AV.labsIn]
    done
  · simp -implicitDefEqProofs only [go_sem, ↓reduceIte, Nat.reduceAdd, Nat.reduceMul, Nat.reduceEqDiff, Nat.reduceLeDiff, reduceCtorEq, Int.reduceToNat, List.map_cons, List.map_nil]
    done
  refine SeqR.ev 1 (by rfl) (by decide) ?_
  simp -implicitDefEqProofs only [go_sem, ↓reduceIte, Nat.reduceAdd, Nat.reduceMul, Nat.reduceEqDiff, Nat.reduceLeDiff, reduceCtorEq, Int.reduceToNat]
  refine SeqR.last rfl ?_
  refine AW.cond _ (by simp -implicitDefEqProofs only [go_sem, ↓reduceIte, Nat.reduceAdd, Nat.reduceMul, Nat.reduceEqDiff, Nat.reduceLeDiff, reduceCtorEq, Int.reduceToNat]; rfl) (fun hc => ?_) (fun hc => ?_)
  · simp at hc
  refine AW.skip ?_
  simp only [andThen, inBlk, reduceCtorEq, ↓reduceIte, if_t, if_f]
  refine AW.ghost (s' := ofS t e [] 8) ?_ ?_
  · simp only [ofS, cellsM, hM]
    refine Ghost.sub ?_ ?_ <;> simp -implicitDefEqProofs only [go_sem, ↓reduceIte, Nat.reduceAdd, Nat.reduceMul, Nat.reduceEqDiff, Nat.reduceLeDiff, reduceCtorEq, Int.reduceToNat, rowE_labs t 0 e.1 1 t.ents.length 8 (by decide), List.forall_mem_cons, List.not_mem_nil, false_implies, implies_true, and_self, labsIn_lift, List.all_append, List.all_cons, List.all_nil, Nat.reduceLT, labsInL, AV.labsIn]
    done
  simp only [ofS, cellsM, hM]
  refine AW.rR (SeqR.ev 1 (by rfl) (by decide) ?_)
  simp -implicitDefEqProofs only [go_sem, ↓reduceIte, Nat.reduceAdd, Nat.reduceMul, Nat.reduceEqDiff, Nat.reduceLeDiff, reduceCtorEq, Int.reduceToNat]
  refine SeqR.call (fun k => k) rfl rfl E2 ⟨?_, rfl, ?_, rfl, rfl, rfl, rfl, rfl, ?_⟩ ?_
  · simp -implicitDefEqProofs only [go_sem, ↓reduceIte, Nat.reduceAdd, Nat.reduceMul, Nat.reduceEqDiff, Nat.reduceLeDiff, reduceCtorEq, Int.reduceToNat, argD]
    done
  · simp only [hM]
    simp -implicitDefEqProofs only [go_sem, ↓reduceIte, Nat.reduceAdd, Nat.reduceMul, Nat.reduceEqDiff, Nat.reduceLeDiff, reduceCtorEq, Int.reduceToNat, List.forall_mem_cons, List.not_mem_nil, false_implies, implies_true, and_self, labsIn_lift, map_renL_lift, rowE_ren, rowE_labs t 0 e.1 1 t.ents.length 2 (by decide)]
    exact ⟨by decide, by decide⟩
  · have h2 := labsBy_lift (p := fun l => ([0] : List Nat).contains l || decide (2 ≤ l)) (sz := 5) (es := e.2.map encTr)
    have h3 := rowE_by (p := fun l => ([0] : List Nat).contains l || decide (2 ≤ l)) t 0 e.1 2 t.ents.length rfl
    simp only [hN, List.all_cons, List.all_nil, h2, h3]
    rfl
  refine SeqR.ev 2 (by rfl) (by decide) ?_
  simp -implicitDefEqProofs only [go_sem, ↓reduceIte, Nat.reduceAdd, Nat.reduceMul, Nat.reduceEqDiff, Nat.reduceLeDiff, reduceCtorEq, Int.reduceToNat, hM, hN, goneU, newU, lift2, Nat.reduceSub, rowE_ren]
  refine ⟨encV_one t, by simp, ?_⟩
  try simp -implicitDefEqProofs only [go_sem, ↓reduceIte, Nat.reduceAdd, Nat.reduceMul, Nat.reduceEqDiff, Nat.reduceLeDiff, reduceCtorEq, Int.reduceToNat]
  refine SeqR.last rfl ?_
  refine AW.ghost (s' := ofE t e) ?_ ?_
  · simp only [ofE, cellsM, hM, hN]
    refine Ghost.ent (fun l => if l = 1 then 9 else if l = 2 then 3 else l) ?_ ?_ ?_ <;> simp -implicitDefEqProofs only [go_sem, ↓reduceIte, Nat.reduceAdd, Nat.reduceMul, Nat.reduceEqDiff, Nat.reduceLeDiff, reduceCtorEq, Int.reduceToNat, lift2, goneU, newU, Nat.reduceSub, rowE_ren, rowE_labs t 0 e.1 1 t.ents.length 3 (by decide), List.forall_mem_cons, List.not_mem_nil, false_implies, implies_true, and_self, map_renL_lift, labsIn_lift, List.all_append, List.all_cons, List.all_nil, List.map_append, Nat.reduceLT, labsInL, AV.labsIn]
    all_goals first | rfl | decide | skip
  simp only [ofE, hM]
  refine AW.ret ⟨fun k => if k = 2 then 1 else k, [.p (.agg [encV t]), .p (.bool true)], ⟨?_, ?_, trivial⟩, rfl, rfl, ?_, ?_, ?_⟩
  · simp -implicitDefEqProofs only [go_sem, ↓reduceIte, Nat.reduceAdd, Nat.reduceMul, Nat.reduceEqDiff, Nat.reduceLeDiff, reduceCtorEq, Int.reduceToNat]
    done
  · simp -implicitDefEqProofs only [go_sem, ↓reduceIte, Nat.reduceAdd, Nat.reduceMul, Nat.reduceEqDiff, Nat.reduceLeDiff, reduceCtorEq, Int.reduceToNat]
    done
  · simp -implicitDefEqProofs only [go_sem, ↓reduceIte, Nat.reduceAdd, Nat.reduceMul, Nat.reduceEqDiff, Nat.reduceLeDiff, reduceCtorEq, Int.reduceToNat, hN, List.forall_mem_cons, List.not_mem_nil, false_implies, implies_true, and_self, labsIn_lift, map_renL_lift, rowE_ren, rowE_labs t 0 e.1 2 t.ents.length 3 (by decide)]
    exact ⟨by decide, by decide⟩
  · simp [hN]
  · intro l hl
    have : l = 0 := by simpa using hl
    subst this
    refine ⟨by decide, .inr (.inr ⟨0, 3, cellsM t, cellsM t, 2, _, _, by simp, rfl, rfl, ?_, rfl, rfl, rfl, ?_, ?_⟩)⟩
    · simp -implicitDefEqProofs only [go_sem, ↓reduceIte, Nat.reduceAdd, Nat.reduceMul, Nat.reduceEqDiff, Nat.reduceLeDiff, reduceCtorEq, Int.reduceToNat, cellsM]
      done
    all_goals
      intro h
      have rl := rowE_len t 0 e.1 1 t.ents.length (Nat.le_refl _)
      have rl2 := rowE_len t 0 e.1 2 t.ents.length (Nat.le_refl _)
      first | rw [h] at rl | (rw [h] at rl2; have rl := rl2)
      simp at rl
      omega
end Go.Aw
