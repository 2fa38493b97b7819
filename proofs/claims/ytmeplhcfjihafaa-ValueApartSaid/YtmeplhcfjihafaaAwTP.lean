/- Trees changed in one place. -/
import Derived.Test.YtmeplhcfjihafaaAwTA
namespace Go.Aw
open Go.Proofs Go.RowKit
set_option linter.unusedSimpArgs false
set_option linter.unusedVariables false
theorem ofInt_wrap (y : BitVec 64) : BitVec.ofInt 64 (IntKind.wrap .i64 (y.toNat : Int)) = y := by
  have e : (2 : Int) ^ 64 = 18446744073709551616 := by decide
  have e' : (2 : Int) ^ (64 - 1) = 9223372036854775808 := by decide
  have hy := y.isLt
  apply BitVec.eq_of_toNat_eq
  rw [BitVec.toNat_ofInt]
  simp only [IntKind.wrap, IntKind.bits, IntKind.signed, e, e', Bool.true_and, decide_eq_true_eq]
  split <;> omega
theorem xor1_ne (n : Int) : xorI .i64 n 1 ≠ n := by
  intro h
  unfold xorI at h
  have h2 := congrArg (BitVec.ofInt 64) h
  rw [show IntKind.bits .i64 = 64 from rfl] at h2
  rw [ofInt_wrap] at h2
  have h3 : BitVec.ofInt 64 n ^^^ (BitVec.ofInt 64 n ^^^ BitVec.ofInt 64 1) = BitVec.ofInt 64 n ^^^ BitVec.ofInt 64 n := by rw [h2]
  rw [← BitVec.xor_assoc, BitVec.xor_self, BitVec.zero_xor] at h3
  revert h3
  decide
theorem lensTs_iff : ∀ {l : List Tr}, lensTs l = true ↔ ∀ x ∈ l, lensT x = true
  | [] => by simp [lensTs]
  | x :: l => by rw [lensTs, Bool.and_eq_true, lensTs_iff]; simp
theorem lensE_iff : ∀ {es : List (Int × List Tr)}, lensE es = true ↔ ∀ e ∈ es, e.2.length ≤ 1000 ∧ lensTs e.2 = true
  | [] => by simp [lensE]
  | (g, l) :: es => by
    rw [lensE, Bool.and_eq_true, Bool.and_eq_true, decide_eq_true_eq, lensE_iff]
    simp
theorem lens_set {t : Tr} (h : lensT t = true) {a : Nat} {g : Int} {l : List Tr} {r : List Raw} (hl : l.length ≤ 1000) (hs : lensTs l = true) (hr : r.length ≤ 1000) : lensT (.mk t.kind t.n t.s (t.ents.set a (g, l)) r) = true := by
  obtain ⟨_, h2, h3⟩ := lensT_mk h
  rw [lensT, Bool.and_eq_true, Bool.and_eq_true, decide_eq_true_eq, decide_eq_true_eq, List.length_set]
  refine ⟨⟨hr, h2⟩, lensE_iff.2 fun e he => ?_⟩
  rcases List.mem_or_eq_of_mem_set he with he | rfl
  · exact lensE_iff.1 h3 e he
  · exact ⟨hl, hs⟩
theorem smallE_len : ∀ {es : List (Int × List Tr)} {deep n : Nat}, (smallE es deep n).1 = true → ∀ e ∈ es, e.2.length ≤ 70
  | [], deep, n, _, e, he => by cases he
  | (g, l) :: es, deep, n, h, e, he => by
    rw [smallE] at h
    split at h
    · cases h
    · split at h
      · rename_i h1 h2; rw [h2] at h; cases h
      · rcases List.mem_cons.1 he with rfl | he
        · simp only; omega
        · exact smallE_len h e he
theorem small_top {t : Tr} (h : smallB t = true) : t.rest.length ≤ 40 ∧ ∀ e ∈ t.ents, e.2.length ≤ 70 := by
  cases t with
  | mk k n s es r =>
    unfold smallB at h
    rw [smallT] at h
    split at h
    · cases h
    · split at h
      · cases h
      · exact ⟨by show r.length ≤ 40; omega, smallE_len h⟩
theorem rowE_set {t : Tr} {a : Nat} {g g' : Int} {l : Nat} (h : a < t.ents.length) : (rowE t a g l t.ents.length).set a [.p (.int .i64 g'), .own l] = rowE t a g' l t.ents.length := by
  unfold rowE
  rw [if_neg (by omega), if_neg (by omega)]
  have hl : (liftE ((t.ents.take a).map encEn)).length = a := by rw [liftE_length, List.length_map, List.length_take]; omega
  rw [List.set_append_right a _ (by omega), hl, Nat.sub_self, List.set_cons_zero]
theorem rowE_shutG {t : Tr} {a : Nat} {g : Int} {l : Nat} {ls : List Tr} (h : a < t.ents.length) : (rowE t a g l t.ents.length).map (fun x => x.map (thaw1 l (ls.map encTr))) = liftE ((t.ents.set a (g, ls)).map encEn) := by
  unfold rowE
  rw [if_neg (by omega), List.map_append, List.map_cons, thaw_lift, thaw_lift, List.take_length, List.set_eq_take_append_cons_drop, if_pos h]
  simp [thaw1, encEn, liftE_append, liftE_cons]
theorem rowE_at {t : Tr} {a : Nat} {g : Int} {l : Nat} (h : a < t.ents.length) : (rowE t a g l t.ents.length)[a]? = some [.p (.int .i64 g), .own l] := by
  unfold rowE
  rw [if_neg (by omega), List.getElem?_append_right (by rw [liftE_length, List.length_map, List.length_take]; omega), liftE_length, List.length_map, List.length_take, Nat.min_eq_left (by omega), Nat.sub_self]
  rfl
def vsZ (t u : Tr) : St := ⟨ofL [(3, .ptr 0 0 0), (7, .ptr 1 0 0)], ofH [(0, .row 5 [cellsT t]), (1, .row 5 [cellsT u])], 5⟩
def vsG (t : Tr) (a : Nat) (g : Int) (R3 R4 : List (List AV)) : St := ⟨ofL [(3, .ptr 0 0 0), (7, .ptr 1 0 0)], ofH [(0, .row 5 [cellsT t]), (1, .row 5 [[.p (.int .i64 t.kind), .p (.int .i64 t.n), .p (.str t.s), .own 2, .own 3]]), (2, .row 2 (rowE t a g 4 t.ents.length)), (3, .row 4 R3), (4, .row 5 R4)], 5⟩
def vsG1 (t : Tr) (es : List (Int × List Tr)) (R3 : List (List AV)) : St := ⟨ofL [(3, .ptr 0 0 0), (7, .ptr 1 0 0)], ofH [(0, .row 5 [cellsT t]), (1, .row 5 [[.p (.int .i64 t.kind), .p (.int .i64 t.n), .p (.str t.s), .own 2, .own 3]]), (2, .row 2 (liftE (es.map encEn))), (3, .row 4 R3)], 5⟩
def vsG2 (t : Tr) (es : List (Int × List Tr)) (r : List Raw) : St := ⟨ofL [(3, .ptr 0 0 0), (7, .ptr 1 0 0)], ofH [(0, .row 5 [cellsT t]), (1, .row 5 [[.p (.int .i64 t.kind), .p (.int .i64 t.n), .p (.str t.s), .own 2, .p (.slice (r.map encRaw))]]), (2, .row 2 (liftE (es.map encEn)))], 5⟩
theorem vs_shut {nt : Fm} {t : Tr} {a : Nat} {g : Int} {ls : List Tr} {r : List Raw} {R3 R4 : List (List AV)} (ha : a < t.ents.length) (h3 : unlift R3 = some (r.map encRaw)) (h4 : unlift R4 = some (ls.map encTr)) (t3 : ∀ lb qs, R3.map (fun e => e.map (thaw1 lb qs)) = R3) (l3 : R3.all (labsInL 5) = true) :
    Ghost nt (vsG t a g R3 R4) (vsZ t (.mk t.kind t.n t.s (t.ents.set a (g, ls)) r)) := by
  refine Ghost.trans (s' := vsG1 t (t.ents.set a (g, ls)) R3) (Ghost.trans (Ghost.freeze (lb := 4) (sz := 5) (ps := ls.map encTr) rfl h4) ?_) (Ghost.trans (s' := vsG2 t (t.ents.set a (g, ls)) r) (Ghost.trans (Ghost.freeze (lb := 3) (sz := 4) (ps := r.map encRaw) rfl h3) ?_) (Ghost.trans (Ghost.freeze (lb := 2) (sz := 2) (ps := (t.ents.set a (g, ls)).map encEn) rfl (unlift_liftE _)) ?_))
  · simp only [vsG, vsG1, cellsT]
    refine Ghost.sub ?_ ?_ <;> simp -implicitDefEqProofs only [go_sem, ↓reduceIte, Nat.reduceAdd, Nat.reduceMul, Nat.reduceEqDiff, Nat.reduceLeDiff, reduceCtorEq, Int.reduceToNat, thaw, thaw1, Option.map_some, List.map_cons, List.map_nil, thaw_lift, rowE_shutG ha, t3, l3, List.forall_mem_cons, List.not_mem_nil, false_implies, implies_true, and_self, labsIn_lift, List.all_append, List.all_cons, List.all_nil, Nat.reduceLT, labsInL, AV.labsIn]
    done
  · simp only [vsG1, vsG2, cellsT]
    refine Ghost.sub ?_ ?_ <;> simp -implicitDefEqProofs only [go_sem, ↓reduceIte, Nat.reduceAdd, Nat.reduceMul, Nat.reduceEqDiff, Nat.reduceLeDiff, reduceCtorEq, Int.reduceToNat, thaw, thaw1, Option.map_some, List.map_cons, List.map_nil, thaw_lift, List.forall_mem_cons, List.not_mem_nil, false_implies, implies_true, and_self, labsIn_lift, List.all_append, List.all_cons, List.all_nil, Nat.reduceLT, labsInL, AV.labsIn]
    done
  · simp only [vsG2, vsZ, cellsT, Tr.kind, Tr.n, Tr.s, Tr.ents, Tr.rest]
    refine Ghost.sub ?_ ?_ <;> simp -implicitDefEqProofs only [go_sem, ↓reduceIte, Nat.reduceAdd, Nat.reduceMul, Nat.reduceEqDiff, Nat.reduceLeDiff, reduceCtorEq, Int.reduceToNat, thaw, thaw1, Option.map_some, List.map_cons, List.map_nil, thaw_lift, List.forall_mem_cons, List.not_mem_nil, false_implies, implies_true, and_self, labsIn_lift, List.all_append, List.all_cons, List.all_nil, Nat.reduceLT, labsInL, AV.labsIn]
    done
end Go.Aw
