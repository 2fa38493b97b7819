/- Fields on a wire: order, checks, contracts. -/
import Derived.Test.YtmeplhcfjihafaaAwG1
import Derived.Laws.StructEq
import Derived.Tactics
import Derived.Laws.Small
import Derived.KernelRfl
import Derived.ChangeCalls
/- The wire's values, and the laws' small helpers. -/
namespace Go.Aw
open Go.Proofs
set_option linter.unusedSimpArgs false
set_option linter.unusedVariables false
structure Raw where
  tag : Int
  wire : Int
  n : Int
  b : List UInt8
deriving DecidableEq
def encRaw (r : Raw) : List PV := [.int .i64 r.tag, .int .i64 r.wire, .int .i64 r.n, .str r.b]
def i64ok (n : Int) : Prop := (Lit.int .i64 n).wf = true
def rawOK (r : Raw) : Prop := i64ok r.tag ∧ i64ok r.wire ∧ i64ok r.n ∧ r.b.length ≤ maxLen
theorem i64ok_iff {n : Int} : i64ok n ↔ -9223372036854775808 ≤ n ∧ n ≤ 9223372036854775807 := by
  have e1 : IntKind.i64.min = -9223372036854775808 := by decide
  have e2 : IntKind.i64.max = 9223372036854775807 := by decide
  simp [i64ok, Lit.wf, e1, e2]
theorem rep_raw {w : World} {I : Nat → Prop} {u : Value} {r : Raw} (h : rep w I u (.agg (encRaw r))) : u = .agg #[.int .i64 r.tag, .int .i64 r.wire, .int .i64 r.n, .string ⟨⟨r.b⟩⟩] := by
  cases h with
  | agg hs hr =>
  rename_i vs
  have hs4 : vs.size = 4 := by rw [hs]; rfl
  have h0 := hr 0 _ _ (Array.getElem?_eq_getElem (by omega)) rfl
  have h1 := hr 1 _ _ (Array.getElem?_eq_getElem (by omega)) rfl
  have h2 := hr 2 _ _ (Array.getElem?_eq_getElem (by omega)) rfl
  have h3 := hr 3 _ _ (Array.getElem?_eq_getElem (by omega)) rfl
  generalize e0 : vs[0] = v0 at h0
  generalize e1 : vs[1] = v1 at h1
  generalize e2 : vs[2] = v2 at h2
  generalize e3 : vs[3] = v3 at h3
  cases h0; cases h1; cases h2; cases h3
  congr 1
  apply Array.ext
  · rw [hs4]; rfl
  · intro i hi hi'
    have : i < 4 := by simpa using hi'
    match i, this with
    | 0, _ => exact e0
    | 1, _ => exact e1
    | 2, _ => exact e2
    | 3, _ => exact e3
theorem eq28 (x y : Raw) (w : World) : (Op.equalIn 10000 28 (.agg #[.int .i64 x.tag, .int .i64 x.wire, .int .i64 x.n, .string ⟨⟨x.b⟩⟩]) (.agg #[.int .i64 y.tag, .int .i64 y.wire, .int .i64 y.n, .string ⟨⟨y.b⟩⟩])).run Try.prog w = .ok (decide (x = y)) w := by
  have u3 := Try.underlying3
  have u9 := Try.underlying9
  have a3 := Try.isAgg3
  have a9 := Try.isAgg9
  have z3 := Try.sizeOf3
  have z9 := Try.sizeOf9
  have hS : Try.prog.underlying 28 = some (.struct (Try.prog.fieldsOf 28)) := by kernel_rfl
  have hp : Try.prog.stoodInHeld 28 = false := by kernel_rfl
  rw [show (10000 : Nat) = 9999 + 1 from rfl, run_equalIn_agg w 9999 28 _ _ hS hp]
  simp only [Program.fieldsOf, Try.underlying28]
  go_simp
  obtain ⟨a1, a2, a3, a4⟩ := x
  obtain ⟨b1, b2, b3, b4⟩ := y
  simp only [Raw.mk.injEq]
  by_cases h1 : a1 = b1 <;> by_cases h2 : a2 = b2 <;> by_cases h3 : a3 = b3 <;> by_cases h4 : a4 = b4 <;> simp [h1, h2, h3, h4]
theorem eqP_raw (x y : Raw) : EqP Try.prog 28 (.agg (encRaw x)) (.agg (encRaw y)) (decide (x = y)) := by
  intro w I u v hu hv
  rw [rep_raw hu, rep_raw hv]
  refine ⟨?_, ?_, fun op a b => run_eqGuard_agg _ op 28 a b _ _ (by kernel_rfl)⟩
  · rw [run_eql_struct, eq28]; rfl
  · rw [run_neq_struct, eq28]; rfl

def smallL (l : List Raw) : Bool := l.all (fun r => decide (r.b.length ≤ 5000)) && decide (l.length ≤ 60)
theorem law04_small (l : List Raw) (hl : l.length ≤ maxLen) : PFn Try.prog 24 [.slice (l.map encRaw)] (.bool (smallL l)) := by
  have hm : maxLen = 9223372036854775807 := by decide
  refine PFn.of Try.func24 rfl (by decide) Try.ntmps24 Try.results24 (Nat.le_of_ble_eq_true rfl) ?_
  simp only [argsT]
  refine AW.rT (by rfl) fun K hK => ?_
  simp -implicitDefEqProofs only [go_sem, ↓reduceIte, Nat.reduceAdd, Nat.reduceMul, Nat.reduceEqDiff, Nat.reduceLeDiff, reduceCtorEq, Int.reduceToNat]
  refine hK _ ?_; clear hK K
  refine AW.seq ?_
  refine AW.rT (by rfl) fun K hK => ?_
  simp -implicitDefEqProofs only [go_sem, ↓reduceIte, Nat.reduceAdd, Nat.reduceMul, Nat.reduceEqDiff, Nat.reduceLeDiff, reduceCtorEq, Int.reduceToNat]
  refine hK _ ?_; clear hK K
  refine AW.block ?_
  refine AW.loop (α := Nat) (fun i => ⟨ofL [(0, .p (.slice (l.map encRaw))), (3, .p (.int .i64 (i : Int)))], ofH [], 0⟩) (fun i => (l.take i).all (fun r => decide (r.b.length ≤ 5000)) = true ∧ i ≤ l.length) (fun i => l.length - i) 0 ?_ (by simp) fun i hi => ?_
  · refine Ghost.sub ?_ ?_ <;> simp -implicitDefEqProofs only [go_sem, ↓reduceIte, Nat.reduceAdd, Nat.reduceMul, Nat.reduceEqDiff, Nat.reduceLeDiff, reduceCtorEq, Int.reduceToNat,  List.forall_mem_cons, List.not_mem_nil, false_implies, implies_true, and_self, labsIn_lift, List.all_append, List.all_cons, List.all_nil, Nat.reduceLT, labsInL, AV.labsIn]
    simp
  obtain ⟨hi, hil⟩ := hi
  refine AW.seq ?_
  refine AW.rT (by rfl) fun K hK => ?_
  simp -implicitDefEqProofs only [go_sem, ↓reduceIte, Nat.reduceAdd, Nat.reduceMul, Nat.reduceEqDiff, Nat.reduceLeDiff, reduceCtorEq, Int.reduceToNat]
  refine hK _ ?_; clear hK K
  refine AW.cond _ (by simp -implicitDefEqProofs only [go_sem, ↓reduceIte, Nat.reduceAdd, Nat.reduceMul, Nat.reduceEqDiff, Nat.reduceLeDiff, reduceCtorEq, Int.reduceToNat]; rfl) (fun hc => ?_) (fun hc => ?_)
  · refine AW.skip ?_
    simp only [andThen]
    simp at hc
    refine AW.seq ?_
    refine AW.block ?_
    obtain ⟨a, ha⟩ : ∃ a, l[i]? = some a := ⟨_, List.getElem?_eq_getElem (by omega)⟩
    have ⟨ha1, ha2, ha3⟩ := at_map' encRaw ha
    have hta : l.take (i + 1) = l.take i ++ [a] := by rw [List.take_add_one, ha]; rfl
    refine AW.rT (by rfl) fun K hK => ?_
    simp -implicitDefEqProofs only [go_sem, ↓reduceIte, Nat.reduceAdd, Nat.reduceMul, Nat.reduceEqDiff, Nat.reduceLeDiff, reduceCtorEq, Int.reduceToNat, ha1, ha2, ha3, encRaw]
    refine hK _ ?_; clear hK K
    refine AW.cond _ (by simp -implicitDefEqProofs only [go_sem, ↓reduceIte, Nat.reduceAdd, Nat.reduceMul, Nat.reduceEqDiff, Nat.reduceLeDiff, reduceCtorEq, Int.reduceToNat]; rfl) (fun hc => ?_) (fun hc => ?_)
    · simp at hc
      refine AW.rT (by rfl) fun K hK => ?_
      simp -implicitDefEqProofs only [go_sem, ↓reduceIte, Nat.reduceAdd, Nat.reduceMul, Nat.reduceEqDiff, Nat.reduceLeDiff, reduceCtorEq, Int.reduceToNat]
      refine hK _ ?_; clear hK K
      refine AW.ret ?_
      simp -implicitDefEqProofs only [go_sem, ↓reduceIte, Nat.reduceAdd, Nat.reduceMul, Nat.reduceEqDiff, Nat.reduceLeDiff, reduceCtorEq, Int.reduceToNat]
      have : smallL l = false := by
        unfold smallL
        have : l.all (fun r => decide (r.b.length ≤ 5000)) = false := by
          rw [List.all_eq_false]
          exact ⟨a, List.mem_of_getElem? ha, by simp; omega⟩
        simp [this]
      rw [this]
    · refine AW.skip ?_
      simp only [andThen, inBlk, reduceCtorEq, ↓reduceIte, if_t, if_f]
      simp at hc
      have w2 : IntKind.wrap .i64 ((i : Int) + 1) = ((i + 1 : Nat) : Int) := by rw [w64] <;> omega
      refine AW.rE (by rfl) fun K hK => ?_
      simp -implicitDefEqProofs only [go_sem, ↓reduceIte, Nat.reduceAdd, Nat.reduceMul, Nat.reduceEqDiff, Nat.reduceLeDiff, reduceCtorEq, Int.reduceToNat, w2]
      refine hK _ ?_; clear hK K
      refine ⟨i + 1, ⟨?_, by omega⟩, by omega, ?_⟩
      · rw [hta, List.all_append, hi]; simp; omega
      · refine Ghost.sub ?_ ?_ <;> simp -implicitDefEqProofs only [go_sem, ↓reduceIte, Nat.reduceAdd, Nat.reduceMul, Nat.reduceEqDiff, Nat.reduceLeDiff, reduceCtorEq, Int.reduceToNat,  List.forall_mem_cons, List.not_mem_nil, false_implies, implies_true, and_self, labsIn_lift, List.all_append, List.all_cons, List.all_nil, Nat.reduceLT, labsInL, AV.labsIn]
  · refine AW.exit ?_
    simp -implicitDefEqProofs only [go_sem, ↓reduceIte, Nat.reduceAdd, Nat.reduceMul, Nat.reduceEqDiff, Nat.reduceLeDiff, reduceCtorEq, Int.reduceToNat]
    simp at hc
    refine AW.rT (by rfl) fun K hK => ?_
    simp -implicitDefEqProofs only [go_sem, ↓reduceIte, Nat.reduceAdd, Nat.reduceMul, Nat.reduceEqDiff, Nat.reduceLeDiff, reduceCtorEq, Int.reduceToNat]
    refine hK _ ?_; clear hK K
    refine AW.ret ?_
    simp -implicitDefEqProofs only [go_sem, ↓reduceIte, Nat.reduceAdd, Nat.reduceMul, Nat.reduceEqDiff, Nat.reduceLeDiff, reduceCtorEq, Int.reduceToNat]
    have : i = l.length := by omega
    subst this
    rw [List.take_length] at hi
    have e : decide (((l.map encRaw).length : Int) ≤ 60) = decide (l.length ≤ 60) := by
      rw [List.length_map]; exact decide_eq_decide.2 (by omega)
    simp only [smallL, hi, Bool.true_and, e]
def place (v n : Int) : Int := let k := v.tmod n; if k < 0 then k + n else k
theorem law00_Place (v n : Int) (hv : i64ok v) (hn : 0 < n) (hn' : i64ok n) : PFn Try.prog 26 [.int .i64 v, .int .i64 n] (.int .i64 (place v n)) := by
  refine PFn.of Try.func26 rfl (by decide) Try.ntmps26 Try.results26 (Nat.le_of_ble_eq_true rfl) ?_
  simp only [argsT]
  refine AW.rT (by rfl) fun K hK => ?_
  simp -implicitDefEqProofs only [go_sem, ↓reduceIte, Nat.reduceAdd, Nat.reduceMul, Nat.reduceEqDiff, Nat.reduceLeDiff, reduceCtorEq, Int.reduceToNat]
  refine hK _ ?_; clear hK K
  have h0 : (n = 0) = False := by simp; omega
  refine AW.rT (by rfl) fun K hK => ?_
  simp -implicitDefEqProofs only [go_sem, ↓reduceIte, Nat.reduceAdd, Nat.reduceMul, Nat.reduceEqDiff, Nat.reduceLeDiff, reduceCtorEq, Int.reduceToNat, h0]
  refine hK _ ?_; clear hK K
  have hm1 : -n < v.tmod n ∧ v.tmod n < n := by
    refine ⟨?_, Int.tmod_lt_of_pos v hn⟩
    have := Int.lt_tmod_of_pos v hn
    omega
  have hn2 := (i64ok_iff.1 hn').2
  refine AW.seq ?_
  refine AW.rT (by rfl) fun K hK => ?_
  simp -implicitDefEqProofs only [go_sem, ↓reduceIte, Nat.reduceAdd, Nat.reduceMul, Nat.reduceEqDiff, Nat.reduceLeDiff, reduceCtorEq, Int.reduceToNat]
  refine hK _ ?_; clear hK K
  refine AW.cond _ (by simp -implicitDefEqProofs only [go_sem, ↓reduceIte, Nat.reduceAdd, Nat.reduceMul, Nat.reduceEqDiff, Nat.reduceLeDiff, reduceCtorEq, Int.reduceToNat]; rfl) (fun hc => ?_) (fun hc => ?_)
  · simp at hc
    have w2 : IntKind.wrap .i64 (v.tmod n + n) = v.tmod n + n := by rw [w64] <;> omega
    refine AW.rE (by rfl) fun K hK => ?_
    simp -implicitDefEqProofs only [go_sem, ↓reduceIte, Nat.reduceAdd, Nat.reduceMul, Nat.reduceEqDiff, Nat.reduceLeDiff, reduceCtorEq, Int.reduceToNat, w2]
    refine hK _ ?_; clear hK K
    simp only [andThen, inBlk, reduceCtorEq, ↓reduceIte, if_t, if_f]
    refine AW.rT (by rfl) fun K hK => ?_
    simp -implicitDefEqProofs only [go_sem, ↓reduceIte, Nat.reduceAdd, Nat.reduceMul, Nat.reduceEqDiff, Nat.reduceLeDiff, reduceCtorEq, Int.reduceToNat]
    refine hK _ ?_; clear hK K
    refine AW.ret ?_
    simp -implicitDefEqProofs only [go_sem, ↓reduceIte, Nat.reduceAdd, Nat.reduceMul, Nat.reduceEqDiff, Nat.reduceLeDiff, reduceCtorEq, Int.reduceToNat]
    simp [place, hc]
  · simp at hc
    refine AW.skip ?_
    simp only [andThen, inBlk, reduceCtorEq, ↓reduceIte, if_t, if_f]
    refine AW.rT (by rfl) fun K hK => ?_
    simp -implicitDefEqProofs only [go_sem, ↓reduceIte, Nat.reduceAdd, Nat.reduceMul, Nat.reduceEqDiff, Nat.reduceLeDiff, reduceCtorEq, Int.reduceToNat]
    refine hK _ ?_; clear hK K
    refine AW.ret ?_
    simp -implicitDefEqProofs only [go_sem, ↓reduceIte, Nat.reduceAdd, Nat.reduceMul, Nat.reduceEqDiff, Nat.reduceLeDiff, reduceCtorEq, Int.reduceToNat]
    simp only [place, if_neg (show ¬ v.tmod n < 0 by omega)]
theorem law00_Raws (l : List Raw) (hl : l.length ≤ 60) : PFn Try.prog 28 [.slice (l.map encRaw)] (.slice (l.map encRaw)) := by
  refine PFn.of Try.func28 rfl (by decide) Try.ntmps28 Try.results28 (Nat.le_of_ble_eq_true rfl) ?_
  simp only [argsT]
  refine AW.rT (by rfl) fun K hK => ?_
  simp -implicitDefEqProofs only [go_sem, ↓reduceIte, Nat.reduceAdd, Nat.reduceMul, Nat.reduceEqDiff, Nat.reduceLeDiff, reduceCtorEq, Int.reduceToNat]
  refine hK _ ?_; clear hK K
  refine AW.rT (by rfl) fun K hK => ?_
  simp -implicitDefEqProofs only [go_sem, ↓reduceIte, Nat.reduceAdd, Nat.reduceMul, Nat.reduceEqDiff, Nat.reduceLeDiff, reduceCtorEq, Int.reduceToNat]
  refine ⟨⟨?_, ?_, fun h => h.elim⟩, ⟨.inl trivial, (fun e he => nomatch he), ?_⟩, ?_⟩
  · exact liftE_len (by simp [encRaw])
  · exact liftE_one (by simp [encRaw, PV.one])
  · rw [liftE_length, List.length_map]; omega
  refine hK _ ?_; clear hK K
  refine AW.ret ?_
  simp -implicitDefEqProofs only [go_sem, ↓reduceIte, Nat.reduceAdd, Nat.reduceMul, Nat.reduceEqDiff, Nat.reduceLeDiff, reduceCtorEq, Int.reduceToNat]
theorem law00_SameRaws (a b : List Raw) (hl : a.length ≤ maxLen) : PFn Try.prog 29 [.slice (a.map encRaw), .slice (b.map encRaw)] (.bool (decide (a = b))) := by
  have hm : maxLen = 9223372036854775807 := by decide
  refine PFn.of Try.func29 rfl (by decide) Try.ntmps29 Try.results29 (Nat.le_of_ble_eq_true rfl) ?_
  simp only [argsT]
  refine AW.rT (by rfl) fun K hK => ?_
  simp -implicitDefEqProofs only [go_sem, ↓reduceIte, Nat.reduceAdd, Nat.reduceMul, Nat.reduceEqDiff, Nat.reduceLeDiff, reduceCtorEq, Int.reduceToNat]
  refine hK _ ?_; clear hK K
  refine AW.seq ?_
  refine AW.rT (by rfl) fun K hK => ?_
  simp -implicitDefEqProofs only [go_sem, ↓reduceIte, Nat.reduceAdd, Nat.reduceMul, Nat.reduceEqDiff, Nat.reduceLeDiff, reduceCtorEq, Int.reduceToNat]
  refine hK _ ?_; clear hK K
  refine AW.cond _ (by simp -implicitDefEqProofs only [go_sem, ↓reduceIte, Nat.reduceAdd, Nat.reduceMul, Nat.reduceEqDiff, Nat.reduceLeDiff, reduceCtorEq, Int.reduceToNat]; rfl) (fun hc => ?_) (fun hc => ?_)
  · simp at hc
    refine AW.rT (by rfl) fun K hK => ?_
    simp -implicitDefEqProofs only [go_sem, ↓reduceIte, Nat.reduceAdd, Nat.reduceMul, Nat.reduceEqDiff, Nat.reduceLeDiff, reduceCtorEq, Int.reduceToNat]
    refine hK _ ?_; clear hK K
    refine AW.ret ?_
    simp -implicitDefEqProofs only [go_sem, ↓reduceIte, Nat.reduceAdd, Nat.reduceMul, Nat.reduceEqDiff, Nat.reduceLeDiff, reduceCtorEq, Int.reduceToNat]
    have : a ≠ b := fun h => hc (by rw [h])
    simp [this]
  refine AW.skip ?_
  simp only [andThen, inBlk, reduceCtorEq, ↓reduceIte, if_t, if_f]
  simp at hc
  refine AW.seq ?_
  refine AW.rT (by rfl) fun K hK => ?_
  simp -implicitDefEqProofs only [go_sem, ↓reduceIte, Nat.reduceAdd, Nat.reduceMul, Nat.reduceEqDiff, Nat.reduceLeDiff, reduceCtorEq, Int.reduceToNat]
  refine hK _ ?_; clear hK K
  refine AW.block ?_
  refine AW.loop (α := Nat) (fun i => ⟨ofL [(0, .p (.slice (a.map encRaw))), (1, .p (.slice (b.map encRaw))), (5, .p (.int .i64 (i : Int)))], ofH [], 0⟩) (fun i => a.take i = b.take i ∧ i ≤ a.length) (fun i => a.length - i) 0 ?_ (by simp) fun i hi => ?_
  · refine Ghost.sub ?_ ?_ <;> simp -implicitDefEqProofs only [go_sem, ↓reduceIte, Nat.reduceAdd, Nat.reduceMul, Nat.reduceEqDiff, Nat.reduceLeDiff, reduceCtorEq, Int.reduceToNat,  List.forall_mem_cons, List.not_mem_nil, false_implies, implies_true, and_self, labsIn_lift, List.all_append, List.all_cons, List.all_nil, Nat.reduceLT, labsInL, AV.labsIn]
    simp
  obtain ⟨hi, hil⟩ := hi
  have hab := hc
  clear hc
  refine AW.seq ?_
  refine AW.rT (by rfl) fun K hK => ?_
  simp -implicitDefEqProofs only [go_sem, ↓reduceIte, Nat.reduceAdd, Nat.reduceMul, Nat.reduceEqDiff, Nat.reduceLeDiff, reduceCtorEq, Int.reduceToNat]
  refine hK _ ?_; clear hK K
  refine AW.cond _ (by simp -implicitDefEqProofs only [go_sem, ↓reduceIte, Nat.reduceAdd, Nat.reduceMul, Nat.reduceEqDiff, Nat.reduceLeDiff, reduceCtorEq, Int.reduceToNat]; rfl) (fun hc => ?_) (fun hc => ?_)
  · refine AW.skip ?_
    simp only [andThen]
    simp at hc
    refine AW.seq ?_
    refine AW.block ?_
    obtain ⟨x, hx⟩ : ∃ x, a[i]? = some x := ⟨_, List.getElem?_eq_getElem (by omega)⟩
    obtain ⟨y, hy⟩ : ∃ y, b[i]? = some y := ⟨_, List.getElem?_eq_getElem (by omega)⟩
    have ⟨hx1, hx2, hx3⟩ := at_map' encRaw hx
    have ⟨hy1, hy2, hy3⟩ := at_map' encRaw hy
    have ex : (encRaw x).length = 4 := rfl
    have ey : (encRaw y).length = 4 := rfl
    refine AW.dT mixed (by rfl) (by decide +kernel) fun K hK => ?_
    simp -implicitDefEqProofs only [go_sem, ↓reduceIte, Nat.reduceAdd, Nat.reduceMul, Nat.reduceEqDiff, Nat.reduceLeDiff, reduceCtorEq, Int.reduceToNat, hx1, hx2, hx3, hy1, hy2, hy3, ex, ey]
    refine ⟨_, eqP_raw x y, ?_⟩
    simp only [boolE]
    try simp -implicitDefEqProofs only [go_sem, ↓reduceIte, Nat.reduceAdd, Nat.reduceMul, Nat.reduceEqDiff, Nat.reduceLeDiff, reduceCtorEq, Int.reduceToNat]
    refine ⟨heapOK_nil rfl, ?_⟩
    refine hK _ ?_; clear hK K
    have ta : a.take (i + 1) = a.take i ++ [x] := by rw [List.take_add_one, hx]; rfl
    have tb : b.take (i + 1) = b.take i ++ [y] := by rw [List.take_add_one, hy]; rfl
    refine AW.cond _ (by simp -implicitDefEqProofs only [go_sem, ↓reduceIte, Nat.reduceAdd, Nat.reduceMul, Nat.reduceEqDiff, Nat.reduceLeDiff, reduceCtorEq, Int.reduceToNat]; rfl) (fun hc => ?_) (fun hc => ?_)
    · simp at hc
      refine AW.rT (by rfl) fun K hK => ?_
      simp -implicitDefEqProofs only [go_sem, ↓reduceIte, Nat.reduceAdd, Nat.reduceMul, Nat.reduceEqDiff, Nat.reduceLeDiff, reduceCtorEq, Int.reduceToNat]
      refine hK _ ?_; clear hK K
      refine AW.ret ?_
      simp -implicitDefEqProofs only [go_sem, ↓reduceIte, Nat.reduceAdd, Nat.reduceMul, Nat.reduceEqDiff, Nat.reduceLeDiff, reduceCtorEq, Int.reduceToNat]
      have : a ≠ b := fun h => hc (by rw [h, hy] at hx; injection hx with hx; exact hx.symm)
      simp [this]
    · simp at hc
      refine AW.skip ?_
      simp only [andThen, inBlk, reduceCtorEq, ↓reduceIte, if_t, if_f]
      have w2 : IntKind.wrap .i64 ((i : Int) + 1) = ((i + 1 : Nat) : Int) := by rw [w64] <;> omega
      refine AW.rE (by rfl) fun K hK => ?_
      simp -implicitDefEqProofs only [go_sem, ↓reduceIte, Nat.reduceAdd, Nat.reduceMul, Nat.reduceEqDiff, Nat.reduceLeDiff, reduceCtorEq, Int.reduceToNat, w2]
      refine hK _ ?_; clear hK K
      refine ⟨i + 1, ⟨by rw [ta, tb, hi, hc], by omega⟩, by omega, ?_⟩
      refine Ghost.sub ?_ ?_ <;> simp -implicitDefEqProofs only [go_sem, ↓reduceIte, Nat.reduceAdd, Nat.reduceMul, Nat.reduceEqDiff, Nat.reduceLeDiff, reduceCtorEq, Int.reduceToNat,  List.forall_mem_cons, List.not_mem_nil, false_implies, implies_true, and_self, labsIn_lift, List.all_append, List.all_cons, List.all_nil, Nat.reduceLT, labsInL, AV.labsIn]
  · refine AW.exit ?_
    simp -implicitDefEqProofs only [go_sem, ↓reduceIte, Nat.reduceAdd, Nat.reduceMul, Nat.reduceEqDiff, Nat.reduceLeDiff, reduceCtorEq, Int.reduceToNat]
    simp at hc
    refine AW.rT (by rfl) fun K hK => ?_
    simp -implicitDefEqProofs only [go_sem, ↓reduceIte, Nat.reduceAdd, Nat.reduceMul, Nat.reduceEqDiff, Nat.reduceLeDiff, reduceCtorEq, Int.reduceToNat]
    refine hK _ ?_; clear hK K
    refine AW.ret ?_
    simp -implicitDefEqProofs only [go_sem, ↓reduceIte, Nat.reduceAdd, Nat.reduceMul, Nat.reduceEqDiff, Nat.reduceLeDiff, reduceCtorEq, Int.reduceToNat]
    have h1 : i = a.length := by omega
    have : a = b := by
      subst h1
      rw [List.take_length, List.take_of_length_le (by omega)] at hi
      exact hi
    simp [this]
end Go.Aw
/- Fields put: wire.Check, vint.Put, vint.Zig. -/
namespace Go.Aw
open Go.Proofs
set_option linter.unusedSimpArgs false
set_option linter.unusedVariables false
def checkR (r : Raw) : Bool :=
  if r.tag < 1 ∨ 500 < r.tag then false else if r.wire = 0 then decide (r.b = []) else if r.wire = 1 then decide (r.n = 0) && decide (r.b.length ≤ 4096) else false
theorem wire_Check (r : Raw) : PFn Try.prog 35 [.agg (encRaw r)] (.bool (checkR r)) := by
  refine PFn.of Try.func35 rfl (by decide) Try.ntmps35 Try.results35 (Nat.le_of_ble_eq_true rfl) ?_
  simp only [argsT]
  refine AW.rT (by rfl) fun K hK => ?_
  simp -implicitDefEqProofs only [go_sem, ↓reduceIte, Nat.reduceAdd, Nat.reduceMul, Nat.reduceEqDiff, Nat.reduceLeDiff, reduceCtorEq, Int.reduceToNat, encRaw]
  refine hK _ ?_; clear hK K
  refine AW.seq ?_
  by_cases h1 : r.tag < 1
  · refine AW.rT (by rfl) fun K hK => ?_
    simp -implicitDefEqProofs only [go_sem, ↓reduceIte, Nat.reduceAdd, Nat.reduceMul, Nat.reduceEqDiff, Nat.reduceLeDiff, reduceCtorEq, Int.reduceToNat, h1]
    refine hK _ ?_; clear hK K
    refine AW.cond _ (by simp -implicitDefEqProofs only [go_sem, ↓reduceIte, Nat.reduceAdd, Nat.reduceMul, Nat.reduceEqDiff, Nat.reduceLeDiff, reduceCtorEq, Int.reduceToNat]; rfl) (fun hc => ?_) (fun hc => ?_)
    · refine AW.rT (by rfl) fun K hK => ?_
      simp -implicitDefEqProofs only [go_sem, ↓reduceIte, Nat.reduceAdd, Nat.reduceMul, Nat.reduceEqDiff, Nat.reduceLeDiff, reduceCtorEq, Int.reduceToNat]
      refine hK _ ?_; clear hK K
      refine AW.ret ?_
      simp -implicitDefEqProofs only [go_sem, ↓reduceIte, Nat.reduceAdd, Nat.reduceMul, Nat.reduceEqDiff, Nat.reduceLeDiff, reduceCtorEq, Int.reduceToNat]
      simp [checkR, h1]
    · simp at hc
  by_cases h2 : 500 < r.tag
  · refine AW.rT (by rfl) fun K hK => ?_
    simp -implicitDefEqProofs only [go_sem, ↓reduceIte, Nat.reduceAdd, Nat.reduceMul, Nat.reduceEqDiff, Nat.reduceLeDiff, reduceCtorEq, Int.reduceToNat, h1, h2]
    refine hK _ ?_; clear hK K
    refine AW.cond _ (by simp -implicitDefEqProofs only [go_sem, ↓reduceIte, Nat.reduceAdd, Nat.reduceMul, Nat.reduceEqDiff, Nat.reduceLeDiff, reduceCtorEq, Int.reduceToNat]; rfl) (fun hc => ?_) (fun hc => ?_)
    · refine AW.rT (by rfl) fun K hK => ?_
      simp -implicitDefEqProofs only [go_sem, ↓reduceIte, Nat.reduceAdd, Nat.reduceMul, Nat.reduceEqDiff, Nat.reduceLeDiff, reduceCtorEq, Int.reduceToNat]
      refine hK _ ?_; clear hK K
      refine AW.ret ?_
      simp -implicitDefEqProofs only [go_sem, ↓reduceIte, Nat.reduceAdd, Nat.reduceMul, Nat.reduceEqDiff, Nat.reduceLeDiff, reduceCtorEq, Int.reduceToNat]
      simp [checkR, h1, h2]
    · simp at hc
  refine AW.rT (by rfl) fun K hK => ?_
  simp -implicitDefEqProofs only [go_sem, ↓reduceIte, Nat.reduceAdd, Nat.reduceMul, Nat.reduceEqDiff, Nat.reduceLeDiff, reduceCtorEq, Int.reduceToNat, h1, h2]
  refine hK _ ?_; clear hK K
  refine AW.cond _ (by simp -implicitDefEqProofs only [go_sem, ↓reduceIte, Nat.reduceAdd, Nat.reduceMul, Nat.reduceEqDiff, Nat.reduceLeDiff, reduceCtorEq, Int.reduceToNat]; rfl) (fun hc => ?_) (fun hc => ?_)
  · simp at hc
  refine AW.skip ?_
  simp only [andThen, inBlk, reduceCtorEq, ↓reduceIte, if_t, if_f]
  refine AW.seq ?_
  refine AW.rT (by rfl) fun K hK => ?_
  simp -implicitDefEqProofs only [go_sem, ↓reduceIte, Nat.reduceAdd, Nat.reduceMul, Nat.reduceEqDiff, Nat.reduceLeDiff, reduceCtorEq, Int.reduceToNat]
  refine hK _ ?_; clear hK K
  refine AW.block ?_
  by_cases h3 : r.wire = 0
  · refine AW.rT (by rfl) fun K hK => ?_
    simp -implicitDefEqProofs only [go_sem, ↓reduceIte, Nat.reduceAdd, Nat.reduceMul, Nat.reduceEqDiff, Nat.reduceLeDiff, reduceCtorEq, Int.reduceToNat, h3]
    refine hK _ ?_; clear hK K
    refine AW.cond _ (by simp -implicitDefEqProofs only [go_sem, ↓reduceIte, Nat.reduceAdd, Nat.reduceMul, Nat.reduceEqDiff, Nat.reduceLeDiff, reduceCtorEq, Int.reduceToNat]; rfl) (fun hc => ?_) (fun hc => ?_)
    · refine AW.rT (by rfl) fun K hK => ?_
      simp -implicitDefEqProofs only [go_sem, ↓reduceIte, Nat.reduceAdd, Nat.reduceMul, Nat.reduceEqDiff, Nat.reduceLeDiff, reduceCtorEq, Int.reduceToNat]
      refine hK _ ?_; clear hK K
      refine AW.ret ?_
      simp -implicitDefEqProofs only [go_sem, ↓reduceIte, Nat.reduceAdd, Nat.reduceMul, Nat.reduceEqDiff, Nat.reduceLeDiff, reduceCtorEq, Int.reduceToNat]
      by_cases hb : r.b = [] <;> simp [checkR, h1, h2, h3, hb]
    · simp at hc
  have h3' := beqf h3
  refine AW.rT (by rfl) fun K hK => ?_
  simp -implicitDefEqProofs only [go_sem, ↓reduceIte, Nat.reduceAdd, Nat.reduceMul, Nat.reduceEqDiff, Nat.reduceLeDiff, reduceCtorEq, Int.reduceToNat, h3']
  refine hK _ ?_; clear hK K
  refine AW.cond _ (by simp -implicitDefEqProofs only [go_sem, ↓reduceIte, Nat.reduceAdd, Nat.reduceMul, Nat.reduceEqDiff, Nat.reduceLeDiff, reduceCtorEq, Int.reduceToNat]; rfl) (fun hc => ?_) (fun hc => ?_)
  · simp at hc
  by_cases h4 : r.wire = 1
  · refine AW.rT (by rfl) fun K hK => ?_
    simp -implicitDefEqProofs only [go_sem, ↓reduceIte, Nat.reduceAdd, Nat.reduceMul, Nat.reduceEqDiff, Nat.reduceLeDiff, reduceCtorEq, Int.reduceToNat, h4]
    refine hK _ ?_; clear hK K
    refine AW.cond _ (by simp -implicitDefEqProofs only [go_sem, ↓reduceIte, Nat.reduceAdd, Nat.reduceMul, Nat.reduceEqDiff, Nat.reduceLeDiff, reduceCtorEq, Int.reduceToNat]; rfl) (fun hc => ?_) (fun hc => ?_)
    · by_cases h5 : r.n = 0
      · refine AW.rT (by rfl) fun K hK => ?_
        simp -implicitDefEqProofs only [go_sem, ↓reduceIte, Nat.reduceAdd, Nat.reduceMul, Nat.reduceEqDiff, Nat.reduceLeDiff, reduceCtorEq, Int.reduceToNat, h5]
        refine hK _ ?_; clear hK K
        refine AW.ret ?_
        simp -implicitDefEqProofs only [go_sem, ↓reduceIte, Nat.reduceAdd, Nat.reduceMul, Nat.reduceEqDiff, Nat.reduceLeDiff, reduceCtorEq, Int.reduceToNat]
        simp [checkR, h1, h2, h3, h4, h5]
        omega
      · have h5' := beqf h5
        refine AW.rT (by rfl) fun K hK => ?_
        simp -implicitDefEqProofs only [go_sem, ↓reduceIte, Nat.reduceAdd, Nat.reduceMul, Nat.reduceEqDiff, Nat.reduceLeDiff, reduceCtorEq, Int.reduceToNat, h5']
        refine hK _ ?_; clear hK K
        refine AW.ret ?_
        simp -implicitDefEqProofs only [go_sem, ↓reduceIte, Nat.reduceAdd, Nat.reduceMul, Nat.reduceEqDiff, Nat.reduceLeDiff, reduceCtorEq, Int.reduceToNat]
        simp [checkR, h1, h2, h3, h4, h5]
    · simp at hc
  have h4' := beqf h4
  refine AW.rT (by rfl) fun K hK => ?_
  simp -implicitDefEqProofs only [go_sem, ↓reduceIte, Nat.reduceAdd, Nat.reduceMul, Nat.reduceEqDiff, Nat.reduceLeDiff, reduceCtorEq, Int.reduceToNat, h4']
  refine hK _ ?_; clear hK K
  refine AW.cond _ (by simp -implicitDefEqProofs only [go_sem, ↓reduceIte, Nat.reduceAdd, Nat.reduceMul, Nat.reduceEqDiff, Nat.reduceLeDiff, reduceCtorEq, Int.reduceToNat]; rfl) (fun hc => ?_) (fun hc => ?_)
  · simp at hc
  refine AW.skip ?_
  simp only [andThen, inBlk, reduceCtorEq, ↓reduceIte, if_t, if_f]
  refine AW.rT (by rfl) fun K hK => ?_
  simp -implicitDefEqProofs only [go_sem, ↓reduceIte, Nat.reduceAdd, Nat.reduceMul, Nat.reduceEqDiff, Nat.reduceLeDiff, reduceCtorEq, Int.reduceToNat]
  refine hK _ ?_; clear hK K
  refine AW.ret ?_
  simp -implicitDefEqProofs only [go_sem, ↓reduceIte, Nat.reduceAdd, Nat.reduceMul, Nat.reduceEqDiff, Nat.reduceLeDiff, reduceCtorEq, Int.reduceToNat]
  simp [checkR, h1, h2, h3, h4]
def encB (x : UInt8) : List PV := [.int .u8 (x.toNat : Int)]
def varint (v : Nat) : List UInt8 := if v < 128 then [UInt8.ofNat v] else UInt8.ofNat (v % 128 + 128) :: varint (v / 128)
theorem or128 (v : Nat) : orI .u8 (IntKind.wrap .u8 (v : Int)) 128 = ((UInt8.ofNat (v % 128 + 128)).toNat : Int) := by
  show IntKind.wrap .u8 (((BitVec.ofInt 8 (IntKind.wrap .u8 (v : Int)) ||| BitVec.ofInt 8 128).toNat : Nat) : Int) = _
  have e : (2 : Int) ^ 8 = 256 := by decide
  have h1 : IntKind.wrap .u8 (v : Int) = ((v % 256 : Nat) : Int) := by
    simp only [IntKind.wrap, IntKind.bits, IntKind.signed, e, Bool.false_and, Bool.false_eq_true, if_false]
    omega
  have h2 : v % 128 = v % 256 % 128 := by omega
  rw [h1, h2]
  have h3 : v % 256 < 256 := Nat.mod_lt _ (by decide)
  generalize v % 256 = m at h3
  have : ∀ m : Fin 256, (((BitVec.ofInt 8 ((m.val : Nat) : Int) ||| BitVec.ofInt 8 128).toNat : Nat) : Int) = ((UInt8.ofNat (m.val % 128 + 128)).toNat : Int) := by decide +kernel
  rw [this ⟨m, h3⟩]
  refine wu8 (by omega) ?_
  have := (UInt8.ofNat (m % 128 + 128)).toNat_lt
  show ((UInt8.ofNat (m % 128 + 128)).toNat : Int) < 256
  omega
theorem varint_len : ∀ (n v : Nat), v < 128 ^ n → 0 < n → (varint v).length ≤ n := by
  intro n
  induction n with
  | zero => intro v _ h; omega
  | succ n ih =>
    intro v hv _
    unfold varint
    split
    · simp
    · rename_i h
      have h2 : v / 128 < 128 ^ n := by
        rw [Nat.div_lt_iff_lt_mul (by decide)]
        rw [Nat.pow_succ] at hv; exact hv
      have h3 : 0 < n := by
        rcases Nat.eq_zero_or_pos n with h0 | h0
        · subst h0; simp at hv; omega
        · exact h0
      have := ih (v / 128) h2 h3
      simp; omega
def vS (b : List UInt8) (x : Bool × Nat × List UInt8) : St :=
  if x.1 then ⟨ofL [(0, .own 0), (1, .p (.int .u64 x.2.1))], ofH [(0, .row 1 (liftE (x.2.2.map encB)))], 1⟩
  else ⟨ofL [(0, .ex (b.map encB)), (1, .p (.int .u64 x.2.1))], ofH [], 0⟩
set_option maxRecDepth 100000 in
theorem vint_PutO (b : List UInt8) (v : Nat) (hv : v < 18446744073709551616) (hb : b.length ≤ 200000000000000) : OFn Try.prog 72 [.slice (b.map encB), .int .u64 v] 1 ((b ++ varint v).map encB) := by
  refine OFn.of Try.func72 rfl (by decide) Try.ntmps72 Try.results72 (Nat.le_of_ble_eq_true rfl) ?_
  simp only [argsT]
  refine AW.rT (by rfl) fun K hK => ?_
  simp -implicitDefEqProofs only [go_sem, ↓reduceIte, Nat.reduceAdd, Nat.reduceMul, Nat.reduceEqDiff, Nat.reduceLeDiff, reduceCtorEq, Int.reduceToNat]
  refine hK _ ?_; clear hK K
  refine AW.rT (by rfl) fun K hK => ?_
  simp -implicitDefEqProofs only [go_sem, ↓reduceIte, Nat.reduceAdd, Nat.reduceMul, Nat.reduceEqDiff, Nat.reduceLeDiff, reduceCtorEq, Int.reduceToNat, List.take_length]
  refine ⟨by simp [encB], by simp, by simp, ?_⟩
  refine hK _ ?_; clear hK K
  refine AW.seq ?_
  refine AW.block ?_
  refine AW.loop (vS b) (fun x => x.2.2 ++ varint x.2.1 = b ++ varint v ∧ x.2.1 ≤ v ∧ (x.1 = false → x.2.2 = b)) (fun x => x.2.1) (false, v, b) ?_ (by simp) fun x hx => ?_
  · simp only [vS, Bool.false_eq_true, if_false]
    refine Ghost.sub ?_ ?_ <;> simp -implicitDefEqProofs only [go_sem, ↓reduceIte, Nat.reduceAdd, Nat.reduceMul, Nat.reduceEqDiff, Nat.reduceLeDiff, reduceCtorEq, Int.reduceToNat,  List.forall_mem_cons, List.not_mem_nil, false_implies, implies_true, and_self, labsIn_lift, List.all_append, List.all_cons, List.all_nil, Nat.reduceLT, labsInL, AV.labsIn]
  obtain ⟨s, y, out⟩ := x
  obtain ⟨h1, h2, h4⟩ := hx
  dsimp only at h1 h2 h4
  have hl : out.length + (varint y).length ≤ b.length + 10 := by
    have := congrArg List.length h1
    have h10 := varint_len 10 v (by omega) (by decide)
    simp only [List.length_append] at this
    omega
  have e8 := or128 y
  have e7 : (y : Int).fdiv (2 ^ min 7 64) = ((y / 128 : Nat) : Int) := by
    rw [show (2 : Int) ^ min 7 64 = 128 from by decide, Int.fdiv_eq_ediv_of_nonneg _ (by decide)]
    omega
  refine AW.seq ?_
  cases s with
  | false =>
    have hb' := h4 rfl
    subst hb'
    simp only [vS, Bool.false_eq_true, if_false]
    refine AW.rT (by rfl) fun K hK => ?_
    simp -implicitDefEqProofs only [go_sem, ↓reduceIte, Nat.reduceAdd, Nat.reduceMul, Nat.reduceEqDiff, Nat.reduceLeDiff, reduceCtorEq, Int.reduceToNat]
    refine hK _ ?_; clear hK K
    refine AW.cond _ (by simp -implicitDefEqProofs only [go_sem, ↓reduceIte, Nat.reduceAdd, Nat.reduceMul, Nat.reduceEqDiff, Nat.reduceLeDiff, reduceCtorEq, Int.reduceToNat]; rfl) (fun hc => ?_) (fun hc => ?_)
    · refine AW.skip ?_
      simp only [andThen, inBlk, reduceCtorEq, ↓reduceIte, if_t, if_f]
      simp at hc
      refine AW.block ?_
      refine AW.rT (by rfl) fun K hK => ?_
      simp -implicitDefEqProofs only [go_sem, ↓reduceIte, Nat.reduceAdd, Nat.reduceMul, Nat.reduceEqDiff, Nat.reduceLeDiff, reduceCtorEq, Int.reduceToNat, e8]
      refine ⟨⟨by simp, by simp [oneAll, AV.one, PV.one], by simp⟩, ⟨by simp, by simp [encB], by simp; omega⟩, ?_⟩
      refine hK _ ?_; clear hK K
      have hv8 : varint y = UInt8.ofNat (y % 128 + 128) :: varint (y / 128) := by
        conv => lhs; unfold varint
        rw [if_neg (by omega)]
      refine AW.rE (by rfl) fun K hK => ?_
      simp -implicitDefEqProofs only [go_sem, ↓reduceIte, Nat.reduceAdd, Nat.reduceMul, Nat.reduceEqDiff, Nat.reduceLeDiff, reduceCtorEq, Int.reduceToNat, e7]
      refine hK _ ?_; clear hK K
      refine ⟨(true, y / 128, out ++ [UInt8.ofNat (y % 128 + 128)]), ⟨?_, ?_, fun h => by cases h⟩, ?_, ?_⟩
      · simp only [List.append_assoc, List.singleton_append, ← hv8, h1]
      · show y / 128 ≤ v
        omega
      · show y / 128 < y
        omega
      · simp only [vS, if_true]
        refine Ghost.ent (fun _ => 7) ?_ ?_ ?_ <;> simp -implicitDefEqProofs only [go_sem, ↓reduceIte, Nat.reduceAdd, Nat.reduceMul, Nat.reduceEqDiff, Nat.reduceLeDiff, reduceCtorEq, Int.reduceToNat, encB, List.map_append, liftE_append, liftE_cons, liftE_nil, List.forall_mem_cons, List.not_mem_nil, false_implies, implies_true, and_self, map_renL_lift, labsIn_lift, List.all_append, List.all_cons, List.all_nil, List.map_append, Nat.reduceLT, labsInL, AV.labsIn]
    · simp at hc
      refine AW.exit ?_
      simp only [andThen, inBlk, reduceCtorEq, ↓reduceIte, if_t, if_f]
      have hy : (y : Int) % 256 = y := by omega
      have hu : IntKind.wrap .u8 (y : Int) = ((UInt8.ofNat y).toNat : Int) := by
        rw [wu8 (by omega) (by omega)]
        simp; omega
      have hv8 : varint y = [UInt8.ofNat y] := by
        unfold varint
        rw [if_pos (by omega)]
      refine AW.rT (by rfl) fun K hK => ?_
      simp -implicitDefEqProofs only [go_sem, ↓reduceIte, Nat.reduceAdd, Nat.reduceMul, Nat.reduceEqDiff, Nat.reduceLeDiff, reduceCtorEq, Int.reduceToNat, hu]
      refine ⟨⟨by simp, by simp [oneAll, AV.one, PV.one], by simp⟩, ⟨by simp, by simp [encB], by simp; omega⟩, ?_⟩
      refine hK _ ?_; clear hK K
      refine AW.ret ⟨4, _, rfl, by simp -implicitDefEqProofs only [go_sem, ↓reduceIte, Nat.reduceAdd, Nat.reduceMul, Nat.reduceEqDiff, Nat.reduceLeDiff, reduceCtorEq, Int.reduceToNat]; rfl, ?_⟩
      rw [← h1, hv8]
      simp -implicitDefEqProofs only [go_sem, ↓reduceIte, Nat.reduceAdd, Nat.reduceMul, Nat.reduceEqDiff, Nat.reduceLeDiff, reduceCtorEq, Int.reduceToNat, List.map_append, liftE_append, liftE_cons, liftE_nil, encB]
  | true =>
    simp only [vS, if_true]
    refine AW.rT (by rfl) fun K hK => ?_
    simp -implicitDefEqProofs only [go_sem, ↓reduceIte, Nat.reduceAdd, Nat.reduceMul, Nat.reduceEqDiff, Nat.reduceLeDiff, reduceCtorEq, Int.reduceToNat]
    refine hK _ ?_; clear hK K
    refine AW.cond _ (by simp -implicitDefEqProofs only [go_sem, ↓reduceIte, Nat.reduceAdd, Nat.reduceMul, Nat.reduceEqDiff, Nat.reduceLeDiff, reduceCtorEq, Int.reduceToNat]; rfl) (fun hc => ?_) (fun hc => ?_)
    · refine AW.skip ?_
      simp only [andThen, inBlk, reduceCtorEq, ↓reduceIte, if_t, if_f]
      simp at hc
      refine AW.block ?_
      refine AW.rT (by rfl) fun K hK => ?_
      simp -implicitDefEqProofs only [go_sem, ↓reduceIte, Nat.reduceAdd, Nat.reduceMul, Nat.reduceEqDiff, Nat.reduceLeDiff, reduceCtorEq, Int.reduceToNat, e8]
      refine ⟨⟨by simp, by simp [oneAll, AV.one, PV.one], by simp⟩, by simp [liftE_length]; omega, ?_⟩
      refine hK _ ?_; clear hK K
      have hv8 : varint y = UInt8.ofNat (y % 128 + 128) :: varint (y / 128) := by
        conv => lhs; unfold varint
        rw [if_neg (by omega)]
      refine AW.rE (by rfl) fun K hK => ?_
      simp -implicitDefEqProofs only [go_sem, ↓reduceIte, Nat.reduceAdd, Nat.reduceMul, Nat.reduceEqDiff, Nat.reduceLeDiff, reduceCtorEq, Int.reduceToNat, e7]
      refine hK _ ?_; clear hK K
      refine ⟨(true, y / 128, out ++ [UInt8.ofNat (y % 128 + 128)]), ⟨?_, ?_, fun h => by cases h⟩, ?_, ?_⟩
      · simp only [List.append_assoc, List.singleton_append, ← hv8, h1]
      · show y / 128 ≤ v
        omega
      · show y / 128 < y
        omega
      · simp only [vS, if_true]
        refine Ghost.ent (fun _ => 8) ?_ ?_ ?_ <;> simp -implicitDefEqProofs only [go_sem, ↓reduceIte, Nat.reduceAdd, Nat.reduceMul, Nat.reduceEqDiff, Nat.reduceLeDiff, reduceCtorEq, Int.reduceToNat, encB, List.map_append, liftE_append, liftE_cons, liftE_nil, List.forall_mem_cons, List.not_mem_nil, false_implies, implies_true, and_self, map_renL_lift, labsIn_lift, List.all_append, List.all_cons, List.all_nil, List.map_append, Nat.reduceLT, labsInL, AV.labsIn]
    · simp at hc
      refine AW.exit ?_
      simp only [andThen, inBlk, reduceCtorEq, ↓reduceIte, if_t, if_f]
      have hy : (y : Int) % 256 = y := by omega
      have hu : IntKind.wrap .u8 (y : Int) = ((UInt8.ofNat y).toNat : Int) := by
        rw [wu8 (by omega) (by omega)]
        simp; omega
      have hv8 : varint y = [UInt8.ofNat y] := by
        unfold varint
        rw [if_pos (by omega)]
      refine AW.rT (by rfl) fun K hK => ?_
      simp -implicitDefEqProofs only [go_sem, ↓reduceIte, Nat.reduceAdd, Nat.reduceMul, Nat.reduceEqDiff, Nat.reduceLeDiff, reduceCtorEq, Int.reduceToNat, hu]
      refine ⟨⟨by simp, by simp [oneAll, AV.one, PV.one], by simp⟩, by simp [liftE_length]; omega, ?_⟩
      refine hK _ ?_; clear hK K
      refine AW.ret ⟨4, _, rfl, by simp -implicitDefEqProofs only [go_sem, ↓reduceIte, Nat.reduceAdd, Nat.reduceMul, Nat.reduceEqDiff, Nat.reduceLeDiff, reduceCtorEq, Int.reduceToNat]; rfl, ?_⟩
      rw [← h1, hv8]
      simp -implicitDefEqProofs only [go_sem, ↓reduceIte, Nat.reduceAdd, Nat.reduceMul, Nat.reduceEqDiff, Nat.reduceLeDiff, reduceCtorEq, Int.reduceToNat, List.map_append, liftE_append, liftE_cons, liftE_nil, encB]
theorem vint_Put (b : List UInt8) (v : Nat) (hv : v < 18446744073709551616) (hb : b.length ≤ 200000000000000) : PFn Try.prog 72 [.slice (b.map encB), .int .u64 v] (.slice ((b ++ varint v).map encB)) := (vint_PutO b v hv hb).pure
end Go.Aw
/- wire.Put of a number's field; awake. -/
namespace Go.Aw
open Go.Proofs
set_option linter.unusedSimpArgs false
set_option linter.unusedVariables false
def zigI (n : Int) : Int := xorI .u64 (IntKind.wrap .u64 (IntKind.wrap .u64 n * 2 ^ min 1 64)) (IntKind.wrap .u64 (n.fdiv (2 ^ min 63 64)))
theorem vint_Zig (n : Int) : PFn Try.prog 73 [.int .i64 n] (.int .u64 (zigI n)) := by
  refine PFn.of Try.func73 rfl (by decide) Try.ntmps73 Try.results73 (Nat.le_of_ble_eq_true rfl) ?_
  simp only [argsT]
  refine AW.rT (by rfl) fun K hK => ?_
  simp -implicitDefEqProofs only [go_sem, ↓reduceIte, Nat.reduceAdd, Nat.reduceMul, Nat.reduceEqDiff, Nat.reduceLeDiff, reduceCtorEq, Int.reduceToNat]
  refine hK _ ?_; clear hK K
  refine AW.rT (by rfl) fun K hK => ?_
  simp -implicitDefEqProofs only [go_sem, ↓reduceIte, Nat.reduceAdd, Nat.reduceMul, Nat.reduceEqDiff, Nat.reduceLeDiff, reduceCtorEq, Int.reduceToNat]
  refine hK _ ?_; clear hK K
  refine AW.ret ?_
  simp -implicitDefEqProofs only [go_sem, ↓reduceIte, Nat.reduceAdd, Nat.reduceMul, Nat.reduceEqDiff, Nat.reduceLeDiff, reduceCtorEq, Int.reduceToNat]
  rfl
theorem u64_range (x : Int) : 0 ≤ IntKind.wrap .u64 x ∧ IntKind.wrap .u64 x < 18446744073709551616 := by
  have e : (2 : Int) ^ 64 = 18446744073709551616 := by decide
  simp only [IntKind.wrap, IntKind.bits, IntKind.signed, e, Bool.false_and, Bool.false_eq_true, if_false]
  omega
def zigN (n : Int) : Nat := (zigI n).toNat
theorem zigI_nat (n : Int) : zigI n = (zigN n : Int) ∧ zigN n < 18446744073709551616 := by
  have := u64_range (((BitVec.ofInt 64 (IntKind.wrap .u64 (IntKind.wrap .u64 n * 2 ^ min 1 64)) ^^^ BitVec.ofInt 64 (IntKind.wrap .u64 (n.fdiv (2 ^ min 63 64)))).toNat : Nat) : Int)
  have h : 0 ≤ zigI n ∧ zigI n < 18446744073709551616 := this
  unfold zigN
  omega
def keyR (r : Raw) : Nat := (2 * r.tag + r.wire).toNat
def putR (r : Raw) : List UInt8 := varint (keyR r) ++ if r.wire = 0 then varint (zigN r.n) else varint r.b.length ++ r.b
theorem checkR_tag {r : Raw} (h : checkR r = true) : 1 ≤ r.tag ∧ r.tag ≤ 500 ∧ (r.wire = 0 ∨ r.wire = 1) ∧ r.b.length ≤ 4096 := by
  unfold checkR at h
  split at h
  · cases h
  · rename_i h1
    refine ⟨by omega, by omega, ?_⟩
    split at h
    · rename_i h0
      simp at h
      exact ⟨.inl h0, by simp [h]⟩
    · split at h
      · rename_i h2
        simp at h
        exact ⟨.inr h2, h.2⟩
      · cases h
theorem wire_Put0 (b : List UInt8) (r : Raw) (hw : r.wire = 0 ∨ checkR r = false) (hb : b.length ≤ 199999999990000) :
    PFn Try.prog 30 [.slice (b.map encB), .agg (encRaw r)] (.tuple [.slice ((if checkR r then b ++ putR r else b).map encB), .bool (checkR r)]) := by
  refine PFn.of Try.func30 rfl (by decide) Try.ntmps30 Try.results30 (Nat.le_of_ble_eq_true rfl) ?_
  simp only [argsT]
  refine AW.rT (by rfl) fun K hK => ?_
  simp -implicitDefEqProofs only [go_sem, ↓reduceIte, Nat.reduceAdd, Nat.reduceMul, Nat.reduceEqDiff, Nat.reduceLeDiff, reduceCtorEq, Int.reduceToNat, encRaw]
  refine hK _ ?_; clear hK K
  refine AW.seq ?_
  refine AW.rT (by rfl) fun K hK => ?_
  simp -implicitDefEqProofs only [go_sem, ↓reduceIte, Nat.reduceAdd, Nat.reduceMul, Nat.reduceEqDiff, Nat.reduceLeDiff, reduceCtorEq, Int.reduceToNat]
  refine ⟨.pure _, wire_Check r, ?_⟩
  try simp -implicitDefEqProofs only [go_sem, ↓reduceIte, Nat.reduceAdd, Nat.reduceMul, Nat.reduceEqDiff, Nat.reduceLeDiff, reduceCtorEq, Int.reduceToNat]
  refine hK _ ?_; clear hK K
  cases hk : checkR r with
  | false =>
    refine AW.cond _ (by simp -implicitDefEqProofs only [go_sem, ↓reduceIte, Nat.reduceAdd, Nat.reduceMul, Nat.reduceEqDiff, Nat.reduceLeDiff, reduceCtorEq, Int.reduceToNat]; rfl) (fun hc => ?_) (fun hc => ?_)
    · refine AW.rT (by rfl) fun K hK => ?_
      simp -implicitDefEqProofs only [go_sem, ↓reduceIte, Nat.reduceAdd, Nat.reduceMul, Nat.reduceEqDiff, Nat.reduceLeDiff, reduceCtorEq, Int.reduceToNat]
      refine hK _ ?_; clear hK K
      refine AW.ret ?_
      simp -implicitDefEqProofs only [go_sem, ↓reduceIte, Nat.reduceAdd, Nat.reduceMul, Nat.reduceEqDiff, Nat.reduceLeDiff, reduceCtorEq, Int.reduceToNat]
    · simp at hc
  | true =>
    refine AW.cond _ (by simp -implicitDefEqProofs only [go_sem, ↓reduceIte, Nat.reduceAdd, Nat.reduceMul, Nat.reduceEqDiff, Nat.reduceLeDiff, reduceCtorEq, Int.reduceToNat]; rfl) (fun hc => ?_) (fun hc => ?_)
    · simp at hc
    refine AW.skip ?_
    simp only [andThen, inBlk, reduceCtorEq, ↓reduceIte, if_t, if_f]
    obtain ⟨t1, t2, t3, t4⟩ := checkR_tag hk
    have h0 : r.wire = 0 := by rcases hw with h | h; exact h; rw [hk] at h; cases h
    have k1 : IntKind.wrap .i64 (2 * r.tag) = 2 * r.tag := by rw [w64] <;> omega
    have k2 : IntKind.wrap .i64 (2 * r.tag + r.wire) = 2 * r.tag + r.wire := by rw [w64] <;> omega
    have k3 : IntKind.wrap .u64 (2 * r.tag + r.wire) = (keyR r : Int) := by rw [wu64] <;> (try unfold keyR) <;> omega
    refine AW.rT (by rfl) fun K hK => ?_
    simp -implicitDefEqProofs only [go_sem, ↓reduceIte, Nat.reduceAdd, Nat.reduceMul, Nat.reduceEqDiff, Nat.reduceLeDiff, reduceCtorEq, Int.reduceToNat, k1, k2, k3]
    refine ⟨.pure _, vint_Put b (keyR r) (by unfold keyR; omega) (by omega), ?_⟩
    try simp -implicitDefEqProofs only [go_sem, ↓reduceIte, Nat.reduceAdd, Nat.reduceMul, Nat.reduceEqDiff, Nat.reduceLeDiff, reduceCtorEq, Int.reduceToNat]
    refine hK _ ?_; clear hK K
    refine AW.seq ?_
    obtain ⟨z1, z2⟩ := zigI_nat r.n
    have l10 := varint_len 10 (keyR r) (by unfold keyR; omega) (by decide)
    refine AW.rT (by rfl) fun K hK => ?_
    simp -implicitDefEqProofs only [go_sem, ↓reduceIte, Nat.reduceAdd, Nat.reduceMul, Nat.reduceEqDiff, Nat.reduceLeDiff, reduceCtorEq, Int.reduceToNat, h0]
    refine hK _ ?_; clear hK K
    refine AW.cond _ (by simp -implicitDefEqProofs only [go_sem, ↓reduceIte, Nat.reduceAdd, Nat.reduceMul, Nat.reduceEqDiff, Nat.reduceLeDiff, reduceCtorEq, Int.reduceToNat]; rfl) (fun hc => ?_) (fun hc => ?_)
    · refine AW.rT (by rfl) fun K hK => ?_
      simp -implicitDefEqProofs only [go_sem, ↓reduceIte, Nat.reduceAdd, Nat.reduceMul, Nat.reduceEqDiff, Nat.reduceLeDiff, reduceCtorEq, Int.reduceToNat]
      refine ⟨.pure _, vint_Zig r.n, ?_⟩
      try simp -implicitDefEqProofs only [go_sem, ↓reduceIte, Nat.reduceAdd, Nat.reduceMul, Nat.reduceEqDiff, Nat.reduceLeDiff, reduceCtorEq, Int.reduceToNat]
      rw [z1]
      refine ⟨.pure _, vint_Put _ (zigN r.n) z2 (by simp; omega), ?_⟩
      try simp -implicitDefEqProofs only [go_sem, ↓reduceIte, Nat.reduceAdd, Nat.reduceMul, Nat.reduceEqDiff, Nat.reduceLeDiff, reduceCtorEq, Int.reduceToNat]
      refine hK _ ?_; clear hK K
      refine AW.ret ?_
      simp -implicitDefEqProofs only [go_sem, ↓reduceIte, Nat.reduceAdd, Nat.reduceMul, Nat.reduceEqDiff, Nat.reduceLeDiff, reduceCtorEq, Int.reduceToNat]
      simp [putR, h0]
    · simp at hc
theorem law04_awake : PFn Try.prog 25 [] (.bool true) := by
  refine PFn.of Try.func25 rfl (by decide) Try.ntmps25 Try.results25 (Nat.le_of_ble_eq_true rfl) ?_
  simp only [argsT]
  refine AW.rT (by rfl) fun K hK => ?_
  simp -implicitDefEqProofs only [go_sem, ↓reduceIte, Nat.reduceAdd, Nat.reduceMul, Nat.reduceEqDiff, Nat.reduceLeDiff, reduceCtorEq, Int.reduceToNat]
  refine hK _ ?_; clear hK K
  refine AW.rT (by rfl) fun K hK => ?_
  simp -implicitDefEqProofs only [go_sem, ↓reduceIte, Nat.reduceAdd, Nat.reduceMul, Nat.reduceEqDiff, Nat.reduceLeDiff, reduceCtorEq, Int.reduceToNat]
  refine ⟨.pure _, wire_Put0 [] ⟨1, 0, -1, []⟩ (.inl rfl) (by decide), ?_⟩
  try simp -implicitDefEqProofs only [go_sem, ↓reduceIte, Nat.reduceAdd, Nat.reduceMul, Nat.reduceEqDiff, Nat.reduceLeDiff, reduceCtorEq, Int.reduceToNat]
  have e1 : checkR ⟨1, 0, -1, []⟩ = true := by decide
  have e2 : putR ⟨1, 0, -1, []⟩ = [2, 1] := by decide +kernel
  simp -implicitDefEqProofs only [go_sem, ↓reduceIte, Nat.reduceAdd, Nat.reduceMul, Nat.reduceEqDiff, Nat.reduceLeDiff, reduceCtorEq, Int.reduceToNat, e1, e2]
  refine hK _ ?_; clear hK K
  have e3 : bytesOf (liftE [encB 2, encB 1]) = some [2, 1] := bytesOf_lift [2, 1]
  refine AW.rT (by rfl) fun K hK => ?_
  simp -implicitDefEqProofs only [go_sem, ↓reduceIte, Nat.reduceAdd, Nat.reduceMul, Nat.reduceEqDiff, Nat.reduceLeDiff, reduceCtorEq, Int.reduceToNat, e1, e2, e3]
  refine hK _ ?_; clear hK K
  refine AW.ret ?_
  simp -implicitDefEqProofs only [go_sem, ↓reduceIte, Nat.reduceAdd, Nat.reduceMul, Nat.reduceEqDiff, Nat.reduceLeDiff, reduceCtorEq, Int.reduceToNat]
end Go.Aw
/- Plain facts on fields: what is put is got, what is got is put, a part is none. No program in sight. -/
namespace Go.Aw
set_option linter.unusedSimpArgs false
set_option linter.unusedVariables false
def refZig (n : Int) : Nat := if 0 ≤ n then (2 * n).toNat else (2 * (-(n + 1)) + 1).toNat
def zagR (v : Nat) : Int := if v % 2 = 0 then (v / 2 : Nat) else -((v / 2 : Nat) : Int) - 1
theorem zag_zig (n : Int) : zagR (refZig n) = n := by
  unfold zagR refZig
  by_cases h : 0 ≤ n
  · rw [if_pos h]; split <;> omega
  · rw [if_neg h]; split <;> omega
theorem zig_zag (v : Nat) : refZig (zagR v) = v := by
  unfold zagR refZig
  by_cases h : v % 2 = 0
  · rw [if_pos h]; split <;> omega
  · rw [if_neg h]; split <;> omega
theorem refZig_lt {n : Int} (h : -9223372036854775808 ≤ n) (h' : n ≤ 9223372036854775807) : refZig n < 18446744073709551616 := by
  unfold refZig
  split <;> omega
theorem xor_ones (x : BitVec 64) : (x ^^^ BitVec.ofInt 64 18446744073709551615).toNat = 18446744073709551615 - x.toNat := by
  have h : BitVec.ofInt 64 18446744073709551615 = BitVec.allOnes 64 := by decide
  rw [h, BitVec.xor_allOnes, BitVec.toNat_not]
theorem zigN_ref {n : Int} (h : -9223372036854775808 ≤ n) (h' : n ≤ 9223372036854775807) : zigN n = refZig n := by
  have e : (2 : Int) ^ 64 = 18446744073709551616 := by decide
  have e1 : (2 : Int) ^ min 1 64 = 2 := by decide
  have e63 : (2 : Int) ^ min 63 64 = 9223372036854775808 := by decide
  have hw : ∀ x : Int, IntKind.wrap .u64 x = x % 18446744073709551616 := fun x => by
    simp only [IntKind.wrap, IntKind.bits, IntKind.signed, e, Bool.false_and, Bool.false_eq_true, if_false]
  unfold zigN zigI
  rw [e1, e63]
  show (IntKind.wrap .u64 (((BitVec.ofInt 64 (IntKind.wrap .u64 (IntKind.wrap .u64 n * 2)) ^^^ BitVec.ofInt 64 (IntKind.wrap .u64 (n.fdiv 9223372036854775808))).toNat : Nat) : Int)).toNat = _
  have hofn : ∀ x : Int, 0 ≤ x → x < 18446744073709551616 → (BitVec.ofInt 64 x).toNat = x.toNat := fun x h1 h2 => by
    rw [BitVec.toNat_ofInt]
    congr 1
    rw [show ((2 : Nat) ^ 64 : Nat) = (18446744073709551616 : Nat) by decide]
    omega
  unfold refZig
  by_cases h0 : 0 ≤ n
  · rw [if_pos h0]
    have f0 : n.fdiv 9223372036854775808 = 0 := by
      rw [Int.fdiv_eq_ediv_of_nonneg _ (by decide)]; omega
    rw [f0, hw, hw, hw, hw]
    have : BitVec.ofInt 64 (0 % 18446744073709551616) = 0#64 := by decide
    rw [this, BitVec.xor_zero, hofn _ (by omega) (by omega)]
    omega
  · rw [if_neg h0]
    have f0 : n.fdiv 9223372036854775808 = -1 := by
      rw [Int.fdiv_eq_ediv_of_nonneg _ (by decide)]; omega
    rw [f0, hw, hw, hw, hw]
    have : (-1 : Int) % 18446744073709551616 = 18446744073709551615 := by decide
    rw [this, xor_ones, hofn _ (by omega) (by omega)]
    omega

/-- A number from its bytes: what it is, how many bytes it took, whether it is one (0, 2 short, 3 not so). -/
def vget : List UInt8 → Nat → Nat → Nat × Nat × Int
  | [], _, _ => (0, 0, 2)
  | x :: l, i, acc =>
    if i = 9 ∧ 1 < x.toNat then (0, 0, 3)
    else if 128 ≤ x.toNat then vget l (i + 1) (acc + x.toNat % 128 * 2 ^ (7 * i))
    else if x.toNat = 0 ∧ 0 < i then (0, 0, 3)
    else (acc + x.toNat % 128 * 2 ^ (7 * i), i + 1, 0)
theorem u8nat {n : Nat} (h : n < 256) : (UInt8.ofNat n).toNat = n := by
  simp; omega
theorem pow7 (i : Nat) : 2 ^ (7 * (i + 1)) = 2 ^ (7 * i) * 128 := by
  rw [show 7 * (i + 1) = 7 * i + 7 by omega, Nat.pow_add]
theorem varint_small {v : Nat} (h : v < 128) : varint v = [UInt8.ofNat v] := by
  unfold varint; rw [if_pos h]
theorem varint_big {v : Nat} (h : ¬ v < 128) : varint v = UInt8.ofNat (v % 128 + 128) :: varint (v / 128) := by
  conv => lhs; unfold varint
  rw [if_neg h]
theorem pow_split (i : Nat) (h : i ≤ 9) : 2 ^ (64 - 7 * i) = if i = 9 then 2 else 2 ^ (64 - 7 * (i + 1)) * 128 := by
  split
  · subst_vars; rfl
  · rw [show 64 - 7 * i = 64 - 7 * (i + 1) + 7 by omega, Nat.pow_add]
theorem vget_put : ∀ (v : Nat) (rest : List UInt8) (i acc : Nat), i ≤ 9 → v < 2 ^ (64 - 7 * i) → (0 < i → 0 < v) → vget (varint v ++ rest) i acc = (acc + v * 2 ^ (7 * i), i + (varint v).length, 0) := by
  intro v
  induction v using Nat.strongRecOn with
  | _ v ih =>
    intro rest i acc hi hv hz
    by_cases h : v < 128
    · rw [varint_small h]
      have h9 : ¬ (i = 9 ∧ 1 < v) := by
        rintro ⟨rfl, h1⟩
        have : (2 : Nat) ^ (64 - 7 * 9) = 2 := by decide
        omega
      simp only [List.cons_append, List.nil_append, vget, u8nat (show v < 256 by omega)]
      rw [if_neg h9, if_neg (by omega), if_neg (by omega), Nat.mod_eq_of_lt h]
      rfl
    · rw [varint_big h]
      have h9 : i ≠ 9 := by
        rintro rfl
        have : (2 : Nat) ^ (64 - 7 * 9) = 2 := by decide
        omega
      have hp := pow_split i hi
      rw [if_neg h9] at hp
      rw [hp] at hv
      have hd : v / 128 < 2 ^ (64 - 7 * (i + 1)) := by
        rw [Nat.div_lt_iff_lt_mul (by decide)]; exact hv
      simp only [List.cons_append, vget, u8nat (show v % 128 + 128 < 256 by omega)]
      rw [if_neg (by omega), if_pos (by omega), ih (v / 128) (by omega) rest (i + 1) _ (by omega) hd (by omega)]
      have e : (v % 128 + 128) % 128 = v % 128 := by omega
      rw [e, pow7, List.length_cons]
      have e2 : v / 128 * (2 ^ (7 * i) * 128) = v / 128 * 128 * 2 ^ (7 * i) := by
        rw [Nat.mul_comm (2 ^ (7 * i)) 128, ← Nat.mul_assoc]
      rw [e2, Nat.add_assoc, ← Nat.add_mul, show v % 128 + v / 128 * 128 = v by omega]
      congr 2
      omega
theorem vget_back : ∀ (l : List UInt8) (i acc v k : Nat), i ≤ 9 → vget l i acc = (v, k, 0) →
    ∃ u, v = acc + u * 2 ^ (7 * i) ∧ i < k ∧ k - i ≤ l.length ∧ l.take (k - i) = varint u ∧ u < 2 ^ (64 - 7 * i) ∧ (0 < i → 0 < u) := by
  intro l
  induction l with
  | nil => intro i acc v k _ h; simp [vget] at h
  | cons x l ih =>
    intro i acc v k hi h
    have hx := x.toNat_lt
    have hx8 : UInt8.ofNat x.toNat = x := by simp
    simp only [vget] at h
    split at h
    · simp at h
    rename_i h9
    split at h
    · rename_i h128
      have hi9 : i ≠ 9 := by rintro rfl; exact h9 ⟨rfl, by omega⟩
      obtain ⟨u, h1, h2, h3, h4, h5, h6⟩ := ih (i + 1) _ v k (by omega) h
      have hp := pow_split i hi
      rw [if_neg hi9] at hp
      have hu := h6 (by omega)
      have d1 : (x.toNat % 128 + u * 128) / 128 = u := by omega
      have d2 : (x.toNat % 128 + u * 128) % 128 + 128 = x.toNat := by omega
      have vb := varint_big (v := x.toNat % 128 + u * 128) (by omega)
      rw [d1, d2, hx8] at vb
      refine ⟨x.toNat % 128 + u * 128, ?_, by omega, by simp; omega, ?_, ?_, fun _ => Nat.lt_of_lt_of_le (Nat.mul_pos hu (by decide)) (Nat.le_add_left _ _)⟩
      · rw [h1, pow7, Nat.add_mul, Nat.mul_assoc u 128, Nat.mul_comm 128, Nat.add_assoc]
      · rw [show k - i = k - (i + 1) + 1 by omega, List.take_succ_cons, h4, vb]
      · rw [hp]
        omega
    · split at h
      · simp at h
      · rename_i h1 h2
        simp only [Prod.mk.injEq] at h
        obtain ⟨h3, h4, _⟩ := h
        refine ⟨x.toNat, ?_, by omega, by simp; omega, ?_, ?_, by omega⟩
        · rw [← h3, Nat.mod_eq_of_lt (by omega)]
        · rw [← h4, show i + 1 - i = 1 by omega, varint_small (by omega), hx8]
          simp
        · have hp := pow_split i hi
          split at hp
          · rename_i h9'
            rw [hp]
            have : ¬ 1 < x.toNat := fun hh => h9 ⟨h9', hh⟩
            omega
          · rw [hp]
            have : 0 < 2 ^ (64 - 7 * (i + 1)) := Nat.pow_pos (by decide)
            omega
theorem vget_short : ∀ (v m i acc : Nat), i ≤ 9 → v < 2 ^ (64 - 7 * i) → m < (varint v).length → vget ((varint v).take m) i acc = (0, 0, 2) := by
  intro v
  induction v using Nat.strongRecOn with
  | _ v ih =>
    intro m i acc hi hv hm
    cases m with
    | zero => simp [vget]
    | succ m =>
      by_cases h : v < 128
      · rw [varint_small h] at hm; simp at hm
      · rw [varint_big h] at hm ⊢
        have h9 : i ≠ 9 := by
          rintro rfl
          have : (2 : Nat) ^ (64 - 7 * 9) = 2 := by decide
          omega
        have hp := pow_split i hi
        rw [if_neg h9] at hp
        rw [hp] at hv
        have hd : v / 128 < 2 ^ (64 - 7 * (i + 1)) := by
          rw [Nat.div_lt_iff_lt_mul (by decide)]; exact hv
        simp only [List.take_succ_cons, vget, u8nat (show v % 128 + 128 < 256 by omega)]
        rw [if_neg (by omega), if_pos (by omega)]
        exact ih (v / 128) (by omega) m (i + 1) _ (by omega) hd (by simpa using hm)
theorem varint_pos (v : Nat) : 0 < (varint v).length := by
  unfold varint; split <;> simp

/-- A field from its bytes: the field, how many bytes it took, what is wrong. -/
def oneR (l : List UInt8) : Raw × Nat × Int :=
  if (vget l 0 0).2.2 ≠ 0 then (⟨0, 0, 0, []⟩, 0, (vget l 0 0).2.2)
  else if (vget l 0 0).1 < 2 ∨ 500 < (vget l 0 0).1 / 2 then (⟨0, 0, 0, []⟩, 0, 7)
  else if (vget (l.drop (vget l 0 0).2.1) 0 0).2.2 ≠ 0 then (⟨0, 0, 0, []⟩, 0, (vget (l.drop (vget l 0 0).2.1) 0 0).2.2)
  else if (vget l 0 0).1 % 2 = 0 then (⟨((vget l 0 0).1 / 2 : Nat), 0, zagR (vget (l.drop (vget l 0 0).2.1) 0 0).1, []⟩, (vget l 0 0).2.1 + (vget (l.drop (vget l 0 0).2.1) 0 0).2.1, 0)
  else if l.length - ((vget l 0 0).2.1 + (vget (l.drop (vget l 0 0).2.1) 0 0).2.1) < (vget (l.drop (vget l 0 0).2.1) 0 0).1 then (⟨0, 0, 0, []⟩, 0, 2)
  else (⟨((vget l 0 0).1 / 2 : Nat), 1, 0, (l.drop ((vget l 0 0).2.1 + (vget (l.drop (vget l 0 0).2.1) 0 0).2.1)).take (vget (l.drop (vget l 0 0).2.1) 0 0).1⟩,
    (vget l 0 0).2.1 + (vget (l.drop (vget l 0 0).2.1) 0 0).2.1 + (vget (l.drop (vget l 0 0).2.1) 0 0).1, 0)
/-- The same, told by what the two numbers are. -/
theorem oneR_of {l : List UInt8} {key k v k2 : Nat} {e : Int} (h : vget l 0 0 = (key, k, e)) {e2 : Int} (h2 : vget (l.drop k) 0 0 = (v, k2, e2)) :
    oneR l = if e ≠ 0 then (⟨0, 0, 0, []⟩, 0, e) else if key < 2 ∨ 500 < key / 2 then (⟨0, 0, 0, []⟩, 0, 7) else if e2 ≠ 0 then (⟨0, 0, 0, []⟩, 0, e2)
      else if key % 2 = 0 then (⟨(key / 2 : Nat), 0, zagR v, []⟩, k + k2, 0) else if l.length - (k + k2) < v then (⟨0, 0, 0, []⟩, 0, 2)
      else (⟨(key / 2 : Nat), 1, 0, (l.drop (k + k2)).take v⟩, k + k2 + v, 0) := by
  unfold oneR
  rw [h]
  simp only [h2]
def okRaw (r : Raw) : Prop := checkR r = true ∧ -9223372036854775808 ≤ r.n ∧ r.n ≤ 9223372036854775807
theorem checkR_all {r : Raw} (h : checkR r = true) : 1 ≤ r.tag ∧ r.tag ≤ 500 ∧ ((r.wire = 0 ∧ r.b = []) ∨ (r.wire = 1 ∧ r.n = 0 ∧ r.b.length ≤ 4096)) := by
  unfold checkR at h
  split at h
  · cases h
  · rename_i h1
    refine ⟨by omega, by omega, ?_⟩
    split at h
    · rename_i h0
      simp at h
      exact .inl ⟨h0, h⟩
    · split at h
      · rename_i h2
        simp at h
        exact .inr ⟨h2, h⟩
      · cases h
theorem checkR_of {r : Raw} (h1 : 1 ≤ r.tag) (h2 : r.tag ≤ 500) (h : (r.wire = 0 ∧ r.b = []) ∨ (r.wire = 1 ∧ r.n = 0 ∧ r.b.length ≤ 4096)) : checkR r = true := by
  unfold checkR
  rw [if_neg (by omega)]
  rcases h with ⟨h, h'⟩ | ⟨h, h', h''⟩
  · rw [if_pos h]; simp [h']
  · rw [if_neg (by omega), if_pos h]; simp [h', h'']
theorem two64 : (2 : Nat) ^ (64 - 7 * 0) = 18446744073709551616 := by decide
theorem vget_at {v : Nat} (hv : v < 18446744073709551616) (rest : List UInt8) : vget (varint v ++ rest) 0 0 = (v, (varint v).length, 0) := by
  rw [vget_put v rest 0 0 (by omega) (by rw [two64]; exact hv) (by omega)]
  simp
theorem keyR_num {r : Raw} (h : checkR r = true) (hw : r.wire = 0) : keyR r / 2 = r.tag.toNat ∧ keyR r % 2 = 0 ∧ keyR r < 1002 ∧ 2 ≤ keyR r := by
  obtain ⟨h1, h2, _⟩ := checkR_all h
  unfold keyR; omega
theorem keyR_text {r : Raw} (h : checkR r = true) (hw : r.wire = 1) : keyR r / 2 = r.tag.toNat ∧ keyR r % 2 = 1 ∧ keyR r < 1002 ∧ 2 ≤ keyR r := by
  obtain ⟨h1, h2, _⟩ := checkR_all h
  unfold keyR; omega
theorem one_put {r : Raw} (h : okRaw r) (rest : List UInt8) : oneR (putR r ++ rest) = (r, (putR r).length, 0) := by
  obtain ⟨hk, hn1, hn2⟩ := h
  obtain ⟨h1, h2, h3⟩ := checkR_all hk
  rcases h3 with ⟨hw, hb⟩ | ⟨hw, hn, hb⟩
  · obtain ⟨k1, k2, k3, k4⟩ := keyR_num hk hw
    have ep : putR r = varint (keyR r) ++ varint (zigN r.n) := by unfold putR; rw [if_pos hw]
    have z := zigN_ref hn1 hn2
    have zl := refZig_lt hn1 hn2
    have g1 : vget (putR r ++ rest) 0 0 = (keyR r, (varint (keyR r)).length, 0) := by
      rw [ep, List.append_assoc]; exact vget_at (by omega) _
    have g2 : vget ((putR r ++ rest).drop (varint (keyR r)).length) 0 0 = (zigN r.n, (varint (zigN r.n)).length, 0) := by
      rw [ep, List.append_assoc, List.drop_left]; exact vget_at (by omega) _
    rw [oneR_of g1 g2, if_neg (by simp), if_neg (by omega), if_neg (by simp), if_pos k2, k1, z, zag_zig, ep, List.length_append]
    obtain ⟨t, w, n, b⟩ := r
    simp only at hw hb h1 ⊢
    subst hw hb
    rw [Int.toNat_of_nonneg (by omega), z]
  · obtain ⟨k1, k2, k3, k4⟩ := keyR_text hk hw
    have ep : putR r = varint (keyR r) ++ (varint r.b.length ++ r.b) := by unfold putR; rw [if_neg (by omega)]
    have g1 : vget (putR r ++ rest) 0 0 = (keyR r, (varint (keyR r)).length, 0) := by
      rw [ep, List.append_assoc]; exact vget_at (by omega) _
    have g2 : vget ((putR r ++ rest).drop (varint (keyR r)).length) 0 0 = (r.b.length, (varint r.b.length).length, 0) := by
      rw [ep, List.append_assoc, List.drop_left, List.append_assoc]; exact vget_at (by omega) _
    have e3 : (putR r ++ rest).drop ((varint (keyR r)).length + (varint r.b.length).length) = r.b ++ rest := by
      rw [ep, ← List.drop_drop, List.append_assoc, List.drop_left, List.append_assoc, List.drop_left]
    rw [oneR_of g1 g2, if_neg (by simp), if_neg (by omega), if_neg (by simp), if_neg (by omega), e3, if_neg (by rw [ep]; simp; omega), k1, ep]
    rw [List.take_left']
    · obtain ⟨t, w, n, b⟩ := r
      simp only at hw hn h1 ⊢
      subst hw hn
      rw [Int.toNat_of_nonneg (by omega)]
      simp; omega
    · rfl
theorem one_back {l : List UInt8} {r : Raw} {k : Nat} (hl : l.length ≤ 4096) (h : oneR l = (r, k, 0)) : okRaw r ∧ 0 < k ∧ k ≤ l.length ∧ l.take k = putR r := by
  rcases g1 : vget l 0 0 with ⟨key, k1, e1⟩
  rcases g2 : vget (l.drop k1) 0 0 with ⟨v, k2, e2⟩
  rw [oneR_of g1 g2] at h
  split at h
  · rename_i h0; simp only [Prod.mk.injEq] at h; exact absurd h.2.2 h0
  rename_i q1
  split at h
  · simp at h
  rename_i q2
  split at h
  · rename_i h0; simp only [Prod.mk.injEq] at h; exact absurd h.2.2 h0
  rename_i q3
  have q1' : e1 = 0 := by omega
  have q3' : e2 = 0 := by omega
  subst q1' q3'
  obtain ⟨u, a1, a2, a3, a4, a5, _⟩ := vget_back l 0 0 key k1 (by omega) g1
  obtain ⟨u2, b1, b2, b3, b4, b5, _⟩ := vget_back (l.drop k1) 0 0 v k2 (by omega) g2
  have e0 : (2 : Nat) ^ (7 * 0) = 1 := rfl
  rw [e0, Nat.mul_one, Nat.zero_add] at a1 b1
  subst a1 b1
  rw [Nat.sub_zero] at a3 a4 b3 b4
  rw [two64] at a5 b5
  rw [List.length_drop] at b3
  have tk : ∀ m, l.take (k1 + k2 + m) = varint key ++ (varint v ++ (l.drop (k1 + k2)).take m) := fun m => by
    rw [Nat.add_assoc, List.take_add, List.take_add, a4, b4, List.drop_drop]
  split at h
  · rename_i q4
    simp only [Prod.mk.injEq] at h
    obtain ⟨rfl, rfl, _⟩ := h
    have zr : -9223372036854775808 ≤ zagR v ∧ zagR v ≤ 9223372036854775807 := by unfold zagR; split <;> omega
    refine ⟨⟨checkR_of (by show (1 : Int) ≤ ((key / 2 : Nat) : Int); omega) (by show ((key / 2 : Nat) : Int) ≤ 500; omega) (.inl ⟨rfl, rfl⟩), zr⟩, by omega, by omega, ?_⟩
    have := tk 0
    rw [Nat.add_zero, List.take_zero, List.append_nil] at this
    rw [this]
    unfold putR keyR
    rw [if_pos rfl]
    show _ = varint (2 * ((key / 2 : Nat) : Int) + 0).toNat ++ varint (zigN (zagR v))
    rw [zigN_ref zr.1 zr.2, zig_zag]
    congr 2
    omega
  · rename_i q4
    split at h
    · simp at h
    rename_i q5
    simp only [Prod.mk.injEq] at h
    obtain ⟨rfl, rfl, _⟩ := h
    have ln : ((l.drop (k1 + k2)).take v).length = v := by
      rw [List.length_take, List.length_drop]; omega
    refine ⟨⟨checkR_of (by show (1 : Int) ≤ ((key / 2 : Nat) : Int); omega) (by show ((key / 2 : Nat) : Int) ≤ 500; omega) (.inr ⟨rfl, rfl, by show ((l.drop (k1 + k2)).take v).length ≤ 4096; omega⟩), by show (-9223372036854775808 : Int) ≤ 0; omega, by show (0 : Int) ≤ 9223372036854775807; omega⟩, by omega, by omega, ?_⟩
    rw [tk v]
    unfold putR keyR
    rw [if_neg (by show ¬ ((1 : Int) = 0); decide)]
    show _ = varint (2 * ((key / 2 : Nat) : Int) + 1).toNat ++ (varint ((l.drop (k1 + k2)).take v).length ++ (l.drop (k1 + k2)).take v)
    rw [ln]
    congr 2
    omega
/-- A part of a field is none. -/
theorem one_short {r : Raw} (h : okRaw r) {m : Nat} (hm : m < (putR r).length) : oneR ((putR r).take m) = (⟨0, 0, 0, []⟩, 0, 2) := by
  obtain ⟨hk, hn1, hn2⟩ := h
  obtain ⟨h1, h2, h3⟩ := checkR_all hk
  have key : keyR r < 18446744073709551616 ∧ 2 ≤ keyR r ∧ keyR r / 2 ≤ 500 := by
    rcases h3 with ⟨hw, _⟩ | ⟨hw, _⟩
    · have := keyR_num hk hw; omega
    · have := keyR_text hk hw; omega
  by_cases hmk : m < (varint (keyR r)).length
  · have g1 : vget ((putR r).take m) 0 0 = (0, 0, 2) := by
      unfold putR
      rw [List.take_append_of_le_length (by omega)]
      exact vget_short _ m 0 0 (by omega) (by rw [two64]; exact key.1) hmk
    rw [oneR_of g1 rfl, if_pos (by decide)]
  · have tk : ∀ (x y : List UInt8), (x ++ y).take m = x ++ y.take (m - x.length) ∨ m < x.length := fun x y => by
      by_cases hx : m < x.length
      · exact .inr hx
      · left; rw [List.take_append, List.take_of_length_le (by omega)]
    rcases h3 with ⟨hw, hb⟩ | ⟨hw, hn, hb⟩
    · have ep : putR r = varint (keyR r) ++ varint (zigN r.n) := by unfold putR; rw [if_pos hw]
      have et := (tk (varint (keyR r)) (varint (zigN r.n))).resolve_right hmk
      rw [ep] at hm ⊢
      rw [et]
      have g1 := vget_at (rest := (varint (zigN r.n)).take (m - (varint (keyR r)).length)) key.1
      have g2 : vget ((varint (keyR r) ++ (varint (zigN r.n)).take (m - (varint (keyR r)).length)).drop (varint (keyR r)).length) 0 0 = (0, 0, 2) := by
        rw [List.drop_left]
        have z := zigN_ref hn1 hn2
        have zl := refZig_lt hn1 hn2
        exact vget_short _ _ 0 0 (by omega) (by rw [two64]; omega) (by rw [List.length_append] at hm; omega)
      rw [oneR_of g1 g2, if_neg (by simp), if_neg (by omega), if_pos (by decide)]
    · have ep : putR r = varint (keyR r) ++ (varint r.b.length ++ r.b) := by unfold putR; rw [if_neg (by omega)]
      have et := (tk (varint (keyR r)) (varint r.b.length ++ r.b)).resolve_right hmk
      rw [ep] at hm ⊢
      rw [et]
      have g1 := vget_at (rest := (varint r.b.length ++ r.b).take (m - (varint (keyR r)).length)) key.1
      generalize hmm : m - (varint (keyR r)).length = m2 at g1
      have hm2 : m2 < (varint r.b.length ++ r.b).length := by rw [List.length_append] at hm; omega
      by_cases hmv : m2 < (varint r.b.length).length
      · have g2 : vget ((varint (keyR r) ++ (varint r.b.length ++ r.b).take m2).drop (varint (keyR r)).length) 0 0 = (0, 0, 2) := by
          rw [List.drop_left, List.take_append_of_le_length (by omega)]
          exact vget_short _ _ 0 0 (by omega) (by rw [two64]; omega) hmv
        rw [oneR_of g1 g2, if_neg (by simp), if_neg (by omega), if_pos (by decide)]
      · have g2 : vget ((varint (keyR r) ++ (varint r.b.length ++ r.b).take m2).drop (varint (keyR r)).length) 0 0 = (r.b.length, (varint r.b.length).length, 0) := by
          rw [List.drop_left, List.take_append, List.take_of_length_le (by omega)]
          exact vget_at (by omega) _
        have kt := keyR_text hk hw
        rw [oneR_of g1 g2, if_neg (by simp), if_neg (by omega), if_neg (by simp), if_neg (by omega), if_pos]
        rw [List.length_append] at hm2
        simp only [List.length_append, List.length_take]
        omega
def flatR (l : List Raw) : List UInt8 := l.flatMap putR
/-- All fields from their bytes. -/
def getR : Nat → List UInt8 → List Raw × Int
  | 0, _ => ([], 0)
  | _ + 1, [] => ([], 0)
  | n + 1, x :: l => if (oneR (x :: l)).2.2 ≠ 0 then ([], (oneR (x :: l)).2.2) else if (getR n ((x :: l).drop (oneR (x :: l)).2.1)).2 ≠ 0 then ([], (getR n ((x :: l).drop (oneR (x :: l)).2.1)).2)
    else ((oneR (x :: l)).1 :: (getR n ((x :: l).drop (oneR (x :: l)).2.1)).1, 0)
def wireGet (b : List UInt8) : List Raw × Int := if 4096 < b.length then ([], 4) else getR b.length b
def wirePut (l : List Raw) : List UInt8 × Int := if l.all checkR then (if (flatR l).length ≤ 4096 then (flatR l, 0) else ([], 4)) else ([], 1)
theorem putR_pos (r : Raw) : 0 < (putR r).length := by
  unfold putR
  have := varint_pos (keyR r)
  rw [List.length_append]; omega
theorem getR_step {n : Nat} {l : List UInt8} (h : l ≠ []) {r : Raw} {k : Nat} {e : Int} (ho : oneR l = (r, k, e)) :
    getR (n + 1) l = if e ≠ 0 then ([], e) else if (getR n (l.drop k)).2 ≠ 0 then ([], (getR n (l.drop k)).2) else (r :: (getR n (l.drop k)).1, 0) := by
  cases l with
  | nil => exact absurd rfl h
  | cons x l => rw [getR, ho]
theorem get_put : ∀ (l : List Raw) (n : Nat), (∀ r ∈ l, okRaw r) → (flatR l).length ≤ n → getR n (flatR l) = (l, 0) := by
  intro l
  induction l with
  | nil => intro n _ _; cases n <;> simp [getR, flatR]
  | cons r l ih =>
    intro n h hn
    have e : flatR (r :: l) = putR r ++ flatR l := rfl
    have hp := putR_pos r
    rw [e] at hn ⊢
    rw [List.length_append] at hn
    cases n with
    | zero => omega
    | succ n =>
      rw [getR_step (fun h0 => by have := congrArg List.length h0; rw [List.length_append, List.length_nil] at this; omega) (one_put (h r List.mem_cons_self) _), if_neg (by simp), List.drop_left, ih n (fun x hx => h x (List.mem_cons_of_mem _ hx)) (by omega)]
      simp
theorem get_back : ∀ (n : Nat) (l : List UInt8) (m : List Raw), l.length ≤ n → l.length ≤ 4096 → getR n l = (m, 0) → (∀ r ∈ m, okRaw r) ∧ flatR m = l := by
  intro n
  induction n with
  | zero =>
    intro l m hn _ h
    have : l = [] := List.eq_nil_of_length_eq_zero (by omega)
    subst this
    simp only [getR, Prod.mk.injEq] at h
    obtain ⟨rfl, _⟩ := h
    exact ⟨by simp, rfl⟩
  | succ n ih =>
    intro l m hn hl h
    by_cases h0 : l = []
    · subst h0
      simp only [getR, Prod.mk.injEq] at h
      obtain ⟨rfl, _⟩ := h
      exact ⟨by simp, rfl⟩
    rcases ho : oneR l with ⟨r, k, e⟩
    rw [getR_step h0 ho] at h
    split at h
    · rename_i hh; simp only [Prod.mk.injEq] at h; exact absurd h.2 hh
    rename_i he
    have he' : e = 0 := by omega
    subst he'
    obtain ⟨p1, p2, p3, p4⟩ := one_back hl ho
    split at h
    · rename_i hh; simp only [Prod.mk.injEq] at h; exact absurd h.2 hh
    rename_i hf
    simp only [Prod.mk.injEq] at h
    obtain ⟨rfl, _⟩ := h
    rcases hg : getR n (l.drop k) with ⟨m', f⟩
    rw [hg] at hf
    have hf' : f = 0 := by simpa using hf
    subst hf'
    obtain ⟨q1, q2⟩ := ih (l.drop k) m' (by rw [List.length_drop]; omega) (by rw [List.length_drop]; omega) hg
    refine ⟨fun x hx => ?_, ?_⟩
    · rcases List.mem_cons.1 hx with rfl | hx
      · exact p1
      · exact q1 x hx
    · show putR r ++ flatR m' = l
      rw [q2, ← p4, List.take_append_drop]
/-- Cut within a field. -/
theorem get_cut : ∀ (l : List Raw) (r : Raw) (n m : Nat), (∀ x ∈ l, okRaw x) → okRaw r → 0 < m → m < (putR r).length → (flatR l).length + m ≤ n → getR n (flatR l ++ (putR r).take m) = ([], 2) := by
  intro l
  induction l with
  | nil =>
    intro r n m _ hr h0 hm hn
    simp only [flatR, List.flatMap_nil, List.nil_append, List.length_nil] at hn ⊢
    cases n with
    | zero => omega
    | succ n =>
      rw [getR_step (fun h => by have := congrArg List.length h; rw [List.length_take, List.length_nil] at this; omega) (one_short hr hm), if_pos (by decide)]
  | cons x l ih =>
    intro r n m h hr h0 hm hn
    have e : flatR (x :: l) = putR x ++ flatR l := rfl
    have hp := putR_pos x
    rw [e, List.length_append] at hn
    rw [e, List.append_assoc]
    cases n with
    | zero => omega
    | succ n =>
      rw [getR_step (fun h0 => by have := congrArg List.length h0; rw [List.length_append, List.length_nil] at this; omega) (one_put (h x List.mem_cons_self) _), if_neg (by simp), List.drop_left, ih r n m (fun y hy => h y (List.mem_cons_of_mem _ hy)) hr h0 hm (by omega)]
      simp
end Go.Aw
/- wire.Sorted. -/
namespace Go.Aw
open Go.Proofs
set_option linter.unusedSimpArgs false
set_option linter.unusedVariables false
def zeroR : Raw := ⟨0, 0, 0, []⟩
def insR (s : List Raw) (r : Raw) (k : Nat) : List Raw := s.take k ++ r :: s.drop k
def placeR (s : List Raw) (r : Raw) : Nat → Nat
  | 0 => 0
  | k + 1 => match s[k]? with
    | some x => if r.tag < x.tag then placeR s r k else k + 1
    | none => k + 1
def sortL : List Raw → List Raw → List Raw
  | s, [] => s
  | s, r :: l => sortL (insR s r (placeR s r s.length)) l
def rowS (s : List Raw) (n : Nat) : List (List AV) := liftE ((s ++ List.replicate (n - s.length) zeroR).map encRaw)
theorem rowS_nil (n : Nat) : rowS [] n = List.replicate n [.p (.int .i64 0), .p (.int .i64 0), .p (.int .i64 0), .p (.str [])] := by
  simp [rowS, liftE, encRaw, zeroR]
def soS (l : List Raw) (x : List Raw × List Raw) : St :=
  ⟨ofL [(0, .p (.slice (l.map encRaw))), (3, .own 0), (10, .p (.slice (l.map encRaw))), (11, .p (.int .i64 (l.length : Int))), (12, .p (.int .i64 (x.1.length : Int)))], ofH [(0, .row 4 (rowS x.1 l.length))], 1⟩
theorem rowS_length (s : List Raw) (n : Nat) (h : s.length ≤ n) : (rowS s n).length = n := by
  simp [rowS, liftE]; omega
theorem at_row (s : List Raw) (n k : Nat) (x : Raw) (h : s[k]? = some x) : (rowS s n)[k]? = some [.p (.int .i64 x.tag), .p (.int .i64 x.wire), .p (.int .i64 x.n), .p (.str x.b)] := by
  have hk := (List.getElem?_eq_some_iff.1 h).1
  unfold rowS
  rw [at_lift encRaw (a := x) (by rw [List.getElem?_append_left hk]; exact h)]
  rfl
theorem rowS_four (s : List Raw) (n : Nat) : ∀ f ∈ rowS s n, f.length = 4 := liftE_len fun e he => by
  obtain ⟨a, _, rfl⟩ := List.mem_map.1 he
  rfl
theorem ins_list {α : Type} (R : List α) (x : α) (k m : Nat) (hk : k ≤ m) (hm : m < R.length) : (R.take (k + 1) ++ (R.drop k).take (m - k) ++ R.drop (m + 1)).set k x = R.take k ++ x :: ((R.drop k).take (m - k) ++ R.drop (m + 1)) := by
  obtain ⟨y, hy⟩ : ∃ y, R[k]? = some y := ⟨_, List.getElem?_eq_getElem (by omega)⟩
  rw [List.take_add_one, hy, List.append_assoc, List.append_assoc]
  rw [List.set_append_right _ _ (by rw [List.length_take]; omega)]
  rw [show k - (R.take k).length = 0 by rw [List.length_take]; omega]
  rfl
theorem ins_parts (s : List Raw) (z : List Raw) (a : Raw) (r : Raw) (k : Nat) (hk : k ≤ s.length) :
    (s ++ a :: z).take k ++ r :: (((s ++ a :: z).drop k).take (s.length - k) ++ (s ++ a :: z).drop (s.length + 1)) = insR s r k ++ z := by
  have h1 : (s ++ a :: z).take k = s.take k := List.take_append_of_le_length hk
  have h2 : ((s ++ a :: z).drop k).take (s.length - k) = s.drop k := by
    rw [List.drop_append_of_le_length hk, List.take_append_of_le_length (by simp)]
    rw [List.take_of_length_le (by simp)]
  have h3 : (s ++ a :: z).drop (s.length + 1) = z := by
    rw [List.drop_append]; simp
  rw [h1, h2, h3]
  simp [insR]
def moved (R : List (List AV)) (k m : Nat) : List (List AV) :=
  List.take (k + 1) R ++ List.take (min (List.take (m - k) (List.drop k R)).length (m + 1 - (k + 1))) (List.take (m - k) (List.drop k R)) ++
    List.drop (k + 1 + (List.take (min (List.take (m - k) (List.drop k R)).length (m + 1 - (k + 1))) (List.take (m - k) (List.drop k R))).length) R
theorem moved_eq (R : List (List AV)) (k m : Nat) (hk : k ≤ m) (hm : m < R.length) : moved R k m = R.take (k + 1) ++ (R.drop k).take (m - k) ++ R.drop (m + 1) := by
  unfold moved
  have h1 : (List.take (m - k) (List.drop k R)).length = m - k := by simp; omega
  rw [h1, show min (m - k) (m + 1 - (k + 1)) = m - k by omega, List.take_of_length_le (l := List.take (m - k) (List.drop k R)) (by omega), h1, show k + 1 + (m - k) = m + 1 by omega]
theorem moved_spec (s : List Raw) (r : Raw) (n k : Nat) (hk : k ≤ s.length) (hn : s.length < n) : (moved (rowS s n) k s.length).length = n ∧ (∃ a b c d, (moved (rowS s n) k s.length)[k]? = some [a, b, c, d]) ∧
    (moved (rowS s n) k s.length).set k [.p (.int .i64 r.tag), .p (.int .i64 r.wire), .p (.int .i64 r.n), .p (.str r.b)] = rowS (insR s r k) n := by
  have rl := rowS_length s n (by omega)
  rw [moved_eq _ _ _ hk (by omega)]
  refine ⟨by simp; omega, ?_, ?_⟩
  · obtain ⟨e, he⟩ : ∃ e, (rowS s n)[k]? = some e := ⟨_, List.getElem?_eq_getElem (by omega)⟩
    have h4 := rowS_four s n e (List.mem_of_getElem? he)
    obtain ⟨a, b, c, d, rfl⟩ : ∃ a b c d, e = [a, b, c, d] := by
      match e, h4 with
      | [a, b, c, d], _ => exact ⟨a, b, c, d, rfl⟩
    refine ⟨a, b, c, d, ?_⟩
    rw [List.append_assoc, List.getElem?_append_left (by simp; omega), List.getElem?_take, if_pos (by omega)]
    exact he
  · rw [ins_list _ _ _ _ hk (by omega)]
    obtain ⟨z, hz⟩ : ∃ z, List.replicate (n - s.length) zeroR = zeroR :: z ∧ z = List.replicate (n - (insR s r k).length) zeroR := by
      refine ⟨List.replicate (n - s.length - 1) zeroR, ?_, ?_⟩
      · rw [← List.replicate_succ]; congr 1; omega
      · congr 1; simp [insR]; omega
    unfold rowS liftE
    rw [hz.1, ← hz.2, ← ins_parts s z zeroR r k hk]
    simp only [List.map_append, List.map_cons, List.map_take, List.map_drop]
    rfl
def siS (l s : List Raw) (r : Raw) (k : Nat) : St :=
  ⟨ofL [(0, .p (.slice (l.map encRaw))), (3, .own 0), (4, .p (.int .i64 (s.length : Int))), (5, .ptr 1 0 0), (6, .p (.int .i64 (k : Int))), (10, .p (.slice (l.map encRaw))), (11, .p (.int .i64 (l.length : Int))), (12, .p (.int .i64 (s.length : Int)))],
    ofH [(0, .row 4 (rowS s l.length)), (1, .row 4 [[.p (.int .i64 r.tag), .p (.int .i64 r.wire), .p (.int .i64 r.n), .p (.str r.b)]])], 2⟩
set_option maxRecDepth 100000 in
theorem wire_Sorted (l : List Raw) (hl : l.length ≤ 1000000) : PFn Try.prog 27 [.slice (l.map encRaw)] (.slice ((sortL [] l).map encRaw)) := by
  refine PFn.of Try.func27 rfl (by decide) Try.ntmps27 Try.results27 (Nat.le_of_ble_eq_true rfl) ?_
  simp only [argsT]
  refine AW.rT (by rfl) fun K hK => ?_
  simp -implicitDefEqProofs only [go_sem, ↓reduceIte, Nat.reduceAdd, Nat.reduceMul, Nat.reduceEqDiff, Nat.reduceLeDiff, reduceCtorEq, Int.reduceToNat]
  refine hK _ ?_; clear hK K
  refine AW.rT (by rfl) fun K hK => ?_
  simp -implicitDefEqProofs only [go_sem, ↓reduceIte, Nat.reduceAdd, Nat.reduceMul, Nat.reduceEqDiff, Nat.reduceLeDiff, reduceCtorEq, Int.reduceToNat, List.length_map, ← rowS_nil]
  refine ⟨by omega, ?_⟩
  refine hK _ ?_; clear hK K
  refine AW.seq ?_
  refine AW.rT (by rfl) fun K hK => ?_
  simp -implicitDefEqProofs only [go_sem, ↓reduceIte, Nat.reduceAdd, Nat.reduceMul, Nat.reduceEqDiff, Nat.reduceLeDiff, reduceCtorEq, Int.reduceToNat]
  refine hK _ ?_; clear hK K
  refine AW.block ?_
  refine AW.loop (soS l) (fun x => x.1.length + x.2.length = l.length ∧ x.2 = l.drop x.1.length ∧ sortL x.1 x.2 = sortL [] l) (fun x => x.2.length) ([], l) ?_ (by simp) fun x hx => ?_
  · simp only [soS]
    refine Ghost.ent (fun _ => 3) ?_ ?_ ?_ <;> simp -implicitDefEqProofs only [go_sem, ↓reduceIte, Nat.reduceAdd, Nat.reduceMul, Nat.reduceEqDiff, Nat.reduceLeDiff, reduceCtorEq, Int.reduceToNat, rowS, List.length_map, List.length_nil, List.forall_mem_cons, List.not_mem_nil, false_implies, implies_true, and_self, map_renL_lift, labsIn_lift, List.all_append, List.all_cons, List.all_nil, List.map_append, Nat.reduceLT, labsInL, AV.labsIn]
    rfl
  obtain ⟨s, rest⟩ := x
  obtain ⟨h1, h2, h3⟩ := hx
  dsimp only at h1 h2 h3
  simp only [soS]
  refine AW.rT (by rfl) fun K hK => ?_
  simp -implicitDefEqProofs only [go_sem, ↓reduceIte, Nat.reduceAdd, Nat.reduceMul, Nat.reduceEqDiff, Nat.reduceLeDiff, reduceCtorEq, Int.reduceToNat]
  refine hK _ ?_; clear hK K
  refine AW.seq ?_
  refine AW.cond _ (by simp -implicitDefEqProofs only [go_sem, ↓reduceIte, Nat.reduceAdd, Nat.reduceMul, Nat.reduceEqDiff, Nat.reduceLeDiff, reduceCtorEq, Int.reduceToNat]; rfl) (fun hc => ?_) (fun hc => ?_)
  · refine AW.skip ?_
    simp only [andThen, inBlk, reduceCtorEq, ↓reduceIte, if_t, if_f]
    simp at hc
    obtain ⟨r, rest, rfl⟩ : ∃ r rest', rest = r :: rest' := by
      cases rest with
      | nil => simp at h1; omega
      | cons r rest => exact ⟨r, rest, rfl⟩
    have hr : l[s.length]? = some r := by
      have := congrArg (fun z => z[0]?) h2
      simpa using this.symm
    have ⟨hr1, hr2, hr3⟩ := at_map' encRaw hr
    have er : (encRaw r).length = 4 := rfl
    refine AW.seq ?_
    refine AW.block ?_
    refine AW.rT (by rfl) fun K hK => ?_
    simp -implicitDefEqProofs only [go_sem, ↓reduceIte, Nat.reduceAdd, Nat.reduceMul, Nat.reduceEqDiff, Nat.reduceLeDiff, reduceCtorEq, Int.reduceToNat, hr1, hr2, hr3, encRaw]
    refine hK _ ?_; clear hK K
    refine AW.rT (by rfl) fun K hK => ?_
    simp -implicitDefEqProofs only [go_sem, ↓reduceIte, Nat.reduceAdd, Nat.reduceMul, Nat.reduceEqDiff, Nat.reduceLeDiff, reduceCtorEq, Int.reduceToNat]
    refine hK _ ?_; clear hK K
    have rl := rowS_length s l.length (by omega)
    refine AW.cut (siS l s r) (fun k => k ≤ s.length ∧ placeR s r s.length = k) ?_ fun k hk => ?_
    refine AW.block ?_
    refine AW.loop (siS l s r) (fun k => k ≤ s.length ∧ placeR s r s.length = placeR s r k) (fun k => k) s.length ?_ (by simp) fun k hk => ?_
    · try simp only [siS]
      refine Ghost.ent (fun x => if x = 0 then 0 else 5) ?_ ?_ ?_ <;> simp -implicitDefEqProofs only [go_sem, ↓reduceIte, Nat.reduceAdd, Nat.reduceMul, Nat.reduceEqDiff, Nat.reduceLeDiff, reduceCtorEq, Int.reduceToNat, rowS, List.forall_mem_cons, List.not_mem_nil, false_implies, implies_true, and_self, map_renL_lift, labsIn_lift, List.all_append, List.all_cons, List.all_nil, List.map_append, Nat.reduceLT, labsInL, AV.labsIn]
    obtain ⟨hk, hp⟩ := hk
    try simp only [siS]
    refine AW.seq ?_
    cases k with
    | zero =>
      have i0 : (((0 : Nat) : Int) > 0) = False := by simp
      refine AW.dT mixed (by rfl) (by decide +kernel) fun K hK => ?_
      simp -implicitDefEqProofs only [go_sem, ↓reduceIte, Nat.reduceAdd, Nat.reduceMul, Nat.reduceEqDiff, Nat.reduceLeDiff, reduceCtorEq, Int.reduceToNat, i0]
      refine ⟨heapOK_nil rfl, ?_⟩
      refine hK _ ?_; clear hK K
      refine AW.cond _ (by simp -implicitDefEqProofs only [go_sem, ↓reduceIte, Nat.reduceAdd, Nat.reduceMul, Nat.reduceEqDiff, Nat.reduceLeDiff, reduceCtorEq, Int.reduceToNat]; rfl) (fun hc => ?_) (fun hc => ?_)
      · simp at hc
      refine AW.exit ?_
      simp only [andThen, inBlk, reduceCtorEq, ↓reduceIte, if_t, if_f]
      refine ⟨0, ⟨by omega, by rw [hp]; rfl⟩, ?_⟩
      try simp only [siS]
      refine Ghost.sub ?_ ?_ <;> simp -implicitDefEqProofs only [go_sem, ↓reduceIte, Nat.reduceAdd, Nat.reduceMul, Nat.reduceEqDiff, Nat.reduceLeDiff, reduceCtorEq, Int.reduceToNat, rowS, List.forall_mem_cons, List.not_mem_nil, false_implies, implies_true, and_self, labsIn_lift, List.all_append, List.all_cons, List.all_nil, Nat.reduceLT, labsInL, AV.labsIn]
    | succ k =>
      obtain ⟨x, hx⟩ : ∃ x, s[k]? = some x := ⟨_, List.getElem?_eq_getElem (by omega)⟩
      have hrow := at_row s l.length k x hx
      have w1 : IntKind.wrap .i64 (((k + 1 : Nat) : Int) - 1) = (k : Int) := by rw [w64] <;> omega
      have i1 : (((k + 1 : Nat) : Int) > 0) = True := by simp
      have b1 : (0 ≤ (k : Int)) = True := by simp
      have b2 : ((k : Int) < (l.length : Int)) = True := by simp; omega
      refine AW.dT mixed (by rfl) (by decide +kernel) fun K hK => ?_
      simp -implicitDefEqProofs only [go_sem, ↓reduceIte, Nat.reduceAdd, Nat.reduceMul, Nat.reduceEqDiff, Nat.reduceLeDiff, reduceCtorEq, Int.reduceToNat, i1, w1, hrow, rl, b1, b2]
      refine ⟨heapOK_nil rfl, ?_⟩
      refine hK _ ?_; clear hK K
      have hpl : placeR s r (k + 1) = if r.tag < x.tag then placeR s r k else k + 1 := by
        simp only [placeR, hx]
      refine AW.cond _ (by simp -implicitDefEqProofs only [go_sem, ↓reduceIte, Nat.reduceAdd, Nat.reduceMul, Nat.reduceEqDiff, Nat.reduceLeDiff, reduceCtorEq, Int.reduceToNat]; rfl) (fun hc => ?_) (fun hc => ?_)
      · refine AW.skip ?_
        simp only [andThen, inBlk, reduceCtorEq, ↓reduceIte, if_t, if_f]
        simp at hc
        rw [if_pos hc] at hpl
        refine AW.block ?_
        refine AW.rE (by rfl) fun K hK => ?_
        simp -implicitDefEqProofs only [go_sem, ↓reduceIte, Nat.reduceAdd, Nat.reduceMul, Nat.reduceEqDiff, Nat.reduceLeDiff, reduceCtorEq, Int.reduceToNat, w1]
        refine hK _ ?_; clear hK K
        refine ⟨k, ⟨by omega, by rw [hp, hpl]⟩, by omega, ?_⟩
        try simp only [siS]
        refine Ghost.sub ?_ ?_ <;> simp -implicitDefEqProofs only [go_sem, ↓reduceIte, Nat.reduceAdd, Nat.reduceMul, Nat.reduceEqDiff, Nat.reduceLeDiff, reduceCtorEq, Int.reduceToNat, rowS, List.forall_mem_cons, List.not_mem_nil, false_implies, implies_true, and_self, labsIn_lift, List.all_append, List.all_cons, List.all_nil, Nat.reduceLT, labsInL, AV.labsIn]
      · refine AW.exit ?_
        simp only [andThen, inBlk, reduceCtorEq, ↓reduceIte, if_t, if_f]
        simp at hc
        rw [if_neg (by omega)] at hpl
        refine ⟨k + 1, ⟨by omega, by rw [hp, hpl]⟩, ?_⟩
        try simp only [siS]
        refine Ghost.sub ?_ ?_ <;> simp -implicitDefEqProofs only [go_sem, ↓reduceIte, Nat.reduceAdd, Nat.reduceMul, Nat.reduceEqDiff, Nat.reduceLeDiff, reduceCtorEq, Int.reduceToNat, rowS, List.forall_mem_cons, List.not_mem_nil, false_implies, implies_true, and_self, labsIn_lift, List.all_append, List.all_cons, List.all_nil, Nat.reduceLT, labsInL, AV.labsIn]
    · obtain ⟨hk, hp⟩ := hk
      try simp only [siS]
      have w1 : IntKind.wrap .i64 ((k : Int) + 1) = ((k + 1 : Nat) : Int) := by rw [w64] <;> omega
      have w2 : IntKind.wrap .i64 ((s.length : Int) + 1) = ((s.length + 1 : Nat) : Int) := by rw [w64] <;> omega
      have rl := rowS_length s l.length (by omega)
      have rne : (rowS s l.length ≠ []) = True := by
        simp only [eq_iff_iff, iff_true]
        intro h; rw [h] at rl; simp at rl; omega
      refine AW.dT mixed (by rfl) (by decide +kernel) fun K hK => ?_
      simp -implicitDefEqProofs only [go_sem, ↓reduceIte, Nat.reduceAdd, Nat.reduceMul, Nat.reduceEqDiff, Nat.reduceLeDiff, reduceCtorEq, Int.reduceToNat, w1, w2, rl, rne]
      refine ⟨by omega, by omega, ⟨by omega, ?_⟩, by decide +kernel, ?_⟩
      · intro f hf
        exact rowS_four s l.length f (List.mem_of_mem_drop (List.mem_of_mem_take hf))
      refine hK _ ?_; clear hK K
      obtain ⟨m1, ⟨a, b, c, d, m2⟩, m3⟩ := moved_spec s r l.length k hk (by omega)
      have m0 := moved.eq_1 (rowS s l.length) k s.length
      simp only [← m0]
      generalize moved (rowS s l.length) k s.length = row2 at m1 m2 m3
      refine AW.rE (by rfl) fun K hK => ?_
      simp -implicitDefEqProofs only [go_sem, ↓reduceIte, Nat.reduceAdd, Nat.reduceMul, Nat.reduceEqDiff, Nat.reduceLeDiff, reduceCtorEq, Int.reduceToNat, m1, m2, m3]
      refine ⟨by omega, ?_⟩
      refine hK _ ?_; clear hK K
      simp only [andThen, inBlk, reduceCtorEq, ↓reduceIte, if_t, if_f]
      refine AW.rE (by rfl) fun K hK => ?_
      simp -implicitDefEqProofs only [go_sem, ↓reduceIte, Nat.reduceAdd, Nat.reduceMul, Nat.reduceEqDiff, Nat.reduceLeDiff, reduceCtorEq, Int.reduceToNat, w2]
      refine hK _ ?_; clear hK K
      have li : (insR s r k).length = s.length + 1 := by simp [insR]; omega
      refine ⟨(insR s r k, rest), ⟨?_, ?_, ?_⟩, by simp, ?_⟩
      · simp only [li]; simp at h1; omega
      · have := congrArg List.tail h2
        rw [li]
        simpa using this
      · rw [← h3, sortL, hp]
      · simp only [soS, li]
        refine Ghost.sub ?_ ?_ <;> simp -implicitDefEqProofs only [go_sem, ↓reduceIte, Nat.reduceAdd, Nat.reduceMul, Nat.reduceEqDiff, Nat.reduceLeDiff, reduceCtorEq, Int.reduceToNat, rowS, List.forall_mem_cons, List.not_mem_nil, false_implies, implies_true, and_self, labsIn_lift, List.all_append, List.all_cons, List.all_nil, Nat.reduceLT, labsInL, AV.labsIn]
  · simp at hc
    refine AW.exit ?_
    simp only [andThen, inBlk, reduceCtorEq, ↓reduceIte, if_t, if_f]
    have hrest : rest = [] := by
      cases rest with
      | nil => rfl
      | cons r rest => simp at h1; omega
    subst hrest
    have hs : s.length = l.length := by simp at h1; omega
    have hrow : rowS s l.length = liftE (s.map encRaw) := by unfold rowS; rw [hs]; simp
    rw [← h3]
    simp only [sortL]
    refine AW.rT (by rfl) fun K hK => ?_
    simp -implicitDefEqProofs only [go_sem, ↓reduceIte, Nat.reduceAdd, Nat.reduceMul, Nat.reduceEqDiff, Nat.reduceLeDiff, reduceCtorEq, Int.reduceToNat, hrow]
    refine hK _ ?_; clear hK K
    refine AW.ret ?_
    simp -implicitDefEqProofs only [go_sem, ↓reduceIte, Nat.reduceAdd, Nat.reduceMul, Nat.reduceEqDiff, Nat.reduceLeDiff, reduceCtorEq, Int.reduceToNat]
end Go.Aw
/- Rising and Sorted, the program's and the document's. -/
namespace Go.Aw
open Go.Proofs
set_option linter.unusedSimpArgs false
set_option linter.unusedVariables false
def rising : List Raw → Bool
  | a :: b :: r => if b.tag < a.tag then false else rising (b :: r)
  | _ => true
theorem rising_drop (l : List Raw) (i : Nat) (a b : Raw) (ha : l[i]? = some a) (hb : l[i+1]? = some b) : rising (l.drop i) = if b.tag < a.tag then false else rising (l.drop (i+1)) := by
  obtain ⟨h1, h2⟩ := List.getElem?_eq_some_iff.1 ha
  obtain ⟨h3, h4⟩ := List.getElem?_eq_some_iff.1 hb
  rw [List.drop_eq_getElem_cons h1, List.drop_eq_getElem_cons h3, h2, h4]
  simp [rising]
theorem rising_end (l : List Raw) (i : Nat) (h : l.length ≤ i + 1) : rising (l.drop i) = true := by
  match he : l.drop i with
  | [] => rfl
  | [a] => rfl
  | a :: b :: r =>
    have := congrArg List.length he
    simp at this
    omega
theorem wire_Rising (l : List Raw) (hl : l.length ≤ maxLen) : PFn Try.prog 36 [.slice (l.map encRaw)] (.bool (rising l)) := by
  have hm : maxLen = 9223372036854775807 := by decide
  refine PFn.of Try.func36 rfl (by decide) Try.ntmps36 Try.results36 (Nat.le_of_ble_eq_true rfl) ?_
  simp only [argsT]
  refine AW.rT (by rfl) fun K hK => ?_
  simp -implicitDefEqProofs only [go_sem, ↓reduceIte, Nat.reduceAdd, Nat.reduceMul, Nat.reduceEqDiff, Nat.reduceLeDiff, reduceCtorEq, Int.reduceToNat]
  refine hK _ ?_; clear hK K
  refine AW.seq ?_
  refine AW.rT (by rfl) fun K hK => ?_
  simp -implicitDefEqProofs only [go_sem, ↓reduceIte, Nat.reduceAdd, Nat.reduceMul, Nat.reduceEqDiff, Nat.reduceLeDiff, reduceCtorEq, Int.reduceToNat]
  refine hK _ ?_; clear hK K
  refine AW.block ?_
  refine AW.loop (α := Nat) (fun i => ⟨ofL [(0, .p (.slice (l.map encRaw))), (3, .p (.int .i64 ((i : Int) + 1)))], ofH [], 0⟩) (fun i => rising (l.drop i) = rising l) (fun i => l.length - i) 0 ?_ (by simp) fun i hi => ?_
  · refine Ghost.sub ?_ ?_ <;> simp -implicitDefEqProofs only [go_sem, ↓reduceIte, Nat.reduceAdd, Nat.reduceMul, Nat.reduceEqDiff, Nat.reduceLeDiff, reduceCtorEq, Int.reduceToNat,  List.forall_mem_cons, List.not_mem_nil, false_implies, implies_true, and_self, labsIn_lift, List.all_append, List.all_cons, List.all_nil, Nat.reduceLT, labsInL, AV.labsIn]
    simp
  refine AW.seq ?_
  refine AW.rT (by rfl) fun K hK => ?_
  simp -implicitDefEqProofs only [go_sem, ↓reduceIte, Nat.reduceAdd, Nat.reduceMul, Nat.reduceEqDiff, Nat.reduceLeDiff, reduceCtorEq, Int.reduceToNat]
  refine hK _ ?_; clear hK K
  refine AW.cond _ (by simp -implicitDefEqProofs only [go_sem, ↓reduceIte, Nat.reduceAdd, Nat.reduceMul, Nat.reduceEqDiff, Nat.reduceLeDiff, reduceCtorEq, Int.reduceToNat]; rfl) (fun hc => ?_) (fun hc => ?_)
  · refine AW.skip ?_
    simp only [andThen]
    simp at hc
    refine AW.seq ?_
    refine AW.block ?_
    obtain ⟨a, ha⟩ : ∃ a, l[i]? = some a := ⟨_, List.getElem?_eq_getElem (by omega)⟩
    obtain ⟨b, hb⟩ : ∃ a, l[i+1]? = some a := ⟨_, List.getElem?_eq_getElem (by omega)⟩
    have w1 : IntKind.wrap .i64 ((i : Int) + 1 - 1) = i := by rw [w64] <;> omega
    have ⟨hb1, hb2, hb3⟩ := at_map encRaw hb (i := (i : Int) + 1) (by omega)
    have ⟨ha1, ha2, ha3⟩ := at_map' encRaw ha
    refine AW.dT mixed (by rfl) (by decide +kernel) fun K hK => ?_
    simp -implicitDefEqProofs only [go_sem, ↓reduceIte, Nat.reduceAdd, Nat.reduceMul, Nat.reduceEqDiff, Nat.reduceLeDiff, reduceCtorEq, Int.reduceToNat, w1, hb1, hb2, hb3, ha1, ha2, ha3, encRaw]
    refine ⟨heapOK_nil rfl, ?_⟩
    refine hK _ ?_; clear hK K
    have hr := rising_drop l i a b ha hb
    refine AW.cond _ (by simp -implicitDefEqProofs only [go_sem, ↓reduceIte, Nat.reduceAdd, Nat.reduceMul, Nat.reduceEqDiff, Nat.reduceLeDiff, reduceCtorEq, Int.reduceToNat]; rfl) (fun hc => ?_) (fun hc => ?_)
    · simp at hc
      refine AW.rT (by rfl) fun K hK => ?_
      simp -implicitDefEqProofs only [go_sem, ↓reduceIte, Nat.reduceAdd, Nat.reduceMul, Nat.reduceEqDiff, Nat.reduceLeDiff, reduceCtorEq, Int.reduceToNat]
      refine hK _ ?_; clear hK K
      refine AW.ret ?_
      simp -implicitDefEqProofs only [go_sem, ↓reduceIte, Nat.reduceAdd, Nat.reduceMul, Nat.reduceEqDiff, Nat.reduceLeDiff, reduceCtorEq, Int.reduceToNat]
      simp [hc] at hr
      rw [← hi, hr]
    · refine AW.skip ?_
      simp only [andThen, inBlk, reduceCtorEq, ↓reduceIte, if_t, if_f]
      have w2 : IntKind.wrap .i64 ((i : Int) + 1 + 1) = ((i + 1 : Nat) : Int) + 1 := by rw [w64] <;> omega
      refine AW.rE (by rfl) fun K hK => ?_
      simp -implicitDefEqProofs only [go_sem, ↓reduceIte, Nat.reduceAdd, Nat.reduceMul, Nat.reduceEqDiff, Nat.reduceLeDiff, reduceCtorEq, Int.reduceToNat, w2]
      refine hK _ ?_; clear hK K
      refine ⟨i + 1, ?_, by omega, ?_⟩
      · simp at hc
        rw [if_neg (by omega)] at hr
        rw [← hr, hi]
      · refine Ghost.sub ?_ ?_ <;> simp -implicitDefEqProofs only [go_sem, ↓reduceIte, Nat.reduceAdd, Nat.reduceMul, Nat.reduceEqDiff, Nat.reduceLeDiff, reduceCtorEq, Int.reduceToNat,  List.forall_mem_cons, List.not_mem_nil, false_implies, implies_true, and_self, labsIn_lift, List.all_append, List.all_cons, List.all_nil, Nat.reduceLT, labsInL, AV.labsIn]
  · refine AW.exit ?_
    simp -implicitDefEqProofs only [go_sem, ↓reduceIte, Nat.reduceAdd, Nat.reduceMul, Nat.reduceEqDiff, Nat.reduceLeDiff, reduceCtorEq, Int.reduceToNat]
    refine AW.rT (by rfl) fun K hK => ?_
    simp -implicitDefEqProofs only [go_sem, ↓reduceIte, Nat.reduceAdd, Nat.reduceMul, Nat.reduceEqDiff, Nat.reduceLeDiff, reduceCtorEq, Int.reduceToNat]
    refine hK _ ?_; clear hK K
    refine AW.ret ?_
    simp -implicitDefEqProofs only [go_sem, ↓reduceIte, Nat.reduceAdd, Nat.reduceMul, Nat.reduceEqDiff, Nat.reduceLeDiff, reduceCtorEq, Int.reduceToNat]
    simp at hc
    rw [← hi, rising_end l i (by omega)]
theorem ref04_Rising (l : List Raw) (hl : l.length ≤ maxLen) : PFn Try.prog 37 [.slice (l.map encRaw)] (.bool (rising l)) := by
  have hm : maxLen = 9223372036854775807 := by decide
  refine PFn.of Try.func37 rfl (by decide) Try.ntmps37 Try.results37 (Nat.le_of_ble_eq_true rfl) ?_
  simp only [argsT]
  refine AW.rT (by rfl) fun K hK => ?_
  simp -implicitDefEqProofs only [go_sem, ↓reduceIte, Nat.reduceAdd, Nat.reduceMul, Nat.reduceEqDiff, Nat.reduceLeDiff, reduceCtorEq, Int.reduceToNat]
  refine hK _ ?_; clear hK K
  refine AW.seq ?_
  refine AW.rT (by rfl) fun K hK => ?_
  simp -implicitDefEqProofs only [go_sem, ↓reduceIte, Nat.reduceAdd, Nat.reduceMul, Nat.reduceEqDiff, Nat.reduceLeDiff, reduceCtorEq, Int.reduceToNat]
  refine hK _ ?_; clear hK K
  refine AW.block ?_
  refine AW.loop (α := Nat) (fun i => ⟨ofL [(0, .p (.slice (l.map encRaw))), (3, .p (.int .i64 ((i : Int) + 1)))], ofH [], 0⟩) (fun i => rising (l.drop i) = rising l) (fun i => l.length - i) 0 ?_ (by simp) fun i hi => ?_
  · refine Ghost.sub ?_ ?_ <;> simp -implicitDefEqProofs only [go_sem, ↓reduceIte, Nat.reduceAdd, Nat.reduceMul, Nat.reduceEqDiff, Nat.reduceLeDiff, reduceCtorEq, Int.reduceToNat,  List.forall_mem_cons, List.not_mem_nil, false_implies, implies_true, and_self, labsIn_lift, List.all_append, List.all_cons, List.all_nil, Nat.reduceLT, labsInL, AV.labsIn]
    simp
  refine AW.seq ?_
  refine AW.rT (by rfl) fun K hK => ?_
  simp -implicitDefEqProofs only [go_sem, ↓reduceIte, Nat.reduceAdd, Nat.reduceMul, Nat.reduceEqDiff, Nat.reduceLeDiff, reduceCtorEq, Int.reduceToNat]
  refine hK _ ?_; clear hK K
  refine AW.cond _ (by simp -implicitDefEqProofs only [go_sem, ↓reduceIte, Nat.reduceAdd, Nat.reduceMul, Nat.reduceEqDiff, Nat.reduceLeDiff, reduceCtorEq, Int.reduceToNat]; rfl) (fun hc => ?_) (fun hc => ?_)
  · refine AW.skip ?_
    simp only [andThen]
    simp at hc
    refine AW.seq ?_
    refine AW.block ?_
    obtain ⟨a, ha⟩ : ∃ a, l[i]? = some a := ⟨_, List.getElem?_eq_getElem (by omega)⟩
    obtain ⟨b, hb⟩ : ∃ a, l[i+1]? = some a := ⟨_, List.getElem?_eq_getElem (by omega)⟩
    have w1 : IntKind.wrap .i64 ((i : Int) + 1 - 1) = i := by rw [w64] <;> omega
    have ⟨hb1, hb2, hb3⟩ := at_map encRaw hb (i := (i : Int) + 1) (by omega)
    have ⟨ha1, ha2, ha3⟩ := at_map' encRaw ha
    refine AW.dT mixed (by rfl) (by decide +kernel) fun K hK => ?_
    simp -implicitDefEqProofs only [go_sem, ↓reduceIte, Nat.reduceAdd, Nat.reduceMul, Nat.reduceEqDiff, Nat.reduceLeDiff, reduceCtorEq, Int.reduceToNat, w1, hb1, hb2, hb3, ha1, ha2, ha3, encRaw]
    refine ⟨heapOK_nil rfl, ?_⟩
    refine hK _ ?_; clear hK K
    have hr := rising_drop l i a b ha hb
    refine AW.cond _ (by simp -implicitDefEqProofs only [go_sem, ↓reduceIte, Nat.reduceAdd, Nat.reduceMul, Nat.reduceEqDiff, Nat.reduceLeDiff, reduceCtorEq, Int.reduceToNat]; rfl) (fun hc => ?_) (fun hc => ?_)
    · simp at hc
      refine AW.rT (by rfl) fun K hK => ?_
      simp -implicitDefEqProofs only [go_sem, ↓reduceIte, Nat.reduceAdd, Nat.reduceMul, Nat.reduceEqDiff, Nat.reduceLeDiff, reduceCtorEq, Int.reduceToNat]
      refine hK _ ?_; clear hK K
      refine AW.ret ?_
      simp -implicitDefEqProofs only [go_sem, ↓reduceIte, Nat.reduceAdd, Nat.reduceMul, Nat.reduceEqDiff, Nat.reduceLeDiff, reduceCtorEq, Int.reduceToNat]
      simp [hc] at hr
      rw [← hi, hr]
    · refine AW.skip ?_
      simp only [andThen, inBlk, reduceCtorEq, ↓reduceIte, if_t, if_f]
      have w2 : IntKind.wrap .i64 ((i : Int) + 1 + 1) = ((i + 1 : Nat) : Int) + 1 := by rw [w64] <;> omega
      refine AW.rE (by rfl) fun K hK => ?_
      simp -implicitDefEqProofs only [go_sem, ↓reduceIte, Nat.reduceAdd, Nat.reduceMul, Nat.reduceEqDiff, Nat.reduceLeDiff, reduceCtorEq, Int.reduceToNat, w2]
      refine hK _ ?_; clear hK K
      refine ⟨i + 1, ?_, by omega, ?_⟩
      · simp at hc
        rw [if_neg (by omega)] at hr
        rw [← hr, hi]
      · refine Ghost.sub ?_ ?_ <;> simp -implicitDefEqProofs only [go_sem, ↓reduceIte, Nat.reduceAdd, Nat.reduceMul, Nat.reduceEqDiff, Nat.reduceLeDiff, reduceCtorEq, Int.reduceToNat,  List.forall_mem_cons, List.not_mem_nil, false_implies, implies_true, and_self, labsIn_lift, List.all_append, List.all_cons, List.all_nil, Nat.reduceLT, labsInL, AV.labsIn]
  · refine AW.exit ?_
    simp -implicitDefEqProofs only [go_sem, ↓reduceIte, Nat.reduceAdd, Nat.reduceMul, Nat.reduceEqDiff, Nat.reduceLeDiff, reduceCtorEq, Int.reduceToNat]
    refine AW.rT (by rfl) fun K hK => ?_
    simp -implicitDefEqProofs only [go_sem, ↓reduceIte, Nat.reduceAdd, Nat.reduceMul, Nat.reduceEqDiff, Nat.reduceLeDiff, reduceCtorEq, Int.reduceToNat]
    refine hK _ ?_; clear hK K
    refine AW.ret ?_
    simp -implicitDefEqProofs only [go_sem, ↓reduceIte, Nat.reduceAdd, Nat.reduceMul, Nat.reduceEqDiff, Nat.reduceLeDiff, reduceCtorEq, Int.reduceToNat]
    simp at hc
    rw [← hi, rising_end l i (by omega)]
theorem eqP_bool (a b : Bool) : EqP Try.prog 4 (.bool a) (.bool b) (a == b) := by
  intro w I u v hu hv
  cases hu; cases hv
  have e : (Op.equalIn 10000 4 (.bool a) (.bool b)).run Try.prog w = .ok (a == b) w := run_equalIn_bool' w 9999 4 a b Try.underlying4
  refine ⟨?_, ?_, fun op x y => by cases op <;> rfl⟩
  · simp only [binOp]; simp [Op.equal, Op.maxDepth, e]
  · simp only [binOp]; simp [Op.equal, Op.maxDepth, e]
end Go.Aw
/- The document's Sorted. -/
namespace Go.Aw
open Go.Proofs
set_option linter.unusedSimpArgs false
set_option linter.unusedVariables false
theorem sortL_app (s l : List Raw) (r : Raw) : sortL s (l ++ [r]) = insR (sortL s l) r (placeR (sortL s l) r (sortL s l).length) := by
  induction l generalizing s with
  | nil => rfl
  | cons a l ih => exact ih _
theorem sortL_length' : ∀ (l s : List Raw), (sortL s l).length = s.length + l.length := by
  intro l
  induction l with
  | nil => intro s; simp [sortL]
  | cons r l ih =>
    intro s
    rw [sortL, ih]
    simp only [insR, List.length_append, List.length_take, List.length_cons, List.length_drop]
    omega
def roS (l : List Raw) (i : Nat) : St :=
  ⟨ofL [(0, .p (.slice (l.map encRaw))), (3, .own 0), (4, .p (.int .i64 (i : Int)))], ofH [(0, .row 4 (liftE ((sortL [] (l.take i)).map encRaw)))], 1⟩
def riS (l : List Raw) (i : Nat) (s : List Raw) (r : Raw) (k : Nat) : St :=
  ⟨ofL [(0, .p (.slice (l.map encRaw))), (3, .own 0), (4, .p (.int .i64 (i : Int))), (5, .p (.int .i64 (k : Int)))], ofH [(0, .row 4 (liftE ((insR s r k).map encRaw)))], 1⟩
theorem insR_at (s : List Raw) (r : Raw) (k : Nat) (h : k ≤ s.length) : (insR s r k)[k]? = some r := by
  unfold insR
  rw [List.getElem?_append_right (by rw [List.length_take]; omega)]
  simp only [List.length_take, Nat.min_eq_left h, Nat.sub_self, List.getElem?_cons_zero]
theorem insR_before (s : List Raw) (r x : Raw) (k : Nat) (h : s[k]? = some x) : (insR s r (k + 1))[k]? = some x := by
  have := (List.getElem?_eq_some_iff.1 h).1
  unfold insR
  rw [List.getElem?_append_left (by simp; omega), List.getElem?_take, if_pos (by omega)]
  exact h
theorem insR_swap (s : List Raw) (r x : Raw) (k : Nat) (h : s[k]? = some x) : ((insR s r (k + 1)).set k r).set (k + 1) x = insR s r k := by
  obtain ⟨h1, h2⟩ := List.getElem?_eq_some_iff.1 h
  apply List.ext_getElem?
  intro i
  unfold insR
  simp only [List.getElem?_set, List.getElem?_append, List.getElem?_take, List.length_set, List.length_append, List.length_take, List.length_cons, List.length_drop, List.getElem?_cons, List.getElem?_drop]
  have m1 : min (k + 1) s.length = k + 1 := by omega
  have m2 : min k s.length = k := by omega
  rw [m1, m2]
  by_cases e1 : k + 1 = i
  · subst e1
    rw [if_pos rfl, if_pos (by omega), if_neg (by omega), if_neg (by omega), show k + (k + 1 - k - 1) = k by omega, h]
  · rw [if_neg e1]
    by_cases e2 : k = i
    · subst e2
      rw [if_pos rfl, if_pos (by omega), if_neg (by omega), if_pos (by omega)]
    · rw [if_neg e2]
      by_cases e3 : i < k
      · rw [if_pos (by omega), if_pos (by omega), if_pos e3, if_pos e3]
      · rw [if_neg (by omega), if_neg (by omega), if_neg e3, if_neg (by omega)]
        congr 1; omega
theorem at_ins {l : List Raw} {n : Nat} {a : Raw} (h : l[n]? = some a) : (liftE (l.map encRaw))[n]? = some [.p (.int .i64 a.tag), .p (.int .i64 a.wire), .p (.int .i64 a.n), .p (.str a.b)] := at_lift encRaw h
theorem set_lift (l : List Raw) (n : Nat) (a : Raw) : (liftE (l.map encRaw)).set n [.p (.int .i64 a.tag), .p (.int .i64 a.wire), .p (.int .i64 a.n), .p (.str a.b)] = liftE ((l.set n a).map encRaw) := by
  unfold liftE
  rw [List.map_set, List.map_set]; rfl
set_option maxRecDepth 100000 in
theorem ref04_Sorted (l : List Raw) (hl : l.length ≤ 1000000) : PFn Try.prog 38 [.slice (l.map encRaw)] (.slice ((sortL [] l).map encRaw)) := by
  refine PFn.of Try.func38 rfl (by decide) Try.ntmps38 Try.results38 (Nat.le_of_ble_eq_true rfl) ?_
  simp only [argsT]
  refine AW.rT (by rfl) fun K hK => ?_
  simp -implicitDefEqProofs only [go_sem, ↓reduceIte, Nat.reduceAdd, Nat.reduceMul, Nat.reduceEqDiff, Nat.reduceLeDiff, reduceCtorEq, Int.reduceToNat]
  refine hK _ ?_; clear hK K
  refine AW.rT (by rfl) fun K hK => ?_
  simp -implicitDefEqProofs only [go_sem, ↓reduceIte, Nat.reduceAdd, Nat.reduceMul, Nat.reduceEqDiff, Nat.reduceLeDiff, reduceCtorEq, Int.reduceToNat]
  refine hK _ ?_; clear hK K
  refine AW.seq ?_
  refine AW.rT (by rfl) fun K hK => ?_
  simp -implicitDefEqProofs only [go_sem, ↓reduceIte, Nat.reduceAdd, Nat.reduceMul, Nat.reduceEqDiff, Nat.reduceLeDiff, reduceCtorEq, Int.reduceToNat]
  refine hK _ ?_; clear hK K
  refine AW.block ?_
  refine AW.loop (roS l) (fun i => i ≤ l.length) (fun i => l.length - i) 0 ?_ (by simp) fun i hi => ?_
  · refine Ghost.trans (Ghost.nil (t := 3) (sz := 4) (by simp -implicitDefEqProofs only [go_sem, ↓reduceIte, Nat.reduceAdd, Nat.reduceMul, Nat.reduceEqDiff, Nat.reduceLeDiff, reduceCtorEq, Int.reduceToNat])) ?_
    simp only [roS]
    refine Ghost.ent (fun _ => 3) ?_ ?_ ?_ <;> simp -implicitDefEqProofs only [go_sem, ↓reduceIte, Nat.reduceAdd, Nat.reduceMul, Nat.reduceEqDiff, Nat.reduceLeDiff, reduceCtorEq, Int.reduceToNat, List.take_zero, sortL, List.map_nil, liftE_nil, List.forall_mem_cons, List.not_mem_nil, false_implies, implies_true, and_self, map_renL_lift, labsIn_lift, List.all_append, List.all_cons, List.all_nil, List.map_append, Nat.reduceLT, labsInL, AV.labsIn]
    rfl
  simp only [roS]
  refine AW.seq ?_
  refine AW.rT (by rfl) fun K hK => ?_
  simp -implicitDefEqProofs only [go_sem, ↓reduceIte, Nat.reduceAdd, Nat.reduceMul, Nat.reduceEqDiff, Nat.reduceLeDiff, reduceCtorEq, Int.reduceToNat]
  refine hK _ ?_; clear hK K
  refine AW.cond _ (by simp -implicitDefEqProofs only [go_sem, ↓reduceIte, Nat.reduceAdd, Nat.reduceMul, Nat.reduceEqDiff, Nat.reduceLeDiff, reduceCtorEq, Int.reduceToNat]; rfl) (fun hc => ?_) (fun hc => ?_)
  · refine AW.skip ?_
    simp only [andThen, inBlk, reduceCtorEq, ↓reduceIte, if_t, if_f]
    simp at hc
    obtain ⟨r, hr⟩ : ∃ a, l[i]? = some a := ⟨_, List.getElem?_eq_getElem (by omega)⟩
    have ⟨hr1, hr2, hr3⟩ := at_map' encRaw hr
    have hta : sortL [] (l.take (i + 1)) = insR (sortL [] (l.take i)) r (placeR (sortL [] (l.take i)) r (sortL [] (l.take i)).length) := by
      rw [List.take_add_one, hr]
      exact sortL_app _ _ _
    have hsl : (sortL [] (l.take i)).length = i := by rw [sortL_length']; simp; omega
    generalize sortL [] (l.take i) = s at hta hsl
    refine AW.seq ?_
    refine AW.block ?_
    refine AW.rT (by rfl) fun K hK => ?_
    simp -implicitDefEqProofs only [go_sem, ↓reduceIte, Nat.reduceAdd, Nat.reduceMul, Nat.reduceEqDiff, Nat.reduceLeDiff, reduceCtorEq, Int.reduceToNat, liftE_length, List.length_map]
    refine hK _ ?_; clear hK K
    refine AW.rT (by rfl) fun K hK => ?_
    simp -implicitDefEqProofs only [go_sem, ↓reduceIte, Nat.reduceAdd, Nat.reduceMul, Nat.reduceEqDiff, Nat.reduceLeDiff, reduceCtorEq, Int.reduceToNat, hr1, hr2, hr3, encRaw]
    refine ⟨⟨by simp, by simp [oneAll, AV.one, PV.one], fun h => h.elim⟩, ⟨by rw [liftE_length, List.length_map]; omega, ?_⟩⟩
    refine hK _ ?_; clear hK K
    have w2 : IntKind.wrap .i64 ((i : Int) + 1) = ((i + 1 : Nat) : Int) := by rw [w64] <;> omega
    refine AW.block ?_
    refine AW.loop (riS l i s r) (fun k => k ≤ s.length ∧ placeR s r s.length = placeR s r k) (fun k => k) s.length ?_ (by simp) fun k hk => ?_
    · simp only [riS]
      have e : insR s r s.length = s ++ [r] := by simp [insR]
      refine Ghost.ent (fun _ => 14) ?_ ?_ ?_ <;> simp -implicitDefEqProofs only [go_sem, ↓reduceIte, Nat.reduceAdd, Nat.reduceMul, Nat.reduceEqDiff, Nat.reduceLeDiff, reduceCtorEq, Int.reduceToNat, e, encRaw, List.map_append, liftE_append, liftE_cons, liftE_nil, List.forall_mem_cons, List.not_mem_nil, false_implies, implies_true, and_self, map_renL_lift, labsIn_lift, List.all_append, List.all_cons, List.all_nil, List.map_append, Nat.reduceLT, labsInL, AV.labsIn]
    obtain ⟨hk, hp⟩ := hk
    try simp only [riS]
    refine AW.seq ?_
    have fin : ∀ k, k ≤ s.length → placeR s r s.length = k → sortL [] (l.take (i + 1)) = insR s r k := fun k _ h => by rw [hta, h]
    cases k with
    | zero =>
      have i0 : (((0 : Nat) : Int) > 0) = False := by simp
      refine AW.dT mixed (by rfl) (by decide +kernel) fun K hK => ?_
      simp -implicitDefEqProofs only [go_sem, ↓reduceIte, Nat.reduceAdd, Nat.reduceMul, Nat.reduceEqDiff, Nat.reduceLeDiff, reduceCtorEq, Int.reduceToNat, i0]
      refine ⟨heapOK_nil rfl, ?_⟩
      refine hK _ ?_; clear hK K
      refine AW.cond _ (by simp -implicitDefEqProofs only [go_sem, ↓reduceIte, Nat.reduceAdd, Nat.reduceMul, Nat.reduceEqDiff, Nat.reduceLeDiff, reduceCtorEq, Int.reduceToNat]; rfl) (fun hc => ?_) (fun hc => ?_)
      · simp at hc
      refine AW.exit ?_
      simp only [andThen, inBlk, reduceCtorEq, ↓reduceIte, if_t, if_f]
      refine AW.rE (by rfl) fun K hK => ?_
      simp -implicitDefEqProofs only [go_sem, ↓reduceIte, Nat.reduceAdd, Nat.reduceMul, Nat.reduceEqDiff, Nat.reduceLeDiff, reduceCtorEq, Int.reduceToNat, w2]
      refine hK _ ?_; clear hK K
      refine ⟨i + 1, by omega, by omega, ?_⟩
      rw [fin 0 (by omega) (by rw [hp]; rfl)]
      refine Ghost.sub ?_ ?_ <;> simp -implicitDefEqProofs only [go_sem, ↓reduceIte, Nat.reduceAdd, Nat.reduceMul, Nat.reduceEqDiff, Nat.reduceLeDiff, reduceCtorEq, Int.reduceToNat,  List.forall_mem_cons, List.not_mem_nil, false_implies, implies_true, and_self, labsIn_lift, List.all_append, List.all_cons, List.all_nil, Nat.reduceLT, labsInL, AV.labsIn]
    | succ k =>
      obtain ⟨x, hx⟩ : ∃ x, s[k]? = some x := ⟨_, List.getElem?_eq_getElem (by omega)⟩
      have g1 := at_ins (insR_at s r (k + 1) hk)
      have g2 := at_ins (insR_before s r x k hx)
      have li : (liftE ((insR s r (k + 1)).map encRaw)).length = s.length + 1 := by
        rw [liftE_length, List.length_map]; unfold insR; simp; omega
      have w1 : IntKind.wrap .i64 (((k + 1 : Nat) : Int) - 1) = (k : Int) := by rw [w64] <;> omega
      have i1 : (((k + 1 : Nat) : Int) > 0) = True := by simp
      have b1 : (0 ≤ (k : Int)) = True := by simp
      have b2 : ((k : Int) < ((s.length + 1 : Nat) : Int)) = True := by simp; omega
      have b3 : (0 ≤ ((k + 1 : Nat) : Int)) = True := eq_true (by omega)
      have b4 : (((k + 1 : Nat) : Int) < ((s.length + 1 : Nat) : Int)) = True := by simp; omega
      refine AW.dT mixed (by rfl) (by decide +kernel) fun K hK => ?_
      simp -implicitDefEqProofs only [go_sem, ↓reduceIte, Nat.reduceAdd, Nat.reduceMul, Nat.reduceEqDiff, Nat.reduceLeDiff, reduceCtorEq, Int.reduceToNat, i1, w1, g1, g2, li, b1, b2, b3, b4]
      refine ⟨heapOK_nil rfl, ?_⟩
      refine hK _ ?_; clear hK K
      have hpl : placeR s r (k + 1) = if r.tag < x.tag then placeR s r k else k + 1 := by
        simp only [placeR, hx]
      refine AW.cond _ (by simp -implicitDefEqProofs only [go_sem, ↓reduceIte, Nat.reduceAdd, Nat.reduceMul, Nat.reduceEqDiff, Nat.reduceLeDiff, reduceCtorEq, Int.reduceToNat]; rfl) (fun hc => ?_) (fun hc => ?_)
      · refine AW.skip ?_
        simp only [andThen, inBlk, reduceCtorEq, ↓reduceIte, if_t, if_f]
        simp at hc
        rw [if_pos hc] at hpl
        refine AW.block ?_
        have g3 : (liftE (((insR s r (k + 1)).set k r).map encRaw))[k + 1]? = some [.p (.int .i64 r.tag), .p (.int .i64 r.wire), .p (.int .i64 r.n), .p (.str r.b)] :=
          at_ins (by rw [List.getElem?_set_ne (by omega)]; exact insR_at s r (k + 1) hk)
        have l3 : (liftE (((insR s r (k + 1)).set k r).map encRaw)).length = s.length + 1 := by
          rw [liftE_length, List.length_map, List.length_set]; unfold insR; simp; omega
        have sw := insR_swap s r x k hx
        refine AW.dT mixed (by rfl) (by decide +kernel) fun K hK => ?_
        simp -implicitDefEqProofs only [go_sem, ↓reduceIte, Nat.reduceAdd, Nat.reduceMul, Nat.reduceEqDiff, Nat.reduceLeDiff, reduceCtorEq, Int.reduceToNat, i1, w1, g1, g2, g3, li, l3, b1, b2, b3, b4, set_lift, sw]
        refine ⟨by decide +kernel, ?_⟩
        refine hK _ ?_; clear hK K
        refine AW.rE (by rfl) fun K hK => ?_
        simp -implicitDefEqProofs only [go_sem, ↓reduceIte, Nat.reduceAdd, Nat.reduceMul, Nat.reduceEqDiff, Nat.reduceLeDiff, reduceCtorEq, Int.reduceToNat, w1]
        refine hK _ ?_; clear hK K
        refine ⟨k, ⟨by omega, by rw [hp, hpl]⟩, by omega, ?_⟩
        try simp only [riS]
        refine Ghost.sub ?_ ?_ <;> simp -implicitDefEqProofs only [go_sem, ↓reduceIte, Nat.reduceAdd, Nat.reduceMul, Nat.reduceEqDiff, Nat.reduceLeDiff, reduceCtorEq, Int.reduceToNat,  List.forall_mem_cons, List.not_mem_nil, false_implies, implies_true, and_self, labsIn_lift, List.all_append, List.all_cons, List.all_nil, Nat.reduceLT, labsInL, AV.labsIn]
      · refine AW.exit ?_
        simp only [andThen, inBlk, reduceCtorEq, ↓reduceIte, if_t, if_f]
        simp at hc
        rw [if_neg (by omega)] at hpl
        refine AW.rE (by rfl) fun K hK => ?_
        simp -implicitDefEqProofs only [go_sem, ↓reduceIte, Nat.reduceAdd, Nat.reduceMul, Nat.reduceEqDiff, Nat.reduceLeDiff, reduceCtorEq, Int.reduceToNat, w2]
        refine hK _ ?_; clear hK K
        refine ⟨i + 1, by omega, by omega, ?_⟩
        rw [fin (k + 1) (by omega) (by rw [hp, hpl])]
        refine Ghost.sub ?_ ?_ <;> simp -implicitDefEqProofs only [go_sem, ↓reduceIte, Nat.reduceAdd, Nat.reduceMul, Nat.reduceEqDiff, Nat.reduceLeDiff, reduceCtorEq, Int.reduceToNat,  List.forall_mem_cons, List.not_mem_nil, false_implies, implies_true, and_self, labsIn_lift, List.all_append, List.all_cons, List.all_nil, Nat.reduceLT, labsInL, AV.labsIn]
  · refine AW.exit ?_
    simp only [andThen, inBlk, reduceCtorEq, ↓reduceIte, if_t, if_f]
    simp at hc
    have : i = l.length := by omega
    subst this
    rw [List.take_length]
    refine AW.rT (by rfl) fun K hK => ?_
    simp -implicitDefEqProofs only [go_sem, ↓reduceIte, Nat.reduceAdd, Nat.reduceMul, Nat.reduceEqDiff, Nat.reduceLeDiff, reduceCtorEq, Int.reduceToNat]
    refine hK _ ?_; clear hK K
    refine AW.ret ?_
    simp -implicitDefEqProofs only [go_sem, ↓reduceIte, Nat.reduceAdd, Nat.reduceMul, Nat.reduceEqDiff, Nat.reduceLeDiff, reduceCtorEq, Int.reduceToNat]
end Go.Aw
/- A wire's field, opened. -/
namespace Go.Aw
open Go.Proofs
def strOK (s : List UInt8) : Prop := s.length ≤ maxLen
theorem opn_raw (W : World) : Opn Try.prog W 28 encRaw rawOK := by
  have i3 : Opn Try.prog W 3 (fun n : Int => [.int .i64 n]) i64ok := opn_int Try.underlying3
  have s9 : Opn Try.prog W 9 (fun s : List UInt8 => [.str s]) strOK := opn_str Try.underlying9
  have c3 : Try.prog.cellsOf 3 = 1 := by kernel_rfl
  have c9 : Try.prog.cellsOf 9 = 1 := by kernel_rfl
  refine Opn.map (G := fun x : Int × Int × Int × List UInt8 × Unit => i64ok x.1 ∧ i64ok x.2.1 ∧ i64ok x.2.2.1 ∧ strOK x.2.2.2.1 ∧ True) (opn_struct Try.underlying28 (by kernel_rfl) ?_) (fun x : Int × Int × Int × List UInt8 × Unit => (⟨x.1, x.2.1, x.2.2.1, x.2.2.2.1⟩ : Raw)) (fun a => rfl) (fun b p hp => by simp [encRaw] at hp; rcases hp with rfl | rfl | rfl | rfl <;> rfl) ?_
  · have f3 := opnF_cons (P := Try.prog) (w := W) (off := 3) (f := { name := "B", type := 9, offset := 3, embedded := false, tag := "", pkgPath := "", byteOffset := 24 }) rfl c9 s9 (fun _ => rfl) opnF_nil
    have f2 := opnF_cons (P := Try.prog) (w := W) (off := 2) (f := { name := "N", type := 3, offset := 2, embedded := false, tag := "", pkgPath := "", byteOffset := 16 }) rfl c3 i3 (fun _ => rfl) f3
    have f1 := opnF_cons (P := Try.prog) (w := W) (off := 1) (f := { name := "Wire", type := 3, offset := 1, embedded := false, tag := "", pkgPath := "", byteOffset := 8 }) rfl c3 i3 (fun _ => rfl) f2
    have f0 := opnF_cons (P := Try.prog) (w := W) (off := 0) (f := { name := "Tag", type := 3, offset := 0, embedded := false, tag := "", pkgPath := "", byteOffset := 0 }) rfl c3 i3 (fun _ => rfl) f1
    exact f0
  · exact fun a h => ⟨h.1, h.2.1, h.2.2.1, h.2.2.2.1⟩
theorem opn_raws (W : World) : Opn Try.prog W 22 (fun l : List Raw => [.slice (l.map encRaw)]) (fun l => l.length ≤ maxLen ∧ ∀ a ∈ l, rawOK a) :=
  opn_slice (sz := 4) Try.underlying22 (by kernel_rfl) (by decide) (opn_raw W) (fun _ => rfl)
theorem Opn.mapG {P : Program} {w : World} {t : TypeId} {α β : Type} {e : α → List PV} {G : α → Prop} {e' : β → List PV} {G' : β → Prop} (h : Opn P w t e G) (f : α → β) (he : ∀ a, G a → e' (f a) = e a) (h1 : ∀ b, ∀ p ∈ e' b, p.one = true) (hg : ∀ a, G a → G' (f a)) : Opn P w t e' G' := by
  refine ⟨h1, fun H enc fuel cs d hd => ?_⟩
  obtain ⟨a, g, l, r⟩ := h.2 H enc fuel cs d hd
  exact ⟨f a, hg a g, by rw [he a g]; exact l, by rw [he a g]; exact r⟩
theorem opn_byte (W : World) : Opn Try.prog W 5 encB (fun _ => True) := by
  refine Opn.mapG (opn_int Try.underlying5) (fun n : Int => UInt8.ofNat n.toNat) (fun n h => ?_) (fun b p hp => by simp [encB] at hp; subst hp; rfl) (fun _ _ => trivial)
  have e1 : IntKind.u8.min = 0 := by decide
  have e2 : IntKind.u8.max = 255 := by decide
  simp [Lit.wf, e1, e2] at h
  simp only [encB]
  congr 2
  have : (UInt8.ofNat n.toNat).toNat = n.toNat := by simp; omega
  rw [this]; omega
theorem opn_bytes (W : World) : Opn Try.prog W 31 (fun l : List UInt8 => [.slice (l.map encB)]) (fun l => l.length ≤ maxLen ∧ ∀ a ∈ l, True) :=
  opn_slice (sz := 1) Try.underlying31 (by kernel_rfl) (by decide) (opn_byte W) (fun _ => rfl)
theorem bytes_bound {n : Nat} (h : n * Try.prog.bytesOf 5 ≤ reachBytes) : n ≤ 140737488351232 := by
  have e : Try.prog.bytesOf 5 = 1 := by kernel_rfl
  rw [e] at h
  unfold reachBytes at h
  omega
theorem nok {r : Raw} (h : rawOK r) : -9223372036854775808 ≤ r.n ∧ r.n ≤ 9223372036854775807 := i64ok_iff.1 h.2.2.1
theorem opn_i64 (W : World) : Opn Try.prog W 3 (fun n : Int => [.int .i64 n]) i64ok := opn_int Try.underlying3
theorem tryMaps : mapsRowed Try.prog = true := by kernel_rfl
theorem tryLaid : laidOutB Try.prog = true := by kernel_rfl
theorem trySlices : ((List.range Try.prog.types.size).all fun t => match Try.prog.underlying t with | some (.slice e) => decide (0 < Try.prog.cellsOf e) | _ => true) = true := by kernel_rfl
end Go.Aw
