/- What panics, and is caught: a value asked for what it is not. -/
import Derived.Test.YtmeplhcfjihafaaAwV2
import Derived.Tactics
import Derived.Tactics2
import Derived.Recover
import Derived.Laws.Pointers
namespace Go.Aw
open Go.Proofs Go.RowKit
set_option linter.unusedSimpArgs false
set_option linter.unusedVariables false
def lacks (x : Value) (ty : TypeId) : Prop := x = .nilIface ∨ ∃ t u, x = .iface t u ∧ t ≠ ty
theorem run_lacks {x : Value} {xT ty : TypeId} (w : World) (h : lacks x ty) (hc : conc Try.prog ty = true) : ∃ u pv o, (Instr.typeAssert x xT ty false).run Try.prog w = .halt (.panic (.iface u pv)) (w.alloc o) := by
  obtain ⟨u, hu, hne⟩ := conc_und hc
  rcases h with rfl | ⟨t, u', rfl, hne'⟩
  · refine ⟨15, .pointer (some ⟨w.heap.size, 0, none⟩), .cells (Value.agg #[typeHandle Try.prog xT, .pointer none, typeHandle Try.prog ty, strVal ""]).cells 121, ?_⟩
    cases u <;> first
      | exact absurd rfl (hne _)
      | simp [Instr.typeAssert, run_underlying' hu, runtimePanic, elemOf, newVar, newRow, goPanic]
  · refine ⟨15, .pointer (some ⟨w.heap.size, 0, none⟩), .cells (Value.agg #[typeHandle Try.prog xT, typeHandle Try.prog t, typeHandle Try.prog ty, strVal ""]).cells 121, ?_⟩
    cases u <;> first
      | exact absurd rfl (hne _)
      | simp [Instr.typeAssert, run_underlying' hu, hne', runtimePanic, elemOf, newVar, newRow, goPanic]
theorem Fr.alloc {w0 w : World} {X : Nat → Prop} (h : Fr w0 X w) (o : Obj) : Fr w0 X (w.alloc o) := by
  have e : ∀ b, b < w0.heap.size → (w.alloc o).heap[b]? = w.heap[b]? := fun b hb => by
    have := h.size
    show (w.heap.push o)[b]? = _
    rw [Array.getElem?_push, if_neg (by omega)]
  refine ⟨h.os, h.tape, h.output, ?_, fun b hb hx => (e b hb).trans (h.block b hb hx), h.step fun b cur et p hb hc => ⟨cur, et, p, by rw [e b hb]; exact hc, rfl⟩⟩
  show _ ≤ (w.heap.push o).size
  have := h.size
  simp; omega
theorem Fr.setCell {w0 w : World} {X : Nat → Prop} (h : Fr w0 X w) {p : Addr} (hp : w0.heap.size ≤ p.block) (v : Value) : Fr w0 X (w.setCell p v) := by
  have e : ∀ b, b < w0.heap.size → (w.setCell p v).heap[b]? = w.heap[b]? := fun b hb => heap_setCell_other w p b v (by omega)
  refine ⟨h.os, h.tape, h.output, ?_, fun b hb hx => (e b hb).trans (h.block b hb hx), h.step fun b cur et p hb hc => ⟨cur, et, p, by rw [e b hb]; exact hc, rfl⟩⟩
  show _ ≤ (w.heap.modify _ _).size
  rw [Array.size_modify]
  exact h.size
def must (f : FuncId) (ty : TypeId) : Prop := ∀ (x : Value) (w : World), lacks x ty → Calls Try.prog f #[.agg #[x]] w fun e w' => (∃ u pv, e = .panicked [{ v := .iface u pv, recovered := false }]) ∧ Fr w (fun _ => False) w'
set_option maxRecDepth 100000 in
theorem must57 : must 57 99 := by
  intro x w hx
  have h1 : x.oneCell' = true := by rcases hx with rfl | ⟨t, u, rfl, _⟩ <;> rfl
  go_enter Try.func57, Try.ntmps57
  go_wp2
  obtain ⟨u, pv, o, hr⟩ := run_lacks (xT := 57) (w.alloc (Obj.cells #[x] 59)) hx conc_99
  rw [hr]
  exact ⟨rfl, ⟨u, pv, rfl⟩, ((Fr.refl w _).alloc _).alloc _⟩
set_option maxRecDepth 100000 in
theorem must58 : must 58 101 := by
  intro x w hx
  have h1 : x.oneCell' = true := by rcases hx with rfl | ⟨t, u, rfl, _⟩ <;> rfl
  go_enter Try.func58, Try.ntmps58
  go_wp2
  obtain ⟨u, pv, o, hr⟩ := run_lacks (xT := 57) (w.alloc (Obj.cells #[x] 59)) hx conc_101
  rw [hr]
  exact ⟨rfl, ⟨u, pv, rfl⟩, ((Fr.refl w _).alloc _).alloc _⟩
set_option maxRecDepth 100000 in
theorem must88 : must 88 66 := by
  intro x w hx
  have h1 : x.oneCell' = true := by rcases hx with rfl | ⟨t, u, rfl, _⟩ <;> rfl
  go_enter Try.func88, Try.ntmps88
  go_wp2
  obtain ⟨u, pv, o, hr⟩ := run_lacks (xT := 57) (w.alloc (Obj.cells #[x] 59)) hx conc_66
  rw [hr]
  exact ⟨rfl, ⟨u, pv, rfl⟩, ((Fr.refl w _).alloc _).alloc _⟩
def askTy (k : Int) : TypeId := if k = 0 then 99 else if k = 1 then 101 else 66
theorem catch_panicking (p : Addr) (x : Bool) (u : TypeId) (pv : Value) (older : List PanicEntry) (w : World) (hc : w.cell? p = some (.bool x)) (hz : w.frozen? p = false) :
    CallsD Try.prog 87 #[.pointer (some p)] (.panicking ({ v := .iface u pv, recovered := false } :: older)) w fun e u' w' =>
      e = .returned (.tuple #[]) ∧ u' = .panicking ({ v := .iface u pv, recovered := true } :: older) ∧ w' = w.setCell p (.bool true) := by
  refine callsD_of_wpS Try.func87 rfl fun c₀ cs hu => ?_
  apply wpS_seq
  apply wpS_region
  simp [wpOpsS, go_sem, recoverD, hu, Try.ntmps87, Exit.thenS]
  refine wpS_cond (t := true) (by simp [Act.eval, Array.replicate]) ?_
  simp only [if_true]
  apply wpS_region
  simp [wpOpsS, go_sem, hc, hz, bodyPostS, results, Try.results87]
theorem catch_idle (p : Addr) (w : World) :
    CallsD Try.prog 87 #[.pointer (some p)] .returning w fun e u' w' => e = .returned (.tuple #[]) ∧ u' = .returning ∧ w' = w := by
  refine callsD_of_wpS Try.func87 rfl fun c₀ cs hu => ?_
  apply wpS_seq
  apply wpS_region
  simp [wpOpsS, go_sem, recoverD, hu, Try.ntmps87, Exit.thenS]
  refine wpS_cond (t := false) (by simp [Act.eval, Array.replicate]) ?_
  simp only [Bool.false_eq_true, if_false]
  refine wpS_of_wp (wp_skip ?_)
  cases c₀
  simp_all [bodyPostS, results, Try.results87]
set_option maxRecDepth 100000 in
theorem panics_0 (x : Value) (w : World) (hx : lacks x 99) : Calls Try.prog 54 #[.agg #[x], .int .i64 0] w fun e w' => e = .returned (.bool true) ∧ Fr w (fun _ => False) w' := by
  have hmf : ∀ (fn : Fn) (first cap : Array Value) (w : World), (Instr.makeFunc fn first cap).run Try.prog w = .ok (.func fn first cap) w := fun _ _ _ _ => rfl
  have h1c : x.oneCell' = true := by rcases hx with rfl | ⟨t, u, rfl, _⟩ <;> rfl
  go_enter_defers Try.func54, Try.ntmps54
  go_wp2
  obtain ⟨u, pv, o, hr⟩ := run_lacks (xT := 57) (((w.alloc (Obj.cells #[x] 59)).alloc (Obj.cells #[.bool false] 4)).alloc (Obj.cells #[x] 59)) hx conc_99
  rw [hr]
  refine ⟨rfl, ?_⟩
  refine leaves_cons (f := 87) (args := #[.pointer (some ⟨w.heap.size + 1, 0, none⟩)]) (by simp) (by simp [go_sem]) ?_
  refine (catch_panicking ⟨w.heap.size + 1, 0, none⟩ false u pv [] _ ?_ ?_).mono ?_
  · simp [go_sem]
  · simp [go_sem]
  rintro e u' w'' ⟨rfl, rfl, rfl⟩
  refine ⟨.bool true, ?_, rfl, ((((Fr.refl w _).alloc _).alloc _).alloc _).alloc _ |>.setCell (by show w.heap.size ≤ w.heap.size + 1; omega) _⟩
  simp [results, Try.results54, go_sem]
set_option maxRecDepth 100000 in
theorem panics_1 (x : Value) (w : World) (hx : lacks x 101) : Calls Try.prog 54 #[.agg #[x], .int .i64 1] w fun e w' => e = .returned (.bool true) ∧ Fr w (fun _ => False) w' := by
  have hmf : ∀ (fn : Fn) (first cap : Array Value) (w : World), (Instr.makeFunc fn first cap).run Try.prog w = .ok (.func fn first cap) w := fun _ _ _ _ => rfl
  have h1c : x.oneCell' = true := by rcases hx with rfl | ⟨t, u, rfl, _⟩ <;> rfl
  go_enter_defers Try.func54, Try.ntmps54
  go_wp2
  obtain ⟨u, pv, o, hr⟩ := run_lacks (xT := 57) (((w.alloc (Obj.cells #[x] 59)).alloc (Obj.cells #[.bool false] 4)).alloc (Obj.cells #[x] 59)) hx conc_101
  rw [hr]
  refine ⟨rfl, ?_⟩
  refine leaves_cons (f := 87) (args := #[.pointer (some ⟨w.heap.size + 1, 0, none⟩)]) (by simp) (by simp [go_sem]) ?_
  refine (catch_panicking ⟨w.heap.size + 1, 0, none⟩ false u pv [] _ ?_ ?_).mono ?_
  · simp [go_sem]
  · simp [go_sem]
  rintro e u' w'' ⟨rfl, rfl, rfl⟩
  refine ⟨.bool true, ?_, rfl, ((((Fr.refl w _).alloc _).alloc _).alloc _).alloc _ |>.setCell (by show w.heap.size ≤ w.heap.size + 1; omega) _⟩
  simp [results, Try.results54, go_sem]
set_option maxRecDepth 100000 in
theorem panics_2 (x : Value) (w : World) (hx : lacks x 66) : Calls Try.prog 54 #[.agg #[x], .int .i64 2] w fun e w' => e = .returned (.bool true) ∧ Fr w (fun _ => False) w' := by
  have hmf : ∀ (fn : Fn) (first cap : Array Value) (w : World), (Instr.makeFunc fn first cap).run Try.prog w = .ok (.func fn first cap) w := fun _ _ _ _ => rfl
  have h1c : x.oneCell' = true := by rcases hx with rfl | ⟨t, u, rfl, _⟩ <;> rfl
  go_enter_defers Try.func54, Try.ntmps54
  go_wp2
  obtain ⟨u, pv, o, hr⟩ := run_lacks (xT := 57) (((w.alloc (Obj.cells #[x] 59)).alloc (Obj.cells #[.bool false] 4)).alloc (Obj.cells #[x] 59)) hx conc_66
  rw [hr]
  refine ⟨rfl, ?_⟩
  refine leaves_cons (f := 87) (args := #[.pointer (some ⟨w.heap.size + 1, 0, none⟩)]) (by simp) (by simp [go_sem]) ?_
  refine (catch_panicking ⟨w.heap.size + 1, 0, none⟩ false u pv [] _ ?_ ?_).mono ?_
  · simp [go_sem]
  · simp [go_sem]
  rintro e u' w'' ⟨rfl, rfl, rfl⟩
  refine ⟨.bool true, ?_, rfl, ((((Fr.refl w _).alloc _).alloc _).alloc _).alloc _ |>.setCell (by show w.heap.size ≤ w.heap.size + 1; omega) _⟩
  simp [results, Try.results54, go_sem]
theorem run_has {u : Value} {xT ty : TypeId} (w : World) (hc : conc Try.prog ty = true) : (Instr.typeAssert (.iface ty u) xT ty false).run Try.prog w = .ok u w := by
  obtain ⟨d, hu, hne⟩ := conc_und hc
  cases d <;> first
    | exact absurd rfl (hne _)
    | simp [Instr.typeAssert, run_underlying' hu]
set_option maxRecDepth 100000 in
theorem stays_0 (u : Value) (w : World) : Calls Try.prog 54 #[.agg #[.iface 99 u], .int .i64 0] w fun e w' => e = .returned (.bool false) ∧ Fr w (fun _ => False) w' := by
  have hmf : ∀ (fn : Fn) (first cap : Array Value) (w : World), (Instr.makeFunc fn first cap).run Try.prog w = .ok (.func fn first cap) w := fun _ _ _ _ => rfl
  have hra : ∀ w : World, (Instr.typeAssert (.iface 99 u) 57 99 false).run Try.prog w = .ok u w := fun w => run_has w conc_99
  go_enter_defers Try.func54, Try.ntmps54
  go_wp2
  refine leaves_cons (f := 87) (args := #[.pointer (some ⟨w.heap.size + 1, 0, none⟩)]) (by simp) (by simp [go_sem]) ?_
  refine (catch_idle ⟨w.heap.size + 1, 0, none⟩ _).mono ?_
  rintro e u' w'' ⟨rfl, rfl, rfl⟩
  refine ⟨.bool false, ?_, rfl, ?_⟩
  · simp [results, Try.results54, go_sem]
  · exact (((Fr.refl w _).alloc _).alloc _).alloc _
set_option maxRecDepth 100000 in
theorem stays_1 (u : Value) (w : World) : Calls Try.prog 54 #[.agg #[.iface 101 u], .int .i64 1] w fun e w' => e = .returned (.bool false) ∧ Fr w (fun _ => False) w' := by
  have hmf : ∀ (fn : Fn) (first cap : Array Value) (w : World), (Instr.makeFunc fn first cap).run Try.prog w = .ok (.func fn first cap) w := fun _ _ _ _ => rfl
  have hra : ∀ w : World, (Instr.typeAssert (.iface 101 u) 57 101 false).run Try.prog w = .ok u w := fun w => run_has w conc_101
  go_enter_defers Try.func54, Try.ntmps54
  go_wp2
  refine leaves_cons (f := 87) (args := #[.pointer (some ⟨w.heap.size + 1, 0, none⟩)]) (by simp) (by simp [go_sem]) ?_
  refine (catch_idle ⟨w.heap.size + 1, 0, none⟩ _).mono ?_
  rintro e u' w'' ⟨rfl, rfl, rfl⟩
  refine ⟨.bool false, ?_, rfl, ?_⟩
  · simp [results, Try.results54, go_sem]
  · exact (((Fr.refl w _).alloc _).alloc _).alloc _
set_option maxRecDepth 100000 in
theorem stays_2 (u : Value) (w : World) : Calls Try.prog 54 #[.agg #[.iface 66 u], .int .i64 2] w fun e w' => e = .returned (.bool false) ∧ Fr w (fun _ => False) w' := by
  have hmf : ∀ (fn : Fn) (first cap : Array Value) (w : World), (Instr.makeFunc fn first cap).run Try.prog w = .ok (.func fn first cap) w := fun _ _ _ _ => rfl
  have hra : ∀ w : World, (Instr.typeAssert (.iface 66 u) 57 66 false).run Try.prog w = .ok u w := fun w => run_has w conc_66
  go_enter_defers Try.func54, Try.ntmps54
  go_wp2
  refine leaves_cons (f := 87) (args := #[.pointer (some ⟨w.heap.size + 1, 0, none⟩)]) (by simp) (by simp [go_sem]) ?_
  refine (catch_idle ⟨w.heap.size + 1, 0, none⟩ _).mono ?_
  rintro e u' w'' ⟨rfl, rfl, rfl⟩
  refine ⟨.bool false, ?_, rfl, ?_⟩
  · simp [results, Try.results54, go_sem]
  · exact (((Fr.refl w _).alloc _).alloc _).alloc _
def panicsB : In0 → Nat → Bool
  | .num _, 0 => false
  | .str _, 1 => false
  | .node _, 2 => false
  | _, _ => true
theorem rep_in {w : World} {I : Nat → Prop} {v : Value} {x : In0} (h : rep w I v (.agg [encIn x])) : ∃ u, v = .agg #[u] ∧ rep w I u (encIn x) := by
  cases h with
  | agg hs hr =>
    rename_i vs
    have h1 : vs.size = 1 := by rw [hs]; rfl
    refine ⟨vs[0], ?_, hr 0 _ _ (Array.getElem?_eq_getElem (by omega)) rfl⟩
    congr 1
    apply Array.ext
    · exact h1
    · intro i hi hi'
      have : i = 0 := by omega
      subst this
      rfl
def lackIn (x : In0) (ty : TypeId) : Prop := match x with | .none => True | .num _ => 99 ≠ ty | .str _ => 101 ≠ ty | .node _ => 66 ≠ ty
theorem in_lacks {w : World} {I : Nat → Prop} {u : Value} {x : In0} (h : rep w I u (encIn x)) (ty : TypeId) (hx : lackIn x ty) : lacks u ty := by
  cases x with
  | none => cases h; exact .inl rfl
  | num n => cases h with | iface _ h => exact .inr ⟨_, _, rfl, hx⟩
  | str n => cases h with | iface _ h => exact .inr ⟨_, _, rfl, hx⟩
  | node n => cases h with | iface _ h => exact .inr ⟨_, _, rfl, hx⟩
theorem panics_ok (x : In0) (k : Nat) (hk : k ≤ 2) : PFn Try.prog 54 [.agg [encIn x], .int .i64 (k : Int)] (.bool (panicsB x k)) := by
  refine ⟨by kernel_rfl, fun w I vals hs hr hI => ?_⟩
  have hs2 : vals.size = 2 := by rw [hs]; rfl
  have h0 := hr 0 _ _ (Array.getElem?_eq_getElem (by omega)) rfl
  have h1 := hr 1 _ _ (Array.getElem?_eq_getElem (by omega)) rfl
  obtain ⟨u, hu, hru⟩ := rep_in h0
  have hv : vals = #[.agg #[u], .int .i64 (k : Int)] := by
    generalize e1 : vals[1] = v1 at h1
    cases h1
    apply Array.ext
    · rw [hs2]; rfl
    · intro i hi hi'
      have : i < 2 := by omega
      match i, this with
      | 0, _ => exact hu
      | 1, _ => exact e1
  subst hv
  have yes : panicsB x k = true → (Calls Try.prog 54 #[.agg #[u], .int .i64 (k : Int)] w fun e w' => e = Ending.returned (.bool true) ∧ Fr w (fun _ => False) w') → _ := fun hb hc => hc.mono fun e w' ⟨he, hf⟩ => (⟨.bool true, he, hf, by rw [hb]; exact .bool true⟩ : ∃ v, e = Ending.returned v ∧ Fr w (fun _ => False) w' ∧ rep w' (fun g => I g ∨ (w.heap.size ≤ g ∧ g < w'.heap.size)) v (.bool (panicsB x k)))
  have no : panicsB x k = false → (Calls Try.prog 54 #[.agg #[u], .int .i64 (k : Int)] w fun e w' => e = Ending.returned (.bool false) ∧ Fr w (fun _ => False) w') → _ := fun hb hc => hc.mono fun e w' ⟨he, hf⟩ => (⟨.bool false, he, hf, by rw [hb]; exact .bool false⟩ : ∃ v, e = Ending.returned v ∧ Fr w (fun _ => False) w' ∧ rep w' (fun g => I g ∨ (w.heap.size ≤ g ∧ g < w'.heap.size)) v (.bool (panicsB x k)))
  have kc : k = 0 ∨ k = 1 ∨ k = 2 := by omega
  rcases kc with rfl | rfl | rfl
  · cases x with
    | num n => cases hru with | iface _ hru => exact no rfl (stays_0 _ w)
    | none => exact yes rfl (panics_0 u w (in_lacks hru 99 (by simp [lackIn])))
    | str s => exact yes rfl (panics_0 u w (in_lacks hru 99 (by simp [lackIn])))
    | node s => exact yes rfl (panics_0 u w (in_lacks hru 99 (by simp [lackIn])))
  · cases x with
    | str n => cases hru with | iface _ hru => exact no rfl (stays_1 _ w)
    | none => exact yes rfl (panics_1 u w (in_lacks hru 101 (by simp [lackIn])))
    | num s => exact yes rfl (panics_1 u w (in_lacks hru 101 (by simp [lackIn])))
    | node s => exact yes rfl (panics_1 u w (in_lacks hru 101 (by simp [lackIn])))
  · cases x with
    | node n => cases hru with | iface _ hru => exact no rfl (stays_2 _ w)
    | none => exact yes rfl (panics_2 u w (in_lacks hru 66 (by simp [lackIn])))
    | num s => exact yes rfl (panics_2 u w (in_lacks hru 66 (by simp [lackIn])))
    | str s => exact yes rfl (panics_2 u w (in_lacks hru 66 (by simp [lackIn])))
theorem law09_awake : PFn Try.prog 42 [] (.bool true) := by
  refine PFn.of Try.func42 rfl (by decide) Try.ntmps42 Try.results42 (Nat.le_of_ble_eq_true rfl) ?_
  simp only [argsT]
  refine AW.rT (by rfl) fun K hK => ?_
  simp -implicitDefEqProofs only [go_sem, decide_true, decide_false, not_true_eq_false, not_false_eq_true, Bool.false_eq_true, Bool.true_eq_false, ↓reduceIte, Nat.reduceAdd, Nat.reduceSub, Nat.reduceMul, Nat.reduceEqDiff, Nat.reduceLeDiff, Int.reduceNeg, reduceCtorEq, Int.reduceToNat, Int.toNat_natCast, Nat.reduceDiv, Nat.reduceMod, Nat.succ_ne_self, beq_self_eq_true, Bool.not_true, Bool.not_false, Option.some.injEq, exists_eq_left']
  refine hK _ ?_; clear hK K
  refine AW.rT (by rfl) fun K hK => ?_
  simp -implicitDefEqProofs only [go_sem, decide_true, decide_false, not_true_eq_false, not_false_eq_true, Bool.false_eq_true, Bool.true_eq_false, ↓reduceIte, Nat.reduceAdd, Nat.reduceSub, Nat.reduceMul, Nat.reduceEqDiff, Nat.reduceLeDiff, Int.reduceNeg, reduceCtorEq, Int.reduceToNat, Int.toNat_natCast, Nat.reduceDiv, Nat.reduceMod, Nat.succ_ne_self, beq_self_eq_true, Bool.not_true, Bool.not_false, Option.some.injEq, exists_eq_left']
  refine ⟨.pure _, value_Num 1, ?_⟩
  try simp -implicitDefEqProofs only [go_sem, decide_true, decide_false, not_true_eq_false, not_false_eq_true, Bool.false_eq_true, Bool.true_eq_false, ↓reduceIte, Nat.reduceAdd, Nat.reduceSub, Nat.reduceMul, Nat.reduceEqDiff, Nat.reduceLeDiff, Int.reduceNeg, reduceCtorEq, Int.reduceToNat, Int.toNat_natCast, Nat.reduceDiv, Nat.reduceMod, Nat.succ_ne_self, beq_self_eq_true, Bool.not_true, Bool.not_false, Option.some.injEq, exists_eq_left']
  refine ⟨.pure _, value_AsStr (.num 1), ?_⟩
  try simp -implicitDefEqProofs only [go_sem, decide_true, decide_false, not_true_eq_false, not_false_eq_true, Bool.false_eq_true, Bool.true_eq_false, ↓reduceIte, Nat.reduceAdd, Nat.reduceSub, Nat.reduceMul, Nat.reduceEqDiff, Nat.reduceLeDiff, Int.reduceNeg, reduceCtorEq, Int.reduceToNat, Int.toNat_natCast, Nat.reduceDiv, Nat.reduceMod, Nat.succ_ne_self, beq_self_eq_true, Bool.not_true, Bool.not_false, Option.some.injEq, exists_eq_left', asStr]
  refine hK _ ?_; clear hK K
  refine AW.rT (by rfl) fun K hK => ?_
  simp -implicitDefEqProofs only [go_sem, decide_true, decide_false, not_true_eq_false, not_false_eq_true, Bool.false_eq_true, Bool.true_eq_false, ↓reduceIte, Nat.reduceAdd, Nat.reduceSub, Nat.reduceMul, Nat.reduceEqDiff, Nat.reduceLeDiff, Int.reduceNeg, reduceCtorEq, Int.reduceToNat, Int.toNat_natCast, Nat.reduceDiv, Nat.reduceMod, Nat.succ_ne_self, beq_self_eq_true, Bool.not_true, Bool.not_false, Option.some.injEq, exists_eq_left']
  refine ⟨.pure _, value_Num 7, ?_⟩
  try simp -implicitDefEqProofs only [go_sem, decide_true, decide_false, not_true_eq_false, not_false_eq_true, Bool.false_eq_true, Bool.true_eq_false, ↓reduceIte, Nat.reduceAdd, Nat.reduceSub, Nat.reduceMul, Nat.reduceEqDiff, Nat.reduceLeDiff, Int.reduceNeg, reduceCtorEq, Int.reduceToNat, Int.toNat_natCast, Nat.reduceDiv, Nat.reduceMod, Nat.succ_ne_self, beq_self_eq_true, Bool.not_true, Bool.not_false, Option.some.injEq, exists_eq_left']
  refine ⟨.pure _, value_AsNum (.num 7), ?_⟩
  try simp -implicitDefEqProofs only [go_sem, decide_true, decide_false, not_true_eq_false, not_false_eq_true, Bool.false_eq_true, Bool.true_eq_false, ↓reduceIte, Nat.reduceAdd, Nat.reduceSub, Nat.reduceMul, Nat.reduceEqDiff, Nat.reduceLeDiff, Int.reduceNeg, reduceCtorEq, Int.reduceToNat, Int.toNat_natCast, Nat.reduceDiv, Nat.reduceMod, Nat.succ_ne_self, beq_self_eq_true, Bool.not_true, Bool.not_false, Option.some.injEq, exists_eq_left', asNum]
  refine hK _ ?_; clear hK K
  refine AW.rT (by rfl) fun K hK => ?_
  simp -implicitDefEqProofs only [go_sem, decide_true, decide_false, not_true_eq_false, not_false_eq_true, Bool.false_eq_true, Bool.true_eq_false, ↓reduceIte, Nat.reduceAdd, Nat.reduceSub, Nat.reduceMul, Nat.reduceEqDiff, Nat.reduceLeDiff, Int.reduceNeg, reduceCtorEq, Int.reduceToNat, Int.toNat_natCast, Nat.reduceDiv, Nat.reduceMod, Nat.succ_ne_self, beq_self_eq_true, Bool.not_true, Bool.not_false, Option.some.injEq, exists_eq_left']
  refine ⟨.pure _, value_Num 1, ?_⟩
  try simp -implicitDefEqProofs only [go_sem, decide_true, decide_false, not_true_eq_false, not_false_eq_true, Bool.false_eq_true, Bool.true_eq_false, ↓reduceIte, Nat.reduceAdd, Nat.reduceSub, Nat.reduceMul, Nat.reduceEqDiff, Nat.reduceLeDiff, Int.reduceNeg, reduceCtorEq, Int.reduceToNat, Int.toNat_natCast, Nat.reduceDiv, Nat.reduceMod, Nat.succ_ne_self, beq_self_eq_true, Bool.not_true, Bool.not_false, Option.some.injEq, exists_eq_left']
  refine ⟨.pure _, panics_ok (.num 1) 1 (by decide), ?_⟩
  try simp -implicitDefEqProofs only [go_sem, decide_true, decide_false, not_true_eq_false, not_false_eq_true, Bool.false_eq_true, Bool.true_eq_false, ↓reduceIte, Nat.reduceAdd, Nat.reduceSub, Nat.reduceMul, Nat.reduceEqDiff, Nat.reduceLeDiff, Int.reduceNeg, reduceCtorEq, Int.reduceToNat, Int.toNat_natCast, Nat.reduceDiv, Nat.reduceMod, Nat.succ_ne_self, beq_self_eq_true, Bool.not_true, Bool.not_false, Option.some.injEq, exists_eq_left', panicsB]
  refine ⟨.pure _, value_Str [97], ?_⟩
  try simp -implicitDefEqProofs only [go_sem, decide_true, decide_false, not_true_eq_false, not_false_eq_true, Bool.false_eq_true, Bool.true_eq_false, ↓reduceIte, Nat.reduceAdd, Nat.reduceSub, Nat.reduceMul, Nat.reduceEqDiff, Nat.reduceLeDiff, Int.reduceNeg, reduceCtorEq, Int.reduceToNat, Int.toNat_natCast, Nat.reduceDiv, Nat.reduceMod, Nat.succ_ne_self, beq_self_eq_true, Bool.not_true, Bool.not_false, Option.some.injEq, exists_eq_left']
  refine ⟨.pure _, panics_ok (.str [97]) 1 (by decide), ?_⟩
  try simp -implicitDefEqProofs only [go_sem, decide_true, decide_false, not_true_eq_false, not_false_eq_true, Bool.false_eq_true, Bool.true_eq_false, ↓reduceIte, Nat.reduceAdd, Nat.reduceSub, Nat.reduceMul, Nat.reduceEqDiff, Nat.reduceLeDiff, Int.reduceNeg, reduceCtorEq, Int.reduceToNat, Int.toNat_natCast, Nat.reduceDiv, Nat.reduceMod, Nat.succ_ne_self, beq_self_eq_true, Bool.not_true, Bool.not_false, Option.some.injEq, exists_eq_left', panicsB]
  refine hK _ ?_; clear hK K
  refine AW.ret ?_
  simp -implicitDefEqProofs only [go_sem, decide_true, decide_false, not_true_eq_false, not_false_eq_true, Bool.false_eq_true, Bool.true_eq_false, ↓reduceIte, Nat.reduceAdd, Nat.reduceSub, Nat.reduceMul, Nat.reduceEqDiff, Nat.reduceLeDiff, Int.reduceNeg, reduceCtorEq, Int.reduceToNat, Int.toNat_natCast, Nat.reduceDiv, Nat.reduceMod, Nat.succ_ne_self, beq_self_eq_true, Bool.not_true, Bool.not_false, Option.some.injEq, exists_eq_left']
end Go.Aw
