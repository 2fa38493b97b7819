/- A call with deep memory, as an operation of a region. -/
import Derived.Test.YtmeplhcfjihafaaAwD2
namespace Go.Aw
open Go.Proofs Go.RowKit
set_option linter.unusedSimpArgs false
set_option linter.unusedVariables false
theorem SeqR.call {P : Program} {nt : Fm} {s : St} {ops : Array Oper} {i : Nat} {K : St → Prop} {d : Tmp} {f : FuncId} {xs : Array Operand} {ts : Array TypeId} {ty : TypeId} {ps : String} {af : Array Edge} {args : List AV} {h : List (Nat × Blk)} {n : Nat} {rt : List Nat} {r : AV} {h' : List (Nat × Blk)} {m : Nat} (ρ : Nat → Nat)
    (ho : ops[i]? = some ⟨some d, .call { callee := .value (.func f), args := xs, argTypes := ts }, ty, ps, af, none⟩) (hd : dstOK nt ⟨some d, .call { callee := .value (.func f), args := xs, argTypes := ts }, ty, ps, af, none⟩ = true) (D : DFn P f args h n rt r h' m) (F : FitD s xs.toList args h n rt r h' ρ)
    (hk : SeqR P nt ops (i + 1) ⟨upd s.T d (some (r.ren (lift2 ρ n s.nx))), putH (putH s.H (goneU ρ h)) (newU (lift2 ρ n s.nx) h'), s.nx + m⟩ K) : SeqR P nt ops i s K :=
  SeqR.op ho rfl (callD_fn ρ rfl hd D F hk)
theorem labsBy_lift {p : Nat → Bool} {sz : Nat} {es : List (List PV)} : (Blk.row sz (liftE es)).labsBy p = true := by
  have : ∀ l : List PV, labsByL p (l.map AV.p) = true := fun l => by
    induction l with
    | nil => rfl
    | cons a l ih => rw [List.map_cons, labsByL, ih]; rfl
  simp only [Blk.labsBy, liftE, List.all_map, List.all_eq_true]
  intro e _
  exact this e
theorem setL {α : Type} (f : α → List PV) (l : List α) (n : Nat) (a : α) : (liftE (l.map f)).set n ((f a).map AV.p) = liftE ((l.set n a).map f) := by
  unfold liftE
  rw [List.map_set, List.map_set]
end Go.Aw
