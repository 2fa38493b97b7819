/- The statement of the cut to 32 bits over whole numbers alone: cut twice is cut once, what is within stays, the order stays. -/
import Derived.Test.YtokpkphcpjalnaaPProjectClampsx1
namespace Go.Proofs.Ytokpkphcpjalnaa.Pure
open Go.RowKit Go.Proofs.Ytokpkphcpjalnaa.PProjectClamps Go.Proofs.YtokpkphcpjalnaaW.PrintWords Go.Proofs.YtokpkphcpjalnaaW.PrintLast

theorem awake_true : concordatlaw13_awake.f = some true := by
  unfold concordatlaw13_awake.f project_Clamp.f mx mn
  decide

theorem ProjectClamps : concordatlaw13_ProjectClamps.Pure := by
  intro a b _ _
  unfold concordatlaw13_ProjectClamps.f
  simp only [project_Clamp.f, Option.bind_some, awake_true]
  generalize hx : mx (-2147483648) (mn a 2147483647) = x
  generalize hy : mx (-2147483648) (mn b 2147483647) = y
  generalize hz : mx (-2147483648) (mn x 2147483647) = z
  unfold mx mn at hx hy hz
  have hb : ∀ p : Bool, ((x == a) == p) = true ↔ ((x = a) ↔ p = true) := by
    intro p; rw [beq_iff_eq, Bool.eq_iff_iff, beq_iff_eq]
  simp only [hb, decide_eq_true_eq, Bool.false_eq_true, iff_false]
  repeat' split
  all_goals first
    | rfl
    | (exfalso; omega)
    | (exfalso; simp at *; omega)

end Go.Proofs.Ytokpkphcpjalnaa.Pure
