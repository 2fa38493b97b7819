/- The row ValueApart. -/
import Derived.Test.YtmeplhcfjihafaaRows
import Derived.Test.YtmeplhcfjihafaaAwTZ
import Derived.Test.YtmeplhcfjihafaaAwG6
import Derived.Test.YtmeplhcfjihafaaAwG2
import Derived.Test.YtmeplhcfjihafaaAwWJ
import Derived.WalkKit
import Derived.ProofKit
import Derived.OpenShut
namespace Go.Proofs.Ytmeplhcfjihafaa.valueApart
open Go.ChangeShapes Go.WideShapes Go.ChangeAt Go.RowKit Go.Aw
theorem own : ownKnob Try.prog.godebug = none := by kernel_rfl
set_option maxRecDepth 100000 in
theorem lifted (os : Os) (started : os.Started) (H : Type) (enc : TypeId × Value → H) :
    ReturnsInHanded {} Try.checked os 16 .any (Rows.valueApartSpec.pre6 enc Try.prog Try.f16 Rows.valueApartRow.domain false) (Rows.valueApartSpec.post enc Try.prog Try.f16 false true false false) := by
  refine returnsInHanded_of_change_sized (C := Try.checked) own started (by kernel_rfl) Try.func16
    (ChangeSpec.witness6 (enc := enc) (C := Try.checked) false ⟨#[], #[.agg #[.int .i64 0, .int .i64 0, .string ⟨⟨[]⟩⟩, .slice none 0 0, .slice none 0 0]], []⟩ 8 (by kernel_rfl) (by kernel_rfl) (by kernel_rfl) (by kernel_rfl)) ?_
  intro W base args ds gs before hval hW hcnd hsz _
  have hp : Try.f16.params.toList = [46] := by rw [Try.params16]
  refine law_post (f := 16) (tb := 4) tryLaid tryMaps trySlices (fun t ht => ?_) Try.underlying4 (by kernel_rfl) rfl (fun ds h => ?_) (fun h => (trodAll_length h).2) (by rw [hp]; exact opnA_agg Try.underlying46 (opn_tree W) opnA_nil) hval hW hsz trivial fun a ha => ?_
  · exact of_decide_eq_true (List.all_eq_true.1 (show Try.f16.params.toList.all (fun t => decide (t < Try.prog.types.size)) = true by kernel_rfl) t ht)
  · rw [hp] at h
    match ds, h with
    | [d1], _ => rfl
  · exact law09_ValueApart a.1
theorem joined : joinedFacts Try.pinned.checked.prog 16 Try.f16 Rows.valueApartSpec Rows.valueApartRow = true := by
  unfold joinedFacts
  simp only [Bool.and_eq_true]
  exact ⟨⟨⟨⟨⟨⟨⟨⟨⟨⟨⟨⟨⟨⟨⟨⟨⟨⟨⟨⟨⟨⟨⟨⟨⟨⟨⟨⟨⟨⟨⟨(by kernel_rfl), (by kernel_rfl)⟩, (by kernel_rfl)⟩, (by kernel_rfl)⟩, (by kernel_rfl)⟩, (by kernel_rfl)⟩, (by kernel_rfl)⟩, (by kernel_rfl)⟩, (by kernel_rfl)⟩, (by kernel_rfl)⟩, (by kernel_rfl)⟩, (by kernel_rfl)⟩, (by kernel_rfl)⟩, (by kernel_rfl)⟩, (by kernel_rfl)⟩, (by kernel_rfl)⟩, (by kernel_rfl)⟩, (by kernel_rfl)⟩, (by kernel_rfl)⟩, (by kernel_rfl)⟩, (by kernel_rfl)⟩, (by kernel_rfl)⟩, (by kernel_rfl)⟩, (by kernel_rfl)⟩, (by kernel_rfl)⟩, tryEnter⟩, (by rw [tryFinal]; rfl)⟩, (by rw [tryMake]; rfl)⟩, (by kernel_rfl)⟩, (by kernel_rfl)⟩, (by kernel_rfl)⟩, (by kernel_rfl)⟩
theorem over : Rows.valueApartRow.holds Try.pinned (OpenSpec.ofChange Rows.valueApartSpec) :=
  OpenClaim.holds_of_wide 16 Try.f16 rfl rfl rfl rfl rfl rfl rfl ⟨rfl, rfl, rfl, rfl, rfl⟩ rfl rfl rfl rfl rfl (by kernel_rfl) Try.func16 joined
    (of_decide_eq_true (by kernel_rfl)) (by unfold Func.isWrapper; first | (rw [if_pos (by decide +kernel)]; kernel_rfl) | (rw [if_neg (by decide +kernel)]; exact ⟨rfl, rfl⟩))
    (fun os started H enc _ => lifted os started H enc)
end Go.Proofs.Ytmeplhcfjihafaa.valueApart
namespace Go.Proofs.Ytmeplhcfjihafaa
theorem valueApart_holds : Rows.ValueApartSaid := valueApart.over
#print axioms valueApart_holds
end Go.Proofs.Ytmeplhcfjihafaa
