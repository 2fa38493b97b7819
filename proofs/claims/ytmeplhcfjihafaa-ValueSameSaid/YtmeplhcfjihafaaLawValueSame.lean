/- The row ValueSame. -/
import Derived.Test.YtmeplhcfjihafaaRows
import Derived.Test.YtmeplhcfjihafaaAwTB
import Derived.Test.YtmeplhcfjihafaaAwG6
import Derived.Test.YtmeplhcfjihafaaAwG2
import Derived.Test.YtmeplhcfjihafaaAwWJ
import Derived.WalkKit
import Derived.ProofKit
import Derived.OpenShut
namespace Go.Proofs.Ytmeplhcfjihafaa.valueSame
open Go.ChangeShapes Go.WideShapes Go.ChangeAt Go.RowKit Go.Aw
theorem own : ownKnob Try.prog.godebug = none := by kernel_rfl
set_option maxRecDepth 100000 in
theorem lifted (os : Os) (started : os.Started) (H : Type) (enc : TypeId × Value → H) :
    ReturnsInHanded {} Try.checked os 10 .any (Rows.valueSameSpec.pre6 enc Try.prog Try.f10 Rows.valueSameRow.domain false) (Rows.valueSameSpec.post enc Try.prog Try.f10 false true false false) := by
  refine returnsInHanded_of_change_sized (C := Try.checked) own started (by kernel_rfl) Try.func10
    (ChangeSpec.witness6 (enc := enc) (C := Try.checked) false ⟨#[], #[.agg #[.int .i64 0, .int .i64 0, .string ⟨⟨[]⟩⟩, .slice none 0 0, .slice none 0 0], .int .i64 0, .int .i64 0], []⟩ 8 (by kernel_rfl) (by kernel_rfl) (by kernel_rfl) (by kernel_rfl)) ?_
  intro W base args ds gs before hval hW hcnd hsz _
  have hp : Try.f10.params.toList = [46, 3, 3] := by rw [Try.params10]
  refine law_post (f := 10) (tb := 4) tryLaid tryMaps trySlices (fun t ht => ?_) Try.underlying4 (by kernel_rfl) rfl (fun ds h => ?_) (fun h => (trodAll_length h).2) (by rw [hp]; exact opnA_agg Try.underlying46 (opn_tree W) (opnA_flat (by kernel_rfl) (opn_i64 W) (opnA_flat (by kernel_rfl) (opn_i64 W) opnA_nil))) hval hW hsz trivial fun a ha => ?_
  · exact of_decide_eq_true (List.all_eq_true.1 (show Try.f10.params.toList.all (fun t => decide (t < Try.prog.types.size)) = true by kernel_rfl) t ht)
  · rw [hp] at h
    match ds, h with
    | [d1, d2, d3], _ => rfl
  · exact law09_ValueSame a.1 a.2.1 a.2.2.1 ha.2.1 ha.2.2.1
theorem joined : joinedFacts Try.pinned.checked.prog 10 Try.f10 Rows.valueSameSpec Rows.valueSameRow = true := by
  unfold joinedFacts
  simp only [Bool.and_eq_true]
  exact ⟨⟨⟨⟨⟨⟨⟨⟨⟨⟨⟨⟨⟨⟨⟨⟨⟨⟨⟨⟨⟨⟨⟨⟨⟨⟨⟨⟨⟨⟨⟨(by kernel_rfl), (by kernel_rfl)⟩, (by kernel_rfl)⟩, (by kernel_rfl)⟩, (by kernel_rfl)⟩, (by kernel_rfl)⟩, (by kernel_rfl)⟩, (by kernel_rfl)⟩, (by kernel_rfl)⟩, (by kernel_rfl)⟩, (by kernel_rfl)⟩, (by kernel_rfl)⟩, (by kernel_rfl)⟩, (by kernel_rfl)⟩, (by kernel_rfl)⟩, (by kernel_rfl)⟩, (by kernel_rfl)⟩, (by kernel_rfl)⟩, (by kernel_rfl)⟩, (by kernel_rfl)⟩, (by kernel_rfl)⟩, (by kernel_rfl)⟩, (by kernel_rfl)⟩, (by kernel_rfl)⟩, (by kernel_rfl)⟩, tryEnter⟩, (by rw [tryFinal]; rfl)⟩, (by rw [tryMake]; rfl)⟩, (by kernel_rfl)⟩, (by kernel_rfl)⟩, (by kernel_rfl)⟩, (by kernel_rfl)⟩
theorem over : Rows.valueSameRow.holds Try.pinned (OpenSpec.ofChange Rows.valueSameSpec) :=
  OpenClaim.holds_of_wide 10 Try.f10 rfl rfl rfl rfl rfl rfl rfl ⟨rfl, rfl, rfl, rfl, rfl⟩ rfl rfl rfl rfl rfl (by kernel_rfl) Try.func10 joined
    (of_decide_eq_true (by kernel_rfl)) (by unfold Func.isWrapper; first | (rw [if_pos (by decide +kernel)]; kernel_rfl) | (rw [if_neg (by decide +kernel)]; exact ⟨rfl, rfl⟩))
    (fun os started H enc _ => lifted os started H enc)
end Go.Proofs.Ytmeplhcfjihafaa.valueSame
namespace Go.Proofs.Ytmeplhcfjihafaa
theorem valueSame_holds : Rows.ValueSameSaid := valueSame.over
#print axioms valueSame_holds
end Go.Proofs.Ytmeplhcfjihafaa
