/- The row EncodeJoins. -/
import Derived.Test.YtmeplhcfjihafaaRows
import Derived.Test.YtmeplhcfjihafaaAwTL
import Derived.Test.YtmeplhcfjihafaaAwG6
import Derived.Test.YtmeplhcfjihafaaAwG2
import Derived.Test.YtmeplhcfjihafaaAwWJ
import Derived.WalkKit
import Derived.ProofKit
import Derived.OpenShut
namespace Go.Proofs.Ytmeplhcfjihafaa.encodeJoins
open Go.ChangeShapes Go.WideShapes Go.ChangeAt Go.RowKit Go.Aw
theorem own : ownKnob Try.prog.godebug = none := by kernel_rfl
set_option maxRecDepth 100000 in
theorem lifted (os : Os) (started : os.Started) (H : Type) (enc : TypeId × Value → H) :
    ReturnsInHanded {} Try.checked os 19 .any (Rows.encodeJoinsSpec.pre6 enc Try.prog Try.f19 Rows.encodeJoinsRow.domain false) (Rows.encodeJoinsSpec.post enc Try.prog Try.f19 false true false false) := by
  refine returnsInHanded_of_change_sized (C := Try.checked) own started (by kernel_rfl) Try.func19
    (ChangeSpec.witness6 (enc := enc) (C := Try.checked) false ⟨#[], #[.agg #[.int .i64 0, .int .i64 0, .string ⟨⟨[]⟩⟩, .slice none 0 0, .slice none 0 0], .agg #[.int .i64 0, .int .i64 0, .string ⟨⟨[]⟩⟩, .slice none 0 0, .slice none 0 0]], []⟩ 8 (by kernel_rfl) (by kernel_rfl) (by kernel_rfl) (by kernel_rfl)) ?_
  intro W base args ds gs before hval hW hcnd hsz _
  have hp : Try.f19.params.toList = [46, 46] := by rw [Try.params19]
  refine law_post (f := 19) (tb := 4) tryLaid tryMaps trySlices (fun t ht => ?_) Try.underlying4 (by kernel_rfl) rfl (fun ds h => ?_) (fun h => (trodAll_length h).2) (by rw [hp]; exact opnA_agg Try.underlying46 (opn_tree W) (opnA_agg Try.underlying46 (opn_tree W) opnA_nil)) hval hW hsz trivial fun a ha => ?_
  · exact of_decide_eq_true (List.all_eq_true.1 (show Try.f19.params.toList.all (fun t => decide (t < Try.prog.types.size)) = true by kernel_rfl) t ht)
  · rw [hp] at h
    match ds, h with
    | [d1, d2], _ => rfl
  · exact law11_EncodeJoins a.1 a.2.1
theorem joined : joinedFacts Try.pinned.checked.prog 19 Try.f19 Rows.encodeJoinsSpec Rows.encodeJoinsRow = true := by
  unfold joinedFacts
  simp only [Bool.and_eq_true]
  exact ⟨⟨⟨⟨⟨⟨⟨⟨⟨⟨⟨⟨⟨⟨⟨⟨⟨⟨⟨⟨⟨⟨⟨⟨⟨⟨⟨⟨⟨⟨⟨(by kernel_rfl), (by kernel_rfl)⟩, (by kernel_rfl)⟩, (by kernel_rfl)⟩, (by kernel_rfl)⟩, (by kernel_rfl)⟩, (by kernel_rfl)⟩, (by kernel_rfl)⟩, (by kernel_rfl)⟩, (by kernel_rfl)⟩, (by kernel_rfl)⟩, (by kernel_rfl)⟩, (by kernel_rfl)⟩, (by kernel_rfl)⟩, (by kernel_rfl)⟩, (by kernel_rfl)⟩, (by kernel_rfl)⟩, (by kernel_rfl)⟩, (by kernel_rfl)⟩, (by kernel_rfl)⟩, (by kernel_rfl)⟩, (by kernel_rfl)⟩, (by kernel_rfl)⟩, (by kernel_rfl)⟩, (by kernel_rfl)⟩, tryEnter⟩, (by rw [tryFinal]; rfl)⟩, (by rw [tryMake]; rfl)⟩, (by kernel_rfl)⟩, (by kernel_rfl)⟩, (by kernel_rfl)⟩, (by kernel_rfl)⟩
theorem over : Rows.encodeJoinsRow.holds Try.pinned (OpenSpec.ofChange Rows.encodeJoinsSpec) :=
  OpenClaim.holds_of_wide 19 Try.f19 rfl rfl rfl rfl rfl rfl rfl ⟨rfl, rfl, rfl, rfl, rfl⟩ rfl rfl rfl rfl rfl (by kernel_rfl) Try.func19 joined
    (of_decide_eq_true (by kernel_rfl)) (by unfold Func.isWrapper; first | (rw [if_pos (by decide +kernel)]; kernel_rfl) | (rw [if_neg (by decide +kernel)]; exact ⟨rfl, rfl⟩))
    (fun os started H enc _ => lifted os started H enc)
end Go.Proofs.Ytmeplhcfjihafaa.encodeJoins
namespace Go.Proofs.Ytmeplhcfjihafaa
theorem encodeJoins_holds : Rows.EncodeJoinsSaid := encodeJoins.over
#print axioms encodeJoins_holds
end Go.Proofs.Ytmeplhcfjihafaa
