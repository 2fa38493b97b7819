/- The row EncodeBig. -/
import Derived.Test.YtmeplhcfjihafaaRows
import Derived.Test.YtmeplhcfjihafaaAwL22
import Derived.Test.YtmeplhcfjihafaaAwG2
import Derived.Test.YtmeplhcfjihafaaAwWJ
import Derived.WalkKit
import Derived.ProofKit
import Derived.OpenShut
namespace Go.Proofs.Ytmeplhcfjihafaa.encodeBig
open Go.ChangeShapes Go.WideShapes Go.ChangeAt Go.RowKit Go.Aw
theorem own : ownKnob Try.prog.godebug = none := by kernel_rfl
set_option maxRecDepth 100000 in
theorem lifted (os : Os) (started : os.Started) (H : Type) (enc : TypeId × Value → H) :
    ReturnsInHanded {} Try.checked os 22 .any (Rows.encodeBigSpec.pre6 enc Try.prog Try.f22 Rows.encodeBigRow.domain false) (Rows.encodeBigSpec.post enc Try.prog Try.f22 false true false false) := by
  refine returnsInHanded_of_change_sized (C := Try.checked) own started (by kernel_rfl) Try.func22
    (ChangeSpec.witness6 (enc := enc) (C := Try.checked) false ⟨#[], #[], []⟩ 8 (by kernel_rfl) (by kernel_rfl) (by kernel_rfl) (by kernel_rfl)) ?_
  intro W base args ds gs before hval hW hcnd hsz _
  have hp : Try.f22.params.toList = [] := by rw [Try.params22]
  refine law_post (f := 22) (tb := 4) tryLaid tryMaps trySlices (fun t ht => ?_) Try.underlying4 (by kernel_rfl) rfl (fun ds h => ?_) (fun h => (trodAll_length h).2) (by rw [hp]; exact opnA_nil) hval hW hsz fun a ha => ?_
  · exact of_decide_eq_true (List.all_eq_true.1 (show Try.f22.params.toList.all (fun t => decide (t < Try.prog.types.size)) = true by kernel_rfl) t ht)
  · rw [hp] at h
    match ds, h with
    | [], _ => rfl
  · exact law11_Big
theorem joined : joinedFacts Try.pinned.checked.prog 22 Try.f22 Rows.encodeBigSpec Rows.encodeBigRow = true := by
  unfold joinedFacts
  simp only [Bool.and_eq_true]
  exact ⟨⟨⟨⟨⟨⟨⟨⟨⟨⟨⟨⟨⟨⟨⟨⟨⟨⟨⟨⟨⟨⟨⟨⟨⟨⟨⟨⟨⟨⟨⟨(by kernel_rfl), (by kernel_rfl)⟩, (by kernel_rfl)⟩, (by kernel_rfl)⟩, (by kernel_rfl)⟩, (by kernel_rfl)⟩, (by kernel_rfl)⟩, (by kernel_rfl)⟩, (by kernel_rfl)⟩, (by kernel_rfl)⟩, (by kernel_rfl)⟩, (by kernel_rfl)⟩, (by kernel_rfl)⟩, (by kernel_rfl)⟩, (by kernel_rfl)⟩, (by kernel_rfl)⟩, (by kernel_rfl)⟩, (by kernel_rfl)⟩, (by kernel_rfl)⟩, (by kernel_rfl)⟩, (by kernel_rfl)⟩, (by kernel_rfl)⟩, (by kernel_rfl)⟩, (by kernel_rfl)⟩, (by kernel_rfl)⟩, tryEnter⟩, (by rw [tryFinal]; rfl)⟩, (by rw [tryMake]; rfl)⟩, (by kernel_rfl)⟩, (by kernel_rfl)⟩, (by kernel_rfl)⟩, (by kernel_rfl)⟩
theorem over : Rows.encodeBigRow.holds Try.pinned (OpenSpec.ofChange Rows.encodeBigSpec) :=
  OpenClaim.holds_of_wide 22 Try.f22 rfl rfl rfl rfl rfl rfl rfl ⟨rfl, rfl, rfl, rfl, rfl⟩ rfl rfl rfl rfl rfl (by kernel_rfl) Try.func22 joined
    (of_decide_eq_true (by kernel_rfl)) (by unfold Func.isWrapper; first | (rw [if_pos (by decide +kernel)]; kernel_rfl) | (rw [if_neg (by decide +kernel)]; exact ⟨rfl, rfl⟩))
    (fun os started H enc _ => lifted os started H enc)
end Go.Proofs.Ytmeplhcfjihafaa.encodeBig
namespace Go.Proofs.Ytmeplhcfjihafaa
theorem encodeBig_holds : Rows.EncodeBigSaid := encodeBig.over
#print axioms encodeBig_holds
end Go.Proofs.Ytmeplhcfjihafaa
