/- The row AdaptSame and its tied card. -/
import Derived.Test.YtmeplhcfjihafaaDoorZadaptSame5
import Derived.Test.YtmeplhcfjihafaaDoorRows
import Derived.Test.YtmeplhcfjihafaaDoorCards
import Derived.Test.YtmeplhcfjihafaaDoorTie
import Derived.WalkKit
import Derived.ProofKit
import Derived.OpenShut
import Derived.LaidMore
import Derived.Lay
import Derived.SevenTiedAt
import Derived.Stop.Joined
namespace Go.Proofs.YtmeplhcfjihafaaDoor.adaptSame
open Go.ChangeShapes Go.WideShapes Go.ChangeAt Go.RowKit Go.Aw
theorem own : ownKnob Tryd.prog.godebug = none := by kernel_rfl
set_option maxRecDepth 100000 in
theorem lifted (os : Os) (started : os.Started) (H : Type) (enc : TypeId × Value → H) :
    ReturnsInHanded {} Tryd.checked os 20 .any (fun w args => (Rows.adaptSameSpec.pre enc Tryd.prog Tryd.f20 Rows.adaptSameRow.domain false w args ∧ laidMetH Tryd.prog Rows.adaptSameRow.laid w) ∧ sizedMet enc Tryd.prog Tryd.f20 (OpenSpec.ofChange Rows.adaptSameSpec) false w args)
      (Rows.adaptSameSpec.post enc Tryd.prog Tryd.f20 false true false false) := by
  refine returnsInHanded_of_change_and (C := Tryd.checked) (X := fun w _ => laidMetH Tryd.prog Rows.adaptSameRow.laid w) (fun _ _ _ hh h => h.of_heap hh) own started (by kernel_rfl) Tryd.func20
    (ChangeSpec.witness_shaped (enc := enc) (C := Tryd.checked) (os := os) (X := fun w _ => laidMetH Tryd.prog Rows.adaptSameRow.laid w) false (World.laidAll Tryd.prog os Rows.adaptSameRow.laid) #[.agg #[.string ⟨⟨[]⟩⟩, .slice none 0 0, .slice none 0 0, .slice none 0 0], .agg #[.string ⟨⟨[]⟩⟩, .slice none 0 0, .slice none 0 0, .slice none 0 0], .string ⟨⟨[]⟩⟩, .string ⟨⟨[]⟩⟩] 8 (World.laidAll_os _ _ _)
      (World.shaped_of_ZipB (by kernel_rfl) (by kernel_rfl)) (by kernel_rfl) (by kernel_rfl) (by kernel_rfl)
      (by rw [MakeChecks.laidMetH_plain _ _ _ (by kernel_rfl)]; exact laidMet_laidAll _ (by kernel_rfl) (by kernel_rfl))) ?_
  intro W base args ds gs before hval hW hcnd hsz hL _
  have hp : Tryd.f20.params.toList = [26, 26, 9, 9] := by rw [Tryd.params20]
  refine law_post (f := 20) (tb := 4) tryLaid tryMaps trySlices (fun t ht => ?_) Tryd.underlying4 (by kernel_rfl) rfl (fun ds h => ?_) (fun h => (trodAll_length h).2) (by rw [hp]; exact opnAW_agg Tryd.underlying26 (opn_sc W) (opnAW_agg Tryd.underlying26 (opn_sc W) (opnAW_flat (by kernel_rfl) (opn_s9 W) (opnAW_flat (by kernel_rfl) (opn_s9 W) opnA_nil)))) hval hW hsz (tab_of_laid (by rw [MakeChecks.laidMetH_plain _ _ _ (by kernel_rfl)] at hL; exact hL) rfl) fun a ha => ?_
  · exact of_decide_eq_true (List.all_eq_true.1 (show Tryd.f20.params.toList.all (fun t => decide (t < Tryd.prog.types.size)) = true by kernel_rfl) t ht)
  · rw [hp] at h
    match ds, h with
    | [d1, d2, d3, d4], _ => rfl
  · exact law15_AdaptSame a.1 a.2.1 a.2.2.1 a.2.2.2.1 ha.1 ha.2.1
set_option maxRecDepth 100000 in
theorem joined : joinedFacts Tryd.pinned.checked.prog 20 Tryd.f20 Rows.adaptSameSpec Rows.adaptSameRow = true := by
  unfold joinedFacts
  simp only [Bool.and_eq_true]
  exact ⟨⟨⟨⟨⟨⟨⟨⟨⟨⟨⟨⟨⟨⟨⟨⟨⟨⟨⟨⟨⟨⟨⟨⟨⟨⟨⟨⟨⟨⟨⟨(by kernel_rfl), (by kernel_rfl)⟩, (by kernel_rfl)⟩, (by kernel_rfl)⟩, (by kernel_rfl)⟩, (by kernel_rfl)⟩, (by kernel_rfl)⟩, (by kernel_rfl)⟩, (by kernel_rfl)⟩, (by kernel_rfl)⟩, (by kernel_rfl)⟩, (by kernel_rfl)⟩, (by kernel_rfl)⟩, (by kernel_rfl)⟩, (by kernel_rfl)⟩, (by kernel_rfl)⟩, (by kernel_rfl)⟩, (by kernel_rfl)⟩, (by kernel_rfl)⟩, (by kernel_rfl)⟩, (by kernel_rfl)⟩, (by kernel_rfl)⟩, (by kernel_rfl)⟩, (by kernel_rfl)⟩, (by kernel_rfl)⟩, tryEnter⟩, (by rw [tryFinal]; rfl)⟩, (by rw [tryMake]; rfl)⟩, (by kernel_rfl)⟩, (by kernel_rfl)⟩, (by kernel_rfl)⟩, (by kernel_rfl)⟩
theorem over : Rows.AdaptSameSaid :=
  OpenClaim.holds_of_wide 20 Tryd.f20 rfl rfl rfl rfl rfl rfl rfl ⟨rfl, rfl, rfl, rfl, rfl⟩ rfl rfl rfl rfl rfl (by kernel_rfl) Tryd.func20 joined
    (of_decide_eq_true (by kernel_rfl)) (by unfold Func.isWrapper; first | (rw [if_pos (by decide +kernel)]; kernel_rfl) | (rw [if_neg (by decide +kernel)]; exact ⟨rfl, rfl⟩))
    (fun os started H enc _ => lifted os started H enc)
theorem card_over : Rows.AdaptSameCardSaid :=
  Claim7.holds_tied_plain_at .later [] [.data, .pinned] true (true, "1d73239fb53afe4eaa9ee63e6f3acfbc26c7621079c5c09ba904e14af8bcbaf9") false over (fun _ h => by cases h) (by kernel_rfl) (fun _ h => by cases h) adaptSame_row_tie rfl ⟨rfl, rfl⟩ tryMain rfl
    (fun f fn hf hfn => by
      obtain rfl : f = 20 := Option.some.inj ((show Tryd.prog.funcNamed "concordat/concordatlaw15.AdaptSame" = some 20 by kernel_rfl).symm.trans hf) |>.symm
      obtain rfl : fn = Tryd.f20 := (Option.some.inj (Tryd.func20.symm.trans hfn)).symm
      exact ⟨by kernel_rfl, fun j t ht => by
        rw [Tryd.params20] at ht
        have hm : t ∈ ([26, 26, 9, 9] : List TypeId) := by simpa using Array.mem_of_getElem? ht
        have hall : (([26, 26, 9, 9] : List TypeId).all fun u => !Tryd.prog.wantsStandIn u) = true := by kernel_rfl
        exact (show Tryd.prog.wantsStandIn t = false by simpa using List.all_eq_true.1 hall t hm)⟩)
    (by kernel_rfl)
end Go.Proofs.YtmeplhcfjihafaaDoor.adaptSame
namespace Go.Proofs.YtmeplhcfjihafaaDoor
theorem adaptSame_holds : Rows.AdaptSameCardSaid := adaptSame.card_over
#print axioms adaptSame_holds
end Go.Proofs.YtmeplhcfjihafaaDoor
