/- The row InterpMakes and its tied card. -/
import Derived.Test.YtpbangopjdlfcaaGreatDoorZinterpMakes6
import Derived.Test.YtpbangopjdlfcaaGreatDoorRows
import Derived.Test.YtpbangopjdlfcaaGreatDoorCards
import Derived.Test.YtpbangopjdlfcaaGreatDoorTie
import Derived.WalkKit
import Derived.ProofKit
import Derived.OpenShut
import Derived.LaidMore
import Derived.Lay
import Derived.SevenTiedAt
import Derived.Stop.Joined
namespace Go.Proofs.YtpbangopjdlfcaaGreatDoor.interpMakes
open Go.ChangeShapes Go.WideShapes Go.ChangeAt Go.RowKit Go.Aw Go.Aw.T
theorem own : ownKnob Tryz.prog.godebug = none := by kernel_rfl
set_option maxRecDepth 100000 in
theorem lifted (os : Os) (started : os.Started) (H : Type) (enc : TypeId × Value → H) :
    ReturnsInHanded {} Tryz.checked os 3 .any (fun w args => (Rows.interpMakesSpec.pre enc Tryz.prog Tryz.f3 Rows.interpMakesRow.domain false w args ∧ laidMetH Tryz.prog Rows.interpMakesRow.laid w) ∧ sizedMet enc Tryz.prog Tryz.f3 (OpenSpec.ofChange Rows.interpMakesSpec) false w args)
      (Rows.interpMakesSpec.post enc Tryz.prog Tryz.f3 false true false false) := by
  refine returnsInHanded_of_change_and (C := Tryz.checked) (X := fun w _ => laidMetH Tryz.prog Rows.interpMakesRow.laid w) (fun _ _ _ hh h => h.of_heap hh) own started (by kernel_rfl) Tryz.func3
    (ChangeSpec.witness_shaped (enc := enc) (C := Tryz.checked) (os := os) (X := fun w _ => laidMetH Tryz.prog Rows.interpMakesRow.laid w) false (World.laidAll Tryz.prog os Rows.interpMakesRow.laid) #[.agg #[.string ⟨⟨[]⟩⟩, .slice none 0 0, .slice none 0 0, .slice none 0 0], .agg #[.string ⟨⟨[]⟩⟩, .slice none 0 0, .slice none 0 0, .slice none 0 0], .int .i64 0, .int .i64 0, .agg #[.int .i64 0, .int .i64 0, .string ⟨⟨[]⟩⟩, .slice none 0 0, .slice none 0 0]] 8 (World.laidAll_os _ _ _)
      (World.shaped_of_ZipB (by kernel_rfl) (by kernel_rfl)) (by kernel_rfl) (by kernel_rfl) (by kernel_rfl)
      (by rw [MakeChecks.laidMetH_plain _ _ _ (by kernel_rfl)]; exact laidMet_laidAll _ (by kernel_rfl) (by kernel_rfl))) ?_
  intro W base args ds gs before hval hW hcnd hsz hL _
  have hp : Tryz.f3.params.toList = [26, 26, 3, 3, 30] := by rw [Tryz.params3]
  refine law_post (f := 3) (tb := 4) Go.Aw.tryLaid Go.Aw.tryMaps Go.Aw.trySlices (fun t ht => ?_) Tryz.underlying4 (by kernel_rfl) rfl (fun ds h => ?_) (fun h => (trodAll_length h).2) (by rw [hp]; exact opnAW_agg Tryz.underlying26 (opn_sc W) (opnAW_agg Tryz.underlying26 (opn_sc W) (opnAW_flat (by kernel_rfl) (Go.Aw.opn_i64 W) (opnAW_flat (by kernel_rfl) (Go.Aw.opn_i64 W) (opnAW_agg Tryz.underlying30 (opn_tree W).toW opnA_nil))))) hval hW hsz (tab_of_laid (by rw [MakeChecks.laidMetH_plain _ _ _ (by kernel_rfl)] at hL; exact hL) rfl) fun a ha => ?_
  · exact of_decide_eq_true (List.all_eq_true.1 (show Tryz.f3.params.toList.all (fun t => decide (t < Tryz.prog.types.size)) = true by kernel_rfl) t ht)
  · rw [hp] at h
    match ds, h with
    | [d1, d2, d3, d4, d5], _ => rfl
  · exact law16_InterpMakes a.1 a.2.1 a.2.2.1 a.2.2.2.1 a.2.2.2.2.1 ⟨(show GSc _ from ha.1).name, fun m hm => ((show GSc _ from ha.1).msgs.2 m hm).name⟩ ⟨(show GSc _ from ha.2.1).name, fun m hm => ((show GSc _ from ha.2.1).msgs.2 m hm).name⟩ (i64ok_iff.1 ha.2.2.1).1 (i64ok_iff.1 ha.2.2.1).2 (i64ok_iff.1 ha.2.2.2.1).1 (i64ok_iff.1 ha.2.2.2.1).2
set_option maxRecDepth 100000 in
theorem joined : joinedFacts Tryz.pinned.checked.prog 3 Tryz.f3 Rows.interpMakesSpec Rows.interpMakesRow = true := by
  unfold joinedFacts
  simp only [Bool.and_eq_true]
  exact ⟨⟨⟨⟨⟨⟨⟨⟨⟨⟨⟨⟨⟨⟨⟨⟨⟨⟨⟨⟨⟨⟨⟨⟨⟨⟨⟨⟨⟨⟨⟨(by kernel_rfl), (by kernel_rfl)⟩, (by kernel_rfl)⟩, (by kernel_rfl)⟩, (by kernel_rfl)⟩, (by kernel_rfl)⟩, (by kernel_rfl)⟩, (by kernel_rfl)⟩, (by kernel_rfl)⟩, (by kernel_rfl)⟩, (by kernel_rfl)⟩, (by kernel_rfl)⟩, (by kernel_rfl)⟩, (by kernel_rfl)⟩, (by kernel_rfl)⟩, (by kernel_rfl)⟩, (by kernel_rfl)⟩, (by kernel_rfl)⟩, (by kernel_rfl)⟩, (by kernel_rfl)⟩, (by kernel_rfl)⟩, (by kernel_rfl)⟩, (by kernel_rfl)⟩, (by kernel_rfl)⟩, (by kernel_rfl)⟩, tryEnter⟩, (by rw [tryFinal]; rfl)⟩, (by rw [tryMake]; rfl)⟩, (by kernel_rfl)⟩, (by kernel_rfl)⟩, (by kernel_rfl)⟩, (by kernel_rfl)⟩
theorem over : Rows.InterpMakesSaid :=
  OpenClaim.holds_of_wide 3 Tryz.f3 rfl rfl rfl rfl rfl rfl rfl ⟨rfl, rfl, rfl, rfl, rfl⟩ rfl rfl rfl rfl rfl (by kernel_rfl) Tryz.func3 joined
    (of_decide_eq_true (by kernel_rfl)) (by unfold Func.isWrapper; first | (rw [if_pos (by decide +kernel)]; kernel_rfl) | (rw [if_neg (by decide +kernel)]; exact ⟨rfl, rfl⟩))
    (fun os started H enc _ => lifted os started H enc)
theorem card_over : Rows.InterpMakesCardSaid :=
  Claim7.holds_tied_plain_at .later [] [.data, .pinned] true (true, "f466c8ca48b9c1df851c433e6f91e59bbf160bfb328471098fbfa3139a910859") true over (fun _ h => by cases h) (by kernel_rfl) (fun _ h => by cases h) interpMakes_row_tie rfl ⟨rfl, rfl⟩ tryMain rfl
    (fun f fn hf hfn => by
      obtain rfl : f = 3 := Option.some.inj ((show Tryz.prog.funcNamed "concordat/concordatlaw16.InterpMakes" = some 3 by kernel_rfl).symm.trans hf) |>.symm
      obtain rfl : fn = Tryz.f3 := (Option.some.inj (Tryz.func3.symm.trans hfn)).symm
      exact ⟨by kernel_rfl, fun j t ht => by
        rw [Tryz.params3] at ht
        have hm : t ∈ ([26, 26, 3, 3, 30] : List TypeId) := by simpa using Array.mem_of_getElem? ht
        have hall : (([26, 26, 3, 3, 30] : List TypeId).all fun u => !Tryz.prog.wantsStandIn u) = true := by kernel_rfl
        exact (show Tryz.prog.wantsStandIn t = false by simpa using List.all_eq_true.1 hall t hm)⟩)
    (by kernel_rfl)
end Go.Proofs.YtpbangopjdlfcaaGreatDoor.interpMakes
namespace Go.Proofs.YtpbangopjdlfcaaGreatDoor
theorem interpMakes_holds : Rows.InterpMakesCardSaid := interpMakes.card_over
#print axioms interpMakes_holds
end Go.Proofs.YtpbangopjdlfcaaGreatDoor
