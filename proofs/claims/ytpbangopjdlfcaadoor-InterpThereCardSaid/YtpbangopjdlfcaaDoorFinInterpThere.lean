/- The row InterpThere and its tied card. -/
import Derived.Test.YtpbangopjdlfcaaDoorZinterpThere6
import Derived.Test.YtpbangopjdlfcaaDoorRows
import Derived.Test.YtpbangopjdlfcaaDoorCards
import Derived.Test.YtpbangopjdlfcaaDoorTie
import Derived.WalkKit
import Derived.ProofKit
import Derived.OpenShut
import Derived.LaidMore
import Derived.Lay
import Derived.SevenTiedAt
import Derived.Stop.Joined
namespace Go.Proofs.YtpbangopjdlfcaaDoor.interpThere
open Go.ChangeShapes Go.WideShapes Go.ChangeAt Go.RowKit Go.Aw Go.Aw.T
theorem own : ownKnob Tryd.prog.godebug = none := by kernel_rfl
set_option maxRecDepth 100000 in
theorem lifted (os : Os) (started : os.Started) (H : Type) (enc : TypeId × Value → H) :
    ReturnsInHanded {} Tryd.checked os 16 .any (fun w args => (Rows.interpThereSpec.pre enc Tryd.prog Tryd.f16 Rows.interpThereRow.domain false w args ∧ laidMetH Tryd.prog Rows.interpThereRow.laid w) ∧ sizedMet enc Tryd.prog Tryd.f16 (OpenSpec.ofChange Rows.interpThereSpec) false w args)
      (Rows.interpThereSpec.post enc Tryd.prog Tryd.f16 false true false false) := by
  refine returnsInHanded_of_change_and (C := Tryd.checked) (X := fun w _ => laidMetH Tryd.prog Rows.interpThereRow.laid w) (fun _ _ _ hh h => h.of_heap hh) own started (by kernel_rfl) Tryd.func16
    (ChangeSpec.witness_shaped (enc := enc) (C := Tryd.checked) (os := os) (X := fun w _ => laidMetH Tryd.prog Rows.interpThereRow.laid w) false (World.laidAll Tryd.prog os Rows.interpThereRow.laid) #[.agg #[.string ⟨⟨[]⟩⟩, .slice none 0 0, .slice none 0 0, .slice none 0 0], .agg #[.string ⟨⟨[]⟩⟩, .slice none 0 0, .slice none 0 0, .slice none 0 0], .int .i64 0, .slice none 0 0] 8 (World.laidAll_os _ _ _)
      (World.shaped_of_ZipB (by kernel_rfl) (by kernel_rfl)) (by kernel_rfl) (by kernel_rfl) (by kernel_rfl)
      (by rw [MakeChecks.laidMetH_plain _ _ _ (by kernel_rfl)]; exact laidMet_laidAll _ (by kernel_rfl) (by kernel_rfl))) ?_
  intro W base args ds gs before hval hW hcnd hsz hL _
  have hp : Tryd.f16.params.toList = [26, 26, 3, 27] := by rw [Tryd.params16]
  refine law_post (f := 16) (tb := 4) Go.Aw.tryLaid Go.Aw.tryMaps Go.Aw.trySlices (fun t ht => ?_) Tryd.underlying4 (by kernel_rfl) rfl (fun ds h => ?_) (fun h => (trodAll_length h).2) (by rw [hp]; exact opnAW_agg Tryd.underlying26 (opn_sc W) (opnAW_agg Tryd.underlying26 (opn_sc W) (opnAW_flat (by kernel_rfl) (Go.Aw.opn_i64 W) (opnAW_flat (by kernel_rfl) (Go.Aw.opn_ints W) opnA_nil)))) hval hW hsz (tab_of_laid (by rw [MakeChecks.laidMetH_plain _ _ _ (by kernel_rfl)] at hL; exact hL) rfl) fun a ha => ?_
  · exact of_decide_eq_true (List.all_eq_true.1 (show Tryd.f16.params.toList.all (fun t => decide (t < Tryd.prog.types.size)) = true by kernel_rfl) t ht)
  · rw [hp] at h
    match ds, h with
    | [d1, d2, d3, d4], _ => rfl
  · exact law16_InterpThere a.1 a.2.1 a.2.2.1 a.2.2.2.1 (big_of ha.1) (big_of ha.2.1) (i64ok_iff.1 ha.2.2.1).1 (i64ok_iff.1 ha.2.2.1).2
set_option maxRecDepth 100000 in
theorem joined : joinedFacts Tryd.pinned.checked.prog 16 Tryd.f16 Rows.interpThereSpec Rows.interpThereRow = true := by
  unfold joinedFacts
  simp only [Bool.and_eq_true]
  exact ⟨⟨⟨⟨⟨⟨⟨⟨⟨⟨⟨⟨⟨⟨⟨⟨⟨⟨⟨⟨⟨⟨⟨⟨⟨⟨⟨⟨⟨⟨⟨(by kernel_rfl), (by kernel_rfl)⟩, (by kernel_rfl)⟩, (by kernel_rfl)⟩, (by kernel_rfl)⟩, (by kernel_rfl)⟩, (by kernel_rfl)⟩, (by kernel_rfl)⟩, (by kernel_rfl)⟩, (by kernel_rfl)⟩, (by kernel_rfl)⟩, (by kernel_rfl)⟩, (by kernel_rfl)⟩, (by kernel_rfl)⟩, (by kernel_rfl)⟩, (by kernel_rfl)⟩, (by kernel_rfl)⟩, (by kernel_rfl)⟩, (by kernel_rfl)⟩, (by kernel_rfl)⟩, (by kernel_rfl)⟩, (by kernel_rfl)⟩, (by kernel_rfl)⟩, (by kernel_rfl)⟩, (by kernel_rfl)⟩, tryEnter⟩, (by rw [tryFinal]; rfl)⟩, (by rw [tryMake]; rfl)⟩, (by kernel_rfl)⟩, (by kernel_rfl)⟩, (by kernel_rfl)⟩, (by kernel_rfl)⟩
theorem over : Rows.InterpThereSaid :=
  OpenClaim.holds_of_wide 16 Tryd.f16 rfl rfl rfl rfl rfl rfl rfl ⟨rfl, rfl, rfl, rfl, rfl⟩ rfl rfl rfl rfl rfl (by kernel_rfl) Tryd.func16 joined
    (of_decide_eq_true (by kernel_rfl)) (by unfold Func.isWrapper; first | (rw [if_pos (by decide +kernel)]; kernel_rfl) | (rw [if_neg (by decide +kernel)]; exact ⟨rfl, rfl⟩))
    (fun os started H enc _ => lifted os started H enc)
theorem card_over : Rows.InterpThereCardSaid :=
  Claim7.holds_tied_plain_at .later [] [.data, .pinned] true (true, "5eb173e35e31c30967d033812fabe1f6091d26f97ff098876e72b324d0ff8bb7") true over (fun _ h => by cases h) (by kernel_rfl) (fun _ h => by cases h) interpThere_row_tie rfl ⟨rfl, rfl⟩ tryMain rfl
    (fun f fn hf hfn => by
      obtain rfl : f = 16 := Option.some.inj ((show Tryd.prog.funcNamed "concordat/concordatlaw16.InterpThere" = some 16 by kernel_rfl).symm.trans hf) |>.symm
      obtain rfl : fn = Tryd.f16 := (Option.some.inj (Tryd.func16.symm.trans hfn)).symm
      exact ⟨by kernel_rfl, fun j t ht => by
        rw [Tryd.params16] at ht
        have hm : t ∈ ([26, 26, 3, 27] : List TypeId) := by simpa using Array.mem_of_getElem? ht
        have hall : (([26, 26, 3, 27] : List TypeId).all fun u => !Tryd.prog.wantsStandIn u) = true := by kernel_rfl
        exact (show Tryd.prog.wantsStandIn t = false by simpa using List.all_eq_true.1 hall t hm)⟩)
    (by kernel_rfl)
end Go.Proofs.YtpbangopjdlfcaaDoor.interpThere
namespace Go.Proofs.YtpbangopjdlfcaaDoor
theorem interpThere_holds : Rows.InterpThereCardSaid := interpThere.card_over
#print axioms interpThere_holds
end Go.Proofs.YtpbangopjdlfcaaDoor
