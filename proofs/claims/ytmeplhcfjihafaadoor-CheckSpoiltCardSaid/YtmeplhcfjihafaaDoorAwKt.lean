/- What every row of this seat asks: the two tables off 'laid'; the program's head word. -/
import Derived.Test.YtmeplhcfjihafaaDoorRows
import Derived.Test.YtmeplhcfjihafaaDoorAwO2
import Derived.Test.YtmeplhcfjihafaaDoorAwSh
import Derived.Lib.LaidU8
import Derived.WalkKit
import Derived.ProofKit
namespace Go.Aw
open Go.Proofs Go.Lib
theorem tryMaps : mapsRowed Tryd.prog = true := by kernel_rfl
theorem tryLaid : laidOutB Tryd.prog = true := by kernel_rfl
theorem trySlices : ((List.range Tryd.prog.types.size).all fun t => match Tryd.prog.underlying t with | some (.slice e) => decide (0 < Tryd.prog.cellsOf e) | _ => true) = true := by kernel_rfl
theorem first_eq : YtmeplhcfjihafaaDoor.Rows.laid_unicode_utf8_first = firstData := by kernel_rfl
theorem accept_eq : YtmeplhcfjihafaaDoor.Rows.laid_unicode_utf8_acceptRanges = acceptData := by kernel_rfl
theorem tab_of_laid {W : World} {l : List (String × DataW Unit)} (h : laidMet Tryd.prog l W) (hl : l = [("unicode/utf8.acceptRanges", YtmeplhcfjihafaaDoor.Rows.laid_unicode_utf8_acceptRanges), ("unicode/utf8.first", YtmeplhcfjihafaaDoor.Rows.laid_unicode_utf8_first)]) : tabOK W (old W) := by
  subst hl
  have h1 := laidMet.reads h (.head _)
  have h2 := laidMet.reads h (.tail _ (.head _))
  rw [accept_eq] at h1
  rw [first_eq] at h2
  have hU : Lib.Utf8Tabs 0 1 W := utf8Tabs_of_reads (ρ := Tryd.lays260_ren) Tryd.lays260 ⟨by kernel_rfl, by kernel_rfl, by kernel_rfl, by kernel_rfl, by kernel_rfl, by kernel_rfl, by kernel_rfl⟩ h2 h1
  have lt : ∀ g c v, W.cell? ⟨g, c, none⟩ = some v → g < W.heap.size := fun g c v hc => by
    unfold World.cell? at hc
    split at hc
    · rename_i hb
      rcases Nat.lt_or_ge g W.heap.size with h' | h'
      · exact h'
      · rw [Array.getElem?_eq_none h'] at hb; cases hb
    · cases hc
  exact ⟨hU, lt 0 _ _ (hU.1 0 (by decide)), lt 1 _ _ (hU.2 0 (by decide)).1⟩
end Go.Aw
