/- What a call may count on of the world: the two tables of unicode/utf8. -/
import Derived.Calls
import Derived.Shelf.Unicode.DecodeSlow
namespace Go.Aw
def tabOK (w : World) (I : Nat → Prop) : Prop := Lib.Utf8Tabs 0 1 w ∧ I 0 ∧ I 1
theorem tab_keep {w w' : World} {I I' : Nat → Prop} (h : tabOK w I) (hi : ∀ g, I g → I' g) (hb : ∀ g, I g → w'.heap[g]? = w.heap[g]?) : tabOK w' I' := by
  obtain ⟨⟨h1, h2⟩, i0, i1⟩ := h
  have e0 : ∀ c, w'.cell? ⟨0, c, none⟩ = w.cell? ⟨0, c, none⟩ := fun c => by unfold World.cell?; simp only [hb 0 i0]
  have e1 : ∀ c, w'.cell? ⟨1, c, none⟩ = w.cell? ⟨1, c, none⟩ := fun c => by unfold World.cell?; simp only [hb 1 i1]
  exact ⟨⟨fun c hc => by rw [e0]; exact h1 c hc, fun i hi => by rw [e1, e1]; exact h2 i hi⟩, hi 0 i0, hi 1 i1⟩
structure TabX (w0 : World) (X I0 : Nat → Prop) : Prop where
  tab : tabOK w0 I0
  lt : ∀ g, I0 g → g < w0.heap.size
  off : ∀ g, X g → ¬ I0 g
end Go.Aw
