/- What a call may count on of the world: nothing, where no table is read. -/
import Derived.Calls
namespace Go.Aw
def tabOK (_ : World) (_ : Nat → Prop) : Prop := True
theorem tab_keep {w w' : World} {I I' : Nat → Prop} (_ : tabOK w I) (_ : ∀ g, I g → I' g) (_ : ∀ g, I g → w'.heap[g]? = w.heap[g]?) : tabOK w' I' := trivial
structure TabX (w0 : World) (X I0 : Nat → Prop) : Prop where
  tab : tabOK w0 I0
  lt : ∀ g, I0 g → g < w0.heap.size
  off : ∀ g, X g → ¬ I0 g
end Go.Aw
