/- A wire's field, opened. -/
import Derived.Test.YtmeplhcfjihafaaAwW2
import Derived.ChangeCalls
namespace Go.Aw
open Go.Proofs
def strOK (s : List UInt8) : Prop := s.length ≤ maxLen
theorem opn_raw (W : World) : Opn Try.prog W 28 encRaw rawOK := by
  have i3 : Opn Try.prog W 3 (fun n : Int => [.int .i64 n]) i64ok := opn_int Try.underlying3
  have s9 : Opn Try.prog W 9 (fun s : List UInt8 => [.str s]) strOK := opn_str Try.underlying9
  have c3 : Try.prog.cellsOf 3 = 1 := by kernel_rfl
  have c9 : Try.prog.cellsOf 9 = 1 := by kernel_rfl
  refine Opn.map (G := fun x : Int × Int × Int × List UInt8 × Unit => i64ok x.1 ∧ i64ok x.2.1 ∧ i64ok x.2.2.1 ∧ strOK x.2.2.2.1 ∧ True) (opn_struct Try.underlying28 (by kernel_rfl) ?_) (fun x : Int × Int × Int × List UInt8 × Unit => (⟨x.1, x.2.1, x.2.2.1, x.2.2.2.1⟩ : Raw)) (fun a => rfl) (fun b p hp => by simp [encRaw] at hp; rcases hp with rfl | rfl | rfl | rfl <;> rfl) ?_
  · have f3 := opnF_cons (P := Try.prog) (w := W) (off := 3) (f := { name := "B", type := 9, offset := 3, embedded := false, tag := "", pkgPath := "", byteOffset := 24 }) rfl c9 s9 (fun _ => rfl) opnF_nil
    have f2 := opnF_cons (P := Try.prog) (w := W) (off := 2) (f := { name := "N", type := 3, offset := 2, embedded := false, tag := "", pkgPath := "", byteOffset := 16 }) rfl c3 i3 (fun _ => rfl) f3
    have f1 := opnF_cons (P := Try.prog) (w := W) (off := 1) (f := { name := "Wire", type := 3, offset := 1, embedded := false, tag := "", pkgPath := "", byteOffset := 8 }) rfl c3 i3 (fun _ => rfl) f2
    have f0 := opnF_cons (P := Try.prog) (w := W) (off := 0) (f := { name := "Tag", type := 3, offset := 0, embedded := false, tag := "", pkgPath := "", byteOffset := 0 }) rfl c3 i3 (fun _ => rfl) f1
    exact f0
  · exact fun a h => ⟨h.1, h.2.1, h.2.2.1, h.2.2.2.1⟩
theorem opn_raws (W : World) : Opn Try.prog W 22 (fun l : List Raw => [.slice (l.map encRaw)]) (fun l => l.length ≤ maxLen ∧ ∀ a ∈ l, rawOK a) :=
  opn_slice (sz := 4) Try.underlying22 (by kernel_rfl) (by decide) (opn_raw W) (fun _ => rfl)
theorem Opn.mapG {P : Program} {w : World} {t : TypeId} {α β : Type} {e : α → List PV} {G : α → Prop} {e' : β → List PV} {G' : β → Prop} (h : Opn P w t e G) (f : α → β) (he : ∀ a, G a → e' (f a) = e a) (h1 : ∀ b, ∀ p ∈ e' b, p.one = true) (hg : ∀ a, G a → G' (f a)) : Opn P w t e' G' := by
  refine ⟨h1, fun H enc fuel cs d hd => ?_⟩
  obtain ⟨a, g, l, r⟩ := h.2 H enc fuel cs d hd
  exact ⟨f a, hg a g, by rw [he a g]; exact l, by rw [he a g]; exact r⟩
theorem opn_byte (W : World) : Opn Try.prog W 5 encB (fun _ => True) := by
  refine Opn.mapG (opn_int Try.underlying5) (fun n : Int => UInt8.ofNat n.toNat) (fun n h => ?_) (fun b p hp => by simp [encB] at hp; subst hp; rfl) (fun _ _ => trivial)
  have e1 : IntKind.u8.min = 0 := by decide
  have e2 : IntKind.u8.max = 255 := by decide
  simp [Lit.wf, e1, e2] at h
  simp only [encB]
  congr 2
  have : (UInt8.ofNat n.toNat).toNat = n.toNat := by simp; omega
  rw [this]; omega
theorem opn_bytes (W : World) : Opn Try.prog W 31 (fun l : List UInt8 => [.slice (l.map encB)]) (fun l => l.length ≤ maxLen ∧ ∀ a ∈ l, True) :=
  opn_slice (sz := 1) Try.underlying31 (by kernel_rfl) (by decide) (opn_byte W) (fun _ => rfl)
theorem bytes_bound {n : Nat} (h : n * Try.prog.bytesOf 5 ≤ reachBytes) : n ≤ 140737488351232 := by
  have e : Try.prog.bytesOf 5 = 1 := by kernel_rfl
  rw [e] at h
  unfold reachBytes at h
  omega
theorem nok {r : Raw} (h : rawOK r) : -9223372036854775808 ≤ r.n ∧ r.n ≤ 9223372036854775807 := i64ok_iff.1 h.2.2.1
theorem opn_i64 (W : World) : Opn Try.prog W 3 (fun n : Int => [.int .i64 n]) i64ok := opn_int Try.underlying3
theorem tryMaps : mapsRowed Try.prog = true := by kernel_rfl
theorem tryLaid : laidOutB Try.prog = true := by kernel_rfl
theorem trySlices : ((List.range Try.prog.types.size).all fun t => match Try.prog.underlying t with | some (.slice e) => decide (0 < Try.prog.cellsOf e) | _ => true) = true := by kernel_rfl
end Go.Aw
