/- A schema's data, opened. -/
import Derived.Test.YtmeplhcfjihafaaDoorAwO1
import Derived.Test.YtmeplhcfjihafaaDoorAwC0
import Derived.KernelRfl
namespace Go.Aw
open Go.RowKit Go.ChangeShapes Go.Proofs
set_option linter.unusedSimpArgs false
set_option linter.unusedVariables false
def okI (n : Int) : Prop := (Lit.int .i64 n).wf = true
def okS (s : List UInt8) : Prop := s.length ≤ reachBytes
theorem opn_i64 (W : World) : OpnW Tryd.prog W 3 (fun n : Int => [.int .i64 n]) okI := (opn_int Tryd.underlying3).toW
theorem opn_s9 (W : World) : OpnW Tryd.prog W 9 (fun s : List UInt8 => [.str s]) okS := opnW_str Tryd.underlying9
structure GTy (a : Ty) : Prop where
  kind : okI a.kind
  name : okS a.name
theorem opn_ty (W : World) : OpnW Tryd.prog W 46 encTy GTy := by
  have c3 : Tryd.prog.cellsOf 3 = 1 := by kernel_rfl
  have c9 : Tryd.prog.cellsOf 9 = 1 := by kernel_rfl
  refine OpnW.map (G := fun x : Int × List UInt8 × Unit => (okI) x.1 ∧ (okS) x.2.1 ∧ True) (opnW_struct Tryd.underlying46 (by kernel_rfl) ?_) (fun x : Int × List UInt8 × Unit => (⟨x.1, x.2.1⟩ : Ty)) (fun a => rfl) (fun b p hp => by simp [encTy] at hp; rcases hp with rfl | rfl <;> rfl) ?_
  · have f1 := opnFW_cons (P := Tryd.prog) (w := W) (off := 1) (f := { name := "Name", type := 9, offset := 1, embedded := false, tag := "", pkgPath := "", byteOffset := 8 }) rfl c9 (opn_s9 W) (fun _ => rfl) opnFW_nil
    have f0 := opnFW_cons (P := Tryd.prog) (w := W) (off := 0) (f := { name := "Kind", type := 3, offset := 0, embedded := false, tag := "", pkgPath := "", byteOffset := 0 }) rfl c3 (opn_i64 W) (fun _ => rfl) f1
    exact f0
  · intro x h
    exact ⟨h.1, h.2.1⟩
structure GFd (a : Fd) : Prop where
  name : okS a.name
  tag : okI a.tag
  label : okI a.label
  ty : GTy a.ty
theorem opn_fd (W : World) : OpnW Tryd.prog W 48 encFd GFd := by
  have c3 : Tryd.prog.cellsOf 3 = 1 := by kernel_rfl
  have c9 : Tryd.prog.cellsOf 9 = 1 := by kernel_rfl
  have c46 : Tryd.prog.cellsOf 46 = 2 := by kernel_rfl
  refine OpnW.map (G := fun x : List UInt8 × Int × Int × Ty × Unit => (okS) x.1 ∧ (okI) x.2.1 ∧ (okI) x.2.2.1 ∧ (GTy) x.2.2.2.1 ∧ True) (opnW_struct Tryd.underlying48 (by kernel_rfl) ?_) (fun x : List UInt8 × Int × Int × Ty × Unit => (⟨x.1, x.2.1, x.2.2.1, x.2.2.2.1⟩ : Fd)) (fun a => rfl) (fun b p hp => by simp [encFd] at hp; rcases hp with rfl | rfl | rfl | rfl | rfl <;> rfl) ?_
  · have f3 := opnFW_cons (P := Tryd.prog) (w := W) (off := 3) (f := { name := "Type", type := 46, offset := 3, embedded := false, tag := "", pkgPath := "", byteOffset := 32 }) rfl c46 (opn_ty W) (fun _ => rfl) opnFW_nil
    have f2 := opnFW_cons (P := Tryd.prog) (w := W) (off := 2) (f := { name := "Label", type := 3, offset := 2, embedded := false, tag := "", pkgPath := "", byteOffset := 24 }) rfl c3 (opn_i64 W) (fun _ => rfl) f3
    have f1 := opnFW_cons (P := Tryd.prog) (w := W) (off := 1) (f := { name := "Tag", type := 3, offset := 1, embedded := false, tag := "", pkgPath := "", byteOffset := 16 }) rfl c3 (opn_i64 W) (fun _ => rfl) f2
    have f0 := opnFW_cons (P := Tryd.prog) (w := W) (off := 0) (f := { name := "Name", type := 9, offset := 0, embedded := false, tag := "", pkgPath := "", byteOffset := 0 }) rfl c9 (opn_s9 W) (fun _ => rfl) f1
    exact f0
  · intro x h
    exact ⟨h.1, h.2.1, h.2.2.1, h.2.2.2.1⟩
structure GNm (a : Nm) : Prop where
  name : okS a.name
  n : okI a.n
theorem opn_nm (W : World) : OpnW Tryd.prog W 55 encNm GNm := by
  have c3 : Tryd.prog.cellsOf 3 = 1 := by kernel_rfl
  have c9 : Tryd.prog.cellsOf 9 = 1 := by kernel_rfl
  refine OpnW.map (G := fun x : List UInt8 × Int × Unit => (okS) x.1 ∧ (okI) x.2.1 ∧ True) (opnW_struct Tryd.underlying55 (by kernel_rfl) ?_) (fun x : List UInt8 × Int × Unit => (⟨x.1, x.2.1⟩ : Nm)) (fun a => rfl) (fun b p hp => by simp [encNm] at hp; rcases hp with rfl | rfl <;> rfl) ?_
  · have f1 := opnFW_cons (P := Tryd.prog) (w := W) (off := 1) (f := { name := "N", type := 3, offset := 1, embedded := false, tag := "", pkgPath := "", byteOffset := 16 }) rfl c3 (opn_i64 W) (fun _ => rfl) opnFW_nil
    have f0 := opnFW_cons (P := Tryd.prog) (w := W) (off := 0) (f := { name := "Name", type := 9, offset := 0, embedded := false, tag := "", pkgPath := "", byteOffset := 0 }) rfl c9 (opn_s9 W) (fun _ => rfl) f1
    exact f0
  · intro x h
    exact ⟨h.1, h.2.1⟩
structure GMt (a : Mt) : Prop where
  name : okS a.name
  inn : okS a.inn
  out : okS a.out
theorem opn_mt (W : World) : OpnW Tryd.prog W 41 encMt GMt := by
  have c9 : Tryd.prog.cellsOf 9 = 1 := by kernel_rfl
  refine OpnW.map (G := fun x : List UInt8 × List UInt8 × List UInt8 × Unit => (okS) x.1 ∧ (okS) x.2.1 ∧ (okS) x.2.2.1 ∧ True) (opnW_struct Tryd.underlying41 (by kernel_rfl) ?_) (fun x : List UInt8 × List UInt8 × List UInt8 × Unit => (⟨x.1, x.2.1, x.2.2.1⟩ : Mt)) (fun a => rfl) (fun b p hp => by simp [encMt] at hp; rcases hp with rfl | rfl | rfl <;> rfl) ?_
  · have f2 := opnFW_cons (P := Tryd.prog) (w := W) (off := 2) (f := { name := "Out", type := 9, offset := 2, embedded := false, tag := "", pkgPath := "", byteOffset := 32 }) rfl c9 (opn_s9 W) (fun _ => rfl) opnFW_nil
    have f1 := opnFW_cons (P := Tryd.prog) (w := W) (off := 1) (f := { name := "In", type := 9, offset := 1, embedded := false, tag := "", pkgPath := "", byteOffset := 16 }) rfl c9 (opn_s9 W) (fun _ => rfl) f2
    have f0 := opnFW_cons (P := Tryd.prog) (w := W) (off := 0) (f := { name := "Name", type := 9, offset := 0, embedded := false, tag := "", pkgPath := "", byteOffset := 0 }) rfl c9 (opn_s9 W) (fun _ => rfl) f1
    exact f0
  · intro x h
    exact ⟨h.1, h.2.1, h.2.2.1⟩
def GFds (l : List Fd) : Prop := (l.length ≤ maxLen ∧ l.length * Tryd.prog.bytesOf 48 ≤ reachBytes) ∧ ∀ a ∈ l, GFd a
theorem opn_fds (W : World) : OpnW Tryd.prog W 32 (fun l : List Fd => [.slice (l.map encFd)]) GFds :=
  opnW_slice (sz := 5) Tryd.underlying32 (by kernel_rfl) (by decide) (opn_fd W) (fun _ => rfl)
def okIs (l : List Int) : Prop := (l.length ≤ maxLen ∧ l.length * Tryd.prog.bytesOf 3 ≤ reachBytes) ∧ ∀ a ∈ l, okI a
theorem opn_ints (W : World) : OpnW Tryd.prog W 33 (fun l : List Int => [.slice (l.map encI)]) okIs :=
  opnW_slice (sz := 1) Tryd.underlying33 (by kernel_rfl) (by decide) (opn_i64 W) (fun _ => rfl)
def GNms (l : List Nm) : Prop := (l.length ≤ maxLen ∧ l.length * Tryd.prog.bytesOf 55 ≤ reachBytes) ∧ ∀ a ∈ l, GNm a
theorem opn_nms (W : World) : OpnW Tryd.prog W 37 (fun l : List Nm => [.slice (l.map encNm)]) GNms :=
  opnW_slice (sz := 2) Tryd.underlying37 (by kernel_rfl) (by decide) (opn_nm W) (fun _ => rfl)
def GMts (l : List Mt) : Prop := (l.length ≤ maxLen ∧ l.length * Tryd.prog.bytesOf 41 ≤ reachBytes) ∧ ∀ a ∈ l, GMt a
theorem opn_mts (W : World) : OpnW Tryd.prog W 24 (fun l : List Mt => [.slice (l.map encMt)]) GMts :=
  opnW_slice (sz := 3) Tryd.underlying24 (by kernel_rfl) (by decide) (opn_mt W) (fun _ => rfl)
structure GMs (a : Ms) : Prop where
  name : okS a.name
  fields : GFds a.fields
  res : okIs a.res
theorem opn_ms (W : World) : OpnW Tryd.prog W 35 encMs GMs := by
  have c9 : Tryd.prog.cellsOf 9 = 1 := by kernel_rfl
  have c32 : Tryd.prog.cellsOf 32 = 1 := by kernel_rfl
  have c33 : Tryd.prog.cellsOf 33 = 1 := by kernel_rfl
  refine OpnW.map (G := fun x : List UInt8 × List Fd × List Int × Unit => (okS) x.1 ∧ (GFds) x.2.1 ∧ (okIs) x.2.2.1 ∧ True) (opnW_struct Tryd.underlying35 (by kernel_rfl) ?_) (fun x : List UInt8 × List Fd × List Int × Unit => (⟨x.1, x.2.1, x.2.2.1⟩ : Ms)) (fun a => rfl) (fun b p hp => by simp [encMs] at hp; rcases hp with rfl | rfl | rfl <;> rfl) ?_
  · have f2 := opnFW_cons (P := Tryd.prog) (w := W) (off := 2) (f := { name := "Reserved", type := 33, offset := 2, embedded := false, tag := "", pkgPath := "", byteOffset := 40 }) rfl c33 (opn_ints W) (fun _ => rfl) opnFW_nil
    have f1 := opnFW_cons (P := Tryd.prog) (w := W) (off := 1) (f := { name := "Fields", type := 32, offset := 1, embedded := false, tag := "", pkgPath := "", byteOffset := 16 }) rfl c32 (opn_fds W) (fun _ => rfl) f2
    have f0 := opnFW_cons (P := Tryd.prog) (w := W) (off := 0) (f := { name := "Name", type := 9, offset := 0, embedded := false, tag := "", pkgPath := "", byteOffset := 0 }) rfl c9 (opn_s9 W) (fun _ => rfl) f1
    exact f0
  · intro x h
    exact ⟨h.1, h.2.1, h.2.2.1⟩
structure GEn (a : En) : Prop where
  name : okS a.name
  vals : GNms a.vals
theorem opn_en (W : World) : OpnW Tryd.prog W 39 encEn GEn := by
  have c9 : Tryd.prog.cellsOf 9 = 1 := by kernel_rfl
  have c37 : Tryd.prog.cellsOf 37 = 1 := by kernel_rfl
  refine OpnW.map (G := fun x : List UInt8 × List Nm × Unit => (okS) x.1 ∧ (GNms) x.2.1 ∧ True) (opnW_struct Tryd.underlying39 (by kernel_rfl) ?_) (fun x : List UInt8 × List Nm × Unit => (⟨x.1, x.2.1⟩ : En)) (fun a => rfl) (fun b p hp => by simp [encEn] at hp; rcases hp with rfl | rfl <;> rfl) ?_
  · have f1 := opnFW_cons (P := Tryd.prog) (w := W) (off := 1) (f := { name := "Values", type := 37, offset := 1, embedded := false, tag := "", pkgPath := "", byteOffset := 16 }) rfl c37 (opn_nms W) (fun _ => rfl) opnFW_nil
    have f0 := opnFW_cons (P := Tryd.prog) (w := W) (off := 0) (f := { name := "Name", type := 9, offset := 0, embedded := false, tag := "", pkgPath := "", byteOffset := 0 }) rfl c9 (opn_s9 W) (fun _ => rfl) f1
    exact f0
  · intro x h
    exact ⟨h.1, h.2.1⟩
def GMss (l : List Ms) : Prop := (l.length ≤ maxLen ∧ l.length * Tryd.prog.bytesOf 35 ≤ reachBytes) ∧ ∀ a ∈ l, GMs a
theorem opn_mss (W : World) : OpnW Tryd.prog W 22 (fun l : List Ms => [.slice (l.map encMs)]) GMss :=
  opnW_slice (sz := 3) Tryd.underlying22 (by kernel_rfl) (by decide) (opn_ms W) (fun _ => rfl)
def GEns (l : List En) : Prop := (l.length ≤ maxLen ∧ l.length * Tryd.prog.bytesOf 39 ≤ reachBytes) ∧ ∀ a ∈ l, GEn a
theorem opn_ens (W : World) : OpnW Tryd.prog W 23 (fun l : List En => [.slice (l.map encEn)]) GEns :=
  opnW_slice (sz := 2) Tryd.underlying23 (by kernel_rfl) (by decide) (opn_en W) (fun _ => rfl)
structure GSc (a : Sc) : Prop where
  name : okS a.name
  msgs : GMss a.msgs
  enums : GEns a.enums
  meths : GMts a.meths
theorem opn_sc (W : World) : OpnW Tryd.prog W 26 encSc GSc := by
  have c9 : Tryd.prog.cellsOf 9 = 1 := by kernel_rfl
  have c22 : Tryd.prog.cellsOf 22 = 1 := by kernel_rfl
  have c23 : Tryd.prog.cellsOf 23 = 1 := by kernel_rfl
  have c24 : Tryd.prog.cellsOf 24 = 1 := by kernel_rfl
  refine OpnW.map (G := fun x : List UInt8 × List Ms × List En × List Mt × Unit => (okS) x.1 ∧ (GMss) x.2.1 ∧ (GEns) x.2.2.1 ∧ (GMts) x.2.2.2.1 ∧ True) (opnW_struct Tryd.underlying26 (by kernel_rfl) ?_) (fun x : List UInt8 × List Ms × List En × List Mt × Unit => (⟨x.1, x.2.1, x.2.2.1, x.2.2.2.1⟩ : Sc)) (fun a => rfl) (fun b p hp => by simp [encSc] at hp; rcases hp with rfl | rfl | rfl | rfl <;> rfl) ?_
  · have f3 := opnFW_cons (P := Tryd.prog) (w := W) (off := 3) (f := { name := "Methods", type := 24, offset := 3, embedded := false, tag := "", pkgPath := "", byteOffset := 64 }) rfl c24 (opn_mts W) (fun _ => rfl) opnFW_nil
    have f2 := opnFW_cons (P := Tryd.prog) (w := W) (off := 2) (f := { name := "Enums", type := 23, offset := 2, embedded := false, tag := "", pkgPath := "", byteOffset := 40 }) rfl c23 (opn_ens W) (fun _ => rfl) f3
    have f1 := opnFW_cons (P := Tryd.prog) (w := W) (off := 1) (f := { name := "Messages", type := 22, offset := 1, embedded := false, tag := "", pkgPath := "", byteOffset := 16 }) rfl c22 (opn_mss W) (fun _ => rfl) f2
    have f0 := opnFW_cons (P := Tryd.prog) (w := W) (off := 0) (f := { name := "Name", type := 9, offset := 0, embedded := false, tag := "", pkgPath := "", byteOffset := 0 }) rfl c9 (opn_s9 W) (fun _ => rfl) f1
    exact f0
  · intro x h
    exact ⟨h.1, h.2.1, h.2.2.1, h.2.2.2.1⟩
end Go.Aw
