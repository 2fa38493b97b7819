/- Schemas as plain data; the first of a list. -/
import Derived.Test.YtmeplhcfjihafaaDoorAwG1
import Derived.Test.YtmeplhcfjihafaaDoorAwTy
namespace Go.Aw
open Go.Proofs
set_option linter.unusedSimpArgs false
set_option linter.unusedVariables false
structure Ty where
  kind : Int
  name : List UInt8
  deriving DecidableEq
structure Fd where
  name : List UInt8
  tag : Int
  label : Int
  ty : Ty
  deriving DecidableEq
structure Ms where
  name : List UInt8
  fields : List Fd
  res : List Int
  deriving DecidableEq
structure Nm where
  name : List UInt8
  n : Int
  deriving DecidableEq
structure En where
  name : List UInt8
  vals : List Nm
  deriving DecidableEq
structure Mt where
  name : List UInt8
  inn : List UInt8
  out : List UInt8
  deriving DecidableEq
structure Sc where
  name : List UInt8
  msgs : List Ms
  enums : List En
  meths : List Mt
  deriving DecidableEq
def encI (n : Int) : List PV := [.int .i64 n]
def encS (s : List UInt8) : List PV := [.str s]
def encTy (y : Ty) : List PV := [.int .i64 y.kind, .str y.name]
def encFd (f : Fd) : List PV := [.str f.name, .int .i64 f.tag, .int .i64 f.label, .int .i64 f.ty.kind, .str f.ty.name]
def encMs (m : Ms) : List PV := [.str m.name, .slice (m.fields.map encFd), .slice (m.res.map encI)]
def encNm (v : Nm) : List PV := [.str v.name, .int .i64 v.n]
def encEn (e : En) : List PV := [.str e.name, .slice (e.vals.map encNm)]
def encMt (m : Mt) : List PV := [.str m.name, .str m.inn, .str m.out]
def encSc (s : Sc) : List PV := [.str s.name, .slice (s.msgs.map encMs), .slice (s.enums.map encEn), .slice (s.meths.map encMt)]
def zTy : Ty := ⟨0, []⟩
def zFd : Fd := ⟨[], 0, 0, zTy⟩
def zMs : Ms := ⟨[], [], []⟩
def zEn : En := ⟨[], []⟩
def zMt : Mt := ⟨[], [], []⟩
def cellsSc (s : Sc) : List AV := [.p (.str s.name), .p (.slice (s.msgs.map encMs)), .p (.slice (s.enums.map encEn)), .p (.slice (s.meths.map encMt))]
def cellsMs (m : Ms) : List AV := [.p (.str m.name), .p (.slice (m.fields.map encFd)), .p (.slice (m.res.map encI))]
def cellsEn (e : En) : List AV := [.p (.str e.name), .p (.slice (e.vals.map encNm))]
/-- The first of which p holds. -/
def firstP {α : Type} (p : α → Bool) (z : α) (l : List α) : α × Bool := match l.find? p with | some m => (m, true) | none => (z, false)
theorem all_next {α : Type} {l : List α} {p : α → Bool} {k : Nat} {r : α} (h : l[k]? = some r) (ha : (l.take k).all p = true) (hr : p r = true) : (l.take (k + 1)).all p = true := by
  rw [List.take_add_one, h, List.all_append, ha]
  simp [hr]
theorem all_not {α : Type} {l : List α} {p : α → Bool} {k : Nat} {r : α} (h : l[k]? = some r) (hr : p r = false) : l.all p = false := by
  rw [List.all_eq_false]
  exact ⟨r, List.mem_of_getElem? h, by simp [hr]⟩
theorem find_at {α : Type} {p : α → Bool} {l : List α} {i : Nat} {e : α} (h : l[i]? = some e) (ha : (l.take i).all (fun x => !p x) = true) (hp : p e = true) : l.find? p = some e := by
  have e0 : l = l.take i ++ (e :: l.drop (i + 1)) := by
    rw [← (List.getElem?_eq_some_iff.1 h).2, ← List.drop_eq_getElem_cons, List.take_append_drop]
  rw [e0, List.find?_append, List.find?_eq_none.2 (by
    intro x hx
    have := List.all_eq_true.1 ha x hx
    simpa using this)]
  simp [hp]
theorem find_not {α : Type} {p : α → Bool} {l : List α} (ha : l.all (fun x => !p x) = true) : l.find? p = none := by
  rw [List.find?_eq_none]
  intro x hx
  have := List.all_eq_true.1 ha x hx
  simpa using this
theorem first_at {α : Type} {p : α → Bool} {z : α} {l : List α} {i : Nat} {e : α} (h : l[i]? = some e) (ha : (l.take i).all (fun x => !p x) = true) (hp : p e = true) : firstP p z l = (e, true) := by
  rw [firstP, find_at h ha hp]
theorem first_not {α : Type} {p : α → Bool} {z : α} {l : List α} (ha : l.all (fun x => !p x) = true) : firstP p z l = (z, false) := by
  rw [firstP, find_not ha]
theorem any_at {α : Type} {p : α → Bool} {l : List α} {i : Nat} {e : α} (h : l[i]? = some e) (hp : p e = true) : l.any p = true := List.any_eq_true.2 ⟨e, List.mem_of_getElem? h, hp⟩
theorem any_not {α : Type} {p : α → Bool} {l : List α} (ha : l.all (fun x => !p x) = true) : l.any p = false := by
  rw [List.any_eq_false]
  intro x hx
  have := List.all_eq_true.1 ha x hx
  simpa using this
end Go.Aw
