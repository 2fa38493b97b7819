/- The law CheckFinds. -/
import Derived.Test.YtmeplhcfjihafaaDoorAwX4
namespace Go.Aw
open Go.Proofs Go.RowKit
set_option linter.unusedSimpArgs false
set_option linter.unusedVariables false
theorem msgsC_zero {S : Sc} {K : List (List UInt8) → Int} : ∀ {l : List Ms} {ns : List (List UInt8)}, msgsC S K ns l = 0 → (∀ (i : Nat) m, l[i]? = some m → msgC S (ns ++ (l.take i).map Ms.name) m = 0) ∧ K (ns ++ l.map Ms.name) = 0
  | [], ns, h => ⟨fun i m hm => by simp at hm, by simpa [msgsC] using h⟩
  | a :: l, ns, h => by
    rw [msgsC] at h
    split at h
    · rename_i h0
      obtain ⟨h1, h2⟩ := msgsC_zero h
      refine ⟨fun i m hm => ?_, by simpa [List.append_assoc] using h2⟩
      cases i with
      | zero => simp at hm; subst hm; simpa using h0
      | succ i => have := h1 i m (by simpa using hm); simpa [List.append_assoc] using this
    · rename_i h0; exact absurd h h0
theorem enumsC_zero : ∀ {l : List En} {ns : List (List UInt8)}, enumsC ns l = 0 → ∀ (i : Nat) m, l[i]? = some m → enumC (ns ++ (l.take i).map En.name) m = 0
  | [], ns, h, i, m, hm => by simp at hm
  | a :: l, ns, h, i, m, hm => by
    rw [enumsC] at h
    split at h
    · rename_i h0
      have h1 := enumsC_zero h
      cases i with
      | zero => simp at hm; subst hm; simpa using h0
      | succ i => have := h1 i m (by simpa using hm); simpa [List.append_assoc] using this
    · rename_i h0; exact absurd h h0
theorem methsC_zero {S : Sc} : ∀ {l : List Mt} {ns : List (List UInt8)}, methsC S ns l = 0 → ∀ (i : Nat) m, l[i]? = some m → takesB (ns ++ (l.take i).map Mt.name) m.name = true ∧ hasM S m.inn = true ∧ hasM S m.out = true
  | [], ns, h, i, m, hm => by simp at hm
  | a :: l, ns, h, i, m, hm => by
    rw [methsC] at h
    split at h
    · rename_i h0
      split at h
      · rename_i h2
        have h1 := methsC_zero h
        cases i with
        | zero =>
          simp at hm; subst hm
          simp only [Bool.and_eq_true] at h2
          exact ⟨by simpa using h0, h2⟩
        | succ i => have := h1 i m (by simpa using hm); simpa [List.append_assoc] using this
      · cases h
    · cases h
theorem fldsC_zero {S : Sc} : ∀ {l : List Fd} {ns : List (List UInt8)} {us : List Int}, fldsC S ns us l = 0 → ∀ (i : Nat) f, l[i]? = some f → takesB (ns ++ (l.take i).map Fd.name) f.name = true ∧ tagB f.tag = true ∧ (us ++ (l.take i).map Fd.tag).contains f.tag = false ∧ fieldB S f = true
  | [], ns, us, h, i, f, hf => by simp at hf
  | a :: l, ns, us, h, i, f, hf => by
    rw [fldsC] at h
    split at h
    · rename_i h0
      split at h
      · rename_i h2
        split at h
        · rename_i h3
          have h1 := fldsC_zero h
          cases i with
          | zero =>
            simp at hf; subst hf
            simp only [Bool.and_eq_true, Bool.not_eq_true'] at h2
            exact ⟨by simpa using h0, h2.1, by simpa using h2.2, h3⟩
          | succ i => have := h1 i f (by simpa using hf); simpa [List.append_assoc] using this
        · cases h
      · cases h
    · cases h
theorem contains_apart {α : Type} {f : α → List UInt8} {l : List α} {k : List UInt8} (h : (l.map f).contains k = false) : l.all (fun x => !(f x == k)) = true := by
  rw [List.all_eq_true]
  intro x hx
  rw [contains_any, List.any_map] at h
  have := List.any_eq_false.1 h x hx
  simp at this ⊢
  intro e
  exact this e.symm
theorem contains_apartI {α : Type} {f : α → Int} {l : List α} {k : Int} (h : (l.map f).contains k = false) : l.all (fun x => !(f x == k)) = true := by
  rw [List.all_eq_true]
  intro x hx
  rw [contains_any, List.any_map] at h
  have := List.any_eq_false.1 h x hx
  simp at this ⊢
  intro e
  exact this e.symm
theorem contains_app {α : Type} [BEq α] {a b : List α} {k : α} (h : (a ++ b).contains k = false) : a.contains k = false ∧ b.contains k = false := by
  rw [contains_any, List.any_append, Bool.or_eq_false_iff] at h
  exact ⟨by rw [contains_any]; exact h.1, by rw [contains_any]; exact h.2⟩
/-- What a right schema's parts are. -/
structure RightS (S : Sc) : Prop where
  msg : ∀ (i : Nat) m, S.msgs[i]? = some m → firstP (fun x => x.name == m.name) zMs S.msgs = (m, true) ∧ firstP (fun x => x.name == m.name) zEn S.enums = (zEn, false) ∧ nameB m.name = true
  enum : ∀ (i : Nat) m, S.enums[i]? = some m → firstP (fun x => x.name == m.name) zEn S.enums = (m, true)
  meth : ∀ (i : Nat) m, S.meths[i]? = some m → firstP (fun x => x.name == m.name) zMt S.meths = (m, true) ∧ hasM S m.inn = true ∧ hasM S m.out = true
  fld : ∀ m ∈ S.msgs, ∀ (i : Nat) f, m.fields[i]? = some f → firstP (fun x => x.tag == f.tag) zFd m.fields = (f, true) ∧ m.res.contains f.tag = false ∧ fieldB S f = true ∧ tagB f.tag = true ∧ nameB f.name = true
  res : ∀ m ∈ S.msgs, ∀ t ∈ m.res, firstP (fun x => x.tag == t) zFd m.fields = (zFd, false)
  no : ∀ m ∈ S.msgs, m.fields.length ≤ 16 ∧ m.res.length ≤ 32
  len : S.msgs.length ≠ 0 ∧ S.msgs.length ≤ 10 ∧ S.enums.length ≤ 6 ∧ S.meths.length ≤ 6
theorem right_of {S : Sc} (h : checkC S = 0) : RightS S := by
  unfold checkC at h
  split at h
  case isFalse => cases h
  split at h
  · cases h
  rename_i hl0
  split at h
  · cases h
  rename_i hl1
  split at h
  case isFalse h0 => exact absurd h h0
  rename_i h0
  obtain ⟨h1, h2⟩ := msgsC_zero h0
  have h3 := enumsC_zero h2
  have h4 := methsC_zero h
  have mz : ∀ (i : Nat) m, S.msgs[i]? = some m → takesB ((S.msgs.take i).map Ms.name) m.name = true ∧ bodyC S m = 0 := fun i m hm => by
    have := h1 i m hm
    unfold msgC at this
    rw [List.nil_append] at this
    split at this
    · rename_i q; exact ⟨q, this⟩
    · cases this
  have ez : ∀ (i : Nat) m, S.enums[i]? = some m → takesB (S.msgs.map Ms.name ++ (S.enums.take i).map En.name) m.name = true := fun i m hm => by
    have := h3 i m hm
    unfold enumC at this
    rw [List.nil_append] at this
    split at this
    · rename_i q; exact q
    · cases this
  have tk : ∀ {ns : List (List UInt8)} {k : List UInt8}, takesB ns k = true → ns.contains k = false ∧ nameB k = true := fun q => by
    unfold takesB at q
    simp only [Bool.and_eq_true, Bool.not_eq_true'] at q
    exact ⟨q.2, q.1⟩
  have bz : ∀ m ∈ S.msgs, (m.fields.length ≤ 16 ∧ m.res.length ≤ 32) ∧ fldsC S [] m.res m.fields = 0 := fun m hm => by
    obtain ⟨i, hi⟩ := List.getElem?_of_mem hm
    have q := (mz i m hi).2
    unfold bodyC at q
    split at q
    · cases q
    rename_i q1
    split at q
    · cases q
    · exact ⟨by omega, q⟩
  have fz : ∀ m ∈ S.msgs, ∀ (i : Nat) f, m.fields[i]? = some f → takesB ((m.fields.take i).map Fd.name) f.name = true ∧ tagB f.tag = true ∧ (m.res ++ (m.fields.take i).map Fd.tag).contains f.tag = false ∧ fieldB S f = true := fun m hm i f hf => by
    have := fldsC_zero (bz m hm).2 i f hf
    rwa [List.nil_append] at this
  refine ⟨fun i m hm => ?_, fun i m hm => ?_, fun i m hm => ?_, fun m hm i f hf => ?_, fun m hm t ht => ?_, fun m hm => (bz m hm).1, ⟨hl0, by omega⟩⟩
  · refine ⟨first_at hm (contains_apart (tk (mz i m hm).1).1) (by simp), first_not ?_, (tk (mz i m hm).1).2⟩
    rw [List.all_eq_true]
    intro e he
    obtain ⟨j, hj⟩ := List.getElem?_of_mem he
    have q := (contains_app (tk (ez j e hj)).1).1
    have q' := List.all_eq_true.1 (contains_apart q) m (List.mem_of_getElem? hm)
    simp at q' ⊢
    intro e'
    exact q' e'.symm
  · exact first_at hm (contains_apart (contains_app (tk (ez i m hm)).1).2) (by simp)
  · have q := h4 i m hm
    rw [List.nil_append] at q
    exact ⟨first_at hm (contains_apart (tk q.1).1) (by simp), q.2⟩
  · obtain ⟨q1, q2, q3, q4⟩ := fz m hm i f hf
    exact ⟨first_at hf (contains_apartI (contains_app q3).2) (by simp), (contains_app q3).1, q4, q2, (tk q1).2⟩
  · refine first_not ?_
    rw [List.all_eq_true]
    intro f hf
    obtain ⟨j, hj⟩ := List.getElem?_of_mem hf
    have q := (contains_app (fz m hm j f hj).2.2.1).1
    have : f.tag ≠ t := by
      intro e
      rw [e] at q
      have : m.res.contains t = true := by rw [List.contains_iff_mem]; exact ht
      rw [this] at q
      cases q
    simpa using this
end Go.Aw
