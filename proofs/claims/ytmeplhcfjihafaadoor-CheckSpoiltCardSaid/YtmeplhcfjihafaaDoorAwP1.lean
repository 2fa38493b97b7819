/- A right schema, whatever the order of its parts. -/
import Derived.Test.YtmeplhcfjihafaaDoorAwX6
namespace Go.Aw
open Go.Proofs Go.RowKit
set_option linter.unusedSimpArgs false
set_option linter.unusedVariables false
theorem msgsC_back {S : Sc} {K : List (List UInt8) → Int} : ∀ {l : List Ms} {ns : List (List UInt8)}, (∀ (i : Nat) m, l[i]? = some m → msgC S (ns ++ (l.take i).map Ms.name) m = 0) → K (ns ++ l.map Ms.name) = 0 → msgsC S K ns l = 0
  | [], ns, _, h => by simpa [msgsC] using h
  | a :: l, ns, h1, h2 => by
    have h0 := h1 0 a rfl
    rw [msgsC, if_pos (by simpa using h0)]
    exact msgsC_back (fun i m hm => by have := h1 (i + 1) m (by simpa using hm); simpa [List.append_assoc] using this) (by simpa [List.append_assoc] using h2)
theorem enumsC_back : ∀ {l : List En} {ns : List (List UInt8)}, (∀ (i : Nat) m, l[i]? = some m → enumC (ns ++ (l.take i).map En.name) m = 0) → enumsC ns l = 0
  | [], ns, _ => rfl
  | a :: l, ns, h1 => by
    have h0 := h1 0 a rfl
    rw [enumsC, if_pos (by simpa using h0)]
    exact enumsC_back (fun i m hm => by have := h1 (i + 1) m (by simpa using hm); simpa [List.append_assoc] using this)
theorem methsC_back {S : Sc} : ∀ {l : List Mt} {ns : List (List UInt8)}, (∀ (i : Nat) m, l[i]? = some m → takesB (ns ++ (l.take i).map Mt.name) m.name = true ∧ hasM S m.inn = true ∧ hasM S m.out = true) → methsC S ns l = 0
  | [], ns, _ => rfl
  | a :: l, ns, h1 => by
    obtain ⟨q1, q2, q3⟩ := h1 0 a rfl
    rw [methsC, if_pos (by simpa using q1), if_pos (by rw [q2, q3]; rfl)]
    exact methsC_back (fun i m hm => by have := h1 (i + 1) m (by simpa using hm); simpa [List.append_assoc] using this)
theorem takes_iff {ns : List (List UInt8)} {k : List UInt8} : takesB ns k = true ↔ nameB k = true ∧ k ∉ ns := by
  unfold takesB
  rw [Bool.and_eq_true, Bool.not_eq_true', ← Bool.not_eq_true, List.contains_iff_mem]
/-- Names taken one after another: all are names, none is there twice. -/
theorem takes_all {α : Type} {f : α → List UInt8} : ∀ {l : List α} {ns : List (List UInt8)}, ns.Nodup → ((∀ (i : Nat) a, l[i]? = some a → takesB (ns ++ (l.take i).map f) (f a) = true) ↔ (∀ a ∈ l, nameB (f a) = true) ∧ (ns ++ l.map f).Nodup)
  | [], ns, hn => by simp [hn]
  | a :: l, ns, hn => by
    constructor
    · intro h
      have h0 := takes_iff.1 (h 0 a rfl)
      have hn' : (ns ++ [f a]).Nodup := by
        rw [List.nodup_append]
        refine ⟨hn, by simp, fun x hx y hy => ?_⟩
        simp at hy
        subst hy
        rintro rfl
        exact h0.2 (by simpa using hx)
      have := (takes_all (f := f) (l := l) hn').1 fun i b hb => by
        have := h (i + 1) b (by simpa using hb)
        simpa [List.append_assoc] using this
      refine ⟨fun b hb => ?_, by simpa [List.append_assoc] using this.2⟩
      rcases List.mem_cons.1 hb with rfl | hb
      · exact h0.1
      · exact this.1 b hb
    · rintro ⟨h1, h2⟩ i b hb
      have h2' : ((ns ++ [f a]) ++ l.map f).Nodup := by simpa [List.append_assoc] using h2
      cases i with
      | zero =>
        simp at hb
        subst hb
        refine takes_iff.2 ⟨h1 _ List.mem_cons_self, fun hm => ?_⟩
        have q := (List.nodup_append.1 h2').1
        rw [List.nodup_append] at q
        exact q.2.2 (f a) (by simpa using hm) (f a) (by simp) rfl
      | succ i =>
        have hn' := (List.nodup_append.1 h2').1
        have := (takes_all (f := f) (l := l) hn').2 ⟨fun c hc => h1 c (List.mem_cons_of_mem _ hc), h2'⟩ i b (by simpa using hb)
        simpa [List.append_assoc] using this
def namesS (S : Sc) : List (List UInt8) := S.msgs.map Ms.name ++ S.enums.map En.name
/-- What makes a schema right, in no order. -/
structure FitS (S : Sc) : Prop where
  name : nameB S.name = true
  lens : S.msgs.length ≠ 0 ∧ S.msgs.length ≤ 10 ∧ S.enums.length ≤ 6 ∧ S.meths.length ≤ 6
  mn : ∀ m ∈ S.msgs, nameB m.name = true
  en : ∀ m ∈ S.enums, nameB m.name = true
  nd : (namesS S).Nodup
  body : ∀ m ∈ S.msgs, bodyC S m = 0
  ebody : ∀ m ∈ S.enums, enumBody m = 0
  tn : ∀ t ∈ S.meths, nameB t.name = true
  tnd : (S.meths.map Mt.name).Nodup
  tio : ∀ t ∈ S.meths, hasM S t.inn = true ∧ hasM S t.out = true
theorem msgC_zero {S : Sc} {ns : List (List UInt8)} {m : Ms} : msgC S ns m = 0 ↔ takesB ns m.name = true ∧ bodyC S m = 0 := by
  unfold msgC
  split
  · rename_i h; simp [h]
  · rename_i h; simp [h]
theorem enumC_zero {ns : List (List UInt8)} {m : En} : enumC ns m = 0 ↔ takesB ns m.name = true ∧ enumBody m = 0 := by
  unfold enumC
  split
  · rename_i h; simp [h]
  · rename_i h; simp [h]
theorem check_fit {S : Sc} : checkC S = 0 ↔ FitS S := by
  constructor
  · intro h
    have R := right_of h
    unfold checkC at h
    split at h
    case isFalse => cases h
    rename_i hn
    split at h
    · cases h
    split at h
    · cases h
    split at h
    case isFalse h0 => exact absurd h h0
    rename_i h0
    obtain ⟨h1, h2⟩ := msgsC_zero h0
    have h3 := enumsC_zero h2
    have h4 := methsC_zero h
    rw [List.nil_append] at h3
    have a1 := (takes_all (f := Ms.name) (l := S.msgs) (ns := []) List.nodup_nil).1 fun i m hm => (msgC_zero.1 (h1 i m hm)).1
    rw [List.nil_append] at a1
    have a2 := (takes_all (f := En.name) (l := S.enums) a1.2).1 fun i m hm => (enumC_zero.1 (h3 i m hm)).1
    have a3 := (takes_all (f := Mt.name) (l := S.meths) (ns := []) List.nodup_nil).1 fun i m hm => (h4 i m hm).1
    refine ⟨hn, R.len, a1.1, a2.1, a2.2, fun m hm => ?_, fun m hm => ?_, a3.1, by simpa using a3.2, fun t ht => ?_⟩
    · obtain ⟨i, hi⟩ := List.getElem?_of_mem hm
      exact (msgC_zero.1 (h1 i m hi)).2
    · obtain ⟨i, hi⟩ := List.getElem?_of_mem hm
      exact (enumC_zero.1 (h3 i m hi)).2
    · obtain ⟨i, hi⟩ := List.getElem?_of_mem ht
      exact (h4 i t hi).2
  · intro F
    have nd := F.nd
    unfold namesS at nd
    have nd1 := (List.nodup_append.1 nd).1
    have a1 := (takes_all (f := Ms.name) (l := S.msgs) (ns := []) List.nodup_nil).2 ⟨F.mn, by simpa using nd1⟩
    have a2 := (takes_all (f := En.name) (l := S.enums) nd1).2 ⟨F.en, nd⟩
    have a3 := (takes_all (f := Mt.name) (l := S.meths) (ns := []) List.nodup_nil).2 ⟨F.tn, by simpa using F.tnd⟩
    have hp : partsC S = 0 := by
      refine msgsC_back (fun i m hm => msgC_zero.2 ⟨a1 i m hm, F.body m (List.mem_of_getElem? hm)⟩) ?_
      rw [List.nil_append]
      exact enumsC_back fun i m hm => enumC_zero.2 ⟨a2 i m hm, F.ebody m (List.mem_of_getElem? hm)⟩
    have hm : methsC S [] S.meths = 0 := methsC_back fun i m hm => ⟨a3 i m hm, F.tio m (List.mem_of_getElem? hm)⟩
    have l := F.lens
    unfold checkC
    rw [if_pos F.name, if_neg l.1, if_neg (by omega), if_pos hp, hm]
theorem found_any {α : Type} {p : α → Bool} {z : α} {l : List α} : (firstP p z l).2 = l.any p := by
  unfold firstP
  cases h : l.find? p with
  | none =>
    symm
    rw [List.find?_eq_none] at h
    rw [List.any_eq_false]
    exact h
  | some a =>
    symm
    rw [List.any_eq_true]
    exact ⟨a, List.mem_of_find?_eq_some h, List.find?_some h⟩
theorem any_perm {α : Type} {p : α → Bool} {a b : List α} (h : a.Perm b) : a.any p = b.any p := by
  rw [Bool.eq_iff_iff, List.any_eq_true, List.any_eq_true]
  exact ⟨fun ⟨x, hx, q⟩ => ⟨x, h.mem_iff.1 hx, q⟩, fun ⟨x, hx, q⟩ => ⟨x, h.mem_iff.2 hx, q⟩⟩
theorem kind_perm {S U : Sc} (h1 : U.msgs.Perm S.msgs) (h2 : U.enums.Perm S.enums) (y : Ty) : kindB U y = kindB S y := by
  unfold kindB
  rw [found_any, found_any, found_any, found_any, any_perm h1, any_perm h2]
theorem flds_perm {S U : Sc} (h1 : U.msgs.Perm S.msgs) (h2 : U.enums.Perm S.enums) : ∀ (l : List Fd) (ns : List (List UInt8)) (us : List Int), fldsC U ns us l = fldsC S ns us l
  | [], ns, us => rfl
  | f :: l, ns, us => by
    rw [fldsC, fldsC]
    have : fieldB U f = fieldB S f := by unfold fieldB; rw [kind_perm h1 h2]
    rw [this, flds_perm h1 h2 l]
theorem fit_perm {S U : Sc} (hn : U.name = S.name) (h1 : U.msgs.Perm S.msgs) (h2 : U.enums.Perm S.enums) (h3 : U.meths.Perm S.meths) (F : FitS S) : FitS U := by
  have hb : ∀ m, bodyC U m = bodyC S m := fun m => by unfold bodyC; rw [flds_perm h1 h2]
  have hh : ∀ k, hasM U k = hasM S k := fun k => by unfold hasM; rw [found_any, found_any, any_perm h1]
  refine ⟨by rw [hn]; exact F.name, ?_, fun m hm => F.mn m (h1.mem_iff.1 hm), fun m hm => F.en m (h2.mem_iff.1 hm), ?_, fun m hm => by rw [hb]; exact F.body m (h1.mem_iff.1 hm), fun m hm => F.ebody m (h2.mem_iff.1 hm), fun t ht => F.tn t (h3.mem_iff.1 ht), ?_, fun t ht => by rw [hh, hh]; exact F.tio t (h3.mem_iff.1 ht)⟩
  · rw [h1.length_eq, h2.length_eq, h3.length_eq]; exact F.lens
  · exact ((h1.map _).append (h2.map _)).nodup_iff.2 F.nd
  · exact (h3.map _).nodup_iff.2 F.tnd
end Go.Aw
