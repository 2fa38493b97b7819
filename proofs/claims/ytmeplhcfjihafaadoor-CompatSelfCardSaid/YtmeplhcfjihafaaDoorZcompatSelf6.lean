/- What the law LawCompatSelf leans on, joined (part 6). -/
import Derived.Test.YtmeplhcfjihafaaDoorZcompatSelf5
set_option linter.unusedSimpArgs false
set_option linter.unusedVariables false
namespace Go.Aw
open Go.Proofs Go.RowKit
set_option linter.unusedSimpArgs false
set_option linter.unusedVariables false
theorem flds_iff {S : Sc} : ∀ {l : List Fd} {ns : List (List UInt8)} {us : List Int}, fldsC S ns us l = 0 ↔ (∀ f ∈ l, nameB f.name = true ∧ tagB f.tag = true ∧ fieldB S f = true ∧ f.name ∉ ns ∧ f.tag ∉ us) ∧ (l.map Fd.name).Nodup ∧ (l.map Fd.tag).Nodup
 | [], ns, us => by simp [fldsC]
 | f :: l, ns, us => by
  rw [fldsC, List.map_cons, List.map_cons, List.nodup_cons, List.nodup_cons]
  constructor
  ·intro h
   split at h
   ·rename_i h1
    split at h
    ·rename_i h2
     split at h
     ·rename_i h3
      obtain ⟨q1, q2, q3⟩ := (flds_iff (l := l)).1 h
      have t1 := takes_iff.1 h1
      rw [Bool.and_eq_true, Bool.not_eq_true', ← Bool.not_eq_true, List.contains_iff_mem] at h2
      refine ⟨fun g hg => ?_, ⟨fun hm => ?_, q2⟩, ⟨fun hm => ?_, q3⟩⟩
      ·rcases List.mem_cons.1 hg with rfl | hg
       ·exact ⟨t1.1, h2.1, h3, t1.2, h2.2⟩
       ·obtain ⟨a, b, c, d, e⟩ := q1 g hg
        exact ⟨a, b, c, fun hm => d (List.mem_append.2 (.inl hm)), fun hm => e (List.mem_append.2 (.inl hm))⟩
      ·obtain ⟨g, hg, e⟩ := List.mem_map.1 hm
       exact (q1 g hg).2.2.2.1 (by rw [e]; simp)
      ·obtain ⟨g, hg, e⟩ := List.mem_map.1 hm
       exact (q1 g hg).2.2.2.2 (by rw [e]; simp)
     ·cases h
    ·cases h
   ·cases h
  ·rintro ⟨h, ⟨n1, n2⟩, ⟨m1, m2⟩⟩
   obtain ⟨a, b, c, d, e⟩ := h f List.mem_cons_self
   rw [if_pos (takes_iff.2 ⟨a, d⟩), if_pos (by rw [Bool.and_eq_true, Bool.not_eq_true', ← Bool.not_eq_true, List.contains_iff_mem]; exact ⟨b, e⟩), if_pos c]
   refine (flds_iff (l := l)).2 ⟨fun g hg => ?_, n2, m2⟩
   obtain ⟨a', b', c', d', e'⟩ := h g (List.mem_cons_of_mem _ hg)
   refine ⟨a', b', c', fun hm => ?_, fun hm => ?_⟩
   ·rcases List.mem_append.1 hm with hm | hm
    ·exact d' hm
    ·simp at hm; exact n1 (List.mem_map.2 ⟨g, hg, hm⟩)
   ·rcases List.mem_append.1 hm with hm | hm
    ·exact e' hm
    ·simp at hm; exact m1 (List.mem_map.2 ⟨g, hg, hm⟩)
theorem res_iff : ∀ {l : List Int} {us : List Int}, resBad us l = false ↔ (∀ t ∈ l, tagB t = true ∧ t ∉ us) ∧ l.Nodup
 | [], us => by simp [resBad]
 | t :: l, us => by
  rw [resBad, List.nodup_cons]
  constructor
  ·intro h
   split at h
   ·rename_i h2
    rw [Bool.and_eq_true, Bool.not_eq_true', ← Bool.not_eq_true, List.contains_iff_mem] at h2
    obtain ⟨q1, q2⟩ := (res_iff (l := l)).1 h
    refine ⟨fun g hg => ?_, fun hm => ?_, q2⟩
    ·rcases List.mem_cons.1 hg with rfl | hg
     ·exact h2
     ·exact ⟨(q1 g hg).1, fun hm => (q1 g hg).2 (List.mem_append.2 (.inl hm))⟩
    ·exact (q1 t hm).2 (by simp)
   ·cases h
  ·rintro ⟨h, n1, n2⟩
   obtain ⟨a, b⟩ := h t List.mem_cons_self
   rw [if_pos (by rw [Bool.and_eq_true, Bool.not_eq_true', ← Bool.not_eq_true, List.contains_iff_mem]; exact ⟨a, b⟩)]
   refine (res_iff (l := l)).2 ⟨fun g hg => ?_, n2⟩
   obtain ⟨a', b'⟩ := h g (List.mem_cons_of_mem _ hg)
   refine ⟨a', fun hm => ?_⟩
   rcases List.mem_append.1 hm with hm | hm
   ·exact b' hm
   ·simp at hm; subst hm; exact n1 hg
structure FitM (S : Sc) (m : Ms) : Prop where
 no : m.fields.length ≤ 16 ∧ m.res.length ≤ 32
 res : ∀ t ∈ m.res, tagB t = true
 rnd : m.res.Nodup
 fld : ∀ f ∈ m.fields, nameB f.name = true ∧ tagB f.tag = true ∧ fieldB S f = true ∧ f.tag ∉ m.res
 nnd : (m.fields.map Fd.name).Nodup
 tnd : (m.fields.map Fd.tag).Nodup
theorem body_iff {S : Sc} {m : Ms} : bodyC S m = 0 ↔ FitM S m := by
 unfold bodyC
 constructor
 ·intro h
  split at h
  ·cases h
  rename_i h1
  split at h
  ·cases h
  rename_i h2
  obtain ⟨q1, q2, q3⟩ := flds_iff.1 h
  obtain ⟨r1, r2⟩ := res_iff.1 (by simpa using h2)
  exact ⟨by omega, fun t ht => (r1 t ht).1, r2, fun f hf => ⟨(q1 f hf).1, (q1 f hf).2.1, (q1 f hf).2.2.1, (q1 f hf).2.2.2.2⟩, q2, q3⟩
 ·intro F
  have := F.no
  rw [if_neg (by omega), if_neg (by rw [Bool.not_eq_true]; exact res_iff.2 ⟨fun t ht => ⟨F.res t ht, by simp⟩, F.rnd⟩)]
  exact flds_iff.2 ⟨fun f hf => ⟨(F.fld f hf).1, (F.fld f hf).2.1, (F.fld f hf).2.2.1, by simp, (F.fld f hf).2.2.2⟩, F.nnd, F.tnd⟩
theorem fieldB_eq {S U : Sc} (h : ∀ y, kindB U y = kindB S y) (f : Fd) : fieldB U f = fieldB S f := by
 unfold fieldB
 rw [h]
theorem nd_at {α : Type} {l : List α} : l.Nodup ↔ ∀ i j, i < j → j < l.length → l[i]? ≠ l[j]? := by
 rw [List.nodup_iff_pairwise_ne, List.pairwise_iff_getElem]
 constructor
 ·intro h i j hij hj e
  rw [List.getElem?_eq_getElem (show i < l.length by omega), List.getElem?_eq_getElem hj] at e
  exact h i j (by omega) hj hij (Option.some.inj e)
 ·intro h i j hi hj hij e
  exact h i j hij hj (by rw [List.getElem?_eq_getElem hi, List.getElem?_eq_getElem hj, e])
theorem first_in {α : Type} {p : α → Bool} {z : α} {l : List α} {a : α} (h : a ∈ l) (hp : p a = true) (hu : ∀ b ∈ l, p b = true → b = a) : firstP p z l = (a, true) := by
 unfold firstP
 cases e : l.find? p with
 | none => rw [List.find?_eq_none] at e; exact absurd hp (e a h)
 | some b => rw [hu b (List.mem_of_find?_eq_some e) (List.find?_some e)]
theorem nd_inj {α β : Type} {f : α → β} : ∀ {l : List α}, (l.map f).Nodup → ∀ a ∈ l, ∀ b ∈ l, f a = f b → a = b
 | [], _, a, ha, _, _, _ => by cases ha
 | x :: l, h, a, ha, b, hb, e => by
  rw [List.map_cons, List.nodup_cons] at h
  rcases List.mem_cons.1 ha with ha1 | ha1
  ·rcases List.mem_cons.1 hb with hb1 | hb1
   ·rw [ha1, hb1]
   ·exact absurd (List.mem_map.2 ⟨b, hb1, by rw [← e, ha1]⟩) h.1
  ·rcases List.mem_cons.1 hb with hb1 | hb1
   ·exact absurd (List.mem_map.2 ⟨a, ha1, by rw [e, hb1]⟩) h.1
   ·exact nd_inj h.2 a ha1 b hb1 e
theorem fit_msgs {S : Sc} (F : FitS S) {m : Ms} (h : m ∈ S.msgs) : FitM S m := body_iff.1 (F.body m h)
theorem methOf_in {S : Sc} (F : FitS S) {m : Mt} (h : m ∈ S.meths) : methOf S m.name = (m, true) := by
 unfold methOf
 exact first_in h (by simp) fun b hb e => nd_inj F.tnd b hb m h (by simpa using e)
theorem found_names {α : Type} {f : α → List UInt8} {z : α} {a b : List α} (h : a.map f = b.map f) (k : List UInt8) : (firstP (fun x => f x == k) z a).2 = (firstP (fun x => f x == k) z b).2 := by
 rw [found_any, found_any]
 have : ∀ l : List α, l.any (fun x => f x == k) = (l.map f).any (fun y => y == k) := fun l => by rw [List.any_map]; rfl
 rw [this, this, h]
theorem kind_names {S U : Sc} (h1 : U.msgs.map Ms.name = S.msgs.map Ms.name) (h2 : U.enums.map En.name = S.enums.map En.name) (y : Ty) : kindB U y = kindB S y := by
 unfold kindB
 rw [found_names (f := En.name) (z := zEn) h2, found_names (f := Ms.name) (z := zMs) h1]
theorem fit_like {S U : Sc} (F : FitS S) (hn : nameB U.name = true) (h1 : U.msgs.map Ms.name = S.msgs.map Ms.name) (h2 : U.enums = S.enums) (h3 : U.meths = S.meths) (hb : ∀ m ∈ U.msgs, FitM U m) : FitS U := by
 have l1 : U.msgs.length = S.msgs.length := by rw [← (show (U.msgs.map Ms.name).length = U.msgs.length from List.length_map _), h1, List.length_map]
 have hh : ∀ k, hasM U k = hasM S k := fun k => found_names (f := Ms.name) (z := zMs) h1 k
 refine ⟨hn, by rw [l1, h2, h3]; exact F.lens, fun m hm => ?_, by rw [h2]; exact F.en, ?_, fun m hm => body_iff.2 (hb m hm), by rw [h2]; exact F.ebody, by rw [h3]; exact F.tn, by rw [h3]; exact F.tnd, fun t ht => ?_⟩
 ·have : m.name ∈ S.msgs.map Ms.name := by rw [← h1]; exact List.mem_map.2 ⟨m, hm, rfl⟩
  obtain ⟨x, hx, e⟩ := List.mem_map.1 this
  rw [← e]; exact F.mn x hx
 ·have := F.nd
  unfold namesS at *
  rw [h1, h2]; exact this
 ·rw [hh, hh]; exact F.tio t (by rw [← h3]; exact ht)
def abcW : List UInt8 := [97, 98, 99, 100, 101, 102, 103, 104, 105, 106, 107, 108, 109, 110, 111, 112, 113, 114, 115, 116]
def ltr (k : Nat) : List UInt8 := 102 :: (abcW.take (k + 1)).drop k
def anotherW : List UInt8 := [97, 110, 111, 116, 104, 101, 114]
theorem ltr_name : ∀ k, k < 20 → nameB (ltr k) = true := by decide +kernel
theorem ltr_inj : ∀ k, k < 20 → ∀ j, j < 20 → ltr k = ltr j → k = j := by decide +kernel
theorem another_name : nameB anotherW = true := by decide +kernel
def renF (l : List Fd) (n : Nat) : List Fd := l.mapIdx fun k f => if k < n then { f with name := ltr k } else f
def renM (m : Ms) : Ms := { m with fields := renF m.fields m.fields.length }
def renMs (l : List Ms) (n : Nat) : List Ms := l.mapIdx fun k m => if k < n then renM m else m
def renS (S : Sc) : Sc := ⟨anotherW, S.msgs.map renM, S.enums, S.meths⟩
theorem renF_tags (l : List Fd) (n : Nat) : (renF l n).map Fd.tag = l.map Fd.tag := by
 unfold renF
 apply List.ext_getElem?
 intro i
 simp only [List.getElem?_map, List.getElem?_mapIdx]
 cases l[i]? with
 | none => rfl
 | some f => simp only [Option.map_some]; split <;> rfl
theorem renF_mem {l : List Fd} {n : Nat} {g : Fd} (h : g ∈ renF l n) : ∃ f ∈ l, g.tag = f.tag ∧ g.label = f.label ∧ g.ty = f.ty := by
 obtain ⟨i, hi⟩ := List.getElem?_of_mem h
 unfold renF at hi
 rw [List.getElem?_mapIdx, Option.map_eq_some_iff] at hi
 obtain ⟨f, hf, e⟩ := hi
 refine ⟨f, List.mem_of_getElem? hf, ?_⟩
 rw [← e]
 split <;> exact ⟨rfl, rfl, rfl⟩
theorem renF_names {l : List Fd} (h : l.length ≤ 20) : (∀ g ∈ renF l l.length, nameB g.name = true) ∧ ((renF l l.length).map Fd.name).Nodup := by
 have at_ : ∀ (i : Nat) g, (renF l l.length)[i]? = some g → i < l.length ∧ g.name = ltr i := fun i g hg => by
  unfold renF at hg
  rw [List.getElem?_mapIdx, Option.map_eq_some_iff] at hg
  obtain ⟨f, hf, e⟩ := hg
  have := (List.getElem?_eq_some_iff.1 hf).1
  rw [if_pos this] at e
  exact ⟨this, by rw [← e]⟩
 refine ⟨fun g hg => ?_, ?_⟩
 ·obtain ⟨i, hi⟩ := List.getElem?_of_mem hg
  obtain ⟨a, b⟩ := at_ i g hi
  rw [b]; exact ltr_name i (by omega)
 ·rw [nd_at]
  intro i j hij hj e
  rw [List.length_map] at hj
  obtain ⟨g, hg⟩ : ∃ g, (renF l l.length)[j]? = some g := ⟨_, List.getElem?_eq_getElem hj⟩
  obtain ⟨f, hf⟩ : ∃ f, (renF l l.length)[i]? = some f := ⟨_, List.getElem?_eq_getElem (by omega)⟩
  rw [List.getElem?_map, List.getElem?_map, hg, hf, Option.map_some, Option.map_some] at e
  injection e with e
  obtain ⟨a, b⟩ := at_ i f hf
  obtain ⟨c, d⟩ := at_ j g hg
  have := ltr_inj i (by omega) j (by omega) (by rw [← b, ← d]; exact e)
  omega
theorem ren_fOf {m : Ms} (t : Int) : (fOf (renM m) t).2 = (fOf m t).2 ∧ (fOf (renM m) t).1.label = (fOf m t).1.label ∧ (fOf (renM m) t).1.ty = (fOf m t).1.ty := by
 have : ∀ (l : List Fd) (g : Nat → Fd → Fd), (∀ k f, (g k f).tag = f.tag ∧ (g k f).label = f.label ∧ (g k f).ty = f.ty) → (firstP (fun x => x.tag == t) zFd (l.mapIdx g)).2 = (firstP (fun x => x.tag == t) zFd l).2 ∧ (firstP (fun x => x.tag == t) zFd (l.mapIdx g)).1.label = (firstP (fun x => x.tag == t) zFd l).1.label ∧ (firstP (fun x => x.tag == t) zFd (l.mapIdx g)).1.ty = (firstP (fun x => x.tag == t) zFd l).1.ty := by
  intro l
  induction l with
  | nil => intro g _; exact ⟨rfl, rfl, rfl⟩
  | cons f l ih =>
   intro g hg
   obtain ⟨a, b, c⟩ := hg 0 f
   rw [List.mapIdx_cons]
   have ih := ih (fun i => g (i + 1)) fun k f => hg (k + 1) f
   unfold firstP at ih ⊢
   rw [List.find?_cons, List.find?_cons, a]
   cases (f.tag == t) with
   | true => exact ⟨rfl, b, c⟩
   | false => exact ih
 exact this m.fields _ fun k f => by split <;> exact ⟨rfl, rfl, rfl⟩
theorem ren_msgOf {S : Sc} {k : List UInt8} (h : hasM S k = true) : msgOf (renS S) k = renM (msgOf S k) := by
 have : ∀ l : List Ms, (firstP (fun x => x.name == k) zMs l).2 = true → (firstP (fun x => x.name == k) zMs (l.map renM)).1 = renM (firstP (fun x => x.name == k) zMs l).1 := by
  intro l
  induction l with
  | nil => intro h; cases h
  | cons m l ih =>
   intro h
   unfold firstP at h ih ⊢
   rw [List.map_cons, List.find?_cons, List.find?_cons] at *
   have e : (renM m).name = m.name := rfl
   rw [e]
   cases hq : (m.name == k) with
   | true => rfl
   | false => rw [hq] at h; exact ih h
 exact this S.msgs h
theorem ren_fit {S : Sc} (F : FitS S) : FitS (renS S) := by
 have h1 : (renS S).msgs.map Ms.name = S.msgs.map Ms.name := by
  show (S.msgs.map renM).map Ms.name = _
  rw [List.map_map]; rfl
 refine fit_like F another_name h1 rfl rfl fun m hm => ?_
 obtain ⟨x, hx, rfl⟩ := List.mem_map.1 hm
 have X := fit_msgs F hx
 have l1 : (renF x.fields x.fields.length).length = x.fields.length := by unfold renF; rw [List.length_mapIdx]
 have N := renF_names (l := x.fields) (by have := X.no.1; omega)
 refine ⟨by show (renF _ _).length ≤ 16 ∧ _; rw [l1]; exact X.no, X.res, X.rnd, fun f hf => ?_, N.2, by show ((renF _ _).map Fd.tag).Nodup; rw [renF_tags]; exact X.tnd⟩
 obtain ⟨g, hg, e1, e2, e3⟩ := renF_mem hf
 obtain ⟨a, b, c, d⟩ := X.fld g hg
 refine ⟨N.1 f hf, by rw [e1]; exact b, ?_, by rw [e1]; exact d⟩
 rw [fieldB_eq (kind_names h1 rfl)]
 unfold fieldB at c ⊢
 rw [e2, e3]; exact c
theorem ren_evo {S : Sc} (h : checkC S = 0) : (evoP S S).2.2 = true ∧ (evoP S (renS S)).2.2 = true ∧ (evoP (renS S) S).2.2 = true := by
 have F := check_fit.1 h
 have R := right_of h
 have h' := check_fit.2 (ren_fit F)
 have R' := right_of h'
 have hh : ∀ k, hasM (renS S) k = hasM S k := fun k => found_names (f := Ms.name) (z := zMs) (by show (S.msgs.map renM).map Ms.name = _; rw [List.map_map]; rfl) k
 refine ⟨?_, ?_, ?_⟩
 ·rw [alike_yes h h (fun m hm => by rw [methOf_in F hm]; exact ⟨rfl, rfl, rfl⟩) fun k hk t t1 t2 => ?_]
  exact tag_same R hk (fun y _ hy => ⟨hy, fun v hv => hv⟩) (fun q => ⟨q, rfl, rfl⟩) fun q r => ⟨r, q⟩
 ·rw [alike_yes h h' (fun m hm => by rw [methOf_in (ren_fit F) (S := renS S) hm]; exact ⟨rfl, rfl, rfl⟩) fun k hk t t1 t2 => ?_]
  refine tag_same R hk (fun y _ hy => ⟨hy, fun v hv => hv⟩) (fun q => ?_) fun q r => ?_
  ·rw [ren_msgOf hk]
   obtain ⟨a, b, c⟩ := ren_fOf (m := msgOf S k) t
   exact ⟨by rw [a]; exact q, b, c⟩
  ·rw [ren_msgOf hk]
   exact ⟨r, by rw [(ren_fOf t).1]; exact q⟩
 ·rw [alike_yes h' h (fun m hm => by rw [methOf_in F hm]; exact ⟨rfl, rfl, rfl⟩) fun k hk t t1 t2 => ?_]
  rw [hh] at hk
  refine tag_same R' (by rw [hh]; exact hk) (fun y _ hy => ⟨hy, fun v hv => hv⟩) (fun q => ?_) fun q r => ?_
  ·rw [ren_msgOf hk] at q ⊢
   obtain ⟨a, b, c⟩ := ren_fOf (m := msgOf S k) t
   exact ⟨by rw [← a]; exact q, b.symm, c.symm⟩
  ·rw [ren_msgOf hk] at q r
   exact ⟨r, by rw [← (ren_fOf t).1]; exact q⟩
end Go.Aw
namespace Go.Aw
open Go.Proofs Go.RowKit
set_option linter.unusedSimpArgs false
set_option linter.unusedVariables false
end Go.Aw
namespace Go.Aw
open Go.Proofs Go.RowKit
set_option linter.unusedSimpArgs false
set_option linter.unusedVariables false
theorem vals_iff : ∀ {l : List Nm} {ns : List (List UInt8)} {us : List Int}, valsC ns us l = 0 ↔ (∀ f ∈ l, nameB f.name = true ∧ numB f.n = true ∧ f.name ∉ ns ∧ f.n ∉ us) ∧ (l.map Nm.name).Nodup ∧ (l.map Nm.n).Nodup
 | [], ns, us => by simp [valsC]
 | f :: l, ns, us => by
  rw [valsC, List.map_cons, List.map_cons, List.nodup_cons, List.nodup_cons]
  constructor
  ·intro h
   split at h
   ·rename_i h1
    split at h
    ·rename_i h2
     obtain ⟨q1, q2, q3⟩ := (vals_iff (l := l)).1 h
     have t1 := takes_iff.1 h1
     rw [Bool.and_eq_true, Bool.not_eq_true', ← Bool.not_eq_true, List.contains_iff_mem] at h2
     refine ⟨fun g hg => ?_, ⟨fun hm => ?_, q2⟩, ⟨fun hm => ?_, q3⟩⟩
     ·rcases List.mem_cons.1 hg with rfl | hg
      ·exact ⟨t1.1, h2.1, t1.2, h2.2⟩
      ·obtain ⟨a, b, d, e⟩ := q1 g hg
       exact ⟨a, b, fun hm => d (List.mem_append.2 (.inl hm)), fun hm => e (List.mem_append.2 (.inl hm))⟩
     ·obtain ⟨g, hg, e⟩ := List.mem_map.1 hm
      exact (q1 g hg).2.2.1 (by rw [e]; simp)
     ·obtain ⟨g, hg, e⟩ := List.mem_map.1 hm
      exact (q1 g hg).2.2.2 (by rw [e]; simp)
    ·cases h
   ·cases h
  ·rintro ⟨h, ⟨n1, n2⟩, ⟨m1, m2⟩⟩
   obtain ⟨a, b, d, e⟩ := h f List.mem_cons_self
   rw [if_pos (takes_iff.2 ⟨a, d⟩), if_pos (by rw [Bool.and_eq_true, Bool.not_eq_true', ← Bool.not_eq_true, List.contains_iff_mem]; exact ⟨b, e⟩)]
   refine (vals_iff (l := l)).2 ⟨fun g hg => ?_, n2, m2⟩
   obtain ⟨a', b', d', e'⟩ := h g (List.mem_cons_of_mem _ hg)
   refine ⟨a', b', fun hm => ?_, fun hm => ?_⟩
   ·rcases List.mem_append.1 hm with hm | hm
    ·exact d' hm
    ·simp at hm; exact n1 (List.mem_map.2 ⟨g, hg, hm⟩)
   ·rcases List.mem_append.1 hm with hm | hm
    ·exact e' hm
    ·simp at hm; exact m1 (List.mem_map.2 ⟨g, hg, hm⟩)
theorem name_nil : nameB [] = false := by decide +kernel
structure FitE (e : En) : Prop where
 no : e.vals.length ≤ 16
 zero : ∃ v ∈ e.vals, v.n = 0
 vals : ∀ v ∈ e.vals, nameB v.name = true ∧ numB v.n = true
 nnd : (e.vals.map Nm.name).Nodup
 vnd : (e.vals.map Nm.n).Nodup
theorem ebody_iff {e : En} : enumBody e = 0 ↔ FitE e := by
 unfold enumBody
 constructor
 ·intro h
  split at h
  ·cases h
  rename_i h1
  split at h
  ·rename_i h2
   obtain ⟨q1, q2, q3⟩ := vals_iff.1 h
   obtain ⟨v, hv, e0⟩ := List.any_eq_true.1 h2
   exact ⟨by omega, ⟨v, hv, eq_of_beq e0⟩, fun v hv => ⟨(q1 v hv).1, (q1 v hv).2.1⟩, q2, q3⟩
  ·cases h
 ·intro F
  have := F.no
  obtain ⟨v, hv, e0⟩ := F.zero
  rw [if_neg (by omega), if_pos (List.any_eq_true.2 ⟨v, hv, by simp [e0]⟩)]
  exact vals_iff.2 ⟨fun v hv => ⟨(F.vals v hv).1, (F.vals v hv).2, by simp, by simp⟩, F.nnd, F.vnd⟩
theorem FitE.nice {e : En} (F : FitE e) : niceE e := by
 refine ⟨F.vnd, fun v hv q => ?_⟩
 have := (F.vals v hv).1
 rw [q, name_nil] at this
 cases this
theorem fit_enum {S : Sc} (F : FitS S) {e : En} (h : e ∈ S.enums) : FitE e := ebody_iff.1 (F.ebody e h)
theorem right_Fits {S U : Sc} (F : FitS S) (G : FitS U) (y z : Ty) : PFn Tryd.prog 44 [.agg (encSc S), .agg (encSc U), .agg (encTy y), .agg (encTy z)] (.bool (fitsB S U y z)) :=
 compat_Fits S U y z (by have := F.lens; omega) (by have := G.lens; omega) (fun e he => by have := (fit_enum F he).no; omega) (fun e he => by have := (fit_enum G he).no; omega) (fun e he => (fit_enum F he).nice) fun e he => (fit_enum G he).nice
end Go.Aw
namespace Go.Aw
open Go.Proofs Go.RowKit
set_option linter.unusedSimpArgs false
set_option linter.unusedVariables false
theorem memP_by {p : Nat → Bool} {l : List Pr} {r a b : Nat} (h1 : p a = true) (h2 : p b = true) : (memP l r a b).all (fun x => x.2.labsBy p) = true := by
 simp only [memP, List.all_cons, List.all_nil, labsBy_lift, mP_by, Bool.and_true]
 simp [Blk.labsBy, labsByL, AV.labsBy, h1, h2]
def evS (S U : Sc) (l : List Pr) (m : List (Nat × AV)) : St := ⟨ofL ((2, .ptr 0 0 0) :: (3, .ptr 1 0 0) :: (7, .ptr 2 0 0) :: m), ofH ((0, .row 4 [cellsSc S]) :: (1, .row 4 [cellsSc U]) :: memP l 2 3 4), 5⟩
theorem walkP_end {S U : Sc} : ∀ (n i : Nat) (l : List Pr), l.length ≤ i → walkP S U n i l = ([], 0, true)
 | 0, i, l, _ => rfl
 | n + 1, i, l, h => by
  rw [walkP, List.getElem?_eq_none h]
def evNx (S U : Sc) (p : Pr) (i : Nat) : Int ⊕ List Pr → List UInt8 × Int × Bool
 | .inl t => (p.o, t, false)
 | .inr l' => walkP S U (100 - i) (i + 1) l'
theorem walkP_at {S U : Sc} {i : Nat} {l : List Pr} {p : Pr} (h : l[i]? = some p) (hi : i ≤ 100) : walkP S U (101 - i) i l = evNx S U p i (tagsP S U (msgOf S p.o) (msgOf U p.n) 500 1 l) := by
 rw [show 101 - i = (100 - i) + 1 by omega, walkP, h]
 simp only
 cases tagsP S U (msgOf S p.o) (msgOf U p.n) 500 1 l <;> rfl
def evI (S U : Sc) (mo mn : Ms) (l : List Pr) (i : Nat) (m : List (Nat × AV)) : St := ⟨ofL ((2, .ptr 0 0 0) :: (3, .ptr 1 0 0) :: (7, .ptr 2 0 0) :: (12, .p (.str [])) :: (13, .p (.int .i64 0)) :: (14, .p (.int .i64 (i : Int))) :: (15, .ptr 5 0 0) :: (17, .ptr 6 0 0) :: m),
 ofH ((0, .row 4 [cellsSc S]) :: (1, .row 4 [cellsSc U]) :: (5, .row 3 [cellsMs mo]) :: (6, .row 3 [cellsMs mn]) :: memP l 2 3 4), 7⟩
def evM (S U : Sc) (l : List Pr) (m m' : Mt) (i : Nat) : St := ⟨ofL [(2, .ptr 0 0 0), (3, .ptr 1 0 0), (7, .ptr 2 0 0), (9, .ptr 5 0 0), (10, .ptr 6 0 0), (32, .p (.slice (S.meths.map encMt))), (33, .p (.int .i64 (S.meths.length : Int))), (34, .p (.int .i64 (i : Int)))],
 ofH ((0, .row 4 [cellsSc S]) :: (1, .row 4 [cellsSc U]) :: (5, .row 3 [cellsMt m]) :: (6, .row 3 [cellsMt m']) :: memP l 2 3 4), 7⟩
set_option maxRecDepth 100000 in
set_option maxHeartbeats 4000000 in
theorem compat_Evolves (S U : Sc) (LS : LensS S) (LU : LensS U) : PFn Tryd.prog 42 [.agg (encSc S), .agg (encSc U)] (.tuple [.str (evoP S U).1, .int .i64 (evoP S U).2.1, .bool (evoP S U).2.2]) := by
 refine PFn.of Tryd.func42 rfl (by decide) Tryd.ntmps42 Tryd.results42 (Nat.le_of_ble_eq_true rfl) ?_
 have C1 := check_Check S LS
 have C2 := check_Check U LU
 simp only [encSc] at C1 C2
 simp only [argsT, encSc]
 refine AW.rT (by rfl) fun K hK => ?_
 simp -implicitDefEqProofs only [go_sem, ↓reduceIte, Nat.reduceAdd, Nat.reduceMul, Nat.reduceEqDiff, Nat.reduceLeDiff, reduceCtorEq, Int.reduceToNat]
 refine hK _ ?_; clear hK K
 refine AW.scope ?_
 refine AW.seq ?_
 by_cases hS : checkC S = 0
 case neg =>
  have f1 : (checkC S != 0) = true := by simp [hS]
  have e : evoP S U = ([], 0, false) := by unfold evoP; rw [if_neg (fun h => hS h.1)]
  refine AW.rT (by rfl) fun K hK => ?_
  simp -implicitDefEqProofs only [go_sem, ↓reduceIte, Nat.reduceAdd, Nat.reduceMul, Nat.reduceEqDiff, Nat.reduceLeDiff, reduceCtorEq, Int.reduceToNat]
  refine ⟨.pure _, C1, ?_⟩
  try simp -implicitDefEqProofs only [go_sem, ↓reduceIte, Nat.reduceAdd, Nat.reduceMul, Nat.reduceEqDiff, Nat.reduceLeDiff, reduceCtorEq, Int.reduceToNat, f1]
  refine hK _ ?_; clear hK K
  refine AW.cond _ (by simp -implicitDefEqProofs only [go_sem, ↓reduceIte, Nat.reduceAdd, Nat.reduceMul, Nat.reduceEqDiff, Nat.reduceLeDiff, reduceCtorEq, Int.reduceToNat]; rfl) (fun hc => ?_) (fun hc => ?_)
  rotate_left
  ·simp at hc
  refine AW.rT (by rfl) fun K hK => ?_
  simp -implicitDefEqProofs only [go_sem, ↓reduceIte, Nat.reduceAdd, Nat.reduceMul, Nat.reduceEqDiff, Nat.reduceLeDiff, reduceCtorEq, Int.reduceToNat]
  refine hK _ ?_; clear hK K
  refine AW.ret ?_
  simp -implicitDefEqProofs only [go_sem, ↓reduceIte, Nat.reduceAdd, Nat.reduceMul, Nat.reduceEqDiff, Nat.reduceLeDiff, reduceCtorEq, Int.reduceToNat, e]
 have f1 : (checkC S != 0) = false := by simp [hS]
 by_cases hU : checkC U = 0
 case neg =>
  have f2 : (checkC U != 0) = true := by simp [hU]
  have e : evoP S U = ([], 0, false) := by unfold evoP; rw [if_neg (fun h => hU h.2)]
  refine AW.rT (by rfl) fun K hK => ?_
  simp -implicitDefEqProofs only [go_sem, ↓reduceIte, Nat.reduceAdd, Nat.reduceMul, Nat.reduceEqDiff, Nat.reduceLeDiff, reduceCtorEq, Int.reduceToNat]
  refine ⟨.pure _, C1, ?_⟩
  try simp -implicitDefEqProofs only [go_sem, ↓reduceIte, Nat.reduceAdd, Nat.reduceMul, Nat.reduceEqDiff, Nat.reduceLeDiff, reduceCtorEq, Int.reduceToNat, f1]
  refine ⟨.pure _, C2, ?_⟩
  try simp -implicitDefEqProofs only [go_sem, ↓reduceIte, Nat.reduceAdd, Nat.reduceMul, Nat.reduceEqDiff, Nat.reduceLeDiff, reduceCtorEq, Int.reduceToNat, f2]
  refine hK _ ?_; clear hK K
  refine AW.cond _ (by simp -implicitDefEqProofs only [go_sem, ↓reduceIte, Nat.reduceAdd, Nat.reduceMul, Nat.reduceEqDiff, Nat.reduceLeDiff, reduceCtorEq, Int.reduceToNat]; rfl) (fun hc => ?_) (fun hc => ?_)
  rotate_left
  ·simp at hc
  refine AW.rT (by rfl) fun K hK => ?_
  simp -implicitDefEqProofs only [go_sem, ↓reduceIte, Nat.reduceAdd, Nat.reduceMul, Nat.reduceEqDiff, Nat.reduceLeDiff, reduceCtorEq, Int.reduceToNat]
  refine hK _ ?_; clear hK K
  refine AW.ret ?_
  simp -implicitDefEqProofs only [go_sem, ↓reduceIte, Nat.reduceAdd, Nat.reduceMul, Nat.reduceEqDiff, Nat.reduceLeDiff, reduceCtorEq, Int.reduceToNat, e]
 have f2 : (checkC U != 0) = false := by simp [hU]
 refine AW.rT (by rfl) fun K hK => ?_
 simp -implicitDefEqProofs only [go_sem, ↓reduceIte, Nat.reduceAdd, Nat.reduceMul, Nat.reduceEqDiff, Nat.reduceLeDiff, reduceCtorEq, Int.reduceToNat]
 refine ⟨.pure _, C1, ?_⟩
 try simp -implicitDefEqProofs only [go_sem, ↓reduceIte, Nat.reduceAdd, Nat.reduceMul, Nat.reduceEqDiff, Nat.reduceLeDiff, reduceCtorEq, Int.reduceToNat, f1]
 refine ⟨.pure _, C2, ?_⟩
 try simp -implicitDefEqProofs only [go_sem, ↓reduceIte, Nat.reduceAdd, Nat.reduceMul, Nat.reduceEqDiff, Nat.reduceLeDiff, reduceCtorEq, Int.reduceToNat, f2]
 refine hK _ ?_; clear hK K
 refine AW.cond _ (by simp -implicitDefEqProofs only [go_sem, ↓reduceIte, Nat.reduceAdd, Nat.reduceMul, Nat.reduceEqDiff, Nat.reduceLeDiff, reduceCtorEq, Int.reduceToNat]; rfl) (fun hc => ?_) (fun hc => ?_)
 ·simp at hc
 refine AW.skip ?_
 simp only [andThen, inBlk, reduceCtorEq, ↓reduceIte, if_t, if_f]
 refine AW.rT (by rfl) fun K hK => ?_
 simp -implicitDefEqProofs only [go_sem, ↓reduceIte, Nat.reduceAdd, Nat.reduceMul, Nat.reduceEqDiff, Nat.reduceLeDiff, reduceCtorEq, Int.reduceToNat]
 refine hK _ ?_; clear hK K
 have FS := check_fit.1 hS
 have FU := check_fit.1 hU
 have RS := right_of hS
 have RU := right_of hU
 have HF := right_Fits FS FU
 have Fl := FS.lens
 have Gl := FU.lens
 have eE : evoP S U = (match seedP U [] S.meths with | .inl k => (k, 0, false) | .inr l => walkP S U 101 0 l) := by unfold evoP; rw [if_pos ⟨hS, hU⟩] <;> (cases seedP U [] S.meths <;> rfl)
 -- the calls' messages
 refine AW.cut (fun l : List Pr => evS S U l []) (fun l => seedP U [] S.meths = .inr l ∧ PairsOK S U l) ?_ fun l hl => ?_
 ·refine AW.rT (by rfl) fun K hK => ?_
  simp -implicitDefEqProofs only [go_sem, ↓reduceIte, Nat.reduceAdd, Nat.reduceMul, Nat.reduceEqDiff, Nat.reduceLeDiff, reduceCtorEq, Int.reduceToNat, List.length_map]
  refine hK _ ?_; clear hK K
  refine AW.block ?_
  refine AW.loop (fun x : List Pr × Nat => evS S U x.1 [(32, .p (.slice (S.meths.map encMt))), (33, .p (.int .i64 (S.meths.length : Int))), (34, .p (.int .i64 (x.2 : Int)))]) (fun x => x.2 ≤ S.meths.length ∧ seedP U [] S.meths = seedP U x.1 (S.meths.drop x.2) ∧ PairsOK S U x.1) (fun x => S.meths.length - x.2) ([], 0) ?_ ⟨Nat.zero_le _, rfl, ⟨fun p hp => (by cases hp), List.nodup_nil⟩⟩ fun x hx => ?_
  ·refine Ghost.trans (s' := ⟨ofL [(2, .ptr 0 0 0), (3, .ptr 1 0 0), (7, .ptr 2 0 0), (32, .p (.slice (S.meths.map encMt))), (33, .p (.int .i64 (S.meths.length : Int))), (34, .p (.int .i64 0))], ofH [(0, .row 4 [cellsSc S]), (1, .row 4 [cellsSc U]), (2, .row 2 [[.ex [], .map 4]]), (4, .map [])], 5⟩) ?_ (Ghost.trans (Ghost.nilH (l := 2) (i := 0) (j := 0) (sz' := 2) rfl rfl rfl) ?_)
   ·simp only [cellsSc]
    refine Ghost.ent (fun l => if l = 0 then 0 else if l = 1 then 1 else if l = 2 then 15 else 13) ?_ ?_ ?_ <;> simp -implicitDefEqProofs only [go_sem, ↓reduceIte, Nat.reduceAdd, Nat.reduceMul, Nat.reduceEqDiff, Nat.reduceLeDiff, reduceCtorEq, Int.reduceToNat,  List.forall_mem_cons, List.not_mem_nil, false_implies, implies_true, and_self, map_renL_lift, labsIn_lift, List.all_append, List.all_cons, List.all_nil, List.map_append, Nat.reduceLT, labsInL, AV.labsIn]
    all_goals first | rfl | decide | skip
   ·simp only [evS, memP, cellsSc]
    refine Ghost.ent (fun l => if l = 3 then 5 else l) ?_ ?_ ?_ <;> simp -implicitDefEqProofs only [go_sem, ↓reduceIte, Nat.reduceAdd, Nat.reduceMul, Nat.reduceEqDiff, Nat.reduceLeDiff, reduceCtorEq, Int.reduceToNat, List.map_nil, liftE_nil, mP, List.forall_mem_cons, List.not_mem_nil, false_implies, implies_true, and_self, map_renL_lift, labsIn_lift, List.all_append, List.all_cons, List.all_nil, List.map_append, Nat.reduceLT, labsInL, AV.labsIn]
    all_goals first | rfl | decide | skip
  obtain ⟨l, i⟩ := x
  obtain ⟨i1, i2, i3⟩ := hx
  simp only at i1 i2 i3
  simp only [evS, memP, cellsSc]
  by_cases hil : i < S.meths.length
  case neg =>
   have hc1 : ((i : Int) < (S.meths.length : Int)) = False := eq_false (by omega)
   refine AW.rT (by rfl) fun K hK => ?_
   simp -implicitDefEqProofs only [go_sem, ↓reduceIte, Nat.reduceAdd, Nat.reduceMul, Nat.reduceEqDiff, Nat.reduceLeDiff, reduceCtorEq, Int.reduceToNat, hc1]
   refine hK _ ?_; clear hK K
   refine AW.seq ?_
   refine AW.cond _ (by simp -implicitDefEqProofs only [go_sem, ↓reduceIte, Nat.reduceAdd, Nat.reduceMul, Nat.reduceEqDiff, Nat.reduceLeDiff, reduceCtorEq, Int.reduceToNat]; rfl) (fun hc => ?_) (fun hc => ?_)
   ·simp at hc
   refine AW.exit ?_
   simp only [andThen, inBlk, reduceCtorEq, ↓reduceIte, if_t, if_f]
   refine ⟨l, ⟨?_, i3⟩, ?_⟩
   ·rw [i2, List.drop_of_length_le (by omega)]; rfl
   ·show Ghost _ _ (evS S U l [])
    simp only [evS, memP, cellsSc]
    refine Ghost.sub ?_ ?_ <;> simp -implicitDefEqProofs only [go_sem, ↓reduceIte, Nat.reduceAdd, Nat.reduceMul, Nat.reduceEqDiff, Nat.reduceLeDiff, reduceCtorEq, Int.reduceToNat,  List.forall_mem_cons, List.not_mem_nil, false_implies, implies_true, and_self, labsIn_lift, List.all_append, List.all_cons, List.all_nil, Nat.reduceLT, labsInL, AV.labsIn]
    all_goals first | rfl | decide | skip
  obtain ⟨m, hm⟩ : ∃ m, S.meths[i]? = some m := ⟨_, List.getElem?_eq_getElem hil⟩
  have ⟨hm1, hm2, hm3⟩ := at_map' encMt hm
  have hm2' : (i : Int) < (S.meths.length : Int) := by omega
  have hc1 : ((i : Int) < (S.meths.length : Int)) = True := eq_true (by omega)
  have w1 : IntKind.wrap .i64 ((i : Int) + 1) = ((i + 1 : Nat) : Int) := by rw [w64] <;> omega
  have M1 := check_Method U m.name (by omega)
  have e1 : firstP (fun x => x.name == m.name) zMt U.meths = methOf U m.name := rfl
  rw [e1] at M1
  simp only [encSc, encMt] at M1
  have dr : S.meths.drop i = m :: S.meths.drop (i + 1) := by
   rw [List.drop_eq_getElem_cons hil, (List.getElem?_eq_some_iff.1 hm).2]
  rw [dr, seedP] at i2
  refine AW.rT (by rfl) fun K hK => ?_
  simp -implicitDefEqProofs only [go_sem, ↓reduceIte, Nat.reduceAdd, Nat.reduceMul, Nat.reduceEqDiff, Nat.reduceLeDiff, reduceCtorEq, Int.reduceToNat, hc1]
  refine hK _ ?_; clear hK K
  refine AW.seq ?_
  refine AW.cond _ (by simp -implicitDefEqProofs only [go_sem, ↓reduceIte, Nat.reduceAdd, Nat.reduceMul, Nat.reduceEqDiff, Nat.reduceLeDiff, reduceCtorEq, Int.reduceToNat]; rfl) (fun hc => ?_) (fun hc => ?_)
  rotate_left
  ·simp at hc
  refine AW.skip ?_
  simp only [andThen, inBlk, reduceCtorEq, ↓reduceIte, if_t, if_f]
  refine AW.seq ?_
  refine AW.block ?_
  refine AW.rT (by rfl) fun K hK => ?_
  simp -implicitDefEqProofs only [go_sem, ↓reduceIte, Nat.reduceAdd, Nat.reduceMul, Nat.reduceEqDiff, Nat.reduceLeDiff, reduceCtorEq, Int.reduceToNat, hm1, hm2', hm3, encMt, List.length_map]
  refine hK _ ?_; clear hK K
  refine AW.rT (by rfl) fun K hK => ?_
  simp -implicitDefEqProofs only [go_sem, ↓reduceIte, Nat.reduceAdd, Nat.reduceMul, Nat.reduceEqDiff, Nat.reduceLeDiff, reduceCtorEq, Int.reduceToNat]
  refine ⟨.pure _, M1, ?_⟩
  try simp -implicitDefEqProofs only [go_sem, ↓reduceIte, Nat.reduceAdd, Nat.reduceMul, Nat.reduceEqDiff, Nat.reduceLeDiff, reduceCtorEq, Int.reduceToNat]
  refine hK _ ?_; clear hK K
  refine AW.seq ?_
  cases hk : (methOf U m.name).2 with
  | false =>
   rw [if_neg (by rw [hk]; simp)] at i2
   rw [i2] at eE
   refine AW.rT (by rfl) fun K hK => ?_
   simp -implicitDefEqProofs only [go_sem, ↓reduceIte, Nat.reduceAdd, Nat.reduceMul, Nat.reduceEqDiff, Nat.reduceLeDiff, reduceCtorEq, Int.reduceToNat, hk]
   refine hK _ ?_; clear hK K
   refine AW.cond _ (by simp -implicitDefEqProofs only [go_sem, ↓reduceIte, Nat.reduceAdd, Nat.reduceMul, Nat.reduceEqDiff, Nat.reduceLeDiff, reduceCtorEq, Int.reduceToNat]; rfl) (fun hc => ?_) (fun hc => ?_)
   rotate_left
   ·simp at hc
   refine AW.rT (by rfl) fun K hK => ?_
   simp -implicitDefEqProofs only [go_sem, ↓reduceIte, Nat.reduceAdd, Nat.reduceMul, Nat.reduceEqDiff, Nat.reduceLeDiff, reduceCtorEq, Int.reduceToNat]
   refine hK _ ?_; clear hK K
   refine AW.ret ?_
   simp -implicitDefEqProofs only [go_sem, ↓reduceIte, Nat.reduceAdd, Nat.reduceMul, Nat.reduceEqDiff, Nat.reduceLeDiff, reduceCtorEq, Int.reduceToNat, eE, noGo]
  | true =>
  rw [if_pos hk] at i2
  refine AW.rT (by rfl) fun K hK => ?_
  simp -implicitDefEqProofs only [go_sem, ↓reduceIte, Nat.reduceAdd, Nat.reduceMul, Nat.reduceEqDiff, Nat.reduceLeDiff, reduceCtorEq, Int.reduceToNat, hk]
  refine hK _ ?_; clear hK K
  refine AW.cond _ (by simp -implicitDefEqProofs only [go_sem, ↓reduceIte, Nat.reduceAdd, Nat.reduceMul, Nat.reduceEqDiff, Nat.reduceLeDiff, reduceCtorEq, Int.reduceToNat]; rfl) (fun hc => ?_) (fun hc => ?_)
  ·simp at hc
  refine AW.skip ?_
  simp only [andThen, inBlk, reduceCtorEq, ↓reduceIte, if_t, if_f]
  have hl100 := pairs_len i3 RS.len.2.1 RU.len.2.1
  have mr := RS.meth i m hm
  have mr' := meth_right RU hk
  have A1 := compat_add l ⟨m.inn, (methOf U m.name).1.inn⟩ (by omega)
  have ok1 := addP_ok i3 mr.2.1 mr'.2.2.1 (p := ⟨m.inn, (methOf U m.name).1.inn⟩)
  generalize addP l ⟨m.inn, (methOf U m.name).1.inn⟩ = l1 at *
  have hl101 := pairs_len ok1 RS.len.2.1 RU.len.2.1
  have A2 := compat_add l1 ⟨m.out, (methOf U m.name).1.out⟩ (by omega)
  have ok2 := addP_ok ok1 mr.2.2 mr'.2.2.2 (p := ⟨m.out, (methOf U m.name).1.out⟩)
  generalize addP l1 ⟨m.out, (methOf U m.name).1.out⟩ = l2 at *
  refine AW.rR (SeqR.ev 5 (by rfl) (by decide) ?_)
  simp -implicitDefEqProofs only [go_sem, ↓reduceIte, Nat.reduceAdd, Nat.reduceMul, Nat.reduceEqDiff, Nat.reduceLeDiff, reduceCtorEq, Int.reduceToNat]
  refine SeqR.call (fun k => k + 2) rfl rfl A1 ⟨?_, rfl, ?_, rfl, rfl, rfl, rfl, rfl, memP_by (r := 0) rfl rfl⟩ ?_
  ·simp -implicitDefEqProofs only [go_sem, ↓reduceIte, Nat.reduceAdd, Nat.reduceMul, Nat.reduceEqDiff, Nat.reduceLeDiff, reduceCtorEq, Int.reduceToNat, argD]
  ·simp only [memP]
   simp -implicitDefEqProofs only [go_sem, ↓reduceIte, Nat.reduceAdd, Nat.reduceMul, Nat.reduceEqDiff, Nat.reduceLeDiff, reduceCtorEq, Int.reduceToNat, List.forall_mem_cons, List.not_mem_nil, false_implies, implies_true, and_self]
   first | done | decide
  refine SeqR.last rfl ?_
  refine AW.ghost (s' := evM S U l1 m (methOf U m.name).1 i) ?_ ?_
  ·simp only [evM, memP, cellsSc]
   refine Ghost.ent (fun l => if l = 3 then 27 else if l = 4 then 28 else if l = 5 then 8 else if l = 6 then 17 else l) ?_ ?_ ?_ <;> simp -implicitDefEqProofs only [go_sem, ↓reduceIte, Nat.reduceAdd, Nat.reduceMul, Nat.reduceEqDiff, Nat.reduceLeDiff, reduceCtorEq, Int.reduceToNat, lift2, goneU, newU, Nat.reduceSub, cellsMt, List.forall_mem_cons, List.not_mem_nil, false_implies, implies_true, and_self, map_renL_lift, labsIn_lift, List.all_append, List.all_cons, List.all_nil, List.map_append, Nat.reduceLT, labsInL, AV.labsIn]
   all_goals first | rfl | decide | skip
  simp only [evM, memP, cellsSc, cellsMt]
  refine AW.rRE (SeqR.ev 5 (by rfl) (by decide) ?_)
  simp -implicitDefEqProofs only [go_sem, ↓reduceIte, Nat.reduceAdd, Nat.reduceMul, Nat.reduceEqDiff, Nat.reduceLeDiff, reduceCtorEq, Int.reduceToNat]
  refine SeqR.call (fun k => k + 2) rfl rfl A2 ⟨?_, rfl, ?_, rfl, rfl, rfl, rfl, rfl, memP_by (r := 0) rfl rfl⟩ ?_
  ·simp -implicitDefEqProofs only [go_sem, ↓reduceIte, Nat.reduceAdd, Nat.reduceMul, Nat.reduceEqDiff, Nat.reduceLeDiff, reduceCtorEq, Int.reduceToNat, argD]
  ·simp only [memP]
   simp -implicitDefEqProofs only [go_sem, ↓reduceIte, Nat.reduceAdd, Nat.reduceMul, Nat.reduceEqDiff, Nat.reduceLeDiff, reduceCtorEq, Int.reduceToNat, List.forall_mem_cons, List.not_mem_nil, false_implies, implies_true, and_self]
   first | done | decide
  refine SeqR.last rfl ?_
  simp only [andThen, inBlk, reduceCtorEq, ↓reduceIte, if_t, if_f]
  refine AW.ghost (s' := evM S U l2 m (methOf U m.name).1 i) ?_ ?_
  ·simp only [evM, memP, cellsSc]
   refine Ghost.ent (fun l => if l = 3 then 12 else if l = 4 then 13 else l) ?_ ?_ ?_ <;> simp -implicitDefEqProofs only [go_sem, ↓reduceIte, Nat.reduceAdd, Nat.reduceMul, Nat.reduceEqDiff, Nat.reduceLeDiff, reduceCtorEq, Int.reduceToNat, lift2, goneU, newU, Nat.reduceSub, cellsMt, List.forall_mem_cons, List.not_mem_nil, false_implies, implies_true, and_self, map_renL_lift, labsIn_lift, List.all_append, List.all_cons, List.all_nil, List.map_append, Nat.reduceLT, labsInL, AV.labsIn]
   all_goals first | rfl | decide | skip
  simp only [evM, memP, cellsSc, cellsMt]
  refine AW.rE (by rfl) fun K hK => ?_
  simp -implicitDefEqProofs only [go_sem, ↓reduceIte, Nat.reduceAdd, Nat.reduceMul, Nat.reduceEqDiff, Nat.reduceLeDiff, reduceCtorEq, Int.reduceToNat, w1]
  refine hK _ ?_; clear hK K
  refine ⟨(l2, i + 1), ⟨by omega, i2, ok2⟩, by simp only; omega, ?_⟩
  show Ghost _ _ (evS S U l2 [(32, .p (.slice (S.meths.map encMt))), (33, .p (.int .i64 (S.meths.length : Int))), (34, .p (.int .i64 ((i + 1 : Nat) : Int)))])
  simp only [evS, memP, cellsSc]
  refine Ghost.sub ?_ ?_ <;> simp -implicitDefEqProofs only [go_sem, ↓reduceIte, Nat.reduceAdd, Nat.reduceMul, Nat.reduceEqDiff, Nat.reduceLeDiff, reduceCtorEq, Int.reduceToNat,  List.forall_mem_cons, List.not_mem_nil, false_implies, implies_true, and_self, labsIn_lift, List.all_append, List.all_cons, List.all_nil, Nat.reduceLT, labsInL, AV.labsIn]
  all_goals first | rfl | decide | skip
 obtain ⟨hl1, hl2⟩ := hl
 rw [hl1] at eE
 simp only at eE
 have okl := hl2
 clear hl2 hl1
 simp only [evS, memP, cellsSc]
 refine AW.rT (by rfl) fun K hK => ?_
 simp -implicitDefEqProofs only [go_sem, ↓reduceIte, Nat.reduceAdd, Nat.reduceMul, Nat.reduceEqDiff, Nat.reduceLeDiff, reduceCtorEq, Int.reduceToNat]
 refine hK _ ?_; clear hK K
 refine AW.seq ?_
 refine AW.label ?_
 simp only [andThen, inBlk, reduceCtorEq, ↓reduceIte, if_t, if_f]
 refine AW.cut (fun x : List UInt8 × Int => ⟨ofL [(12, .p (.str x.1)), (13, .p (.int .i64 x.2))], ofH [], 0⟩) (fun x => evoP S U = (x.1, x.2, x.2 == 0)) ?_ fun x hx => ?_
 rotate_left
 ·refine AW.rT (by rfl) fun K hK => ?_
  simp -implicitDefEqProofs only [go_sem, ↓reduceIte, Nat.reduceAdd, Nat.reduceMul, Nat.reduceEqDiff, Nat.reduceLeDiff, reduceCtorEq, Int.reduceToNat]
  refine hK _ ?_; clear hK K
  refine AW.ret ?_
  simp -implicitDefEqProofs only [go_sem, ↓reduceIte, Nat.reduceAdd, Nat.reduceMul, Nat.reduceEqDiff, Nat.reduceLeDiff, reduceCtorEq, Int.reduceToNat, hx, noGo]
 refine AW.rT (by rfl) fun K hK => ?_
 simp -implicitDefEqProofs only [go_sem, ↓reduceIte, Nat.reduceAdd, Nat.reduceMul, Nat.reduceEqDiff, Nat.reduceLeDiff, reduceCtorEq, Int.reduceToNat]
 refine hK _ ?_; clear hK K
 refine AW.block ?_
 refine AW.loop (fun x : List Pr × Nat => evS S U x.1 [(12, .p (.str [])), (13, .p (.int .i64 0)), (14, .p (.int .i64 (x.2 : Int)))]) (fun x => x.2 ≤ x.1.length ∧ evoP S U = walkP S U (101 - x.2) x.2 x.1 ∧ PairsOK S U x.1) (fun x => 101 - x.2) (l, 0) ?_ ⟨Nat.zero_le _, eE, okl⟩ fun x hx => ?_
 ·simp only [evS, memP, cellsSc]
  refine Ghost.sub ?_ ?_ <;> simp -implicitDefEqProofs only [go_sem, ↓reduceIte, Nat.reduceAdd, Nat.reduceMul, Nat.reduceEqDiff, Nat.reduceLeDiff, reduceCtorEq, Int.reduceToNat,  List.forall_mem_cons, List.not_mem_nil, false_implies, implies_true, and_self, labsIn_lift, List.all_append, List.all_cons, List.all_nil, Nat.reduceLT, labsInL, AV.labsIn]
  all_goals first | rfl | decide | skip
 clear eE okl
 obtain ⟨l, i⟩ := x
 obtain ⟨i1, eE, okl⟩ := hx
 simp only at i1 eE okl
 have hl100 := pairs_len okl RS.len.2.1 RU.len.2.1
 simp only [evS, memP, cellsSc]
 refine AW.seq ?_
 by_cases hil : i < l.length
 case neg =>
  have hc1 : ((i : Int) < (l.length : Int)) = False := eq_false (by omega)
  rw [walkP_end _ _ _ (by omega)] at eE
  refine AW.rT (by rfl) fun K hK => ?_
  simp -implicitDefEqProofs only [go_sem, ↓reduceIte, Nat.reduceAdd, Nat.reduceMul, Nat.reduceEqDiff, Nat.reduceLeDiff, reduceCtorEq, Int.reduceToNat, hc1, liftE_length, List.length_map]
  refine hK _ ?_; clear hK K
  refine AW.cond _ (by simp -implicitDefEqProofs only [go_sem, ↓reduceIte, Nat.reduceAdd, Nat.reduceMul, Nat.reduceEqDiff, Nat.reduceLeDiff, reduceCtorEq, Int.reduceToNat]; rfl) (fun hc => ?_) (fun hc => ?_)
  ·simp at hc
  refine AW.exit ?_
  simp only [andThen, inBlk, reduceCtorEq, ↓reduceIte, if_t, if_f]
  refine ⟨([], 0), eE, ?_⟩
  refine Ghost.sub ?_ ?_ <;> simp -implicitDefEqProofs only [go_sem, ↓reduceIte, Nat.reduceAdd, Nat.reduceMul, Nat.reduceEqDiff, Nat.reduceLeDiff, reduceCtorEq, Int.reduceToNat,  List.forall_mem_cons, List.not_mem_nil, false_implies, implies_true, and_self, labsIn_lift, List.all_append, List.all_cons, List.all_nil, Nat.reduceLT, labsInL, AV.labsIn]
 obtain ⟨p, hp⟩ : ∃ p, l[i]? = some p := ⟨_, List.getElem?_eq_getElem hil⟩
 rw [walkP_at hp (by omega)] at eE
 have g1 := at_lift encPr hp
 have b0 : 0 ≤ (i : Int) := by omega
 have b1 : (i : Int) < (l.length : Int) := by omega
 have hc1 : ((i : Int) < (l.length : Int)) = True := eq_true (by omega)
 have w1 : IntKind.wrap .i64 ((i : Int) + 1) = ((i + 1 : Nat) : Int) := by rw [w64] <;> omega
 have hh := okl.here p (List.mem_of_getElem? hp)
 have hmo := (msgOf_mem hh.1).1
 have hmn := (msgOf_mem hh.2).1
 have M1 := check_Message S p.o (by omega)
 have M2 := check_Message U p.n (by omega)
 have e1 : firstP (fun x => x.name == p.o) zMs S.msgs = (msgOf S p.o, true) := by rw [← hh.1]; rfl
 have e2 : firstP (fun x => x.name == p.n) zMs U.msgs = (msgOf U p.n, true) := by rw [← hh.2]; rfl
 rw [e1] at M1
 rw [e2] at M2
 simp only [encSc, encMs] at M1 M2
 simp only [encPr, List.map_cons, List.map_nil] at g1
 refine AW.rT (by rfl) fun K hK => ?_
 simp -implicitDefEqProofs only [go_sem, ↓reduceIte, Nat.reduceAdd, Nat.reduceMul, Nat.reduceEqDiff, Nat.reduceLeDiff, reduceCtorEq, Int.reduceToNat, hc1, liftE_length, List.length_map]
 refine hK _ ?_; clear hK K
 refine AW.cond _ (by simp -implicitDefEqProofs only [go_sem, ↓reduceIte, Nat.reduceAdd, Nat.reduceMul, Nat.reduceEqDiff, Nat.reduceLeDiff, reduceCtorEq, Int.reduceToNat]; rfl) (fun hc => ?_) (fun hc => ?_)
 rotate_left
 ·simp at hc
 refine AW.skip ?_
 simp only [andThen, inBlk, reduceCtorEq, ↓reduceIte, if_t, if_f]
 refine AW.seq ?_
 refine AW.block ?_
 refine AW.dT mixed (by rfl) (by decide +kernel) fun K hK => ?_
 simp -implicitDefEqProofs only [go_sem, ↓reduceIte, Nat.reduceAdd, Nat.reduceMul, Nat.reduceEqDiff, Nat.reduceLeDiff, reduceCtorEq, Int.reduceToNat, g1, b0, b1, liftE_length, List.length_map]
 refine ⟨.pure _, M1, ?_⟩
 try simp -implicitDefEqProofs only [go_sem, ↓reduceIte, Nat.reduceAdd, Nat.reduceMul, Nat.reduceEqDiff, Nat.reduceLeDiff, reduceCtorEq, Int.reduceToNat]
 refine ⟨by decide +kernel, ?_⟩
 refine hK _ ?_; clear hK K
 refine AW.dT mixed (by rfl) (by decide +kernel) fun K hK => ?_
 simp -implicitDefEqProofs only [go_sem, ↓reduceIte, Nat.reduceAdd, Nat.reduceMul, Nat.reduceEqDiff, Nat.reduceLeDiff, reduceCtorEq, Int.reduceToNat, g1, b0, b1, liftE_length, List.length_map]
 refine ⟨.pure _, M2, ?_⟩
 try simp -implicitDefEqProofs only [go_sem, ↓reduceIte, Nat.reduceAdd, Nat.reduceMul, Nat.reduceEqDiff, Nat.reduceLeDiff, reduceCtorEq, Int.reduceToNat]
 refine ⟨by decide +kernel, ?_⟩
 refine hK _ ?_; clear hK K
 refine AW.rT (by rfl) fun K hK => ?_
 simp -implicitDefEqProofs only [go_sem, ↓reduceIte, Nat.reduceAdd, Nat.reduceMul, Nat.reduceEqDiff, Nat.reduceLeDiff, reduceCtorEq, Int.reduceToNat]
 refine hK _ ?_; clear hK K
 refine AW.block ?_
 refine AW.loop (fun x : List Pr × Nat => evI S U (msgOf S p.o) (msgOf U p.n) x.1 i [(19, .p (.int .i64 (x.2 : Int)))]) (fun x => x.2 ≤ 501 ∧ 1 ≤ x.2 ∧ i < x.1.length ∧ evoP S U = evNx S U p i (tagsP S U (msgOf S p.o) (msgOf U p.n) (501 - x.2) (x.2 : Int) x.1) ∧ PairsOK S U x.1) (fun x => 501 - x.2) (l, 1) ?_ ⟨by simp, by simp, hil, eE, okl⟩ fun x hx => ?_
 ·simp only [evI, memP, cellsSc, cellsMs]
  refine Ghost.ent (fun l => if l = 5 then 25 else if l = 6 then 41 else l) ?_ ?_ ?_ <;> simp -implicitDefEqProofs only [go_sem, ↓reduceIte, Nat.reduceAdd, Nat.reduceMul, Nat.reduceEqDiff, Nat.reduceLeDiff, reduceCtorEq, Int.reduceToNat, Int.natCast_one, Int.cast_ofNat_Int, List.forall_mem_cons, List.not_mem_nil, false_implies, implies_true, and_self, map_renL_lift, labsIn_lift, List.all_append, List.all_cons, List.all_nil, List.map_append, Nat.reduceLT, labsInL, AV.labsIn]
  all_goals first | rfl | decide | skip
 clear eE okl hl100 g1 hc1 hil hp i1 M1 M2
 obtain ⟨l, n⟩ := x
 obtain ⟨n1, n2, hil, eE, okl⟩ := hx
 simp only at n1 n2 hil eE okl
 have hl100 := pairs_len okl RS.len.2.1 RU.len.2.1
 simp only [evI, memP, cellsSc, cellsMs]
 refine AW.seq ?_
 by_cases hn : n ≤ 500
 case neg =>
  have hc1 : ((n : Int) ≤ 500) = False := eq_false (by omega)
  rw [show 501 - n = 0 by omega] at eE
  refine AW.rT (by rfl) fun K hK => ?_
  simp -implicitDefEqProofs only [go_sem, ↓reduceIte, Nat.reduceAdd, Nat.reduceMul, Nat.reduceEqDiff, Nat.reduceLeDiff, reduceCtorEq, Int.reduceToNat, hc1]
  refine hK _ ?_; clear hK K
  refine AW.cond _ (by simp -implicitDefEqProofs only [go_sem, ↓reduceIte, Nat.reduceAdd, Nat.reduceMul, Nat.reduceEqDiff, Nat.reduceLeDiff, reduceCtorEq, Int.reduceToNat]; rfl) (fun hc => ?_) (fun hc => ?_)
  ·simp at hc
  refine AW.exit ?_
  simp only [andThen, inBlk, reduceCtorEq, ↓reduceIte, if_t, if_f]
  refine AW.rE (by rfl) fun K hK => ?_
  simp -implicitDefEqProofs only [go_sem, ↓reduceIte, Nat.reduceAdd, Nat.reduceMul, Nat.reduceEqDiff, Nat.reduceLeDiff, reduceCtorEq, Int.reduceToNat, w1]
  refine hK _ ?_; clear hK K
  refine ⟨(l, i + 1), ⟨by simp only; omega, ?_, okl⟩, by simp only; omega, ?_⟩
  ·simp only
   rw [eE, show 101 - (i + 1) = 100 - i by omega]; rfl
  ·show Ghost _ _ (evS S U l [(12, .p (.str [])), (13, .p (.int .i64 0)), (14, .p (.int .i64 ((i + 1 : Nat) : Int)))])
   simp only [evS, memP, cellsSc]
   refine Ghost.sub ?_ ?_ <;> simp -implicitDefEqProofs only [go_sem, ↓reduceIte, Nat.reduceAdd, Nat.reduceMul, Nat.reduceEqDiff, Nat.reduceLeDiff, reduceCtorEq, Int.reduceToNat,  List.forall_mem_cons, List.not_mem_nil, false_implies, implies_true, and_self, labsIn_lift, List.all_append, List.all_cons, List.all_nil, Nat.reduceLT, labsInL, AV.labsIn]
   all_goals first | rfl | decide | skip
 have hc1 : ((n : Int) ≤ 500) = True := eq_true (by omega)
 have w2 : IntKind.wrap .i64 ((n : Int) + 1) = ((n + 1 : Nat) : Int) := by rw [w64] <;> omega
 have no1 := (fit_msgs FS hmo).no
 have no2 := (fit_msgs FU hmn).no
 have ST := compat_stays S U (msgOf S p.o) (msgOf U p.n) (n : Int) l (by omega) (by omega) (by omega) (by omega) (by omega) HF
 rw [show 501 - n = (500 - n) + 1 by omega, tagsP] at eE
 refine AW.rT (by rfl) fun K hK => ?_
 simp -implicitDefEqProofs only [go_sem, ↓reduceIte, Nat.reduceAdd, Nat.reduceMul, Nat.reduceEqDiff, Nat.reduceLeDiff, reduceCtorEq, Int.reduceToNat, hc1]
 refine hK _ ?_; clear hK K
 refine AW.cond _ (by simp -implicitDefEqProofs only [go_sem, ↓reduceIte, Nat.reduceAdd, Nat.reduceMul, Nat.reduceEqDiff, Nat.reduceLeDiff, reduceCtorEq, Int.reduceToNat]; rfl) (fun hc => ?_) (fun hc => ?_)
 rotate_left
 ·simp at hc
 refine AW.skip ?_
 simp only [andThen, inBlk, reduceCtorEq, ↓reduceIte, if_t, if_f]
 refine AW.seq ?_
 refine AW.block ?_
 refine AW.rR (SeqR.ev 6 (by rfl) (by decide) ?_)
 simp -implicitDefEqProofs only [go_sem, ↓reduceIte, Nat.reduceAdd, Nat.reduceMul, Nat.reduceEqDiff, Nat.reduceLeDiff, reduceCtorEq, Int.reduceToNat]
 refine SeqR.call (fun k => k + 2) rfl rfl ST ⟨?_, rfl, ?_, rfl, rfl, rfl, rfl, rfl, memP_by (r := 0) rfl rfl⟩ ?_
 ·simp -implicitDefEqProofs only [go_sem, ↓reduceIte, Nat.reduceAdd, Nat.reduceMul, Nat.reduceEqDiff, Nat.reduceLeDiff, reduceCtorEq, Int.reduceToNat, argD, encSc, encMs]
 ·simp only [memP]
  simp -implicitDefEqProofs only [go_sem, ↓reduceIte, Nat.reduceAdd, Nat.reduceMul, Nat.reduceEqDiff, Nat.reduceLeDiff, reduceCtorEq, Int.reduceToNat, List.forall_mem_cons, List.not_mem_nil, false_implies, implies_true, and_self]
  first | done | decide
 refine SeqR.ev 1 (by rfl) (by decide) ?_
 simp -implicitDefEqProofs only [go_sem, ↓reduceIte, Nat.reduceAdd, Nat.reduceMul, Nat.reduceEqDiff, Nat.reduceLeDiff, reduceCtorEq, Int.reduceToNat]
 refine SeqR.last rfl ?_
 cases hb : stayB S U (msgOf S p.o) (msgOf U p.n) (n : Int) with
 | false =>
  rw [if_neg (by rw [hb]; simp)] at eE
  refine AW.cond _ (by simp -implicitDefEqProofs only [go_sem, ↓reduceIte, Nat.reduceAdd, Nat.reduceMul, Nat.reduceEqDiff, Nat.reduceLeDiff, reduceCtorEq, Int.reduceToNat]; rfl) (fun hc => ?_) (fun hc => ?_)
  rotate_left
  ·simp at hc
  refine AW.rT (by rfl) fun K hK => ?_
  simp -implicitDefEqProofs only [go_sem, ↓reduceIte, Nat.reduceAdd, Nat.reduceMul, Nat.reduceEqDiff, Nat.reduceLeDiff, reduceCtorEq, Int.reduceToNat]
  refine hK _ ?_; clear hK K
  refine AW.exit ?_
  simp only [andThen, inBlk, reduceCtorEq, ↓reduceIte, if_t, if_f]
  refine ⟨(p.o, (n : Int)), ?_, ?_⟩
  ·simp only
   rw [eE]
   have : ((n : Int) == 0) = false := beq_eq_false_iff_ne.2 (by omega)
   rw [this]; rfl
  ·show Ghost _ _ ⟨ofL [(12, .p (.str p.o)), (13, .p (.int .i64 (n : Int)))], ofH [], 0⟩
   refine Ghost.sub ?_ ?_ <;> simp -implicitDefEqProofs only [go_sem, ↓reduceIte, Nat.reduceAdd, Nat.reduceMul, Nat.reduceEqDiff, Nat.reduceLeDiff, reduceCtorEq, Int.reduceToNat, (msgOf_mem hh.1).2, List.forall_mem_cons, List.not_mem_nil, false_implies, implies_true, and_self, labsIn_lift, List.all_append, List.all_cons, List.all_nil, Nat.reduceLT, labsInL, AV.labsIn]
 | true =>
  rw [if_pos hb] at eE
  have okl' := stayL_ok RS RU hmo hmn (t := (n : Int)) okl
  have il' : i < (stayL S U (msgOf S p.o) (msgOf U p.n) (n : Int) l).length := Nat.lt_of_lt_of_le hil stayL_len.1
  generalize stayL S U (msgOf S p.o) (msgOf U p.n) (n : Int) l = l' at *
  refine AW.cond _ (by simp -implicitDefEqProofs only [go_sem, ↓reduceIte, Nat.reduceAdd, Nat.reduceMul, Nat.reduceEqDiff, Nat.reduceLeDiff, reduceCtorEq, Int.reduceToNat]; rfl) (fun hc => ?_) (fun hc => ?_)
  ·simp at hc
  refine AW.skip ?_
  simp only [andThen, inBlk, reduceCtorEq, ↓reduceIte, if_t, if_f]
  refine AW.ghost (s' := evI S U (msgOf S p.o) (msgOf U p.n) l' i [(19, .p (.int .i64 (n : Int)))]) ?_ ?_
  ·simp only [evI, memP, cellsSc, cellsMs]
   refine Ghost.ent (fun l => if l = 3 then 15 else if l = 4 then 16 else l) ?_ ?_ ?_ <;> simp -implicitDefEqProofs only [go_sem, ↓reduceIte, Nat.reduceAdd, Nat.reduceMul, Nat.reduceEqDiff, Nat.reduceLeDiff, reduceCtorEq, Int.reduceToNat, lift2, goneU, newU, Nat.reduceSub, List.forall_mem_cons, List.not_mem_nil, false_implies, implies_true, and_self, map_renL_lift, labsIn_lift, List.all_append, List.all_cons, List.all_nil, List.map_append, Nat.reduceLT, labsInL, AV.labsIn]
   all_goals first | rfl | decide | skip
  simp only [evI, memP, cellsSc, cellsMs]
  refine AW.rE (by rfl) fun K hK => ?_
  simp -implicitDefEqProofs only [go_sem, ↓reduceIte, Nat.reduceAdd, Nat.reduceMul, Nat.reduceEqDiff, Nat.reduceLeDiff, reduceCtorEq, Int.reduceToNat, w2]
  refine hK _ ?_; clear hK K
  refine ⟨(l', n + 1), ⟨by simp only; omega, by simp only; omega, il', ?_, okl'⟩, by simp only; omega, ?_⟩
  ·simp only
   rw [eE, show 501 - (n + 1) = 500 - n by omega]
   push_cast
   rfl
  ·show Ghost _ _ (evI S U (msgOf S p.o) (msgOf U p.n) l' i [(19, .p (.int .i64 ((n + 1 : Nat) : Int)))])
   simp only [evI, memP, cellsSc, cellsMs]
   refine Ghost.sub ?_ ?_ <;> simp -implicitDefEqProofs only [go_sem, ↓reduceIte, Nat.reduceAdd, Nat.reduceMul, Nat.reduceEqDiff, Nat.reduceLeDiff, reduceCtorEq, Int.reduceToNat,  List.forall_mem_cons, List.not_mem_nil, false_implies, implies_true, and_self, labsIn_lift, List.all_append, List.all_cons, List.all_nil, Nat.reduceLT, labsInL, AV.labsIn]
   all_goals first | rfl | decide | skip
end Go.Aw
namespace Go.Aw
open Go.Proofs Go.RowKit
set_option linter.unusedSimpArgs false
set_option linter.unusedVariables false
def vF : Fd := ⟨[120], 3, 1, ⟨1, []⟩⟩
def vT : Mt := ⟨[99], [109], [109]⟩
def vS1 : Sc := ⟨[97], [⟨[109], [vF], []⟩], [], [vT]⟩
def vS2 : Sc := ⟨[97], [⟨[109], [], []⟩], [], [vT]⟩
theorem vS1_lens : LensS vS1 := lens_few (by decide +kernel)
theorem vS2_lens : LensS vS2 := lens_few (by decide +kernel)
theorem v_yes : evoP vS1 vS1 = ([], 0, true) := by decide +kernel
theorem v_no : evoP vS1 vS2 = ([109], 3, false) := by decide +kernel
def vk0 : St := ⟨ofL [(2, .ptr 0 0 0), (3, .ptr 1 0 0)], ofH [(0, .row 4 [[.p (.str [97]), .own 2, .ex [], .own 4]]), (1, .row 4 [[.p (.str [97]), .own 5, .ex [], .own 6]]), (2, .row 3 [[.p (.str [109]), .own 3, .ex []]]), (3, .row 5 (liftE ([vF].map encFd))), (4, .row 3 (liftE ([vT].map encMt))), (5, .row 3 [[.p (.str [109]), .ex [], .ex []]]), (6, .row 3 (liftE ([vT].map encMt)))], 7⟩
def vM1 : List AV := [.p (.str [109]), .p (.slice ([vF].map encFd)), .ex []]
def vk1 : St := ⟨ofL [(2, .ptr 0 0 0), (3, .ptr 1 0 0)], ofH [(0, .row 4 [[.p (.str [97]), .own 2, .ex [], .own 4]]), (1, .row 4 [[.p (.str [97]), .own 5, .ex [], .own 6]]), (2, .row 3 [vM1]), (4, .row 3 (liftE ([vT].map encMt))), (5, .row 3 [[.p (.str [109]), .ex [], .ex []]]), (6, .row 3 (liftE ([vT].map encMt)))], 7⟩
def vk2 : St := ⟨ofL [(2, .ptr 0 0 0), (3, .ptr 1 0 0)], ofH [(0, .row 4 [[.p (.str [97]), .p (.slice [encMs ⟨[109], [vF], []⟩]), .ex [], .own 4]]), (1, .row 4 [[.p (.str [97]), .own 5, .ex [], .own 6]]), (4, .row 3 (liftE ([vT].map encMt))), (5, .row 3 [[.p (.str [109]), .ex [], .ex []]]), (6, .row 3 (liftE ([vT].map encMt)))], 7⟩
def vR1 : List AV := [.p (.str [97]), .p (.slice [encMs ⟨[109], [vF], []⟩]), .ex [], .p (.slice ([vT].map encMt))]
def vR2 : List AV := [.p (.str [97]), .p (.slice [encMs ⟨[109], [], []⟩]), .ex [], .p (.slice ([vT].map encMt))]
def vk3 : St := ⟨ofL [(2, .ptr 0 0 0), (3, .ptr 1 0 0)], ofH [(0, .row 4 [vR1]), (1, .row 4 [[.p (.str [97]), .own 5, .ex [], .own 6]]), (5, .row 3 [[.p (.str [109]), .ex [], .ex []]]), (6, .row 3 (liftE ([vT].map encMt)))], 7⟩
def vk4 : St := ⟨ofL [(2, .ptr 0 0 0), (3, .ptr 1 0 0)], ofH [(0, .row 4 [vR1]), (1, .row 4 [[.p (.str [97]), .p (.slice [encMs ⟨[109], [], []⟩]), .ex [], .own 6]]), (6, .row 3 (liftE ([vT].map encMt)))], 7⟩
def vk5 : St := ⟨ofL [(2, .ptr 0 0 0), (3, .ptr 1 0 0)], ofH [(0, .row 4 [vR1]), (1, .row 4 [vR2])], 7⟩
set_option maxRecDepth 100000 in
set_option maxHeartbeats 4000000 in
theorem law14_awake : PFn Tryd.prog 41 [] (.bool true) := by
 refine PFn.of Tryd.func41 rfl (by decide) Tryd.ntmps41 Tryd.results41 (Nat.le_of_ble_eq_true rfl) ?_
 simp only [argsT]
 refine AW.rT (by rfl) fun K hK => ?_
 simp -implicitDefEqProofs only [go_sem, ↓reduceIte, Nat.reduceAdd, Nat.reduceMul, Nat.reduceEqDiff, Nat.reduceLeDiff, reduceCtorEq, Int.reduceToNat]
 refine hK _ ?_; clear hK K
 refine AW.rT (by rfl) fun K hK => ?_
 simp -implicitDefEqProofs only [go_sem, ↓reduceIte, Nat.reduceAdd, Nat.reduceMul, Nat.reduceEqDiff, Nat.reduceLeDiff, reduceCtorEq, Int.reduceToNat]
 refine hK _ ?_; clear hK K
 refine AW.rT (by rfl) fun K hK => ?_
 simp -implicitDefEqProofs only [go_sem, ↓reduceIte, Nat.reduceAdd, Nat.reduceMul, Nat.reduceEqDiff, Nat.reduceLeDiff, reduceCtorEq, Int.reduceToNat]
 refine hK _ ?_; clear hK K
 refine AW.rT (by rfl) fun K hK => ?_
 simp -implicitDefEqProofs only [go_sem, ↓reduceIte, Nat.reduceAdd, Nat.reduceMul, Nat.reduceEqDiff, Nat.reduceLeDiff, reduceCtorEq, Int.reduceToNat]
 refine hK _ ?_; clear hK K
 refine AW.ghost (s' := vk0) ?_ ?_
 ·simp only [vk0]
  refine Ghost.ent (fun l => if l = 0 then 12 else if l = 1 then 19 else if l = 2 then 8 else if l = 3 then 6 else if l = 4 then 10 else if l = 5 then 15 else 17) ?_ ?_ ?_ <;> simp -implicitDefEqProofs only [go_sem, ↓reduceIte, Nat.reduceAdd, Nat.reduceMul, Nat.reduceEqDiff, Nat.reduceLeDiff, reduceCtorEq, Int.reduceToNat, vF, vT, encFd, encMt, liftE_cons, liftE_nil, List.map_cons, List.map_nil, List.forall_mem_cons, List.not_mem_nil, false_implies, implies_true, and_self, map_renL_lift, labsIn_lift, List.all_append, List.all_cons, List.all_nil, List.map_append, Nat.reduceLT, labsInL, AV.labsIn]
  all_goals first | rfl | decide | skip
 refine AW.ghost (s' := vk1) (Ghost.trans (Ghost.freeze (lb := 3) (ps := [vF].map encFd) rfl (unlift_liftE _)) ?_) ?_
 ·simp only [vk0, vk1]
  refine Ghost.sub ?_ ?_ <;> simp -implicitDefEqProofs only [go_sem, ↓reduceIte, Nat.reduceAdd, Nat.reduceMul, Nat.reduceEqDiff, Nat.reduceLeDiff, reduceCtorEq, Int.reduceToNat, thaw, thaw1, Option.map_some, List.map_cons, List.map_nil, vM1, vF, vT, encFd, encMt, liftE_cons, liftE_nil, List.forall_mem_cons, List.not_mem_nil, false_implies, implies_true, and_self, labsIn_lift, List.all_append, List.all_cons, List.all_nil, Nat.reduceLT, labsInL, AV.labsIn]
  all_goals first | rfl | decide | skip
 refine AW.ghost (s' := vk2) (Ghost.trans (Ghost.freeze (lb := 2) (ps := [encMs ⟨[109], [vF], []⟩]) rfl (by rfl)) ?_) ?_
 ·simp only [vk1, vk2]
  refine Ghost.sub ?_ ?_ <;> simp -implicitDefEqProofs only [go_sem, ↓reduceIte, Nat.reduceAdd, Nat.reduceMul, Nat.reduceEqDiff, Nat.reduceLeDiff, reduceCtorEq, Int.reduceToNat, thaw, thaw1, Option.map_some, List.map_cons, List.map_nil, vM1, vF, vT, encFd, encMs, encMt, liftE_cons, liftE_nil, List.forall_mem_cons, List.not_mem_nil, false_implies, implies_true, and_self, labsIn_lift, List.all_append, List.all_cons, List.all_nil, Nat.reduceLT, labsInL, AV.labsIn]
  all_goals first | rfl | decide | skip
 refine AW.ghost (s' := vk3) (Ghost.trans (Ghost.freeze (lb := 4) (ps := [vT].map encMt) rfl (unlift_liftE _)) ?_) ?_
 ·simp only [vk2, vk3]
  refine Ghost.sub ?_ ?_ <;> simp -implicitDefEqProofs only [go_sem, ↓reduceIte, Nat.reduceAdd, Nat.reduceMul, Nat.reduceEqDiff, Nat.reduceLeDiff, reduceCtorEq, Int.reduceToNat, thaw, thaw1, Option.map_some, List.map_cons, List.map_nil, vR1, vM1, vF, vT, encFd, encMs, encMt, liftE_cons, liftE_nil, List.forall_mem_cons, List.not_mem_nil, false_implies, implies_true, and_self, labsIn_lift, List.all_append, List.all_cons, List.all_nil, Nat.reduceLT, labsInL, AV.labsIn]
  all_goals first | rfl | decide | skip
 refine AW.ghost (s' := vk4) (Ghost.trans (Ghost.freeze (lb := 5) (ps := [encMs ⟨[109], [], []⟩]) rfl (by rfl)) ?_) ?_
 ·simp only [vk3, vk4]
  refine Ghost.sub ?_ ?_ <;> simp -implicitDefEqProofs only [go_sem, ↓reduceIte, Nat.reduceAdd, Nat.reduceMul, Nat.reduceEqDiff, Nat.reduceLeDiff, reduceCtorEq, Int.reduceToNat, thaw, thaw1, Option.map_some, List.map_cons, List.map_nil, vR1, vM1, vF, vT, encFd, encMs, encMt, liftE_cons, liftE_nil, List.forall_mem_cons, List.not_mem_nil, false_implies, implies_true, and_self, labsIn_lift, List.all_append, List.all_cons, List.all_nil, Nat.reduceLT, labsInL, AV.labsIn]
  all_goals first | rfl | decide | skip
 refine AW.ghost (s' := vk5) (Ghost.trans (Ghost.freeze (lb := 6) (ps := [vT].map encMt) rfl (unlift_liftE _)) ?_) ?_
 ·simp only [vk4, vk5]
  refine Ghost.sub ?_ ?_ <;> simp -implicitDefEqProofs only [go_sem, ↓reduceIte, Nat.reduceAdd, Nat.reduceMul, Nat.reduceEqDiff, Nat.reduceLeDiff, reduceCtorEq, Int.reduceToNat, thaw, thaw1, Option.map_some, List.map_cons, List.map_nil, vR1, vR2, vM1, vF, vT, encFd, encMs, encMt, liftE_cons, liftE_nil, List.forall_mem_cons, List.not_mem_nil, false_implies, implies_true, and_self, labsIn_lift, List.all_append, List.all_cons, List.all_nil, Nat.reduceLT, labsInL, AV.labsIn]
  all_goals first | rfl | decide | skip
 simp only [vk5, vR1, vR2]
 have C1 := compat_Evolves vS1 vS1 vS1_lens vS1_lens
 have C2 := compat_Evolves vS1 vS2 vS1_lens vS2_lens
 rw [v_yes] at C1
 rw [v_no] at C2
 simp only [encSc, vS1, vS2, List.map_cons, List.map_nil] at C1 C2
 refine AW.rT (by rfl) fun K hK => ?_
 simp -implicitDefEqProofs only [go_sem, ↓reduceIte, Nat.reduceAdd, Nat.reduceMul, Nat.reduceEqDiff, Nat.reduceLeDiff, reduceCtorEq, Int.reduceToNat]
 refine ⟨.pure _, C1, ?_⟩
 try simp -implicitDefEqProofs only [go_sem, ↓reduceIte, Nat.reduceAdd, Nat.reduceMul, Nat.reduceEqDiff, Nat.reduceLeDiff, reduceCtorEq, Int.reduceToNat]
 refine hK _ ?_; clear hK K
 refine AW.rT (by rfl) fun K hK => ?_
 simp -implicitDefEqProofs only [go_sem, ↓reduceIte, Nat.reduceAdd, Nat.reduceMul, Nat.reduceEqDiff, Nat.reduceLeDiff, reduceCtorEq, Int.reduceToNat]
 refine ⟨.pure _, C2, ?_⟩
 try simp -implicitDefEqProofs only [go_sem, ↓reduceIte, Nat.reduceAdd, Nat.reduceMul, Nat.reduceEqDiff, Nat.reduceLeDiff, reduceCtorEq, Int.reduceToNat]
 refine hK _ ?_; clear hK K
 refine AW.rT (by rfl) fun K hK => ?_
 simp -implicitDefEqProofs only [go_sem, ↓reduceIte, Nat.reduceAdd, Nat.reduceMul, Nat.reduceEqDiff, Nat.reduceLeDiff, reduceCtorEq, Int.reduceToNat]
 refine hK _ ?_; clear hK K
 refine AW.ret ?_
 simp -implicitDefEqProofs only [go_sem, ↓reduceIte, Nat.reduceAdd, Nat.reduceMul, Nat.reduceEqDiff, Nat.reduceLeDiff, reduceCtorEq, Int.reduceToNat]
end Go.Aw
namespace Go.Aw
open Go.Proofs Go.RowKit
set_option linter.unusedSimpArgs false
set_option linter.unusedVariables false
def rowN (k : List UInt8) : Blk := .row 4 [[.p (.str k), .own 1, .own 2, .own 3]]
def F9 (S : Sc) (k : List UInt8) : List (Nat × Blk) := (4, rowN k) :: F5 S
theorem F5_ok (S : Sc) : FOK (F5 S) := by
 refine ⟨fun x hx => ?_, fun x hx y hy e => ?_, fun x hx => ?_⟩
 ·simp only [F5, List.mem_cons, List.not_mem_nil, or_false] at hx
  rcases hx with rfl | rfl <;> simp
 ·simp only [F5, List.mem_cons, List.not_mem_nil, or_false] at hx hy
  rcases hx with rfl | rfl <;> rcases hy with rfl | rfl <;> first | rfl | (simp at e)
 ·simp only [F5, List.mem_cons, List.not_mem_nil, or_false] at hx
  rcases hx with rfl | rfl
  ·exact ⟨labsIn_lift _ _, labsIn_lift _ _⟩
  ·exact ⟨rfl, rfl⟩
theorem F9_ok (S : Sc) (k : List UInt8) : FOK (F9 S k) := by
 refine ⟨fun x hx => ?_, fun x hx y hy e => ?_, fun x hx => ?_⟩
 ·simp only [F9, F5, List.mem_cons, List.not_mem_nil, or_false] at hx
  rcases hx with rfl | rfl | rfl <;> simp
 ·simp only [F9, F5, List.mem_cons, List.not_mem_nil, or_false] at hx hy
  rcases hx with rfl | rfl | rfl <;> rcases hy with rfl | rfl | rfl <;> first | rfl | (simp at e)
 ·simp only [F9, F5, List.mem_cons, List.not_mem_nil, or_false] at hx
  rcases hx with rfl | rfl | rfl
  ·exact ⟨rfl, rfl⟩
  ·exact ⟨labsIn_lift _ _, labsIn_lift _ _⟩
  ·exact ⟨rfl, rfl⟩
theorem F5_by (S : Sc) : ∀ x ∈ F5 S, x.2.labsBy (fun k => k != 4) = true := by
 intro x hx
 simp only [F5, List.mem_cons, List.not_mem_nil, or_false] at hx
 rcases hx with rfl | rfl
 ·exact labsBy_lift
 ·rfl
theorem F5_no4 (S : Sc) : ∀ x ∈ F5 S, x.1 ≠ 4 := by
 intro x hx
 simp only [F5, List.mem_cons, List.not_mem_nil, or_false] at hx
 rcases hx with rfl | rfl <;> simp
theorem upd_upd {α : Type} (f : Nat → Option α) (i : Nat) (a b : Option α) : upd (upd f i a) i b = upd f i b := by
 funext j
 by_cases h : j = i
 ·subst h; rw [upd_same, upd_same]
 ·rw [upd_ne _ _ h, upd_ne _ _ h, upd_ne _ _ h]
theorem renMs_zero (l : List Ms) : renMs l 0 = l := by
 unfold renMs
 apply List.ext_getElem?
 intro i
 rw [List.getElem?_mapIdx]
 cases l[i]? <;> simp
theorem renMs_end (l : List Ms) : renMs l l.length = l.map renM := by
 unfold renMs
 apply List.ext_getElem?
 intro i
 rw [List.getElem?_mapIdx, List.getElem?_map]
 cases h : l[i]? with
 | none => rfl
 | some m => simp only [Option.map_some]; rw [if_pos (at_lt h)]
theorem renMs_len (l : List Ms) (i : Nat) : (renMs l i).length = l.length := by unfold renMs; rw [List.length_mapIdx]
theorem renMs_at {l : List Ms} {i : Nat} {m : Ms} (h : l[i]? = some m) : (renMs l i)[i]? = some m := by
 unfold renMs
 rw [List.getElem?_mapIdx, h, Option.map_some, if_neg (by omega)]
theorem renMs_next {l : List Ms} {i : Nat} {m : Ms} (h : l[i]? = some m) : (renMs l i).set i (renM m) = renMs l (i + 1) := by
 unfold renMs
 apply List.ext_getElem?
 intro j
 rw [List.getElem?_set, List.getElem?_mapIdx, List.getElem?_mapIdx]
 by_cases e : i = j
 ·subst e
  rw [if_pos rfl, List.length_mapIdx, if_pos (at_lt h), h, Option.map_some, if_pos (by omega)]
 ·rw [if_neg e]
  cases l[j]? with
  | none => rfl
  | some n =>
   simp only [Option.map_some]
   by_cases q : j < i
   ·rw [if_pos q, if_pos (by omega)]
   ·rw [if_neg q, if_neg (by omega)]
theorem renF_zero (l : List Fd) : renF l 0 = l := by
 unfold renF
 apply List.ext_getElem?
 intro i
 rw [List.getElem?_mapIdx]
 cases l[i]? <;> simp
theorem renF_len (l : List Fd) (n : Nat) : (renF l n).length = l.length := by unfold renF; rw [List.length_mapIdx]
theorem renF_next {l : List Fd} {k : Nat} {f : Fd} (h : l[k]? = some f) : (renF l k).set k ⟨ltr k, f.tag, f.label, f.ty⟩ = renF l (k + 1) := by
 unfold renF
 apply List.ext_getElem?
 intro j
 rw [List.getElem?_set, List.getElem?_mapIdx, List.getElem?_mapIdx]
 by_cases e : k = j
 ·subst e
  rw [if_pos rfl, List.length_mapIdx, if_pos (at_lt h), h, Option.map_some, if_pos (by omega)]
 ·rw [if_neg e]
  cases l[j]? with
  | none => rfl
  | some n =>
   simp only [Option.map_some]
   by_cases q : j < k
   ·rw [if_pos q, if_pos (by omega)]
   ·rw [if_neg q, if_neg (by omega)]
theorem renF_cur {l : List Fd} {k : Nat} {f : Fd} (h : l[k]? = some f) : (renF l k)[k]? = some f := by
 unfold renF
 rw [List.getElem?_mapIdx, h, Option.map_some, if_neg (by omega)]
theorem shut9 {nt : Fm} (S : Sc) (k : List UInt8) (l : List Ms) (es : List En) {T : List (Nat × AV)} {f r g : Nat → Bool} (hT : TOK T) (hT3 : ∀ x ∈ T, ∀ lb ps, thaw lb ps x.2 = x.2) (hN : NoG l es) :
  Ghost nt ⟨ofL T, ofH (memG (F9 S k) l f r es g), 100⟩ ⟨ofL T, ofH [(4, .row 4 [cellsSc ⟨k, l, es, S.meths⟩]), (5, .row 4 [cellsSc S])], 100⟩ := by
 refine Ghost.trans (shutG hT (F9_ok S k) hN) ?_
 have tm : ∀ {lb : Nat} {ps : List (List PV)}, ∀ x ∈ T, (ofL T x.1).map (thaw lb ps) = some x.2 ∧ x.2.labsIn 100 = true := fun x hx => by
  obtain ⟨h1, h2, _⟩ := hT x hx
  rw [h1, Option.map_some, hT3 x hx]
  exact ⟨rfl, h2.2⟩
 refine Ghost.trans (s' := ⟨ofL T, ofH [(4, .row 4 [[.p (.str k), .p (.slice (l.map encMs)), .own 2, .own 3]]), (3, .row 3 (liftE (S.meths.map encMt))), (5, .row 4 [cellsSc S]), (2, .row 2 (liftE (es.map encEn)))], 100⟩) (Ghost.trans (Ghost.freeze (lb := 1) (ps := l.map encMs) rfl (unlift_liftE _)) (Ghost.sub tm ?_)) ?_
 ·simp only [F9, F5, rowN, cellsSc, List.cons_append, List.nil_append]
  simp -implicitDefEqProofs only [go_sem, ↓reduceIte, Nat.reduceAdd, Nat.reduceMul, Nat.reduceEqDiff, Nat.reduceLeDiff, reduceCtorEq, Int.reduceToNat, List.forall_mem_cons, List.not_mem_nil, false_implies, implies_true, and_self, thaw1, Option.map_some, List.map_cons, List.map_nil, thaw_lift, labsIn_lift]
  first | done | decide
 refine Ghost.trans (s' := ⟨ofL T, ofH [(4, .row 4 [[.p (.str k), .p (.slice (l.map encMs)), .p (.slice (es.map encEn)), .own 3]]), (3, .row 3 (liftE (S.meths.map encMt))), (5, .row 4 [cellsSc S])], 100⟩) (Ghost.trans (Ghost.freeze (lb := 2) (ps := es.map encEn) rfl (unlift_liftE _)) (Ghost.sub tm ?_)) ?_
 ·simp only [cellsSc]
  simp -implicitDefEqProofs only [go_sem, ↓reduceIte, Nat.reduceAdd, Nat.reduceMul, Nat.reduceEqDiff, Nat.reduceLeDiff, reduceCtorEq, Int.reduceToNat, List.forall_mem_cons, List.not_mem_nil, false_implies, implies_true, and_self, thaw1, Option.map_some, List.map_cons, List.map_nil, thaw_lift, labsIn_lift]
  first | done | decide
 refine Ghost.trans (Ghost.freeze (lb := 3) (ps := S.meths.map encMt) rfl (unlift_liftE _)) (Ghost.sub tm ?_)
 simp only [cellsSc]
 simp -implicitDefEqProofs only [go_sem, ↓reduceIte, Nat.reduceAdd, Nat.reduceMul, Nat.reduceEqDiff, Nat.reduceLeDiff, reduceCtorEq, Int.reduceToNat, List.forall_mem_cons, List.not_mem_nil, false_implies, implies_true, and_self, thaw1, Option.map_some, List.map_cons, List.map_nil, thaw_lift, labsIn_lift]
 first | done | decide
def seT (m : List (Nat × AV)) : List (Nat × AV) := (1, .ptr 5 0 0) :: (3, .ptr 4 0 0) :: m
set_option maxRecDepth 100000 in
set_option maxHeartbeats 8000000 in
theorem law14_CompatSelf (S : Sc) (G : GSc S) : PFn Tryd.prog 9 [.agg (encSc S)] (.bool true) := by
 refine PFn.of Tryd.func9 rfl (by decide) Tryd.ntmps9 Tryd.results9 (Nat.le_of_ble_eq_true rfl) ?_
 simp only [argsT, encSc]
 have FW := law00_Few S G.big
 simp only [encSc] at FW
 refine AW.rT (by rfl) fun K hK => ?_
 simp -implicitDefEqProofs only [go_sem, ↓reduceIte, Nat.reduceAdd, Nat.reduceMul, Nat.reduceEqDiff, Nat.reduceLeDiff, reduceCtorEq, Int.reduceToNat]
 refine hK _ ?_; clear hK K
 refine AW.seq ?_
 cases hf : fewB S with
 | false =>
  rw [hf] at FW
  refine AW.rT (by rfl) fun K hK => ?_
  simp -implicitDefEqProofs only [go_sem, ↓reduceIte, Nat.reduceAdd, Nat.reduceMul, Nat.reduceEqDiff, Nat.reduceLeDiff, reduceCtorEq, Int.reduceToNat]
  refine ⟨.pure _, FW, ?_⟩
  try simp -implicitDefEqProofs only [go_sem, ↓reduceIte, Nat.reduceAdd, Nat.reduceMul, Nat.reduceEqDiff, Nat.reduceLeDiff, reduceCtorEq, Int.reduceToNat]
  refine hK _ ?_; clear hK K
  refine AW.cond _ (by simp -implicitDefEqProofs only [go_sem, ↓reduceIte, Nat.reduceAdd, Nat.reduceMul, Nat.reduceEqDiff, Nat.reduceLeDiff, reduceCtorEq, Int.reduceToNat]; rfl) (fun hc => ?_) (fun hc => ?_)
  rotate_left
  ·simp at hc
  refine AW.rT (by rfl) fun K hK => ?_
  simp -implicitDefEqProofs only [go_sem, ↓reduceIte, Nat.reduceAdd, Nat.reduceMul, Nat.reduceEqDiff, Nat.reduceLeDiff, reduceCtorEq, Int.reduceToNat]
  refine ⟨.pure _, law14_awake, ?_⟩
  try simp -implicitDefEqProofs only [go_sem, ↓reduceIte, Nat.reduceAdd, Nat.reduceMul, Nat.reduceEqDiff, Nat.reduceLeDiff, reduceCtorEq, Int.reduceToNat]
  refine hK _ ?_; clear hK K
  refine AW.ret ?_
  simp -implicitDefEqProofs only [go_sem, ↓reduceIte, Nat.reduceAdd, Nat.reduceMul, Nat.reduceEqDiff, Nat.reduceLeDiff, reduceCtorEq, Int.reduceToNat]
 | true =>
 rw [hf] at FW
 have F := few_spec hf
 have L := F.lens
 have C1 := ref07_Check S L
 simp only [encSc] at C1
 by_cases hz : checkC S = 0
 case neg =>
  have cz : (checkC S != 0) = true := by simp [hz]
  refine AW.rT (by rfl) fun K hK => ?_
  simp -implicitDefEqProofs only [go_sem, ↓reduceIte, Nat.reduceAdd, Nat.reduceMul, Nat.reduceEqDiff, Nat.reduceLeDiff, reduceCtorEq, Int.reduceToNat]
  refine ⟨.pure _, FW, ?_⟩
  try simp -implicitDefEqProofs only [go_sem, ↓reduceIte, Nat.reduceAdd, Nat.reduceMul, Nat.reduceEqDiff, Nat.reduceLeDiff, reduceCtorEq, Int.reduceToNat]
  refine ⟨.pure _, C1, ?_⟩
  try simp -implicitDefEqProofs only [go_sem, ↓reduceIte, Nat.reduceAdd, Nat.reduceMul, Nat.reduceEqDiff, Nat.reduceLeDiff, reduceCtorEq, Int.reduceToNat, cz]
  refine hK _ ?_; clear hK K
  refine AW.cond _ (by simp -implicitDefEqProofs only [go_sem, ↓reduceIte, Nat.reduceAdd, Nat.reduceMul, Nat.reduceEqDiff, Nat.reduceLeDiff, reduceCtorEq, Int.reduceToNat]; rfl) (fun hc => ?_) (fun hc => ?_)
  rotate_left
  ·simp at hc
  refine AW.rT (by rfl) fun K hK => ?_
  simp -implicitDefEqProofs only [go_sem, ↓reduceIte, Nat.reduceAdd, Nat.reduceMul, Nat.reduceEqDiff, Nat.reduceLeDiff, reduceCtorEq, Int.reduceToNat]
  refine ⟨.pure _, law14_awake, ?_⟩
  try simp -implicitDefEqProofs only [go_sem, ↓reduceIte, Nat.reduceAdd, Nat.reduceMul, Nat.reduceEqDiff, Nat.reduceLeDiff, reduceCtorEq, Int.reduceToNat]
  refine hK _ ?_; clear hK K
  refine AW.ret ?_
  simp -implicitDefEqProofs only [go_sem, ↓reduceIte, Nat.reduceAdd, Nat.reduceMul, Nat.reduceEqDiff, Nat.reduceLeDiff, reduceCtorEq, Int.reduceToNat]
 have cz : (checkC S != 0) = false := by simp [hz]
 refine AW.rT (by rfl) fun K hK => ?_
 simp -implicitDefEqProofs only [go_sem, ↓reduceIte, Nat.reduceAdd, Nat.reduceMul, Nat.reduceEqDiff, Nat.reduceLeDiff, reduceCtorEq, Int.reduceToNat]
 refine ⟨.pure _, FW, ?_⟩
 try simp -implicitDefEqProofs only [go_sem, ↓reduceIte, Nat.reduceAdd, Nat.reduceMul, Nat.reduceEqDiff, Nat.reduceLeDiff, reduceCtorEq, Int.reduceToNat]
 refine ⟨.pure _, C1, ?_⟩
 try simp -implicitDefEqProofs only [go_sem, ↓reduceIte, Nat.reduceAdd, Nat.reduceMul, Nat.reduceEqDiff, Nat.reduceLeDiff, reduceCtorEq, Int.reduceToNat, cz]
 refine hK _ ?_; clear hK K
 refine AW.cond _ (by simp -implicitDefEqProofs only [go_sem, ↓reduceIte, Nat.reduceAdd, Nat.reduceMul, Nat.reduceEqDiff, Nat.reduceLeDiff, reduceCtorEq, Int.reduceToNat]; rfl) (fun hc => ?_) (fun hc => ?_)
 ·simp at hc
 refine AW.skip ?_
 simp only [andThen, inBlk, reduceCtorEq, ↓reduceIte, if_t, if_f]
 have DS := law00_SchemaG S F
 have hN : NoG S.msgs S.enums := ⟨by have := F.msgs; omega, by have := F.enums; omega⟩
 simp only [encSc] at DS
 refine AW.rR (SeqR.ev 1 (by rfl) (by decide) ?_)
 simp -implicitDefEqProofs only [go_sem, ↓reduceIte, Nat.reduceAdd, Nat.reduceMul, Nat.reduceEqDiff, Nat.reduceLeDiff, reduceCtorEq, Int.reduceToNat]
 refine SeqR.call (fun l => l) rfl (by decide) DS ⟨?_, rfl, (fun x hx => by cases hx), rfl, rfl, mem3_dist F, rfl, rfl, mem3_all⟩ ?_
 ·simp -implicitDefEqProofs only [go_sem, ↓reduceIte, Nat.reduceAdd, Nat.reduceMul, Nat.reduceEqDiff, Nat.reduceLeDiff, reduceCtorEq, Int.reduceToNat, argD]
 refine SeqR.ghost (callG F (c := 0) (T' := [(1, .ptr 5 0 0), (25, .agg [.p (.str S.name), .own 1, .own 2, .own 3])]) (by simp) ?_ ?_) ?_
 ·simp -implicitDefEqProofs only [go_sem, ↓reduceIte, Nat.reduceAdd, Nat.reduceMul, Nat.reduceEqDiff, Nat.reduceLeDiff, reduceCtorEq, Int.reduceToNat, List.forall_mem_cons, List.not_mem_nil, false_implies, implies_true, and_self, lift2]
  first | done | exact ⟨by decide, rfl, by decide⟩ | exact ⟨by decide, rfl⟩
 ·simp -implicitDefEqProofs only [go_sem, ↓reduceIte, Nat.reduceAdd, Nat.reduceMul, Nat.reduceEqDiff, Nat.reduceLeDiff, reduceCtorEq, Int.reduceToNat, cellsSc, goneU, List.map_nil]
 have eM : ∀ (l : List Ms) (k : List UInt8), memG (F9 S k) l tt tt S.enums tt = (4, .row 4 [[.p (.str k), .own 1, .own 2, .own 3]]) :: (3, .row 3 (liftE (S.meths.map encMt))) :: (5, .row 4 [cellsSc S]) :: (1, .row 3 (rowG tt tt l)) :: (2, .row 2 (rowX tt S.enums)) :: bks l tt tt S.enums tt := fun l k => rfl
 have eM5 : memG (F5 S) S.msgs tt tt S.enums tt = (3, .row 3 (liftE (S.meths.map encMt))) :: (5, .row 4 [cellsSc S]) :: (1, .row 3 (rowG tt tt S.msgs)) :: (2, .row 2 (rowX tt S.enums)) :: bks S.msgs tt tt S.enums tt := rfl
 rw [eM5]
 simp only [cellsSc]
 refine SeqR.ev 2 (by rfl) (by decide) ?_
 simp -implicitDefEqProofs only [go_sem, ↓reduceIte, Nat.reduceAdd, Nat.reduceMul, Nat.reduceEqDiff, Nat.reduceLeDiff, reduceCtorEq, Int.reduceToNat]
 refine SeqR.last rfl ?_
 refine AW.rT (by rfl) fun K hK => ?_
 simp -implicitDefEqProofs only [go_sem, ↓reduceIte, Nat.reduceAdd, Nat.reduceMul, Nat.reduceEqDiff, Nat.reduceLeDiff, reduceCtorEq, Int.reduceToNat]
 refine hK _ ?_; clear hK K
 refine AW.ghost (boxG (f := tt) (r := tt) (g := tt) (b := rowN anotherW) (T' := seT []) (F5_ok S) rfl rfl hN (F5_no4 S) ?_ rfl (F5_by S) ?_) ?_
 ·simp only [seT]
  simp -implicitDefEqProofs only [go_sem, ↓reduceIte, Nat.reduceAdd, Nat.reduceMul, Nat.reduceEqDiff, Nat.reduceLeDiff, reduceCtorEq, Int.reduceToNat, List.forall_mem_cons, List.not_mem_nil, false_implies, implies_true, and_self]
  first | done | decide
 ·rw [eM5]
  simp only [cellsSc, upd_upd]
  rfl
 -- fields' names, message by message
 have lenF : ∀ m ∈ S.msgs, m.fields.length ≤ 20 := fun m hm => (F.ms m hm).fields
 have hlm := F.msgs
 have NoL : ∀ l : List Ms, l.length = S.msgs.length → NoG l S.enums := fun l e => ⟨by omega, hN.e⟩
 refine AW.cut (fun _ : Unit => ⟨ofL (seT []), ofH (memG (F9 S anotherW) (S.msgs.map renM) tt tt S.enums tt), 100⟩) (fun _ => True) ?_ fun _ _ => ?_
 ·rw [show memG ((4, rowN anotherW) :: F5 S) S.msgs tt tt S.enums tt = memG (F9 S anotherW) S.msgs tt tt S.enums tt from rfl, eM]
  simp only [seT, cellsSc]
  refine AW.rT (by rfl) fun K hK => ?_
  simp -implicitDefEqProofs only [go_sem, ↓reduceIte, Nat.reduceAdd, Nat.reduceMul, Nat.reduceEqDiff, Nat.reduceLeDiff, reduceCtorEq, Int.reduceToNat]
  refine hK _ ?_; clear hK K
  refine AW.block ?_
  refine AW.loop (fun i : Nat => ⟨ofL (seT [(4, .p (.int .i64 (i : Int)))]), ofH (memG (F9 S anotherW) (renMs S.msgs i) tt tt S.enums tt), 100⟩) (fun i => i ≤ S.msgs.length) (fun i => S.msgs.length - i) 0 ?_ (by omega) fun i i1 => ?_
  ·refine sameG (F9_ok S anotherW) (NoL _ (renMs_len _ _)) ?_ ?_
   ·simp only [seT]
    simp -implicitDefEqProofs only [go_sem, ↓reduceIte, Nat.reduceAdd, Nat.reduceMul, Nat.reduceEqDiff, Nat.reduceLeDiff, reduceCtorEq, Int.reduceToNat, List.forall_mem_cons, List.not_mem_nil, false_implies, implies_true, and_self]
    exact ⟨by decide, by decide, rfl⟩
   ·rw [renMs_zero]; rfl
  rw [eM]
  simp only [seT, cellsSc]
  refine AW.seq ?_
  by_cases hil : i < S.msgs.length
  case neg =>
   have e : i = S.msgs.length := by omega
   subst e
   have hc1 : ((S.msgs.length : Int) < (S.msgs.length : Int)) = False := eq_false (by omega)
   refine AW.rT (by rfl) fun K hK => ?_
   simp -implicitDefEqProofs only [go_sem, ↓reduceIte, Nat.reduceAdd, Nat.reduceMul, Nat.reduceEqDiff, Nat.reduceLeDiff, reduceCtorEq, Int.reduceToNat, hc1, rowG_len, renMs_len]
   refine hK _ ?_; clear hK K
   refine AW.cond _ (by simp -implicitDefEqProofs only [go_sem, ↓reduceIte, Nat.reduceAdd, Nat.reduceMul, Nat.reduceEqDiff, Nat.reduceLeDiff, reduceCtorEq, Int.reduceToNat]; rfl) (fun hc => ?_) (fun hc => ?_)
   ·simp at hc
   refine AW.exit ?_
   simp only [andThen, inBlk, reduceCtorEq, ↓reduceIte, if_t, if_f]
   refine ⟨(), trivial, ?_⟩
   show Ghost _ _ ⟨ofL (seT []), ofH (memG (F9 S anotherW) (S.msgs.map renM) tt tt S.enums tt), 100⟩
   refine sameG (F9_ok S anotherW) (NoL _ (by rw [List.length_map])) ?_ ?_
   ·simp only [seT]
    simp -implicitDefEqProofs only [go_sem, ↓reduceIte, Nat.reduceAdd, Nat.reduceMul, Nat.reduceEqDiff, Nat.reduceLeDiff, reduceCtorEq, Int.reduceToNat, List.forall_mem_cons, List.not_mem_nil, false_implies, implies_true, and_self]
    first | done | decide
   ·rw [renMs_end]; rfl
  obtain ⟨m, hm⟩ : ∃ m, S.msgs[i]? = some m := ⟨_, List.getElem?_eq_getElem hil⟩
  have hc1 : ((i : Int) < (S.msgs.length : Int)) = True := eq_true (by omega)
  have w1 : IntKind.wrap .i64 ((i : Int) + 1) = ((i + 1 : Nat) : Int) := by rw [w64] <;> omega
  have lm20 := lenF m (List.mem_of_getElem? hm)
  refine AW.rT (by rfl) fun K hK => ?_
  simp -implicitDefEqProofs only [go_sem, ↓reduceIte, Nat.reduceAdd, Nat.reduceMul, Nat.reduceEqDiff, Nat.reduceLeDiff, reduceCtorEq, Int.reduceToNat, hc1, rowG_len, renMs_len]
  refine hK _ ?_; clear hK K
  refine AW.cond _ (by simp -implicitDefEqProofs only [go_sem, ↓reduceIte, Nat.reduceAdd, Nat.reduceMul, Nat.reduceEqDiff, Nat.reduceLeDiff, reduceCtorEq, Int.reduceToNat]; rfl) (fun hc => ?_) (fun hc => ?_)
  rotate_left
  ·simp at hc
  refine AW.skip ?_
  simp only [andThen, inBlk, reduceCtorEq, ↓reduceIte, if_t, if_f]
  refine AW.seq ?_
  refine AW.block ?_
  refine AW.rT (by rfl) fun K hK => ?_
  simp -implicitDefEqProofs only [go_sem, ↓reduceIte, Nat.reduceAdd, Nat.reduceMul, Nat.reduceEqDiff, Nat.reduceLeDiff, reduceCtorEq, Int.reduceToNat]
  refine hK _ ?_; clear hK K
  refine AW.block ?_
  refine AW.loop (fun k : Nat => ⟨ofL (seT [(4, .p (.int .i64 (i : Int))), (5, .p (.int .i64 (k : Int)))]), ofH (memG (F9 S anotherW) ((renMs S.msgs i).set i ⟨m.name, renF m.fields k, m.res⟩) tt tt S.enums tt), 100⟩) (fun k => k ≤ m.fields.length) (fun k => m.fields.length - k) 0 ?_ (by omega) fun k k1 => ?_
  ·refine sameG (F9_ok S anotherW) (NoL _ (by rw [List.length_set, renMs_len])) ?_ ?_
   ·simp only [seT]
    simp -implicitDefEqProofs only [go_sem, ↓reduceIte, Nat.reduceAdd, Nat.reduceMul, Nat.reduceEqDiff, Nat.reduceLeDiff, reduceCtorEq, Int.reduceToNat, List.forall_mem_cons, List.not_mem_nil, false_implies, implies_true, and_self]
    exact ⟨by decide, by decide, rfl⟩
   ·have e : (renMs S.msgs i).set i ⟨m.name, renF m.fields 0, m.res⟩ = renMs S.msgs i := by
     rw [renF_zero]
     apply List.ext_getElem?
     intro j
     rw [List.getElem?_set]
     by_cases q : i = j
     ·subst q
      rw [if_pos rfl, if_pos (by rw [renMs_len]; exact hil), renMs_at hm]
     ·rw [if_neg q]
    rw [e]; rfl
  have hL : ((renMs S.msgs i).set i ⟨m.name, renF m.fields k, m.res⟩)[i]? = some ⟨m.name, renF m.fields k, m.res⟩ := by
   rw [List.getElem?_set, if_pos rfl, if_pos (by rw [renMs_len]; exact hil)]
  have lL : ((renMs S.msgs i).set i ⟨m.name, renF m.fields k, m.res⟩).length = S.msgs.length := by rw [List.length_set, renMs_len]
  have NL := NoL _ lL
  have g1 := rowG_get (f := tt) (r := tt) hL
  have B10 := memF_at (F := []) (r := tt) (g := tt) (f := tt) NL hL rfl
  rw [eM]
  have gL := rowG_len (f := tt) (r := tt) (l := (renMs S.msgs i).set i ⟨m.name, renF m.fields k, m.res⟩)
  rw [lL] at gL
  generalize hLL : (renMs S.msgs i).set i ⟨m.name, renF m.fields k, m.res⟩ = LL at *
  simp only [mG, tt, if_true, bF] at g1 B10
  have b0 : 0 ≤ (i : Int) := by omega
  have b1 : (i : Int) < (S.msgs.length : Int) := by omega
  simp only [seT, cellsSc]
  refine AW.seq ?_
  by_cases hkl : k < m.fields.length
  case neg =>
   have hc2 : ((k : Int) < (m.fields.length : Int)) = False := eq_false (by omega)
   refine AW.rT (by rfl) fun K hK => ?_
   simp -implicitDefEqProofs only [go_sem, ↓reduceIte, Nat.reduceAdd, Nat.reduceMul, Nat.reduceEqDiff, Nat.reduceLeDiff, reduceCtorEq, Int.reduceToNat, hc2, g1, gL, b0, b1, B10, liftE_length, List.length_map, renF_len]
   refine hK _ ?_; clear hK K
   refine AW.cond _ (by simp -implicitDefEqProofs only [go_sem, ↓reduceIte, Nat.reduceAdd, Nat.reduceMul, Nat.reduceEqDiff, Nat.reduceLeDiff, reduceCtorEq, Int.reduceToNat]; rfl) (fun hc => ?_) (fun hc => ?_)
   ·simp at hc
   refine AW.exit ?_
   simp only [andThen, inBlk, reduceCtorEq, ↓reduceIte, if_t, if_f]
   have e : k = m.fields.length := by omega
   subst e
   refine AW.rE (by rfl) fun K hK => ?_
   simp -implicitDefEqProofs only [go_sem, ↓reduceIte, Nat.reduceAdd, Nat.reduceMul, Nat.reduceEqDiff, Nat.reduceLeDiff, reduceCtorEq, Int.reduceToNat, w1]
   refine hK _ ?_; clear hK K
   refine ⟨i + 1, by omega, by omega, ?_⟩
   show Ghost _ _ ⟨ofL (seT [(4, .p (.int .i64 ((i + 1 : Nat) : Int)))]), ofH (memG (F9 S anotherW) (renMs S.msgs (i + 1)) tt tt S.enums tt), 100⟩
   refine sameG (F9_ok S anotherW) (NoL _ (renMs_len _ _)) ?_ ?_
   ·simp only [seT]
    simp -implicitDefEqProofs only [go_sem, ↓reduceIte, Nat.reduceAdd, Nat.reduceMul, Nat.reduceEqDiff, Nat.reduceLeDiff, reduceCtorEq, Int.reduceToNat, List.forall_mem_cons, List.not_mem_nil, false_implies, implies_true, and_self]
    first | done | exact ⟨by decide, by decide⟩
   ·rw [← renMs_next hm]
    have : LL = (renMs S.msgs i).set i (renM m) := hLL.symm
    rw [← this]; rfl
  obtain ⟨f, hfd⟩ : ∃ f, m.fields[k]? = some f := ⟨_, List.getElem?_eq_getElem hkl⟩
  have hc2 : ((k : Int) < (m.fields.length : Int)) = True := eq_true (by omega)
  have w2 : IntKind.wrap .i64 ((k : Int) + 1) = ((k + 1 : Nat) : Int) := by rw [w64] <;> omega
  have g2 := at_lift encFd (renF_cur hfd)
  simp only [encFd, List.map_cons, List.map_nil] at g2
  have c0 : 0 ≤ (k : Int) := by omega
  have c1 : (k : Int) < (m.fields.length : Int) := by omega
  have c2 : (k : Int) ≤ ((k + 1 : Nat) : Int) := by omega
  have c3 : (((k + 1 : Nat) : Int) ≤ ((20 : Nat) : Int)) = True := eq_true (by omega)
  have bl : (1 + (List.drop k ((97 : UInt8) :: List.take k [98, 99, 100, 101, 102, 103, 104, 105, 106, 107, 108, 109, 110, 111, 112, 113, 114, 115, 116])).length ≤ 9223372036854775807) = True := eq_true (by
   have q : (List.drop k ((97 : UInt8) :: List.take k [98, 99, 100, 101, 102, 103, 104, 105, 106, 107, 108, 109, 110, 111, 112, 113, 114, 115, 116])).length ≤ 20 := by simp; omega
   omega)
  refine AW.rT (by rfl) fun K hK => ?_
  simp -implicitDefEqProofs only [go_sem, ↓reduceIte, Nat.reduceAdd, Nat.reduceMul, Nat.reduceEqDiff, Nat.reduceLeDiff, reduceCtorEq, Int.reduceToNat, hc2, g1, gL, b0, b1, B10, liftE_length, List.length_map, renF_len]
  refine hK _ ?_; clear hK K
  refine AW.cond _ (by simp -implicitDefEqProofs only [go_sem, ↓reduceIte, Nat.reduceAdd, Nat.reduceMul, Nat.reduceEqDiff, Nat.reduceLeDiff, reduceCtorEq, Int.reduceToNat]; rfl) (fun hc => ?_) (fun hc => ?_)
  rotate_left
  ·simp at hc
  refine AW.skip ?_
  simp only [andThen, inBlk, reduceCtorEq, ↓reduceIte, if_t, if_f]
  refine AW.seq ?_
  refine AW.block ?_
  refine AW.dE mixed (by rfl) (by decide +kernel) fun K hK => ?_
  simp -implicitDefEqProofs only [go_sem, ↓reduceIte, Nat.reduceAdd, Nat.reduceMul, Nat.reduceEqDiff, Nat.reduceLeDiff, reduceCtorEq, Int.reduceToNat, g1, g2, gL, b0, b1, B10, c0, c1, c2, c3, bl, w2, liftE_length, List.length_map, renF_len, Int.toNat_natCast]
  refine ⟨?_, ?_⟩
  ·obtain ⟨j, hj⟩ : ∃ j, j = i := ⟨i, rfl⟩
   rw [← hj]
   have hj14 : j < 14 := by omega
   clear hj
   revert j
   decide +kernel
  refine hK _ ?_; clear hK K
  simp only [andThen, inBlk, reduceCtorEq, ↓reduceIte, if_t, if_f]
  refine AW.rE (by rfl) fun K hK => ?_
  simp -implicitDefEqProofs only [go_sem, ↓reduceIte, Nat.reduceAdd, Nat.reduceMul, Nat.reduceEqDiff, Nat.reduceLeDiff, reduceCtorEq, Int.reduceToNat, w2]
  refine hK _ ?_; clear hK K
  refine ⟨k + 1, by omega, by omega, ?_⟩
  show Ghost _ _ ⟨ofL (seT [(4, .p (.int .i64 (i : Int))), (5, .p (.int .i64 ((k + 1 : Nat) : Int)))]), ofH (memG (F9 S anotherW) ((renMs S.msgs i).set i ⟨m.name, renF m.fields (k + 1), m.res⟩) tt tt S.enums tt), 100⟩
  have hs : (renMs S.msgs i).set i ⟨m.name, renF m.fields (k + 1), m.res⟩ = LL.set i ⟨m.name, renF m.fields (k + 1), m.res⟩ := by rw [← hLL, List.set_set]
  rw [hs]
  refine setF (m' := ⟨m.name, renF m.fields (k + 1), m.res⟩) (F9_ok S anotherW) NL hL rfl rfl ?_ ?_
  ·simp only [seT]
   simp -implicitDefEqProofs only [go_sem, ↓reduceIte, Nat.reduceAdd, Nat.reduceMul, Nat.reduceEqDiff, Nat.reduceLeDiff, reduceCtorEq, Int.reduceToNat, List.forall_mem_cons, List.not_mem_nil, false_implies, implies_true, and_self]
   first | done | exact ⟨by decide, by decide⟩
  ·have e1 : bF ⟨m.name, renF m.fields (k + 1), m.res⟩ = .row 5 ((liftE ((renF m.fields k).map encFd)).set k [.p (.str (ltr k)), .p (.int .i64 f.tag), .p (.int .i64 f.label), .p (.int .i64 f.ty.kind), .p (.str f.ty.name)]) := by
    unfold bF
    rw [← renF_next hfd, ← setL encFd]
    rfl
   rw [e1]
   rfl
 have hU : LensS (renS S) := by
  refine ⟨show anotherW.length ≤ _ by decide, fun m hm => ?_, L.enums, L.meths, by show (S.msgs.map renM).length ≤ _; rw [List.length_map]; exact L.m, L.e, L.t⟩
  obtain ⟨x, hx, rfl⟩ := List.mem_map.1 hm
  refine ⟨(L.msgs x hx).1, fun f hf => ?_⟩
  obtain ⟨j, hj⟩ := List.getElem?_of_mem hf
  have hj : (renF x.fields x.fields.length)[j]? = some f := hj
  unfold renF at hj
  rw [List.getElem?_mapIdx, Option.map_eq_some_iff] at hj
  obtain ⟨f0, hf0, e⟩ := hj
  rw [if_pos (at_lt hf0)] at e
  rw [← e]
  show (102 :: _ : List UInt8).length ≤ _
  rw [List.length_cons, List.length_drop, List.length_take]
  have : abcW.length = 20 := rfl
  omega
 have SC := law00_Schema S F
 have E1 := compat_Evolves S S L L
 have E2 := compat_Evolves S (renS S) L hU
 have E3 := compat_Evolves (renS S) S hU L
 obtain ⟨r1, r2, r3⟩ := ren_evo hz
 rw [r1] at E1
 rw [r2] at E2
 rw [r3] at E3
 refine AW.ghost (shut9 S anotherW (S.msgs.map renM) S.enums (T := seT []) ?_ ?_ (NoL _ (by rw [List.length_map]))) ?_
 ·intro x hx
  simp only [seT, List.mem_cons, List.not_mem_nil, or_false] at hx
  rcases hx with rfl | rfl
  ·exact ⟨rfl, ⟨rfl, rfl⟩, fun cs => by simp⟩
  ·exact ⟨rfl, ⟨rfl, rfl⟩, fun cs => by simp⟩
 ·intro x hx lb ps
  simp only [seT, List.mem_cons, List.not_mem_nil, or_false] at hx
  rcases hx with rfl | rfl <;> rfl
 have eU : (⟨anotherW, S.msgs.map renM, S.enums, S.meths⟩ : Sc) = renS S := rfl
 rw [eU]
 generalize renS S = U at *
 simp only [encSc] at SC E1 E2 E3
 simp only [seT, cellsSc]
 refine AW.dT mixed (by rfl) (by decide +kernel) fun K hK => ?_
 simp -implicitDefEqProofs only [go_sem, ↓reduceIte, Nat.reduceAdd, Nat.reduceMul, Nat.reduceEqDiff, Nat.reduceLeDiff, reduceCtorEq, Int.reduceToNat]
 refine ⟨.pure _, SC, ?_⟩
 try simp -implicitDefEqProofs only [go_sem, ↓reduceIte, Nat.reduceAdd, Nat.reduceMul, Nat.reduceEqDiff, Nat.reduceLeDiff, reduceCtorEq, Int.reduceToNat]
 refine ⟨.pure _, SC, ?_⟩
 try simp -implicitDefEqProofs only [go_sem, ↓reduceIte, Nat.reduceAdd, Nat.reduceMul, Nat.reduceEqDiff, Nat.reduceLeDiff, reduceCtorEq, Int.reduceToNat]
 refine ⟨.pure _, E1, ?_⟩
 try simp -implicitDefEqProofs only [go_sem, ↓reduceIte, Nat.reduceAdd, Nat.reduceMul, Nat.reduceEqDiff, Nat.reduceLeDiff, reduceCtorEq, Int.reduceToNat]
 refine ⟨by decide +kernel, ?_⟩
 refine hK _ ?_; clear hK K
 refine AW.dT mixed (by rfl) (by decide +kernel) fun K hK => ?_
 simp -implicitDefEqProofs only [go_sem, ↓reduceIte, Nat.reduceAdd, Nat.reduceMul, Nat.reduceEqDiff, Nat.reduceLeDiff, reduceCtorEq, Int.reduceToNat]
 refine ⟨.pure _, SC, ?_⟩
 try simp -implicitDefEqProofs only [go_sem, ↓reduceIte, Nat.reduceAdd, Nat.reduceMul, Nat.reduceEqDiff, Nat.reduceLeDiff, reduceCtorEq, Int.reduceToNat]
 refine ⟨.pure _, E2, ?_⟩
 try simp -implicitDefEqProofs only [go_sem, ↓reduceIte, Nat.reduceAdd, Nat.reduceMul, Nat.reduceEqDiff, Nat.reduceLeDiff, reduceCtorEq, Int.reduceToNat]
 refine ⟨by decide +kernel, ?_⟩
 refine hK _ ?_; clear hK K
 refine AW.dT mixed (by rfl) (by decide +kernel) fun K hK => ?_
 simp -implicitDefEqProofs only [go_sem, ↓reduceIte, Nat.reduceAdd, Nat.reduceMul, Nat.reduceEqDiff, Nat.reduceLeDiff, reduceCtorEq, Int.reduceToNat]
 refine ⟨.pure _, SC, ?_⟩
 try simp -implicitDefEqProofs only [go_sem, ↓reduceIte, Nat.reduceAdd, Nat.reduceMul, Nat.reduceEqDiff, Nat.reduceLeDiff, reduceCtorEq, Int.reduceToNat]
 refine ⟨.pure _, E3, ?_⟩
 try simp -implicitDefEqProofs only [go_sem, ↓reduceIte, Nat.reduceAdd, Nat.reduceMul, Nat.reduceEqDiff, Nat.reduceLeDiff, reduceCtorEq, Int.reduceToNat]
 refine ⟨by decide +kernel, ?_⟩
 refine hK _ ?_; clear hK K
 refine AW.rT (by rfl) fun K hK => ?_
 simp -implicitDefEqProofs only [go_sem, ↓reduceIte, Nat.reduceAdd, Nat.reduceMul, Nat.reduceEqDiff, Nat.reduceLeDiff, reduceCtorEq, Int.reduceToNat]
 refine ⟨.pure _, law14_awake, ?_⟩
 try simp -implicitDefEqProofs only [go_sem, ↓reduceIte, Nat.reduceAdd, Nat.reduceMul, Nat.reduceEqDiff, Nat.reduceLeDiff, reduceCtorEq, Int.reduceToNat]
 refine hK _ ?_; clear hK K
 refine AW.ret ?_
 simp -implicitDefEqProofs only [go_sem, ↓reduceIte, Nat.reduceAdd, Nat.reduceMul, Nat.reduceEqDiff, Nat.reduceLeDiff, reduceCtorEq, Int.reduceToNat]
end Go.Aw
