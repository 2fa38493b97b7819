/- What the law LawProjectDrops leans on, joined (part 6). -/
import Derived.Test.YtpbangopjdlfcaaDoorZprojectDrops5
set_option linter.unusedSimpArgs false
set_option linter.unusedVariables false
namespace Go.Aw
open Go.Proofs Go.RowKit
set_option linter.unusedSimpArgs false
set_option linter.unusedVariables false
theorem flds_iff {S : Sc} : ∀ {l : List Fd} {ns : List (List UInt8)} {us : List Int}, fldsC S ns us l = 0 ↔ (∀ f ∈ l, nameB f.name = true ∧ tagB f.tag = true ∧ fieldB S f = true ∧ f.name ∉ ns ∧ f.tag ∉ us) ∧ (l.map Fd.name).Nodup ∧ (l.map Fd.tag).Nodup
 | [], ns, us => by simp [fldsC]
 | f :: l, ns, us => by
  rw [fldsC, List.map_cons, List.map_cons, List.nodup_cons, List.nodup_cons]
  constructor
  ·intro h
   split at h
   ·rename_i h1
    split at h
    ·rename_i h2
     split at h
     ·rename_i h3
      obtain ⟨q1, q2, q3⟩ := (flds_iff (l := l)).1 h
      have t1 := takes_iff.1 h1
      rw [Bool.and_eq_true, Bool.not_eq_true', ← Bool.not_eq_true, List.contains_iff_mem] at h2
      refine ⟨fun g hg => ?_, ⟨fun hm => ?_, q2⟩, ⟨fun hm => ?_, q3⟩⟩
      ·rcases List.mem_cons.1 hg with rfl | hg
       ·exact ⟨t1.1, h2.1, h3, t1.2, h2.2⟩
       ·obtain ⟨a, b, c, d, e⟩ := q1 g hg
        exact ⟨a, b, c, fun hm => d (List.mem_append.2 (.inl hm)), fun hm => e (List.mem_append.2 (.inl hm))⟩
      ·obtain ⟨g, hg, e⟩ := List.mem_map.1 hm
       exact (q1 g hg).2.2.2.1 (by rw [e]; simp)
      ·obtain ⟨g, hg, e⟩ := List.mem_map.1 hm
       exact (q1 g hg).2.2.2.2 (by rw [e]; simp)
     ·cases h
    ·cases h
   ·cases h
  ·rintro ⟨h, ⟨n1, n2⟩, ⟨m1, m2⟩⟩
   obtain ⟨a, b, c, d, e⟩ := h f List.mem_cons_self
   rw [if_pos (takes_iff.2 ⟨a, d⟩), if_pos (by rw [Bool.and_eq_true, Bool.not_eq_true', ← Bool.not_eq_true, List.contains_iff_mem]; exact ⟨b, e⟩), if_pos c]
   refine (flds_iff (l := l)).2 ⟨fun g hg => ?_, n2, m2⟩
   obtain ⟨a', b', c', d', e'⟩ := h g (List.mem_cons_of_mem _ hg)
   refine ⟨a', b', c', fun hm => ?_, fun hm => ?_⟩
   ·rcases List.mem_append.1 hm with hm | hm
    ·exact d' hm
    ·simp at hm; exact n1 (List.mem_map.2 ⟨g, hg, hm⟩)
   ·rcases List.mem_append.1 hm with hm | hm
    ·exact e' hm
    ·simp at hm; exact m1 (List.mem_map.2 ⟨g, hg, hm⟩)
theorem res_iff : ∀ {l : List Int} {us : List Int}, resBad us l = false ↔ (∀ t ∈ l, tagB t = true ∧ t ∉ us) ∧ l.Nodup
 | [], us => by simp [resBad]
 | t :: l, us => by
  rw [resBad, List.nodup_cons]
  constructor
  ·intro h
   split at h
   ·rename_i h2
    rw [Bool.and_eq_true, Bool.not_eq_true', ← Bool.not_eq_true, List.contains_iff_mem] at h2
    obtain ⟨q1, q2⟩ := (res_iff (l := l)).1 h
    refine ⟨fun g hg => ?_, fun hm => ?_, q2⟩
    ·rcases List.mem_cons.1 hg with rfl | hg
     ·exact h2
     ·exact ⟨(q1 g hg).1, fun hm => (q1 g hg).2 (List.mem_append.2 (.inl hm))⟩
    ·exact (q1 t hm).2 (by simp)
   ·cases h
  ·rintro ⟨h, n1, n2⟩
   obtain ⟨a, b⟩ := h t List.mem_cons_self
   rw [if_pos (by rw [Bool.and_eq_true, Bool.not_eq_true', ← Bool.not_eq_true, List.contains_iff_mem]; exact ⟨a, b⟩)]
   refine (res_iff (l := l)).2 ⟨fun g hg => ?_, n2⟩
   obtain ⟨a', b'⟩ := h g (List.mem_cons_of_mem _ hg)
   refine ⟨a', fun hm => ?_⟩
   rcases List.mem_append.1 hm with hm | hm
   ·exact b' hm
   ·simp at hm; subst hm; exact n1 hg
structure FitM (S : Sc) (m : Ms) : Prop where
 no : m.fields.length ≤ 16 ∧ m.res.length ≤ 32
 res : ∀ t ∈ m.res, tagB t = true
 rnd : m.res.Nodup
 fld : ∀ f ∈ m.fields, nameB f.name = true ∧ tagB f.tag = true ∧ fieldB S f = true ∧ f.tag ∉ m.res
 nnd : (m.fields.map Fd.name).Nodup
 tnd : (m.fields.map Fd.tag).Nodup
theorem body_iff {S : Sc} {m : Ms} : bodyC S m = 0 ↔ FitM S m := by
 unfold bodyC
 constructor
 ·intro h
  split at h
  ·cases h
  rename_i h1
  split at h
  ·cases h
  rename_i h2
  obtain ⟨q1, q2, q3⟩ := flds_iff.1 h
  obtain ⟨r1, r2⟩ := res_iff.1 (by simpa using h2)
  exact ⟨by omega, fun t ht => (r1 t ht).1, r2, fun f hf => ⟨(q1 f hf).1, (q1 f hf).2.1, (q1 f hf).2.2.1, (q1 f hf).2.2.2.2⟩, q2, q3⟩
 ·intro F
  have := F.no
  rw [if_neg (by omega), if_neg (by rw [Bool.not_eq_true]; exact res_iff.2 ⟨fun t ht => ⟨F.res t ht, by simp⟩, F.rnd⟩)]
  exact flds_iff.2 ⟨fun f hf => ⟨(F.fld f hf).1, (F.fld f hf).2.1, (F.fld f hf).2.2.1, by simp, (F.fld f hf).2.2.2⟩, F.nnd, F.tnd⟩
theorem fieldB_eq {S U : Sc} (h : ∀ y, kindB U y = kindB S y) (f : Fd) : fieldB U f = fieldB S f := by
 unfold fieldB
 rw [h]
theorem nd_at {α : Type} {l : List α} : l.Nodup ↔ ∀ i j, i < j → j < l.length → l[i]? ≠ l[j]? := by
 rw [List.nodup_iff_pairwise_ne, List.pairwise_iff_getElem]
 constructor
 ·intro h i j hij hj e
  rw [List.getElem?_eq_getElem (show i < l.length by omega), List.getElem?_eq_getElem hj] at e
  exact h i j (by omega) hj hij (Option.some.inj e)
 ·intro h i j hi hj hij e
  exact h i j hij hj (by rw [List.getElem?_eq_getElem hi, List.getElem?_eq_getElem hj, e])
theorem first_in {α : Type} {p : α → Bool} {z : α} {l : List α} {a : α} (h : a ∈ l) (hp : p a = true) (hu : ∀ b ∈ l, p b = true → b = a) : firstP p z l = (a, true) := by
 unfold firstP
 cases e : l.find? p with
 | none => rw [List.find?_eq_none] at e; exact absurd hp (e a h)
 | some b => rw [hu b (List.mem_of_find?_eq_some e) (List.find?_some e)]
theorem first_none {α : Type} {p : α → Bool} {z : α} {l : List α} (h : ∀ b ∈ l, p b = false) : firstP p z l = (z, false) := by
 unfold firstP
 cases e : l.find? p with
 | none => rfl
 | some b =>
  have q := List.find?_some e
  rw [h b (List.mem_of_find?_eq_some e)] at q
  cases q
theorem nd_inj {α β : Type} {f : α → β} : ∀ {l : List α}, (l.map f).Nodup → ∀ a ∈ l, ∀ b ∈ l, f a = f b → a = b
 | [], _, a, ha, _, _, _ => by cases ha
 | x :: l, h, a, ha, b, hb, e => by
  rw [List.map_cons, List.nodup_cons] at h
  rcases List.mem_cons.1 ha with ha1 | ha1
  ·rcases List.mem_cons.1 hb with hb1 | hb1
   ·rw [ha1, hb1]
   ·exact absurd (List.mem_map.2 ⟨b, hb1, by rw [← e, ha1]⟩) h.1
  ·rcases List.mem_cons.1 hb with hb1 | hb1
   ·exact absurd (List.mem_map.2 ⟨a, ha1, by rw [e, hb1]⟩) h.1
   ·exact nd_inj h.2 a ha1 b hb1 e
theorem fOf_in {S : Sc} {m : Ms} (F : FitM S m) {f : Fd} (hf : f ∈ m.fields) : T.fldOf m f.tag = (f, true) :=
 first_in hf (by simp) fun b hb e => nd_inj F.tnd b hb f hf (by simpa using e)
theorem fOf_out {m : Ms} {t : Int} (h : ∀ f ∈ m.fields, f.tag ≠ t) : T.fldOf m t = (zFd, false) :=
 first_none fun b hb => by simpa using h b hb
theorem fit_msgs {S : Sc} (F : FitS S) {m : Ms} (h : m ∈ S.msgs) : FitM S m := body_iff.1 (F.body m h)
theorem msg_nd {S : Sc} (F : FitS S) : (S.msgs.map Ms.name).Nodup := (List.nodup_append.1 F.nd).1
theorem msOf_in {S : Sc} (F : FitS S) {m : Ms} (h : m ∈ S.msgs) : T.msOf S m.name = (m, true) := by
 unfold T.msOf
 rw [first_in h (by simp) fun b hb e => nd_inj (msg_nd F) b hb m h (by simpa using e)]
theorem found_names {α : Type} {f : α → List UInt8} {z : α} {a b : List α} (h : a.map f = b.map f) (k : List UInt8) : (firstP (fun x => f x == k) z a).2 = (firstP (fun x => f x == k) z b).2 := by
 rw [found_any, found_any]
 have : ∀ l : List α, l.any (fun x => f x == k) = (l.map f).any (fun y => y == k) := fun l => by rw [List.any_map]; rfl
 rw [this, this, h]
theorem kind_names {S U : Sc} (h1 : U.msgs.map Ms.name = S.msgs.map Ms.name) (h2 : U.enums.map En.name = S.enums.map En.name) (y : Ty) : kindB U y = kindB S y := by
 unfold kindB
 rw [found_names (f := En.name) (z := zEn) h2, found_names (f := Ms.name) (z := zMs) h1]
theorem fit_like {S U : Sc} (F : FitS S) (hn : nameB U.name = true) (h1 : U.msgs.map Ms.name = S.msgs.map Ms.name) (h2 : U.enums = S.enums) (h3 : U.meths = S.meths) (hb : ∀ m ∈ U.msgs, FitM U m) : FitS U := by
 have l1 : U.msgs.length = S.msgs.length := by rw [← (show (U.msgs.map Ms.name).length = U.msgs.length from List.length_map _), h1, List.length_map]
 have hh : ∀ k, hasM U k = hasM S k := fun k => found_names (f := Ms.name) (z := zMs) h1 k
 refine ⟨hn, by rw [l1, h2, h3]; exact F.lens, fun m hm => ?_, by rw [h2]; exact F.en, ?_, fun m hm => body_iff.2 (hb m hm), by rw [h2]; exact F.ebody, by rw [h3]; exact F.tn, by rw [h3]; exact F.tnd, fun t ht => ?_⟩
 ·have : m.name ∈ S.msgs.map Ms.name := by rw [← h1]; exact List.mem_map.2 ⟨m, hm, rfl⟩
  obtain ⟨x, hx, e⟩ := List.mem_map.1 this
  rw [← e]; exact F.mn x hx
 ·have := F.nd
  unfold namesS at *
  rw [h1, h2]; exact this
 ·rw [hh, hh]; exact F.tio t (by rw [← h3]; exact ht)
def chS (S : Sc) (a : Nat) (m : Ms) : Sc := ⟨S.name, S.msgs.set a m, S.enums, S.meths⟩
theorem set_names {l : List Ms} {a : Nat} {m m' : Ms} (h : l[a]? = some m) (e : m'.name = m.name) : (l.set a m').map Ms.name = l.map Ms.name := by
 apply List.ext_getElem?
 intro i
 rw [List.getElem?_map, List.getElem?_map, List.getElem?_set]
 by_cases hi : a = i
 ·subst hi
  rw [if_pos rfl, if_pos (List.getElem?_eq_some_iff.1 h).1, h, Option.map_some, Option.map_some, e]
 ·rw [if_neg hi]
theorem mem_set {α : Type} {l : List α} {a : Nat} {x y : α} (h : y ∈ l.set a x) : y = x ∨ y ∈ l := by
 rcases List.mem_or_eq_of_mem_set h with h | h
 ·exact .inr h
 ·exact .inl h
theorem chS_kind {S : Sc} {a : Nat} {m m' : Ms} (h : S.msgs[a]? = some m) (e : m'.name = m.name) (y : Ty) : kindB (chS S a m') y = kindB S y := kind_names (S := S) (U := chS S a m') (set_names h e) rfl y
theorem fitM_eq {S U : Sc} (h : ∀ y, kindB U y = kindB S y) {m : Ms} (F : FitM S m) : FitM U m :=
 ⟨F.no, F.res, F.rnd, fun f hf => ⟨(F.fld f hf).1, (F.fld f hf).2.1, by rw [fieldB_eq h]; exact (F.fld f hf).2.2.1, (F.fld f hf).2.2.2⟩, F.nnd, F.tnd⟩
theorem chS_fit {S : Sc} (F : FitS S) {a : Nat} {m m' : Ms} (h : S.msgs[a]? = some m) (e : m'.name = m.name) (hb : FitM S m') : FitS (chS S a m') := by
 refine fit_like F F.name (set_names h e) rfl rfl fun x hx => fitM_eq (chS_kind h e) ?_
 rcases mem_set hx with rfl | hx
 ·exact hb
 ·exact fit_msgs F hx
theorem erase_tag {S : Sc} {m : Ms} (F : FitM S m) {k : Nat} {f : Fd} (h : m.fields[k]? = some f) {g : Fd} (hg : g ∈ m.fields.take k ++ m.fields.drop (k + 1)) : g ∈ m.fields ∧ g.tag ≠ f.tag := by
 rw [← List.eraseIdx_eq_take_drop_succ] at hg
 obtain ⟨j, hj, hx⟩ := List.mem_eraseIdx_iff_getElem?.1 hg
 refine ⟨List.mem_of_getElem? hx, fun e => ?_⟩
 have e2 := F.tnd
 rw [nd_at] at e2
 have lj := (List.getElem?_eq_some_iff.1 hx).1
 have lk := (List.getElem?_eq_some_iff.1 h).1
 rcases Nat.lt_or_gt_of_ne hj with q | q
 ·exact e2 j k q (by rw [List.length_map]; exact lk) (by rw [List.getElem?_map, List.getElem?_map, hx, h, Option.map_some, Option.map_some, e])
 ·exact e2 k j q (by rw [List.length_map]; exact lj) (by rw [List.getElem?_map, List.getElem?_map, hx, h, Option.map_some, Option.map_some, e])
end Go.Aw
namespace Go.Aw.T
open Go.Proofs Go.RowKit Go.Aw
def dropM (m : Ms) (j : Nat) : Ms := ⟨m.name, m.fields.take j ++ m.fields.drop (j + 1), m.res⟩
theorem drop_sub (m : Ms) (j : Nat) : (dropM m j).fields.Sublist m.fields := by
 unfold dropM
 show (m.fields.take j ++ m.fields.drop (j + 1)).Sublist m.fields
 rw [← List.eraseIdx_eq_take_drop_succ]; exact List.eraseIdx_sublist _ _
theorem drop_fit {S : Sc} {m : Ms} (F : FitM S m) (j : Nat) : FitM S (dropM m j) := by
 have sub := drop_sub m j
 exact ⟨⟨Nat.le_trans sub.length_le F.no.1, F.no.2⟩, F.res, F.rnd, fun g hg => F.fld g (sub.subset hg), (sub.map _).nodup F.nnd, (sub.map _).nodup F.tnd⟩
theorem drop_fld {S : Sc} {m : Ms} (F : FitM S m) {j : Nat} {f : Fd} (h : m.fields[j]? = some f) (g : Int) : fldOf (dropM m j) g = if g = f.tag then (zFd, false) else fldOf m g := by
 have D := drop_fit F j
 split
 ·rename_i e
  subst e
  exact fOf_out fun x hx => (erase_tag F h hx).2
 ·rename_i e
  cases hb : (fldOf m g).2 with
  | true =>
   obtain ⟨a, b⟩ := fld_mem hb
   have hm : (fldOf m g).1 ∈ (dropM m j).fields := by
    unfold dropM
    show (fldOf m g).1 ∈ m.fields.take j ++ m.fields.drop (j + 1)
    obtain ⟨i, hi⟩ := List.getElem?_of_mem a
    have hne : i ≠ j := by
     rintro rfl
     rw [hi] at h
     injection h with h
     exact e (by rw [← b, h])
    rw [← List.eraseIdx_eq_take_drop_succ]
    exact List.mem_eraseIdx_iff_getElem?.2 ⟨i, hne, hi⟩
   have := fOf_in D hm
   rw [b] at this
   rw [this]
   exact Prod.ext rfl hb.symm
  | false =>
   have hm : ∀ x ∈ m.fields, x.tag ≠ g := fun x hx q => by
    have := fOf_in F hx
    rw [q] at this
    rw [this] at hb
    cases hb
   rw [fOf_out hm, fOf_out fun x hx => hm x ((drop_sub m j).subset hx)]
def noneOf (S : Sc) (k : List UInt8) : Prop := ∀ m ∈ S.msgs, ∀ f ∈ m.fields, f.ty.kind = 7 → f.ty.name ≠ k
theorem ms_fields {S : Sc} {k : List UInt8} {f : Fd} (h : f ∈ (msOf S k).1.fields) : (msOf S k).1 ∈ S.msgs := by
 unfold msOf firstP at h ⊢
 cases e : S.msgs.find? (fun x => x.name == k) with
 | none => rw [e] at h; cases h
 | some b => exact List.mem_of_find?_eq_some e
theorem ms_set {S : Sc} (FS : FitS S) {q : Nat} {m m' : Ms} (h : S.msgs[q]? = some m) (e : m'.name = m.name) (C : FitS (chS S q m')) {k : List UInt8} (hk : k ≠ m.name) : msOf (chS S q m') k = msOf S k := by
 cases hb : (msOf S k).2 with
 | true =>
  have hm : (msOf S k).1 ∈ S.msgs ∧ (msOf S k).1.name = k := by
   unfold msOf firstP at hb ⊢
   cases e : S.msgs.find? (fun x => x.name == k) with
   | none => rw [e] at hb; cases hb
   | some b =>
    have := List.find?_some e
    exact ⟨List.mem_of_find?_eq_some e, by simpa using this⟩
  obtain ⟨i, hi⟩ := List.getElem?_of_mem hm.1
  have hne : q ≠ i := by
   rintro rfl
   rw [hi] at h
   injection h with h
   exact hk (by rw [← hm.2, h])
  have hin : (msOf S k).1 ∈ (chS S q m').msgs := List.mem_of_getElem? (i := i) (by
   show (S.msgs.set q m')[i]? = _
   rw [List.getElem?_set, if_neg hne, hi])
  have := msOf_in C hin
  rw [hm.2] at this
  rw [this]
  exact Prod.ext rfl hb.symm
 | false =>
  have hn : ∀ x ∈ S.msgs, (x.name == k) = false := fun x hx => by
   cases q : (x.name == k) with
   | false => rfl
   | true =>
    have := msOf_in FS hx
    rw [eq_of_beq q] at this
    rw [this] at hb
    cases hb
  have : msOf S k = (zMs, false) := first_none hn
  rw [this]
  refine first_none fun x hx => ?_
  rcases mem_set (show x ∈ S.msgs.set q m' from hx) with rfl | hx
  ·rw [e]
   exact beq_eq_false_iff_ne.2 (Ne.symm hk)
  ·exact hn x hx
theorem prM_set {S : Sc} (FS : FitS S) {q : Nat} {m m' : Ms} (h : S.msgs[q]? = some m) (e : m'.name = m.name) (C : FitS (chS S q m')) (no : noneOf S m.name) : ∀ (t : Tr) (x : Ms), (∀ f ∈ x.fields, f.ty.kind = 7 → f.ty.name ≠ m.name) → prM (chS S q m') x t = prM S x t := by
 intro t
 induction hz : SizeOf.sizeOf t using Nat.strongRecOn generalizing t with
 | _ sz ih =>
 subst hz
 intro x hx
 rw [prM_mk, prM_mk]
 have one : ∀ en ∈ t.ents, entP (chS S q m') x en = entP S x en := fun en hen => by
  unfold entP
  cases hf : (fldOf x en.1).2 with
  | false => simp
  | true =>
   have hfm := (fld_mem hf).1
   have : fieldP (chS S q m') (fldOf x en.1).1 en.2 = fieldP S (fldOf x en.1).1 en.2 := by
    unfold fieldP
    have hp : (selL (fldOf x en.1).1 en.2).map (pr1 (chS S q m') (fldOf x en.1).1) = (selL (fldOf x en.1).1 en.2).map (pr1 S (fldOf x en.1).1) := by
     refine List.map_congr_left fun y hy => ?_
     unfold pr1
     by_cases k7 : (fldOf x en.1).1.ty.kind = 7
     ·have hne := hx _ hfm k7
      have h1 := selL_in hy
      obtain ⟨i, hi⟩ := List.getElem?_of_mem hen
      obtain ⟨k, hk⟩ := List.getElem?_of_mem h1
      rw [ms_set FS h e C hne, ih _ (size_ent hi hk) y rfl _ fun f hf' => no _ (ms_fields hf') f hf']
     ·rw [if_neg k7, if_neg k7]
    rw [hp]
   rw [this]
 have all : ∀ es : List (Int × List Tr), (∀ en ∈ es, entP (chS S q m') x en = entP S x en) → prE (chS S q m') x es = prE S x es := by
  intro es
  induction es with
  | nil => intro _; rw [prE, prE]
  | cons a r ihr =>
   intro ha
   rw [prE_cons, prE_cons, ha a (List.mem_cons_self ..), ihr fun en hen => ha en (List.mem_cons_of_mem _ hen)]
 rw [all _ one]
theorem prE_each {S : Sc} {m : Ms} : ∀ {es : List (Int × List Tr)}, prE S m es = es → ∀ e ∈ es, entP S m e = [e]
 | [], _, e, he => by cases he
 | a :: r, h, e, he => by
  have le : ∀ l : List (Int × List Tr), (prE S m l).length ≤ l.length := fun l => by
   induction l with
   | nil => rw [prE]; exact Nat.le_refl _
   | cons b l ih =>
    rw [prE_cons, List.length_append, List.length_cons]
    have : (entP S m b).length ≤ 1 := by unfold entP; split <;> simp
    omega
  rw [prE_cons] at h
  have ha : entP S m a = [a] ∧ prE S m r = r := by
   unfold entP at h ⊢
   split at h
   ·rename_i hc
    rw [if_pos hc]
    rw [List.singleton_append] at h
    injection h with h1 h2
    exact ⟨by rw [h1], h2⟩
   ·rw [List.nil_append] at h
    have := le r
    rw [h, List.length_cons] at this
    omega
  rcases List.mem_cons.1 he with rfl | he
  ·exact ha.1
  ·exact prE_each ha.2 e he
theorem drop_ents {S : Sc} {m : Ms} (F : FitM S m) {j : Nat} {f : Fd} (h : m.fields[j]? = some f) : ∀ {es : List (Int × List Tr)}, (∀ e ∈ es, entP S m e = [e]) → prE S (dropM m j) es = es.filter fun e => e.1 != f.tag
 | [], _ => by rw [prE]; rfl
 | a :: r, ha => by
  rw [prE_cons, drop_ents F h fun e he => ha e (List.mem_cons_of_mem _ he), List.filter_cons]
  have h1 := ha a (List.mem_cons_self ..)
  unfold entP at h1 ⊢
  rw [drop_fld F h]
  by_cases e : a.1 = f.tag
  ·simp [e]
  ·rw [if_neg e, h1, if_pos (by simpa using e)]
   rfl
set_option maxRecDepth 100000 in
theorem drop_sees {S : Sc} (h0 : checkC S = 0) {q : Nat} {m : Ms} (hq : S.msgs[q]? = some m) {j : Nat} {f : Fd} (hj : m.fields[j]? = some f) (no : noneOf S m.name) (l : List Int) :
  checkC (chS S q (dropM m j)) = 0 ∧ projP (chS S q (dropM m j)) m.name (fitB S m.name l) = (.mk 3 0 [] ((fitB S m.name l).ents.filter fun e => e.1 != f.tag) [], true) := by
 have FS := check_fit.1 h0
 have hm := List.mem_of_getElem? hq
 have FM := fit_msgs FS hm
 have C : FitS (chS S q (dropM m j)) := chS_fit FS hq rfl (drop_fit FM j)
 have c0 := check_fit.2 C
 refine ⟨c0, ?_⟩
 have FT := fit_t h0 hq l
 have R := right_of h0
 have hb := fit_bare S l 4 m.name 0
 have G := FT.good
 have hF := flds_ok R hm
 have lt := (List.getElem?_eq_some_iff.1 hq).1
 have hin : dropM m j ∈ (chS S q (dropM m j)).msgs := List.mem_of_getElem? (i := q) (by
  show (S.msgs.set q _)[q]? = _
  rw [List.getElem?_set, if_pos rfl, if_pos lt])
 have ms := msOf_in C hin
 have ms' : msOf (chS S q (dropM m j)) m.name = (dropM m j, true) := ms
 unfold projP
 rw [ms', if_neg (by simp [c0, G.kind, FT.ok])]
 simp only
 rw [prM_set (m' := dropM m j) FS hq rfl C no _ _ fun g hg k7 => no m hm g ((drop_sub m j).subset hg) k7]
 have ks := prM_keeps S (flds_all R) (fitB S m.name l) m hF G.right G.kind G.msg hb
 generalize fitB S m.name l = t at ks ⊢
 rw [prM_mk] at ks ⊢
 have ke : prE S m t.ents = t.ents := by
  have := congrArg Tr.ents ks
  exact this
 rw [drop_ents FM hj (prE_each ke)]
end Go.Aw.T
namespace Go.Aw
open Go.Proofs Go.RowKit
set_option linter.unusedSimpArgs false
set_option linter.unusedVariables false
def sd0 (S : Sc) : St := ⟨ofL [(1, .ptr 0 0 0), (2, .ptr 1 0 0), (3, .ptr 2 0 0), (4, .p (.int .i64 0))],
 ofH [(0, .row 4 [cellsSc S]), (1, .row 4 [[.p (.str []), .ex [], .ex [], .ex []]]), (2, .row 4 [[.p (.str S.name), .ex [], .ex [], .own 3]]), (3, .row 3 (liftE (S.meths.map encMt)))], 4⟩
def sd1 (S : Sc) (i : Nat) : St := ⟨ofL [(1, .ptr 0 0 0), (2, .ptr 1 0 0), (3, .ptr 2 0 0), (4, .p (.int .i64 (i : Int)))],
 ofH [(0, .row 4 [cellsSc S]), (1, .row 4 [[.p (.str []), .ex [], .ex [], .ex []]]), (2, .row 4 [[.p (.str S.name), .own 3, .ex [], .own 4]]), (3, .row 3 (liftE ((S.msgs.take i).map encMs))), (4, .row 3 (liftE (S.meths.map encMt)))], 5⟩
def sdB (S : Sc) (m : Ms) (i : Nat) : St := ⟨ofL [(1, .ptr 0 0 0), (2, .ptr 1 0 0), (3, .ptr 2 0 0), (4, .p (.int .i64 (i : Int)))],
 ofH [(0, .row 4 [cellsSc S]), (1, .row 4 [[.p (.str []), .ex [], .ex [], .ex []]]), (2, .row 4 [[.p (.str S.name), .own 3, .ex [], .own 4]]), (3, .row 3 (liftE ((S.msgs.take i).map encMs) ++ [[.p (.str m.name), .own 5, .p (.slice (m.res.map encI))]])), (4, .row 3 (liftE (S.meths.map encMt))), (5, .row 5 (liftE (m.fields.map encFd)))], 6⟩
def sdC (S : Sc) (m : Ms) (i : Nat) : St := ⟨ofL [(1, .ptr 0 0 0), (2, .ptr 1 0 0), (3, .ptr 2 0 0), (4, .p (.int .i64 (i : Int)))],
 ofH [(0, .row 4 [cellsSc S]), (1, .row 4 [[.p (.str []), .ex [], .ex [], .ex []]]), (2, .row 4 [[.p (.str S.name), .own 3, .ex [], .own 4]]), (3, .row 3 (liftE ((S.msgs.take i).map encMs) ++ [[.p (.str m.name), .p (.slice (m.fields.map encFd)), .p (.slice (m.res.map encI))]])), (4, .row 3 (liftE (S.meths.map encMt)))], 6⟩
def sdE (S : Sc) (i : Nat) : St := ⟨ofL [(1, .ptr 0 0 0), (2, .ptr 1 0 0), (3, .ptr 2 0 0), (6, .p (.int .i64 (i : Int)))],
 ofH [(0, .row 4 [cellsSc S]), (1, .row 4 [[.p (.str []), .ex [], .ex [], .ex []]]), (2, .row 4 [[.p (.str S.name), .own 3, .own 5, .own 4]]), (3, .row 3 (liftE (S.msgs.map encMs))), (4, .row 3 (liftE (S.meths.map encMt))), (5, .row 2 (liftE ((S.enums.take i).map encEn)))], 6⟩
def sdF (S : Sc) (m : En) (i : Nat) : St := ⟨ofL [(1, .ptr 0 0 0), (2, .ptr 1 0 0), (3, .ptr 2 0 0), (6, .p (.int .i64 (i : Int)))],
 ofH [(0, .row 4 [cellsSc S]), (1, .row 4 [[.p (.str []), .ex [], .ex [], .ex []]]), (2, .row 4 [[.p (.str S.name), .own 3, .own 5, .own 4]]), (3, .row 3 (liftE (S.msgs.map encMs))), (4, .row 3 (liftE (S.meths.map encMt))), (5, .row 2 (liftE ((S.enums.take i).map encEn) ++ [[.p (.str m.name), .own 6]])), (6, .row 2 (liftE (m.vals.map encNm)))], 7⟩
def sdG (S : Sc) (m : En) (i : Nat) : St := ⟨ofL [(1, .ptr 0 0 0), (2, .ptr 1 0 0), (3, .ptr 2 0 0), (6, .p (.int .i64 (i : Int)))],
 ofH [(0, .row 4 [cellsSc S]), (1, .row 4 [[.p (.str []), .ex [], .ex [], .ex []]]), (2, .row 4 [[.p (.str S.name), .own 3, .own 5, .own 4]]), (3, .row 3 (liftE (S.msgs.map encMs))), (4, .row 3 (liftE (S.meths.map encMt))), (5, .row 2 (liftE ((S.enums.take i).map encEn) ++ [[.p (.str m.name), .p (.slice (m.vals.map encNm))]]))], 7⟩
def sdZ (S : Sc) : St := ⟨ofL [(2, .ptr 1 0 0)],
 ofH [(1, .row 4 [[.p (.str S.name), .own 2, .own 3, .own 4]]), (2, .row 3 (liftE (S.msgs.map encMs))), (3, .row 2 (liftE (S.enums.map encEn))), (4, .row 3 (liftE (S.meths.map encMt)))], 5⟩
set_option maxRecDepth 100000 in
set_option maxHeartbeats 8000000 in
theorem law00_SchemaD (S : Sc) (F : FewS S) : DFn Tryd.prog 25 [.p (.agg (encSc S))] [] 0 [] (.agg [.p (.str S.name), .own 0, .own 1, .own 2]) [(0, .row 3 (liftE (S.msgs.map encMs))), (1, .row 2 (liftE (S.enums.map encEn))), (2, .row 3 (liftE (S.meths.map encMt)))] 3 := by
 refine DFn.of [] Tryd.func25 rfl (by decide) Tryd.ntmps25 Tryd.results25 (Nat.le_of_ble_eq_true rfl) (by simp) fun val => ?_
 simp only [avT, encSc]
 have Fm := F.msgs
 have Fe := F.enums
 have Ft := F.meths
 refine AW.rT (by rfl) fun K hK => ?_
 simp -implicitDefEqProofs only [go_sem, Nat.reduceAdd]
 refine hK _ ?_; clear hK K
 refine AW.dT mixed (by rfl) (by decide +kernel) fun K hK => ?_
 simp -implicitDefEqProofs only [go_sem, ↓reduceIte, Nat.reduceAdd, Nat.reduceEqDiff, Nat.reduceLeDiff, reduceCtorEq]
 refine ⟨⟨lift_len (f := encMt) (fun _ => rfl) _, lift_one one_Mt _, by simp⟩, ⟨.inl trivial, by simp, by rw [liftE_length, List.length_map]; omega⟩, ?_⟩
 try simp -implicitDefEqProofs only [go_sem, ↓reduceIte, Nat.reduceAdd, Nat.reduceMul, Nat.reduceEqDiff, Nat.reduceLeDiff, reduceCtorEq, Int.reduceToNat]
 refine ⟨by decide +kernel, ?_⟩
 refine hK _ ?_; clear hK K
 refine AW.seq ?_
 refine AW.rT (by rfl) fun K hK => ?_
 simp -implicitDefEqProofs only [go_sem, Nat.reduceAdd]
 refine hK _ ?_; clear hK K
 refine AW.block ?_
 refine AW.loop (sd1 S) (fun i => i ≤ S.msgs.length) (fun i => S.msgs.length - i) 0 ?_ (by omega) fun i i1 => ?_
 ·refine Ghost.trans (s' := sd0 S) ?_ ?_
  ·simp only [sd0, cellsSc]
   refine Ghost.ent (fun l => if l = 0 then 0 else if l = 1 then 1 else if l = 2 then 8 else 6) ?_ ?_ ?_ <;> simp -implicitDefEqProofs only [go_sem, ↓reduceIte, Nat.reduceEqDiff, reduceCtorEq, List.forall_mem_cons, List.not_mem_nil, false_implies, implies_true, and_self, map_renL_lift, labsIn_lift, List.all_cons, List.all_nil, Nat.reduceLT, labsInL, AV.labsIn]
   all_goals first | rfl | decide | skip
  refine Ghost.trans (Ghost.nilH (l := 2) (i := 0) (j := 1) (sz' := 3) rfl rfl rfl) ?_
  simp only [sd0, sd1, cellsSc]
  refine Ghost.ent (fun l => if l = 3 then 4 else if l = 4 then 3 else l) ?_ ?_ ?_ <;> simp -implicitDefEqProofs only [go_sem, ↓reduceIte, Nat.reduceEqDiff, reduceCtorEq, List.take_zero, List.map_nil, liftE_nil, List.forall_mem_cons, List.not_mem_nil, false_implies, implies_true, and_self, map_renL_lift, labsIn_lift, List.all_cons, List.all_nil, Nat.reduceLT, labsInL, AV.labsIn]
  all_goals first | rfl | decide | skip
 simp only [sd1, cellsSc]
 refine AW.seq ?_
 by_cases hil : i < S.msgs.length
 ·obtain ⟨m, hm⟩ : ∃ m, S.msgs[i]? = some m := ⟨_, List.getElem?_eq_getElem hil⟩
  have ⟨hm1, hm2, hm3⟩ := at_map' encMs hm
  have hm2' : (i : Int) < (S.msgs.length : Int) := by omega
  have hc1 : ((i : Int) < (S.msgs.length : Int)) = True := eq_true (by omega)
  have w1 : IntKind.wrap .i64 ((i : Int) + 1) = ((i + 1 : Nat) : Int) := by rw [w64] <;> omega
  have FM := F.ms m (List.mem_of_getElem? hm)
  have f1 := FM.fields
  have f2 := FM.res
  have CI := law00_Ints m.res (by omega)
  refine AW.rT (by rfl) fun K hK => ?_
  simp -implicitDefEqProofs only [go_sem, ↓reduceIte, Nat.reduceAdd, Nat.reduceEqDiff, hc1, List.length_map]
  refine hK _ ?_; clear hK K
  refine AW.cond _ (by simp -implicitDefEqProofs only [go_sem]; rfl) (fun hc => ?_) (fun hc => ?_)
  rotate_left
  ·simp at hc
  refine AW.skip ?_
  simp only [andThen]
  refine AW.seq ?_
  refine AW.block ?_
  refine AW.rT (by rfl) fun K hK => ?_
  simp -implicitDefEqProofs only [go_sem, ↓reduceIte, Nat.reduceAdd, Nat.reduceEqDiff, Nat.reduceLeDiff, hm1, hm2', hm3, encMs, List.length_map]
  refine hK _ ?_; clear hK K
  refine AW.dE mixed (by rfl) (by decide +kernel) fun K hK => ?_
  simp -implicitDefEqProofs only [go_sem, ↓reduceIte, Nat.reduceAdd, Nat.reduceEqDiff, Nat.reduceLeDiff, reduceCtorEq]
  refine ⟨⟨lift_len (f := encFd) (fun _ => rfl) _, lift_one one_Fd _, by simp⟩, ⟨.inl trivial, by simp, by rw [liftE_length, List.length_map]; omega⟩, ?_⟩
  try simp -implicitDefEqProofs only [go_sem, ↓reduceIte, Nat.reduceAdd, Nat.reduceMul, Nat.reduceEqDiff, Nat.reduceLeDiff, reduceCtorEq, Int.reduceToNat]
  refine ⟨.pure _, CI, ?_⟩
  try simp -implicitDefEqProofs only [go_sem, ↓reduceIte, Nat.reduceAdd, Nat.reduceMul, Nat.reduceEqDiff, Nat.reduceLeDiff, reduceCtorEq]
  refine ⟨⟨by simp, by simp [oneAll, AV.one, PV.one], by simp⟩, by simp [liftE_length]; omega, by decide +kernel, ?_⟩
  refine hK _ ?_; clear hK K
  simp only [andThen, inBlk]
  refine AW.ghost (s' := sdB S m i) ?_ (AW.ghost (s' := sdC S m i) (Ghost.trans (Ghost.freeze (lb := 5) (ps := m.fields.map encFd) rfl (unlift_liftE _)) ?_) ?_)
  ·simp only [sdB, cellsSc]
   refine Ghost.ent (fun l => if l = 0 then 0 else if l = 1 then 1 else if l = 2 then 2 else if l = 3 then 29 else if l = 4 then 4 else 23) ?_ ?_ ?_ <;> simp -implicitDefEqProofs only [go_sem, ↓reduceIte, Nat.reduceEqDiff, reduceCtorEq, List.forall_mem_cons, List.not_mem_nil, false_implies, implies_true, and_self, map_renL_lift, labsIn_lift, List.all_append, List.all_cons, List.all_nil, List.map_append, Nat.reduceLT, labsInL, AV.labsIn]
   all_goals first | rfl | decide | skip
  ·simp only [sdB, sdC, cellsSc]
   refine Ghost.sub ?_ ?_ <;> simp -implicitDefEqProofs only [go_sem, ↓reduceIte, Nat.reduceEqDiff, reduceCtorEq, thaw, thaw1, Option.map_some, List.map_cons, List.map_nil, List.map_append, thaw_lift, List.forall_mem_cons, List.not_mem_nil, false_implies, implies_true, and_self, labsIn_lift, List.all_append, List.all_cons, List.all_nil, Nat.reduceLT, labsInL, AV.labsIn]
   all_goals first | rfl | decide | skip
  simp only [sdC, cellsSc]
  have e8 : liftE ((S.msgs.take i).map encMs) ++ [[AV.p (.str m.name), .p (.slice (m.fields.map encFd)), .p (.slice (m.res.map encI))]] = liftE ((S.msgs.take (i + 1)).map encMs) := by
   rw [List.take_add_one, hm]
   simp [liftE, encMs]
  rw [e8]
  refine AW.rE (by rfl) fun K hK => ?_
  simp -implicitDefEqProofs only [go_sem, ↓reduceIte, Nat.reduceAdd, Nat.reduceEqDiff, w1]
  refine hK _ ?_; clear hK K
  refine ⟨i + 1, by omega, by omega, ?_⟩
  refine Ghost.sub ?_ ?_ <;> simp -implicitDefEqProofs only [go_sem, ↓reduceIte, Nat.reduceEqDiff, reduceCtorEq, List.forall_mem_cons, List.not_mem_nil, false_implies, implies_true, and_self, labsIn_lift, List.all_cons, List.all_nil, Nat.reduceLT, labsInL, AV.labsIn]
 have hc1 : ((i : Int) < (S.msgs.length : Int)) = False := eq_false (by omega)
 have ea : S.msgs.take i = S.msgs := List.take_of_length_le (by omega)
 rw [ea]
 clear ea
 refine AW.rT (by rfl) fun K hK => ?_
 simp -implicitDefEqProofs only [go_sem, ↓reduceIte, Nat.reduceAdd, Nat.reduceEqDiff, hc1, List.length_map]
 refine hK _ ?_; clear hK K
 refine AW.cond _ (by simp -implicitDefEqProofs only [go_sem]; rfl) (fun hc => ?_) (fun hc => ?_)
 ·simp at hc
 refine AW.exit ?_
 simp only [andThen, inBlk, ↓reduceIte]
 clear hc1 hil i1
 refine AW.seq ?_
 refine AW.rT (by rfl) fun K hK => ?_
 simp -implicitDefEqProofs only [go_sem, Nat.reduceAdd]
 refine hK _ ?_; clear hK K
 refine AW.block ?_
 refine AW.loop (sdE S) (fun i => i ≤ S.enums.length) (fun i => S.enums.length - i) 0 ?_ (by omega) fun j j1 => ?_
 ·refine Ghost.trans (Ghost.nilH (l := 2) (i := 0) (j := 2) (sz' := 2) rfl rfl rfl) ?_
  simp only [sdE, cellsSc]
  refine Ghost.ent (fun l => if l = 5 then 11 else l) ?_ ?_ ?_ <;> simp -implicitDefEqProofs only [go_sem, ↓reduceIte, Nat.reduceEqDiff, reduceCtorEq, List.take_zero, List.map_nil, liftE_nil, List.forall_mem_cons, List.not_mem_nil, false_implies, implies_true, and_self, map_renL_lift, labsIn_lift, List.all_cons, List.all_nil, Nat.reduceLT, labsInL, AV.labsIn]
  all_goals first | rfl | decide | skip
 simp only [sdE, cellsSc]
 refine AW.seq ?_
 by_cases hil : j < S.enums.length
 ·obtain ⟨m, hm⟩ : ∃ m, S.enums[j]? = some m := ⟨_, List.getElem?_eq_getElem hil⟩
  have ⟨hm1, hm2, hm3⟩ := at_map' encEn hm
  have hm2' : (j : Int) < (S.enums.length : Int) := by omega
  have hc1 : ((j : Int) < (S.enums.length : Int)) = True := eq_true (by omega)
  have w1 : IntKind.wrap .i64 ((j : Int) + 1) = ((j + 1 : Nat) : Int) := by rw [w64] <;> omega
  have FE := F.en m (List.mem_of_getElem? hm)
  have f1 := FE.vals
  refine AW.rT (by rfl) fun K hK => ?_
  simp -implicitDefEqProofs only [go_sem, ↓reduceIte, Nat.reduceAdd, Nat.reduceEqDiff, hc1, List.length_map]
  refine hK _ ?_; clear hK K
  refine AW.cond _ (by simp -implicitDefEqProofs only [go_sem]; rfl) (fun hc => ?_) (fun hc => ?_)
  rotate_left
  ·simp at hc
  refine AW.skip ?_
  simp only [andThen]
  refine AW.seq ?_
  refine AW.block ?_
  refine AW.dE mixed (by rfl) (by decide +kernel) fun K hK => ?_
  simp -implicitDefEqProofs only [go_sem, ↓reduceIte, Nat.reduceAdd, Nat.reduceMul, Nat.reduceEqDiff, Nat.reduceLeDiff, reduceCtorEq, hm1, hm2', hm3, encEn, List.length_map]
  refine ⟨⟨lift_len (f := encNm) (fun _ => rfl) _, lift_one one_Nm _, by simp⟩, ⟨.inl trivial, by simp, by rw [liftE_length, List.length_map]; omega⟩, ?_⟩
  try simp -implicitDefEqProofs only [go_sem, ↓reduceIte, Nat.reduceAdd, Nat.reduceMul, Nat.reduceEqDiff, Nat.reduceLeDiff, reduceCtorEq, Int.reduceToNat]
  refine ⟨⟨by simp, by simp [oneAll, AV.one, PV.one], by simp⟩, by simp [liftE_length]; omega, by decide +kernel, ?_⟩
  refine hK _ ?_; clear hK K
  simp only [andThen, inBlk]
  refine AW.ghost (s' := sdF S m j) ?_ (AW.ghost (s' := sdG S m j) (Ghost.trans (Ghost.freeze (lb := 6) (ps := m.vals.map encNm) rfl (unlift_liftE _)) ?_) ?_)
  ·simp only [sdF, cellsSc]
   refine Ghost.ent (fun l => if l < 5 then l else if l = 5 then 28 else 25) ?_ ?_ ?_ <;> simp -implicitDefEqProofs only [go_sem, ↓reduceIte, Nat.reduceEqDiff, reduceCtorEq, List.forall_mem_cons, List.not_mem_nil, false_implies, implies_true, and_self, map_renL_lift, labsIn_lift, List.all_append, List.all_cons, List.all_nil, List.map_append, Nat.reduceLT, labsInL, AV.labsIn]
   all_goals first | rfl | decide | skip
  ·simp only [sdF, sdG, cellsSc]
   refine Ghost.sub ?_ ?_ <;> simp -implicitDefEqProofs only [go_sem, ↓reduceIte, Nat.reduceEqDiff, reduceCtorEq, thaw, thaw1, Option.map_some, List.map_cons, List.map_nil, List.map_append, thaw_lift, List.forall_mem_cons, List.not_mem_nil, false_implies, implies_true, and_self, labsIn_lift, List.all_append, List.all_cons, List.all_nil, Nat.reduceLT, labsInL, AV.labsIn]
   all_goals first | rfl | decide | skip
  simp only [sdG, cellsSc]
  have e8 : liftE ((S.enums.take j).map encEn) ++ [[AV.p (.str m.name), .p (.slice (m.vals.map encNm))]] = liftE ((S.enums.take (j + 1)).map encEn) := by
   rw [List.take_add_one, hm]
   simp [liftE, encEn]
  rw [e8]
  refine AW.rE (by rfl) fun K hK => ?_
  simp -implicitDefEqProofs only [go_sem, ↓reduceIte, Nat.reduceAdd, Nat.reduceEqDiff, w1]
  refine hK _ ?_; clear hK K
  refine ⟨j + 1, by omega, by omega, ?_⟩
  refine Ghost.sub ?_ ?_ <;> simp -implicitDefEqProofs only [go_sem, ↓reduceIte, Nat.reduceEqDiff, reduceCtorEq, List.forall_mem_cons, List.not_mem_nil, false_implies, implies_true, and_self, labsIn_lift, List.all_cons, List.all_nil, Nat.reduceLT, labsInL, AV.labsIn]
 have hc1 : ((j : Int) < (S.enums.length : Int)) = False := eq_false (by omega)
 have ea : S.enums.take j = S.enums := List.take_of_length_le (by omega)
 rw [ea]
 clear ea
 refine AW.rT (by rfl) fun K hK => ?_
 simp -implicitDefEqProofs only [go_sem, ↓reduceIte, Nat.reduceAdd, Nat.reduceEqDiff, hc1, List.length_map]
 refine hK _ ?_; clear hK K
 refine AW.cond _ (by simp -implicitDefEqProofs only [go_sem]; rfl) (fun hc => ?_) (fun hc => ?_)
 ·simp at hc
 refine AW.exit ?_
 simp only [andThen, inBlk, ↓reduceIte]
 refine AW.rT (by rfl) fun K hK => ?_
 simp -implicitDefEqProofs only [go_sem, ↓reduceIte, Nat.reduceAdd, Nat.reduceEqDiff, Nat.reduceLeDiff, reduceCtorEq]
 refine hK _ ?_; clear hK K
 refine AW.ghost (s' := sdZ S) ?_ ?_
 ·simp only [sdZ]
  refine Ghost.ent (fun l => if l = 1 then 1 else if l = 2 then 3 else if l = 3 then 5 else 4) ?_ ?_ ?_ <;> simp -implicitDefEqProofs only [go_sem, ↓reduceIte, Nat.reduceEqDiff, reduceCtorEq, List.forall_mem_cons, List.not_mem_nil, false_implies, implies_true, and_self, map_renL_lift, labsIn_lift, List.all_cons, List.all_nil, Nat.reduceLT, labsInL, AV.labsIn]
  all_goals first | rfl | decide | skip
 refine AW.ret ⟨fun l => l + 2, [.agg [.p (.str S.name), .own 2, .own 3, .own 4]], ⟨?_, trivial⟩, rfl, rfl, ?_, ?_, ?_⟩
 ·simp only [sdZ]
  simp -implicitDefEqProofs only [go_sem, ↓reduceIte, Nat.reduceAdd, Nat.reduceLeDiff]
 ·simp only [sdZ]
  simp -implicitDefEqProofs only [go_sem, ↓reduceIte, Nat.reduceEqDiff, reduceCtorEq, List.forall_mem_cons, List.not_mem_nil, false_implies, implies_true, labsIn_lift, map_renL_lift]
  decide
 ·simp
 ·simp
end Go.Aw
namespace Go.Aw.T
open Go.Proofs Go.RowKit
set_option linter.unusedSimpArgs false
set_option linter.unusedVariables false
def ylT (p u : Int) (l : List Int) (L : List (Nat × AV)) : List (Nat × AV) := (1, .p (.int .i64 p)) :: (2, .p (.int .i64 u)) :: (3, .p (.slice (l.map encI))) :: (4, .ptr 0 0 0) :: L
def yl1 (S : Sc) (p u : Int) (l : List Int) : St := ⟨ofL (ylT p u l [(36, .agg [.p (.str S.name), .own 1, .own 2, .own 3])]), ofH [(0, .row 4 [cellsSc S]), (1, .row 3 (liftE (S.msgs.map encMs))), (2, .row 2 (liftE (S.enums.map Aw.encEn))), (3, .row 3 (liftE (S.meths.map encMt)))], 4⟩
def yl2 (S : Sc) (M : List Ms) (p u : Int) (l : List Int) (L : List (Nat × AV)) : St := ⟨ofL (ylT p u l ((9, .ptr 1 0 0) :: L)), ofH [(0, .row 4 [cellsSc S]), (1, .row 4 [[.p (.str S.name), .own 2, .own 3, .own 4]]), (2, .row 3 (liftE (M.map encMs))), (3, .row 2 (liftE (S.enums.map Aw.encEn))), (4, .row 3 (liftE (S.meths.map encMt)))], 5⟩
def ylC (q j : Nat) (f : Fd) (a : AV) : List (Nat × AV) := [(9, .ptr 1 0 0), (10, .p (.int .i64 (q : Int))), (11, a), (12, .p (.int .i64 (j : Int))), (13, .p (.int .i64 f.tag))]
def yl3 (S : Sc) (p u : Int) (l : List Int) (q j : Nat) (m : Ms) (f : Fd) : St := ⟨ofL (ylT p u l (ylC q j f (.ptr 2 q 0))), ofH [(0, .row 4 [cellsSc S]), (1, .row 4 [[.p (.str S.name), .own 2, .own 3, .own 4]]), (2, .row 3 ((liftE (S.msgs.map encMs)).set q [.p (.str m.name), .own 5, .p (.slice (m.res.map encI))])), (3, .row 2 (liftE (S.enums.map Aw.encEn))), (4, .row 3 (liftE (S.meths.map encMt))), (5, .row 5 (liftE ((dropM m j).fields.map encFd)))], 6⟩
def yl4 (S : Sc) (p u : Int) (l : List Int) (q j : Nat) (m : Ms) (f : Fd) : St := ⟨ofL (ylT p u l (ylC q j f (.ptr 2 q 0))), ofH [(0, .row 4 [cellsSc S]), (1, .row 4 [[.p (.str S.name), .own 2, .own 3, .own 4]]), (2, .row 3 (liftE ((S.msgs.set q (dropM m j)).map encMs))), (3, .row 2 (liftE (S.enums.map Aw.encEn))), (4, .row 3 (liftE (S.meths.map encMt)))], 6⟩
def yl5 (S : Sc) (p u : Int) (l : List Int) (q j : Nat) (m : Ms) (f : Fd) : St := ⟨ofL (ylT p u l (ylC q j f (.p (.box (encMs (dropM m j)) 0)))), ofH [(0, .row 4 [cellsSc S]), (1, .row 4 [[.p (.str S.name), .p (.slice ((S.msgs.set q (dropM m j)).map encMs)), .own 3, .own 4]]), (3, .row 2 (liftE (S.enums.map Aw.encEn))), (4, .row 3 (liftE (S.meths.map encMt)))], 6⟩
def yl6 (S : Sc) (p u : Int) (l : List Int) (q j : Nat) (m : Ms) (f : Fd) : St := ⟨ofL (ylT p u l (ylC q j f (.p (.box (encMs (dropM m j)) 0)))), ofH [(0, .row 4 [cellsSc S]), (1, .row 4 [[.p (.str S.name), .p (.slice ((S.msgs.set q (dropM m j)).map encMs)), .p (.slice (S.enums.map Aw.encEn)), .own 4]]), (4, .row 3 (liftE (S.meths.map encMt)))], 6⟩
def yl7 (S : Sc) (U : Sc) (p u : Int) (l : List Int) (q j : Nat) (m : Ms) (f : Fd) (L : List (Nat × AV)) (H : List (Nat × Blk)) (n : Nat) : St := ⟨ofL (ylT p u l (ylC q j f (.p (.box (encMs (dropM m j)) 0)) ++ L)), ofH ((0, .row 4 [cellsSc S]) :: (1, .row 4 [cellsSc U]) :: H), n⟩
def yl8 (t : Tr) (W : List (Int × List Tr)) (f : Fd) (L : List (Nat × AV)) (H : List (Nat × Blk)) (n : Nat) : St := ⟨ofL ((13, .p (.int .i64 f.tag)) :: (16, .ptr 0 0 0) :: (17, .ptr 1 0 0) :: (18, .p (.bool true)) :: L), ofH ((0, .row 5 [[.p (.int .i64 t.kind), .p (.int .i64 t.n), .p (.str t.s), .p (.slice (t.ents.map encEn)), .p (.slice (t.rest.map encRaw))]]) :: (1, .row 5 [[.p (.int .i64 3), .p (.int .i64 0), .p (.str []), .p (.slice (W.map encEn)), .p (.slice [])]]) :: H), n⟩
set_option maxRecDepth 100000 in
set_option maxHeartbeats 8000000 in
theorem law13_ProjectDrops (S : Sc) (p u : Int) (l : List Int) (B : bigS S) (hp : -9223372036854775808 ≤ p) (hp' : p ≤ 9223372036854775807) (hu : -9223372036854775808 ≤ u) (hu' : u ≤ 9223372036854775807) : PFn Tryd.prog 11 [.agg (encSc S), .int .i64 p, .int .i64 u, .slice (l.map encI)] (.bool true) := by
 have CF := law00_Few S B
 simp only [encSc] at CF
 refine PFn.of Tryd.func11 rfl (by decide) Tryd.ntmps11 Tryd.results11 (Nat.le_of_ble_eq_true rfl) ?_
 simp only [argsT]
 refine AW.rT (by rfl) fun K hK => ?_
 simp -implicitDefEqProofs only [go_sem, Nat.reduceAdd, encSc]
 refine hK _ ?_; clear hK K
 refine AW.seq ?_
 cases hf : fewB S with
 | false =>
  rw [hf] at CF
  refine AW.rT (by rfl) fun K hK => ?_
  simp -implicitDefEqProofs only [go_sem, ↓reduceIte, Nat.reduceAdd, Nat.reduceEqDiff, Nat.reduceLeDiff]
  refine ⟨.pure _, CF, ?_⟩
  try simp -implicitDefEqProofs only [go_sem, ↓reduceIte, Nat.reduceAdd, Nat.reduceEqDiff]
  refine hK _ ?_; clear hK K
  refine AW.cond _ (by simp -implicitDefEqProofs only [go_sem]; rfl) (fun hc => ?_) (fun hc => ?_)
  rotate_left
  ·simp at hc
  refine AW.rT (by rfl) fun K hK => ?_
  simp -implicitDefEqProofs only [go_sem]
  refine ⟨.pure _, law13_awake, ?_⟩
  try simp -implicitDefEqProofs only [go_sem, Nat.reduceAdd]
  refine hK _ ?_; clear hK K
  refine AW.ret ?_
  simp -implicitDefEqProofs only [go_sem]
 | true =>
 rw [hf] at CF
 have F := few_spec hf
 have L := F.lens
 have C1 := ref07_Check S L
 simp only [encSc] at C1
 by_cases h0 : checkC S = 0
 case neg =>
  have b0 : (checkC S != 0) = true := by simpa using h0
  refine AW.rT (by rfl) fun K hK => ?_
  simp -implicitDefEqProofs only [go_sem, ↓reduceIte, Nat.reduceAdd, Nat.reduceEqDiff, Nat.reduceLeDiff]
  refine ⟨.pure _, CF, ?_⟩
  try simp -implicitDefEqProofs only [go_sem, ↓reduceIte, Nat.reduceAdd, Nat.reduceEqDiff, Nat.reduceLeDiff]
  refine ⟨.pure _, C1, ?_⟩
  try simp -implicitDefEqProofs only [go_sem, ↓reduceIte, Nat.reduceAdd, Nat.reduceEqDiff, b0]
  refine hK _ ?_; clear hK K
  refine AW.cond _ (by simp -implicitDefEqProofs only [go_sem]; rfl) (fun hc => ?_) (fun hc => ?_)
  rotate_left
  ·simp at hc
  refine AW.rT (by rfl) fun K hK => ?_
  simp -implicitDefEqProofs only [go_sem]
  refine ⟨.pure _, law13_awake, ?_⟩
  try simp -implicitDefEqProofs only [go_sem, Nat.reduceAdd]
  refine hK _ ?_; clear hK K
  refine AW.ret ?_
  simp -implicitDefEqProofs only [go_sem]
 have b0 : (checkC S != 0) = false := by simp [h0]
 by_cases hl : l.length > 200
 ·have b1 : ((l.length : Int) > 200) = True := eq_true (by omega)
  refine AW.rT (by rfl) fun K hK => ?_
  simp -implicitDefEqProofs only [go_sem, ↓reduceIte, Nat.reduceAdd, Nat.reduceEqDiff, Nat.reduceLeDiff]
  refine ⟨.pure _, CF, ?_⟩
  try simp -implicitDefEqProofs only [go_sem, ↓reduceIte, Nat.reduceAdd, Nat.reduceEqDiff, Nat.reduceLeDiff]
  refine ⟨.pure _, C1, ?_⟩
  try simp -implicitDefEqProofs only [go_sem, ↓reduceIte, Nat.reduceAdd, Nat.reduceEqDiff, reduceCtorEq, b0, b1, List.length_map]
  refine hK _ ?_; clear hK K
  refine AW.cond _ (by simp -implicitDefEqProofs only [go_sem]; rfl) (fun hc => ?_) (fun hc => ?_)
  rotate_left
  ·simp at hc
  refine AW.rT (by rfl) fun K hK => ?_
  simp -implicitDefEqProofs only [go_sem]
  refine ⟨.pure _, law13_awake, ?_⟩
  try simp -implicitDefEqProofs only [go_sem, Nat.reduceAdd]
  refine hK _ ?_; clear hK K
  refine AW.ret ?_
  simp -implicitDefEqProofs only [go_sem]
 have b1 : ((l.length : Int) > 200) = False := eq_false (by omega)
 refine AW.rT (by rfl) fun K hK => ?_
 simp -implicitDefEqProofs only [go_sem, ↓reduceIte, Nat.reduceAdd, Nat.reduceEqDiff, Nat.reduceLeDiff]
 refine ⟨.pure _, CF, ?_⟩
 try simp -implicitDefEqProofs only [go_sem, ↓reduceIte, Nat.reduceAdd, Nat.reduceEqDiff, Nat.reduceLeDiff]
 refine ⟨.pure _, C1, ?_⟩
 try simp -implicitDefEqProofs only [go_sem, ↓reduceIte, Nat.reduceAdd, Nat.reduceEqDiff, reduceCtorEq, b0, b1, List.length_map]
 refine hK _ ?_; clear hK K
 refine AW.cond _ (by simp -implicitDefEqProofs only [go_sem]; rfl) (fun hc => ?_) (fun hc => ?_)
 ·simp at hc
 refine AW.skip ?_
 simp only [andThen]
 have R := right_of h0
 have hn := R.len.1
 have DS := law00_SchemaD S F
 simp only [encSc] at DS
 refine AW.rR (SeqR.ev 1 (by rfl) (by decide) ?_)
 simp -implicitDefEqProofs only [go_sem, ↓reduceIte, Nat.reduceAdd, Nat.reduceEqDiff, Nat.reduceLeDiff]
 refine SeqR.call (fun l => l) rfl (by decide) DS ⟨?_, rfl, (fun x hx => by cases hx), rfl, rfl, rfl, rfl, rfl, ?_⟩ ?_
 ·simp -implicitDefEqProofs only [go_sem, argD]
 ·simp [labsBy_lift]
 refine SeqR.ghost (s' := yl1 S p u l) ?_ ?_
 ·simp only [yl1, ylT, cellsSc]
  refine Ghost.ent (fun l => if l = 0 then 0 else l + 15) ?_ ?_ ?_ <;> simp -implicitDefEqProofs only [go_sem, ↓reduceIte, Nat.reduceAdd, Nat.reduceEqDiff, reduceCtorEq, lift2, goneU, newU, Nat.reduceSub, List.forall_mem_cons, List.not_mem_nil, false_implies, implies_true, and_self, map_renL_lift, labsIn_lift, List.all_cons, List.all_nil, Nat.reduceLT, labsInL, AV.labsIn]
  all_goals first | rfl | decide | skip
 refine SeqR.ev 2 (by rfl) (by decide) ?_
 simp only [yl1, ylT, cellsSc]
 simp -implicitDefEqProofs only [go_sem, ↓reduceIte, Nat.reduceAdd, Nat.reduceEqDiff, Nat.reduceLeDiff]
 refine SeqR.last rfl ?_
 refine AW.ghost (s' := yl2 S S.msgs p u l []) ?_ ?_
 ·simp only [yl2, ylT, cellsSc]
  refine Ghost.ent (fun l => if l = 0 then 0 else if l = 1 then 4 else l - 1) ?_ ?_ ?_ <;> simp -implicitDefEqProofs only [go_sem, ↓reduceIte, Nat.reduceEqDiff, reduceCtorEq, Nat.reduceSub, List.forall_mem_cons, List.not_mem_nil, false_implies, implies_true, and_self, map_renL_lift, labsIn_lift, List.all_cons, List.all_nil, Nat.reduceLT, labsInL, AV.labsIn]
  all_goals first | rfl | decide | skip
 simp only [yl2, ylT, cellsSc]
 have CP := Go.Aw.law00_Place p (S.msgs.length : Int) (by omega) (by have := R.len; omega) hp hp'
 have hq0 := Int.emod_nonneg p (show (S.msgs.length : Int) ≠ 0 by omega)
 have hq1 := Int.emod_lt_of_pos p (show (0 : Int) < (S.msgs.length : Int) by omega)
 obtain ⟨q, hq⟩ := Int.eq_ofNat_of_zero_le hq0
 rw [hq] at CP hq1
 obtain ⟨m, hm⟩ : ∃ m, S.msgs[q]? = some m := ⟨_, List.getElem?_eq_getElem (by omega)⟩
 have hmm := List.mem_of_getElem? hm
 have g1 := at_lift encMs hm
 simp only [encMs, List.map_cons, List.map_nil] at g1
 have b2 : (0 : Int) ≤ (q : Int) := by omega
 have b3 : (q : Int) < (S.msgs.length : Int) := by omega
 have li : (liftE (S.msgs.map encMs)).length = S.msgs.length := by rw [liftE_length, List.length_map]
 have FS := check_fit.1 h0
 have FM := fit_msgs FS hmm
 refine AW.rT (by rfl) fun K hK => ?_
 simp -implicitDefEqProofs only [go_sem, ↓reduceIte, Nat.reduceAdd, Nat.reduceEqDiff, List.length_map]
 refine ⟨.pure _, CP, ?_⟩
 try simp -implicitDefEqProofs only [go_sem, Nat.reduceAdd]
 refine hK _ ?_; clear hK K
 refine AW.rT (by rfl) fun K hK => ?_
 simp -implicitDefEqProofs only [go_sem, ↓reduceIte, Nat.reduceAdd, Nat.reduceEqDiff, reduceCtorEq, b2, b3, li]
 refine hK _ ?_; clear hK K
 refine AW.seq ?_
 by_cases hf0 : m.fields.length = 0
 ·have c0 : ((m.fields.length : Int) == 0) = true := by simp [hf0]
  refine AW.rT (by rfl) fun K hK => ?_
  simp -implicitDefEqProofs only [go_sem, ↓reduceIte, Nat.reduceAdd, reduceCtorEq, g1, c0, List.length_map]
  refine hK _ ?_; clear hK K
  refine AW.cond _ (by simp -implicitDefEqProofs only [go_sem]; rfl) (fun hc => ?_) (fun hc => ?_)
  rotate_left
  ·simp at hc
  refine AW.rT (by rfl) fun K hK => ?_
  simp -implicitDefEqProofs only [go_sem]
  refine ⟨.pure _, law13_awake, ?_⟩
  try simp -implicitDefEqProofs only [go_sem, Nat.reduceAdd]
  refine hK _ ?_; clear hK K
  refine AW.ret ?_
  simp -implicitDefEqProofs only [go_sem]
 have c0 : ((m.fields.length : Int) == 0) = false := by simp [hf0]
 refine AW.rT (by rfl) fun K hK => ?_
 simp -implicitDefEqProofs only [go_sem, ↓reduceIte, Nat.reduceAdd, reduceCtorEq, g1, c0, List.length_map]
 refine hK _ ?_; clear hK K
 refine AW.cond _ (by simp -implicitDefEqProofs only [go_sem]; rfl) (fun hc => ?_) (fun hc => ?_)
 ·simp at hc
 refine AW.skip ?_
 simp only [andThen]
 have CJ := Go.Aw.law00_Place u (m.fields.length : Int) (by omega) (by have := FM.no.1; omega) hu hu'
 have hj0 := Int.emod_nonneg u (show (m.fields.length : Int) ≠ 0 by omega)
 have hj1 := Int.emod_lt_of_pos u (show (0 : Int) < (m.fields.length : Int) by omega)
 obtain ⟨j, hj⟩ := Int.eq_ofNat_of_zero_le hj0
 rw [hj] at CJ hj1
 obtain ⟨f, hf⟩ : ∃ f, m.fields[j]? = some f := ⟨_, List.getElem?_eq_getElem (by omega)⟩
 have ⟨f1, f2, f3⟩ := at_map' encFd hf
 have f2' : (j : Int) < (m.fields.length : Int) := by omega
 refine AW.rT (by rfl) fun K hK => ?_
 simp -implicitDefEqProofs only [go_sem, ↓reduceIte, Nat.reduceAdd, Nat.reduceEqDiff, reduceCtorEq, g1, List.length_map]
 refine ⟨.pure _, CJ, ?_⟩
 try simp -implicitDefEqProofs only [go_sem, Nat.reduceAdd]
 refine hK _ ?_; clear hK K
 refine AW.rT (by rfl) fun K hK => ?_
 simp -implicitDefEqProofs only [go_sem, ↓reduceIte, Nat.reduceAdd, Nat.reduceEqDiff, reduceCtorEq, g1, f1, f2', f3, encFd, List.length_map]
 refine hK _ ?_; clear hK K
 refine AW.ghost (s' := yl2 S S.msgs p u l [(10, .p (.int .i64 (q : Int))), (11, .ptr 2 q 0), (12, .p (.int .i64 (j : Int))), (13, .p (.int .i64 f.tag))]) ?_ ?_
 ·simp only [yl2, ylT, cellsSc]
  refine Ghost.sub ?_ ?_ <;> simp -implicitDefEqProofs only [go_sem, ↓reduceIte, Nat.reduceEqDiff, reduceCtorEq, List.forall_mem_cons, List.not_mem_nil, false_implies, implies_true, and_self, labsIn_lift, List.all_cons, List.all_nil, Nat.reduceLT, labsInL, AV.labsIn]
  all_goals first | rfl | decide | skip
 simp only [yl2, ylT, cellsSc]
 refine AW.seq ?_
 refine AW.rT (by rfl) fun K hK => ?_
 simp -implicitDefEqProofs only [go_sem, Nat.reduceAdd]
 refine hK _ ?_; clear hK K
 refine AW.block ?_
 refine AW.loop (fun i : Nat => yl2 S S.msgs p u l [(10, .p (.int .i64 (q : Int))), (11, .ptr 2 q 0), (12, .p (.int .i64 (j : Int))), (13, .p (.int .i64 f.tag)), (14, .p (.int .i64 (i : Int)))]) (fun i => i ≤ S.msgs.length ∧ ∀ x ∈ S.msgs.take i, ∀ g ∈ x.fields, g.ty.kind = 7 → g.ty.name ≠ m.name) (fun i => S.msgs.length - i) 0 ?_ (by simp) fun i hi => ?_
 ·simp only [yl2, ylT, cellsSc]
  refine Ghost.sub ?_ ?_ <;> simp -implicitDefEqProofs only [go_sem, ↓reduceIte, Nat.reduceEqDiff, reduceCtorEq, List.forall_mem_cons, List.not_mem_nil, false_implies, implies_true, and_self, labsIn_lift, List.all_cons, List.all_nil, Nat.reduceLT, labsInL, AV.labsIn]
  all_goals first | rfl | decide | skip
 obtain ⟨hi, hg⟩ := hi
 have ml : S.msgs.length ≤ 1000 := by have := R.len; omega
 have w1 : IntKind.wrap .i64 ((i : Int) + 1) = ((i + 1 : Nat) : Int) := by rw [w64] <;> omega
 simp only [yl2, ylT, cellsSc]
 refine AW.seq ?_
 by_cases hil : i < S.msgs.length
 ·obtain ⟨x, hx⟩ : ∃ x, S.msgs[i]? = some x := ⟨_, List.getElem?_eq_getElem hil⟩
  have hxm := List.mem_of_getElem? hx
  have ⟨x1, x2, x3⟩ := at_map' encMs hx
  have x2' : (i : Int) < (S.msgs.length : Int) := by omega
  have hc1 : ((i : Int) < (S.msgs.length : Int)) = True := eq_true (by omega)
  have FX := fit_msgs FS hxm
  have xl := FX.no.1
  refine AW.rT (by rfl) fun K hK => ?_
  simp -implicitDefEqProofs only [go_sem, ↓reduceIte, Nat.reduceAdd, Nat.reduceEqDiff, hc1, List.length_map]
  refine hK _ ?_; clear hK K
  refine AW.cond _ (by simp -implicitDefEqProofs only [go_sem]; rfl) (fun hc => ?_) (fun hc => ?_)
  rotate_left
  ·simp at hc
  refine AW.skip ?_
  simp only [andThen]
  refine AW.seq ?_
  refine AW.block ?_
  refine AW.rT (by rfl) fun K hK => ?_
  simp -implicitDefEqProofs only [go_sem, Nat.reduceAdd]
  refine hK _ ?_; clear hK K
  refine AW.block ?_
  refine AW.loop (fun k : Nat => yl2 S S.msgs p u l [(10, .p (.int .i64 (q : Int))), (11, .ptr 2 q 0), (12, .p (.int .i64 (j : Int))), (13, .p (.int .i64 f.tag)), (14, .p (.int .i64 (i : Int))), (15, .p (.int .i64 (k : Int)))]) (fun k => k ≤ x.fields.length ∧ ∀ g ∈ x.fields.take k, g.ty.kind = 7 → g.ty.name ≠ m.name) (fun k => x.fields.length - k) 0 ?_ (by simp) fun k hk => ?_
  ·simp only [yl2, ylT, cellsSc]
   refine Ghost.sub ?_ ?_ <;> simp -implicitDefEqProofs only [go_sem, ↓reduceIte, Nat.reduceEqDiff, reduceCtorEq, List.forall_mem_cons, List.not_mem_nil, false_implies, implies_true, and_self, labsIn_lift, List.all_cons, List.all_nil, Nat.reduceLT, labsInL, AV.labsIn]
   all_goals first | rfl | decide | skip
  obtain ⟨hk, hgk⟩ := hk
  have w2 : IntKind.wrap .i64 ((k : Int) + 1) = ((k + 1 : Nat) : Int) := by rw [w64] <;> omega
  simp only [yl2, ylT, cellsSc]
  refine AW.seq ?_
  by_cases hkl : k < x.fields.length
  ·obtain ⟨y, hy⟩ : ∃ y, x.fields[k]? = some y := ⟨_, List.getElem?_eq_getElem hkl⟩
   have ⟨y1, y2, y3⟩ := at_map' encFd hy
   have y2' : (k : Int) < (x.fields.length : Int) := by omega
   have hk1 : ((k : Int) < (x.fields.length : Int)) = True := eq_true (by omega)
   refine AW.rT (by rfl) fun K hK => ?_
   simp -implicitDefEqProofs only [go_sem, ↓reduceIte, Nat.reduceAdd, Nat.reduceEqDiff, hk1, x1, x2', x3, encMs, List.length_map]
   refine hK _ ?_; clear hK K
   refine AW.cond _ (by simp -implicitDefEqProofs only [go_sem]; rfl) (fun hc => ?_) (fun hc => ?_)
   rotate_left
   ·simp at hc
   refine AW.skip ?_
   simp only [andThen]
   refine AW.seq ?_
   refine AW.block ?_
   have E := eqP_ty y.ty ⟨7, m.name⟩
   simp only [encTy] at E
   refine AW.dT mixed (by rfl) (by decide +kernel) fun K hK => ?_
   simp -implicitDefEqProofs only [go_sem, ↓reduceIte, Nat.reduceAdd, Nat.reduceEqDiff, Nat.reduceLeDiff, reduceCtorEq, x1, x2', x3, y1, y2', y3, encMs, encFd, g1, List.length_map]
   by_cases he : y.ty = ⟨7, m.name⟩
   ·rw [decide_eq_true he] at E
    refine ⟨_, E, ?_⟩
    try simp -implicitDefEqProofs only [go_sem, Nat.reduceAdd]
    refine ⟨by decide +kernel, ?_⟩
    refine hK _ ?_; clear hK K
    refine AW.cond _ (by simp -implicitDefEqProofs only [go_sem]; rfl) (fun hc => ?_) (fun hc => ?_)
    rotate_left
    ·simp at hc
    refine AW.rT (by rfl) fun K hK => ?_
    simp -implicitDefEqProofs only [go_sem]
    refine ⟨.pure _, law13_awake, ?_⟩
    try simp -implicitDefEqProofs only [go_sem, Nat.reduceAdd]
    refine hK _ ?_; clear hK K
    refine AW.ret ?_
    simp -implicitDefEqProofs only [go_sem]
   rw [decide_eq_false he] at E
   refine ⟨_, E, ?_⟩
   try simp -implicitDefEqProofs only [go_sem, Nat.reduceAdd]
   refine ⟨by decide +kernel, ?_⟩
   refine hK _ ?_; clear hK K
   refine AW.cond _ (by simp -implicitDefEqProofs only [go_sem]; rfl) (fun hc => ?_) (fun hc => ?_)
   ·simp at hc
   refine AW.skip ?_
   simp only [andThen, inBlk]
   refine AW.rE (by rfl) fun K hK => ?_
   simp -implicitDefEqProofs only [go_sem, ↓reduceIte, Nat.reduceAdd, Nat.reduceEqDiff, w2]
   refine hK _ ?_; clear hK K
   refine ⟨k + 1, ⟨by omega, ?_⟩, by omega, ?_⟩
   ·intro g hgm
    rw [List.take_add_one, hy] at hgm
    rcases List.mem_append.1 hgm with h | h
    ·exact hgk g h
    ·simp at h
     subst h
     intro k7 kn
     exact he (by cases hyt : g.ty; rw [hyt] at k7 kn; simp only at k7 kn; rw [k7, kn])
   try simp only [yl2, ylT, cellsSc, encMs, encFd]
   refine Ghost.sub ?_ ?_ <;> simp -implicitDefEqProofs only [go_sem, ↓reduceIte, Nat.reduceEqDiff, reduceCtorEq, List.forall_mem_cons, List.not_mem_nil, false_implies, implies_true, and_self, labsIn_lift, List.all_cons, List.all_nil, Nat.reduceLT, labsInL, AV.labsIn]
  have hk1 : ((k : Int) < (x.fields.length : Int)) = False := eq_false (by omega)
  refine AW.rT (by rfl) fun K hK => ?_
  simp -implicitDefEqProofs only [go_sem, ↓reduceIte, Nat.reduceAdd, Nat.reduceEqDiff, hk1, x1, x2', x3, encMs, List.length_map]
  refine hK _ ?_; clear hK K
  refine AW.cond _ (by simp -implicitDefEqProofs only [go_sem]; rfl) (fun hc => ?_) (fun hc => ?_)
  ·simp at hc
  refine AW.exit ?_
  simp only [andThen, inBlk, ↓reduceIte]
  refine AW.rE (by rfl) fun K hK => ?_
  simp -implicitDefEqProofs only [go_sem, ↓reduceIte, Nat.reduceAdd, Nat.reduceEqDiff, w1]
  refine hK _ ?_; clear hK K
  refine ⟨i + 1, ⟨by omega, ?_⟩, by omega, ?_⟩
  ·intro z hzm
   rw [List.take_add_one, hx] at hzm
   rcases List.mem_append.1 hzm with h | h
   ·exact hg z h
   ·simp at h
    subst h
    rw [List.take_of_length_le (by omega)] at hgk
    exact hgk
  try simp only [yl2, ylT, cellsSc, encMs, encFd]
  refine Ghost.sub ?_ ?_ <;> simp -implicitDefEqProofs only [go_sem, ↓reduceIte, Nat.reduceEqDiff, reduceCtorEq, List.forall_mem_cons, List.not_mem_nil, false_implies, implies_true, and_self, labsIn_lift, List.all_cons, List.all_nil, Nat.reduceLT, labsInL, AV.labsIn]
 have hc1 : ((i : Int) < (S.msgs.length : Int)) = False := eq_false (by omega)
 rw [List.take_of_length_le (by omega)] at hg
 refine AW.rT (by rfl) fun K hK => ?_
 simp -implicitDefEqProofs only [go_sem, ↓reduceIte, Nat.reduceAdd, Nat.reduceEqDiff, hc1, List.length_map]
 refine hK _ ?_; clear hK K
 refine AW.cond _ (by simp -implicitDefEqProofs only [go_sem]; rfl) (fun hc => ?_) (fun hc => ?_)
 ·simp at hc
 refine AW.exit ?_
 simp only [andThen, inBlk, ↓reduceIte]
 obtain ⟨cU, sees⟩ := drop_sees h0 hm hf hg l
 have fl := FM.no.1
 have s1 : (j : Int) ≤ (m.fields.length : Int) := by omega
 have s2 : (0 : Int) ≤ (j : Int) := by omega
 have w3 : IntKind.wrap .i64 ((j : Int) + 1) = ((j + 1 : Nat) : Int) := by rw [w64] <;> omega
 have s3 : ((j + 1 : Nat) : Int) ≤ (m.fields.length : Int) := by omega
 have s4 : (0 : Int) ≤ ((j + 1 : Nat) : Int) := by omega
 have tk : (m.fields.map encFd).take m.fields.length = m.fields.map encFd := List.take_of_length_le (by rw [List.length_map]; omega)
 have s5 : (m.fields.length : Int) ≤ (m.fields.length : Int) := by omega
 have e5 : ∀ y ∈ m.fields.map encFd, 5 = y.length := fun y hy => by
  obtain ⟨g, _, rfl⟩ := List.mem_map.1 hy
  rfl
 have e6 : ∀ L : List (List PV), (∀ y ∈ L, y ∈ m.fields.map encFd) → (∀ n ∈ liftE L, n.length = 5) ∧ (∀ n ∈ liftE L, oneAll n = true) := fun L hL => by
  constructor
  ·intro n hn
   obtain ⟨y, hy, rfl⟩ := List.mem_map.1 hn
   rw [List.length_map]
   exact (e5 y (hL y hy)).symm
  ·intro n hn
   obtain ⟨y, hy, rfl⟩ := List.mem_map.1 hn
   obtain ⟨g, _, rfl⟩ := List.mem_map.1 (hL y hy)
   simp [encFd, oneAll, AV.one, PV.one]
 refine AW.dT mixed (by rfl) (by decide +kernel) fun K hK => ?_
 simp -implicitDefEqProofs only [go_sem, ↓reduceIte, Nat.reduceAdd, Nat.reduceEqDiff, Nat.reduceLeDiff, reduceCtorEq, g1, s1, s3, s4, s5, w3, tk, List.length_map]
 have l1 : ((m.fields.map encFd).take j).length ≤ 16 := by simp; omega
 have l2 : ((m.fields.map encFd).drop (j + 1)).length ≤ 16 := by simp; omega
 obtain ⟨a1, a2⟩ := e6 ((m.fields.map encFd).take j) fun y hy => List.mem_of_mem_take hy
 obtain ⟨d1, d2⟩ := e6 ((m.fields.map encFd).drop (j + 1)) fun y hy => List.mem_of_mem_drop hy
 have la : (liftE ((m.fields.map encFd).take j)).length = ((m.fields.map encFd).take j).length := by rw [liftE_length]
 have ld : (liftE ((m.fields.map encFd).drop (j + 1))).length = ((m.fields.map encFd).drop (j + 1)).length := by rw [liftE_length]
 refine ⟨e5, by simp, ⟨by omega, s2⟩, ⟨a1, a2, fun h => h⟩, ⟨.inl trivial, by simp, by rw [la]; omega⟩, e5, by simp, ⟨d1, d2, fun h => h⟩, by rw [la, ld]; omega, by decide +kernel, ?_⟩
 refine hK _ ?_; clear hK K
 have e9 : liftE ((m.fields.map encFd).take j) ++ liftE ((m.fields.map encFd).drop (j + 1)) = liftE ((dropM m j).fields.map encFd) := by
  simp only [liftE, dropM, List.map_append, List.map_take, List.map_drop]
 have eL : ((liftE (S.msgs.map encMs)).set q [.p (.str m.name), .own 5, .p (.slice (m.res.map encI))]).all (labsInL 6) = true := by
  rw [List.all_eq_true]
  intro x hx
  rcases List.mem_or_eq_of_mem_set hx with h | h
  ·exact map_labs_lift _ _ x h
  ·subst h
   rfl
 have eT : ((liftE (S.msgs.map encMs)).set q [.p (.str m.name), .own 5, .p (.slice (m.res.map encI))]).map (fun e => e.map (thaw1 5 ((dropM m j).fields.map encFd))) = liftE ((S.msgs.set q (dropM m j)).map encMs) := by
  rw [List.map_set, thaw_lift, ← setL]
  rfl
 refine AW.ghost (s' := yl3 S p u l q j m f) ?_ ?_
 ·simp only [yl3, ylT, ylC, cellsSc]
  refine Ghost.ent (fun l => if l = 5 then 25 else l) ?_ ?_ ?_ <;> simp -implicitDefEqProofs only [go_sem, ↓reduceIte, Nat.reduceEqDiff, reduceCtorEq, e9, eL, map_renL_lift, List.map_set, renL, AV.ren, List.forall_mem_cons, List.not_mem_nil, false_implies, implies_true, and_self, map_renL_lift, labsIn_lift, List.all_cons, List.all_nil, Nat.reduceLT, labsInL, AV.labsIn]
  all_goals first | rfl | decide | skip
 refine AW.ghost (s' := yl4 S p u l q j m f) (Ghost.trans (Ghost.freeze (lb := 5) (ps := (dropM m j).fields.map encFd) rfl (unlift_liftE _)) ?_) ?_
 ·simp only [yl3, yl4, ylT, ylC, cellsSc]
  refine Ghost.sub ?_ ?_ <;> simp -implicitDefEqProofs only [go_sem, ↓reduceIte, Nat.reduceEqDiff, reduceCtorEq, thaw, thaw1, Option.map_some, List.map_cons, List.map_nil, thaw_lift, eT, List.forall_mem_cons, List.not_mem_nil, false_implies, implies_true, and_self, labsIn_lift, List.all_cons, List.all_nil, Nat.reduceLT, labsInL, AV.labsIn]
  all_goals first | rfl | decide | skip
 have ps : ((S.msgs.set q (dropM m j)).map encMs)[q]? = some (encMs (dropM m j)) := by
  rw [List.getElem?_map, List.getElem?_set, if_pos rfl, if_pos (by omega)]
  rfl
 refine AW.ghost (s' := yl5 S p u l q j m f) (Ghost.trans (Ghost.freezeP (lb := 2) (ps := (S.msgs.set q (dropM m j)).map encMs) rfl (unlift_liftE _)) ?_) ?_
 ·simp only [yl4, yl5, ylT, ylC, cellsSc]
  refine Ghost.sub ?_ ?_ <;> simp -implicitDefEqProofs only [go_sem, ↓reduceIte, Nat.reduceEqDiff, reduceCtorEq, thawP, thawP1, Option.map_some, List.map_cons, List.map_nil, thawP_lift, ps, List.forall_mem_cons, List.not_mem_nil, false_implies, implies_true, and_self, labsIn_lift, List.all_cons, List.all_nil, Nat.reduceLT, labsInL, AV.labsIn]
  all_goals first | rfl | decide | skip
 refine AW.ghost (s' := yl6 S p u l q j m f) (Ghost.trans (Ghost.freeze (lb := 3) (ps := S.enums.map Aw.encEn) rfl (unlift_liftE _)) ?_) ?_
 ·simp only [yl5, yl6, ylT, ylC, cellsSc]
  refine Ghost.sub ?_ ?_ <;> simp -implicitDefEqProofs only [go_sem, ↓reduceIte, Nat.reduceEqDiff, reduceCtorEq, thaw, thaw1, Option.map_some, List.map_cons, List.map_nil, thaw_lift, List.forall_mem_cons, List.not_mem_nil, false_implies, implies_true, and_self, labsIn_lift, List.all_cons, List.all_nil, Nat.reduceLT, labsInL, AV.labsIn]
  all_goals first | rfl | decide | skip
 refine AW.ghost (s' := yl7 S (chS S q (dropM m j)) p u l q j m f [] [] 6) (Ghost.trans (Ghost.freeze (lb := 4) (ps := S.meths.map encMt) rfl (unlift_liftE _)) ?_) ?_
 ·simp only [yl6, yl7, ylT, ylC, cellsSc, chS, List.append_nil]
  refine Ghost.sub ?_ ?_ <;> simp -implicitDefEqProofs only [go_sem, ↓reduceIte, Nat.reduceEqDiff, reduceCtorEq, thaw, thaw1, Option.map_some, List.map_cons, List.map_nil, List.forall_mem_cons, List.not_mem_nil, false_implies, implies_true, and_self, List.all_cons, List.all_nil, Nat.reduceLT, labsInL, AV.labsIn]
  all_goals first | rfl | decide | skip
 have SU : encSc (chS S q (dropM m j)) = [.str S.name, .slice ((S.msgs.set q (dropM m j)).map encMs), .slice (S.enums.map Aw.encEn), .slice (S.meths.map encMt)] := rfl
 have FT := fit_t h0 hm l
 have SZ := siz_right R
 have CT := law00_Fit S SZ (flds_all R) l (by omega) m.name (by rw [FT.ms])
 have LU : LensS (chS S q (dropM m j)) := by
  refine ⟨L.name, fun x hx => ?_, L.enums, L.meths, by show (S.msgs.set q (dropM m j)).length ≤ _; rw [List.length_set]; exact L.m, L.e, L.t⟩
  rcases mem_set (show x ∈ S.msgs.set q (dropM m j) from hx) with rfl | hx
  ·have q1 := L.msgs m hmm
   have sub := drop_sub m j
   exact ⟨q1.1, fun g hg => q1.2 g (sub.subset hg)⟩
  ·exact L.msgs x hx
 generalize hT : fitB S m.name l = t at FT CT sees
 have G := FT.good
 have C3 := law00_Tree t G.lens
 have C4 := project_Project (chS S q (dropM m j)) m.name t LU G.lens G.str
 rw [sees] at C4
 simp only at C4
 generalize hW : t.ents.filter (fun e => e.1 != f.tag) = W at C4
 have wl : W.length ≤ t.ents.length := by rw [← hW]; exact List.length_filter_le _ _
 have LW : lensT (.mk 3 0 [] W []) = true := by
  obtain ⟨l1, l2, l3⟩ := lensT_mk G.lens
  rw [lensT]
  simp only [Bool.and_eq_true, decide_eq_true_eq]
  refine ⟨by simp; omega, lensE_iff.2 fun e he => lensE_iff.1 l3 e ?_⟩
  rw [← hW] at he
  exact (List.mem_filter.1 he).1
 have C5 := same_of (ref09_Same (.mk 3 0 [] W []) (.mk 3 0 [] W []) LW) rfl
 simp only [encTr_eq t] at C3 C4 CT
 simp only [encTr_eq] at C4 C5
 rw [SU] at C4
 simp only [encSc] at CT
 generalize hU : chS S q (dropM m j) = U at *
 simp only [yl7, ylT, ylC, List.append_nil]
 have UC : cellsSc U = [.p (.str S.name), .p (.slice ((S.msgs.set q (dropM m j)).map encMs)), .p (.slice (S.enums.map Aw.encEn)), .p (.slice (S.meths.map encMt))] := by rw [← hU]; rfl
 rw [UC]
 have mu : encMs (dropM m j) = [.str m.name, .slice ((dropM m j).fields.map encFd), .slice (m.res.map encI)] := rfl
 rw [mu]
 simp only [cellsSc]
 refine AW.dT mixed (by rfl) (by decide +kernel) fun K hK => ?_
 simp -implicitDefEqProofs only [go_sem, ↓reduceIte, Nat.reduceAdd, Nat.reduceEqDiff, Nat.reduceLeDiff]
 refine ⟨.pure _, CT, ?_⟩
 try simp -implicitDefEqProofs only [go_sem, ↓reduceIte, Nat.reduceAdd, Nat.reduceEqDiff, Nat.reduceLeDiff]
 refine ⟨by decide +kernel, ?_⟩
 refine hK _ ?_; clear hK K
 refine AW.dT mixed (by rfl) (by decide +kernel) fun K hK => ?_
 simp -implicitDefEqProofs only [go_sem, ↓reduceIte, Nat.reduceAdd, Nat.reduceEqDiff, Nat.reduceLeDiff]
 refine ⟨.pure _, C3, ?_⟩
 try simp -implicitDefEqProofs only [go_sem, ↓reduceIte, Nat.reduceAdd, Nat.reduceEqDiff]
 refine ⟨.pure _, C4, ?_⟩
 try simp -implicitDefEqProofs only [go_sem, ↓reduceIte, Nat.reduceAdd, Nat.reduceEqDiff, Nat.reduceLeDiff]
 refine ⟨by decide +kernel, ?_⟩
 refine hK _ ?_; clear hK K
 refine AW.ghost (s' := yl8 t W f [] [] 2) ?_ ?_
 ·simp only [yl8]
  refine Ghost.ent (fun l => if l = 0 then 13 else 26) ?_ ?_ ?_ <;> simp -implicitDefEqProofs only [go_sem, ↓reduceIte, Nat.reduceEqDiff, reduceCtorEq, Tr.kind, Tr.n, Tr.s, Tr.ents, Tr.rest, List.forall_mem_cons, List.not_mem_nil, false_implies, implies_true, and_self, List.all_cons, List.all_nil, Nat.reduceLT, labsInL, AV.labsIn]
  all_goals first | rfl | decide | skip
 simp only [yl8]
 refine AW.rT (by rfl) fun K hK => ?_
 simp -implicitDefEqProofs only [go_sem, ↓reduceIte, Nat.reduceAdd, Nat.reduceEqDiff, Nat.reduceLeDiff]
 refine hK _ ?_; clear hK K
 refine AW.seq ?_
 refine AW.rT (by rfl) fun K hK => ?_
 simp -implicitDefEqProofs only [go_sem, Nat.reduceAdd]
 refine hK _ ?_; clear hK K
 refine AW.block ?_
 have tl := (lensT_mk G.lens).2.1
 refine AW.loop (fun i : Nat => yl8 t W f [(19, .ptr 2 0 0), (20, .p (.int .i64 (i : Int)))] [(2, .row 5 [[.p (.int .i64 3), .p (.int .i64 0), .p (.str []), .own 3, .ex []]]), (3, .row 2 (liftE (((t.ents.take i).filter fun e => e.1 != f.tag).map encEn)))] 4) (fun i => i ≤ t.ents.length) (fun i => t.ents.length - i) 0 ?_ (by simp) fun i hi => ?_
 ·refine Ghost.trans (Ghost.nilH (l := 3) (i := 0) (j := 3) (sz' := 2) rfl rfl rfl) ?_
  simp only [yl8, List.take_zero, List.filter_nil, List.map_nil]
  refine Ghost.ent (fun l => if l = 2 then 3 else if l = 3 then 6 else l) ?_ ?_ ?_ <;> simp -implicitDefEqProofs only [go_sem, ↓reduceIte, Nat.reduceEqDiff, reduceCtorEq, List.set_cons_zero, List.set_cons_succ, List.forall_mem_cons, List.not_mem_nil, false_implies, implies_true, and_self, List.all_cons, List.all_nil, Nat.reduceLT, labsInL, AV.labsIn]
  all_goals first | rfl | decide | skip
 have w4 : IntKind.wrap .i64 ((i : Int) + 1) = ((i + 1 : Nat) : Int) := by rw [w64] <;> omega
 simp only [yl8]
 refine AW.seq ?_
 by_cases hil : i < t.ents.length
 ·obtain ⟨e, he⟩ : ∃ e, t.ents[i]? = some e := ⟨_, List.getElem?_eq_getElem hil⟩
  have ⟨x1, x2, x3⟩ := at_map' encEn he
  have x2' : (i : Int) < (t.ents.length : Int) := by omega
  have hc1 : ((i : Int) < (t.ents.length : Int)) = True := eq_true x2'
  refine AW.rT (by rfl) fun K hK => ?_
  simp -implicitDefEqProofs only [go_sem, ↓reduceIte, Nat.reduceAdd, Nat.reduceEqDiff, hc1, List.length_map]
  refine hK _ ?_; clear hK K
  refine AW.cond _ (by simp -implicitDefEqProofs only [go_sem]; rfl) (fun hc => ?_) (fun hc => ?_)
  rotate_left
  ·simp at hc
  refine AW.skip ?_
  simp only [andThen]
  refine AW.seq ?_
  refine AW.block ?_
  by_cases hb : e.1 = f.tag
  ·have b1 : (e.1 != f.tag) = false := by simp [hb]
   have e7 : (t.ents.take (i + 1)).filter (fun e => e.1 != f.tag) = (t.ents.take i).filter (fun e => e.1 != f.tag) := by
    rw [List.take_add_one, he, Option.toList_some, List.filter_append, List.filter_cons, if_neg (by simp [hb]), List.filter_nil, List.append_nil]
   refine AW.rT (by rfl) fun K hK => ?_
   simp -implicitDefEqProofs only [go_sem, ↓reduceIte, Nat.reduceAdd, Nat.reduceEqDiff, x1, x2', x3, encEn, b1, List.length_map]
   refine hK _ ?_; clear hK K
   refine AW.cond _ (by simp -implicitDefEqProofs only [go_sem]; rfl) (fun hc => ?_) (fun hc => ?_)
   ·simp at hc
   refine AW.skip ?_
   simp only [andThen, inBlk]
   refine AW.rE (by rfl) fun K hK => ?_
   simp -implicitDefEqProofs only [go_sem, ↓reduceIte, Nat.reduceAdd, Nat.reduceEqDiff, w4]
   refine hK _ ?_; clear hK K
   refine ⟨i + 1, by omega, by omega, ?_⟩
   try simp only [e7]
   refine Ghost.sub ?_ ?_ <;> simp -implicitDefEqProofs only [go_sem, ↓reduceIte, Nat.reduceEqDiff, reduceCtorEq, List.forall_mem_cons, List.not_mem_nil, false_implies, implies_true, and_self, labsIn_lift, List.all_cons, List.all_nil, Nat.reduceLT, labsInL, AV.labsIn]
  have b1 : (e.1 != f.tag) = true := by simp [hb]
  have e7 : (t.ents.take (i + 1)).filter (fun e => e.1 != f.tag) = (t.ents.take i).filter (fun e => e.1 != f.tag) ++ [e] := by
   rw [List.take_add_one, he, Option.toList_some, List.filter_append, List.filter_cons, if_pos b1, List.filter_nil]
  refine AW.rT (by rfl) fun K hK => ?_
  simp -implicitDefEqProofs only [go_sem, ↓reduceIte, Nat.reduceAdd, Nat.reduceEqDiff, x1, x2', x3, encEn, b1, List.length_map]
  refine hK _ ?_; clear hK K
  refine AW.cond _ (by simp -implicitDefEqProofs only [go_sem]; rfl) (fun hc => ?_) (fun hc => ?_)
  rotate_left
  ·simp at hc
  refine AW.dE mixed (by rfl) (by decide +kernel) fun K hK => ?_
  simp -implicitDefEqProofs only [go_sem, ↓reduceIte, Nat.reduceAdd, Nat.reduceMul, Nat.reduceEqDiff, Nat.reduceLeDiff, reduceCtorEq, x1, x2', x3, encEn, List.length_map]
  have rl : (liftE (((t.ents.take i).filter fun e => e.1 != f.tag).map encEn)).length ≤ 1000 := by
   rw [liftE_length, List.length_map]
   have := List.length_filter_le (fun e : Int × List Tr => e.1 != f.tag) (t.ents.take i)
   have := List.length_take_le i t.ents
   omega
  have e8 : liftE (((t.ents.take i).filter fun e => e.1 != f.tag).map encEn) ++ [[.p (.int .i64 e.1), .p (.slice (e.2.map encTr))]] = liftE (((t.ents.take (i + 1)).filter fun e => e.1 != f.tag).map encEn) := by
   rw [e7, List.map_append]
   simp [liftE, encEn]
  refine ⟨⟨by simp, by simp [oneAll, AV.one, PV.one], fun h => h⟩, by omega, ?_⟩
  refine ⟨by decide +kernel, ?_⟩
  refine hK _ ?_; clear hK K
  simp only [andThen, inBlk]
  refine AW.rE (by rfl) fun K hK => ?_
  simp -implicitDefEqProofs only [go_sem, ↓reduceIte, Nat.reduceAdd, Nat.reduceEqDiff, w4]
  refine hK _ ?_; clear hK K
  refine ⟨i + 1, by omega, by omega, ?_⟩
  try simp only [yl8]
  rw [← e8]
  refine Ghost.ent (fun l => if l = 3 then 25 else l) ?_ ?_ ?_ <;> simp -implicitDefEqProofs only [go_sem, ↓reduceIte, Nat.reduceEqDiff, reduceCtorEq, map_renL_lift, renL, AV.ren, List.forall_mem_cons, List.not_mem_nil, false_implies, implies_true, and_self, map_renL_lift, labsIn_lift, List.all_append, List.all_cons, List.all_nil, List.map_append, Nat.reduceLT, labsInL, AV.labsIn]
  all_goals first | rfl | decide | skip
 have hc1 : ((i : Int) < (t.ents.length : Int)) = False := eq_false (by omega)
 rw [List.take_of_length_le (by omega), hW]
 refine AW.rT (by rfl) fun K hK => ?_
 simp -implicitDefEqProofs only [go_sem, ↓reduceIte, Nat.reduceAdd, Nat.reduceEqDiff, hc1, List.length_map]
 refine hK _ ?_; clear hK K
 refine AW.cond _ (by simp -implicitDefEqProofs only [go_sem]; rfl) (fun hc => ?_) (fun hc => ?_)
 ·simp at hc
 refine AW.exit ?_
 simp only [andThen, inBlk, ↓reduceIte]
 refine AW.ghost (s' := yl8 t W f [(19, .ptr 2 0 0)] [(2, .row 5 [[.p (.int .i64 3), .p (.int .i64 0), .p (.str []), .p (.slice (W.map encEn)), .ex []]])] 4) (Ghost.trans (Ghost.freeze (lb := 3) (ps := W.map encEn) rfl (unlift_liftE _)) ?_) ?_
 ·simp only [yl8]
  refine Ghost.sub ?_ ?_ <;> simp -implicitDefEqProofs only [go_sem, ↓reduceIte, Nat.reduceEqDiff, reduceCtorEq, thaw, thaw1, Option.map_some, List.map_cons, List.map_nil, List.forall_mem_cons, List.not_mem_nil, false_implies, implies_true, and_self, List.all_cons, List.all_nil, Nat.reduceLT, labsInL, AV.labsIn]
  all_goals first | rfl | decide | skip
 refine AW.ghost (s' := yl8 t W f [(19, .ptr 2 0 0)] [(2, .row 5 [[.p (.int .i64 3), .p (.int .i64 0), .p (.str []), .p (.slice (W.map encEn)), .p (.slice [])]])] 4) (Ghost.trans (Ghost.exH (l := 2) (i := 0) (j := 4) rfl rfl rfl) ?_) ?_
 ·simp only [yl8]
  refine Ghost.sub ?_ ?_ <;> simp -implicitDefEqProofs only [go_sem, ↓reduceIte, Nat.reduceEqDiff, reduceCtorEq, List.set_cons_zero, List.set_cons_succ, List.forall_mem_cons, List.not_mem_nil, false_implies, implies_true, and_self, List.all_cons, List.all_nil, Nat.reduceLT, labsInL, AV.labsIn]
  all_goals first | rfl | decide | skip
 simp only [yl8]
 simp only [Tr.kind, Tr.n, Tr.s, Tr.ents, Tr.rest, List.map_nil] at C5
 refine AW.rT (by rfl) fun K hK => ?_
 simp -implicitDefEqProofs only [go_sem, ↓reduceIte, Nat.reduceAdd, Nat.reduceEqDiff, Nat.reduceLeDiff, reduceCtorEq]
 refine ⟨.pure _, C5, ?_⟩
 try simp -implicitDefEqProofs only [go_sem, ↓reduceIte, Nat.reduceAdd, Nat.reduceEqDiff]
 refine ⟨.pure _, law13_awake, ?_⟩
 try simp -implicitDefEqProofs only [go_sem, ↓reduceIte, Nat.reduceAdd, Nat.reduceEqDiff]
 refine hK _ ?_; clear hK K
 refine AW.ret ?_
 simp -implicitDefEqProofs only [go_sem]
end Go.Aw.T
namespace Go.Aw.T
open Go.RowKit Go.ChangeShapes
open Go.Proofs
variable {P : Program} {w : World}
def OpnB (B : Nat → Prop) (P : Program) (w : World) (t : TypeId) {α : Type} (e : α → List PV) (G : α → Prop) : Prop :=
 (∀ a, ∀ p ∈ e a, p.one = true) ∧ ∀ (H : Type) (enc : TypeId × Value → H) (fuel : Nat), B fuel → ∀ (cs : List Value) (d : DataW H × List MemPlace), DataW.trod enc P w 0 (fun _ => true) true fuel t cs = some d →
  ∃ a, G a ∧ cs.length = (e a).length ∧ ∀ (j : Nat) u p, cs[j]? = some u → (e a)[j]? = some p → rep w (old w) u p
theorem OpnB.mono {B B' : Nat → Prop} {t : TypeId} {α : Type} {e : α → List PV} {G : α → Prop} (h : OpnB B P w t e G) (hb : ∀ n, B' n → B n) : OpnB B' P w t e G := ⟨h.1, fun H enc fuel hB cs d hd => h.2 H enc fuel (hb _ hB) cs d hd⟩
end Go.Aw.T
namespace Go.Aw.T
open Go.Proofs Go.RowKit Go.ChangeShapes
end Go.Aw.T
