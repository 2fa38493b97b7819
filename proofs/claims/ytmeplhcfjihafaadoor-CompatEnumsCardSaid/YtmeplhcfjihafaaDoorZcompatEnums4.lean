/- What the law LawCompatEnums leans on, joined (part 4). -/
import Derived.Test.YtmeplhcfjihafaaDoorZcompatEnums3
set_option linter.unusedSimpArgs false
set_option linter.unusedVariables false
namespace Go.Aw
open Go.Proofs Go.RowKit
set_option linter.unusedSimpArgs false
set_option linter.unusedVariables false
def fitsE (S U : Sc) (y z : Ty) : Bool := (firstP (fun x => x.name == y.name) zEn S.enums).2 && ((firstP (fun x => x.name == z.name) zEn U.enums).2 && (firstP (fun x => x.name == y.name) zEn S.enums).1.vals.all fun v => (firstP (fun x => x.name == z.name) zEn U.enums).1.vals.contains v)
def fitsB (S U : Sc) (y z : Ty) : Bool := if y.kind = 1 ∧ z.kind = 2 then true else if y.kind ≠ z.kind then false else if y.kind ≠ 6 then true else fitsE S U y z
end Go.Aw
namespace Go.Aw
open Go.Proofs Go.RowKit
set_option linter.unusedSimpArgs false
set_option linter.unusedVariables false
set_option maxRecDepth 100000 in
theorem law00_Place (p n : Int) (hn : 0 < n) (hb : n ≤ 9223372036854775807) (hp : -9223372036854775808 ≤ p) (hq : p ≤ 9223372036854775807) : PFn Tryd.prog 25 [.int .i64 p, .int .i64 n] (.int .i64 (p % n)) := by
 refine PFn.of Tryd.func25 rfl (by decide) Tryd.ntmps25 Tryd.results25 (Nat.le_of_ble_eq_true rfl) ?_
 simp only [argsT]
 have z : (n = 0) = False := eq_false (by omega)
 have hm := Int.emod_nonneg p (show n ≠ 0 by omega)
 have hm2 := Int.emod_lt_of_pos p hn
 refine AW.rT (by rfl) fun K hK => ?_
 simp -implicitDefEqProofs only [go_sem, ↓reduceIte, Nat.reduceAdd, Nat.reduceMul, Nat.reduceEqDiff, Nat.reduceLeDiff, reduceCtorEq, Int.reduceToNat]
 refine hK _ ?_; clear hK K
 refine AW.rT (by rfl) fun K hK => ?_
 simp -implicitDefEqProofs only [go_sem, ↓reduceIte, Nat.reduceAdd, Nat.reduceMul, Nat.reduceEqDiff, Nat.reduceLeDiff, reduceCtorEq, Int.reduceToNat, z]
 refine hK _ ?_; clear hK K
 refine AW.seq ?_
 have ht : p.tmod n = if 0 ≤ p ∨ p % n = 0 then p % n else p % n - n := by
  rw [Int.tmod_eq_emod]
  have hd : n ∣ p ↔ p % n = 0 := Int.dvd_iff_emod_eq_zero
  have hna : (n.natAbs : Int) = n := by omega
  by_cases h : 0 ≤ p ∨ n ∣ p
  ·rw [if_pos h, if_pos (by rcases h with h | h; exact .inl h; exact .inr (hd.1 h))]; simp
  ·rw [if_neg h, if_neg (by intro h'; apply h; rcases h' with h' | h'; exact .inl h'; exact .inr (hd.2 h')), hna]
 by_cases h : p.tmod n < 0
 ·have f1 : (p.tmod n < 0) = True := eq_true h
  have e : IntKind.wrap .i64 (p.tmod n + n) = p % n := by
   rw [w64]
   all_goals
    split at ht <;> omega
  refine AW.rT (by rfl) fun K hK => ?_
  simp -implicitDefEqProofs only [go_sem, ↓reduceIte, Nat.reduceAdd, Nat.reduceMul, Nat.reduceEqDiff, Nat.reduceLeDiff, reduceCtorEq, Int.reduceToNat, f1]
  refine hK _ ?_; clear hK K
  refine AW.cond _ (by simp -implicitDefEqProofs only [go_sem, ↓reduceIte, Nat.reduceAdd, Nat.reduceMul, Nat.reduceEqDiff, Nat.reduceLeDiff, reduceCtorEq, Int.reduceToNat]; rfl) (fun hc => ?_) (fun hc => ?_)
  rotate_left
  ·simp at hc
  refine AW.rE (by rfl) fun K hK => ?_
  simp -implicitDefEqProofs only [go_sem, ↓reduceIte, Nat.reduceAdd, Nat.reduceMul, Nat.reduceEqDiff, Nat.reduceLeDiff, reduceCtorEq, Int.reduceToNat, e]
  refine hK _ ?_; clear hK K
  simp only [andThen, inBlk, reduceCtorEq, ↓reduceIte, if_t, if_f]
  refine AW.rT (by rfl) fun K hK => ?_
  simp -implicitDefEqProofs only [go_sem, ↓reduceIte, Nat.reduceAdd, Nat.reduceMul, Nat.reduceEqDiff, Nat.reduceLeDiff, reduceCtorEq, Int.reduceToNat]
  refine hK _ ?_; clear hK K
  refine AW.ret ?_
  simp -implicitDefEqProofs only [go_sem, ↓reduceIte, Nat.reduceAdd, Nat.reduceMul, Nat.reduceEqDiff, Nat.reduceLeDiff, reduceCtorEq, Int.reduceToNat]
 ·have f1 : (p.tmod n < 0) = False := eq_false h
  have e : p.tmod n = p % n := by
   split at ht <;> omega
  refine AW.rT (by rfl) fun K hK => ?_
  simp -implicitDefEqProofs only [go_sem, ↓reduceIte, Nat.reduceAdd, Nat.reduceMul, Nat.reduceEqDiff, Nat.reduceLeDiff, reduceCtorEq, Int.reduceToNat, f1]
  refine hK _ ?_; clear hK K
  refine AW.cond _ (by simp -implicitDefEqProofs only [go_sem, ↓reduceIte, Nat.reduceAdd, Nat.reduceMul, Nat.reduceEqDiff, Nat.reduceLeDiff, reduceCtorEq, Int.reduceToNat]; rfl) (fun hc => ?_) (fun hc => ?_)
  ·simp at hc
  refine AW.skip ?_
  simp only [andThen, inBlk, reduceCtorEq, ↓reduceIte, if_t, if_f]
  refine AW.rT (by rfl) fun K hK => ?_
  simp -implicitDefEqProofs only [go_sem, ↓reduceIte, Nat.reduceAdd, Nat.reduceMul, Nat.reduceEqDiff, Nat.reduceLeDiff, reduceCtorEq, Int.reduceToNat]
  refine hK _ ?_; clear hK K
  refine AW.ret ?_
  simp -implicitDefEqProofs only [go_sem, ↓reduceIte, Nat.reduceAdd, Nat.reduceMul, Nat.reduceEqDiff, Nat.reduceLeDiff, reduceCtorEq, Int.reduceToNat, e]
def fdFew (f : Fd) : Bool := decide (f.name.length ≤ 200 ∧ f.ty.name.length ≤ 200)
def msFew (m : Ms) : Bool := decide (m.fields.length ≤ 20 ∧ m.res.length ≤ 40) && m.fields.all fdFew
def nmFew (v : Nm) : Bool := decide (v.name.length ≤ 200)
def enFew (e : En) : Bool := decide (e.name.length ≤ 200 ∧ e.vals.length ≤ 24) && e.vals.all nmFew
def mtFew (t : Mt) : Bool := decide (t.name.length ≤ 200 ∧ t.inn.length ≤ 200 ∧ t.out.length ≤ 200)
def totN (S : Sc) (k : Nat) : Nat := S.name.length + ((S.msgs.take k).map fun m => m.name.length).sum
def fewB (S : Sc) : Bool := (S.msgs.take 20).all msFew && ((S.enums.take 20).all enFew && ((S.meths.take 20).all mtFew && decide (totN S 20 < 3000 ∧ S.msgs.length ≤ 14 ∧ S.enums.length ≤ 10 ∧ S.meths.length ≤ 10)))
end Go.Aw
namespace Go.Aw
set_option linter.unusedSimpArgs false
set_option linter.unusedVariables false
theorem Ghost.nilH {nt : Fm} {s : St} {l i j sz sz' : Nat} {es : List (List AV)} {e : List AV} (hl : s.H l = some (.row sz es)) (hi : es[i]? = some e) (hj : e[j]? = some (.ex [])) :
  Ghost nt s ⟨s.T, upd (upd s.H l (some (.row sz (es.set i (e.set j (.own s.nx)))))) s.nx (some (.row sz' [])), s.nx + 1⟩ := by
 rintro w0 X I0 a w ⟨σ, I, hσ, m⟩
 have hb := m.heap.rows l _ hl
 cases hb with
 | emp h => simp at hi
 | row h hg hcur hc hs ho hr =>
  rename_i g c cur et
  obtain ⟨u, hu, hru⟩ := hr i e j _ hi hj
  have hnx := hσ s.nx (Nat.le_refl _)
  have hln : l ≠ s.nx := by rintro rfl; rw [hnx] at h; cases h
  cases hru with
  | ex he hrep =>
   rename_i ad n
   subst he
   have ext : ∀ l' s', σ l' = some s' → upd σ s.nx (some (.emp ad)) l' = some s' := fun l' s' h' => by
    rw [upd_ne _ _ (by rintro rfl; rw [hnx] at h'; cases h')]
    exact h'
   have H2 := m.heap.empty hnx ad sz'
   refine ⟨upd σ s.nx (some (.emp ad)), I, fun l' h' => ?_, m.defers, m.size, m.pins, ⟨fun l' b' h' => ?_, fun l1 l2 g s1 s2 h1 h2 => ?_, fun l' g s' h1 => ?_, H2.imm, H2.sub, H2.fr⟩, fun i' x hx => ?_⟩
   ·simp only at h'
    rw [upd_ne _ _ (by omega)]
    exact hσ l' (by omega)
   ·simp only at h'
    by_cases e1 : l' = s.nx
    ·subst e1
     rw [upd_same] at h'
     exact H2.rows s.nx b' (by rw [upd_same]; exact h')
    ·rw [upd_ne _ _ e1] at h'
     by_cases e2 : l' = l
     ·subst e2
      rw [upd_same] at h'
      injection h' with h'
      subst h'
      refine .row (by rw [List.length_set]; exact ext _ _ h) hg hcur (by rw [List.length_set]; exact hc) (fun e' he' => ?_) (fun e' he' x hx => ?_) fun i' e' j' x q1 q2 => ?_
      ·rcases List.mem_or_eq_of_mem_set he' with he' | rfl
       ·exact hs e' he'
       ·rw [List.length_set]; exact hs e (List.mem_of_getElem? hi)
      ·rcases List.mem_or_eq_of_mem_set he' with he' | rfl
       ·exact ho e' he' x hx
       ·rcases List.mem_or_eq_of_mem_set hx with hx | rfl
        ·exact ho e (List.mem_of_getElem? hi) x hx
        ·rfl
      ·rw [List.getElem?_set] at q1
       split at q1
       ·rename_i e3
        subst e3
        split at q1
        ·injection q1 with q1
         subst q1
         rw [List.getElem?_set] at q2
         split at q2
         ·rename_i e4
          subst e4
          split at q2
          ·injection q2 with q2
           subst q2
           exact ⟨_, hu, .ownE (upd_same _ _ _)⟩
          ·cases q2
         ·obtain ⟨u', hu', hr'⟩ := hr i e j' x hi q2
          exact ⟨u', hu', hr'.mono ext (fun _ h => h) (fun _ _ => rfl)⟩
        ·cases q1
       ·obtain ⟨u', hu', hr'⟩ := hr i' e' j' x q1 q2
        exact ⟨u', hu', hr'.mono ext (fun _ h => h) (fun _ _ => rfl)⟩
     ·rw [upd_ne _ _ e2] at h'
      exact H2.rows l' b' (by rw [upd_ne _ _ e1]; exact h')
   ·refine H2.inj l1 l2 g s1 s2 ?_ ?_
    ·intro h0; apply h1
     show upd (upd s.H l _) s.nx _ l1 = none
     by_cases e1 : l1 = s.nx
     ·subst e1; rw [upd_same] at h0; cases h0
     ·rw [upd_ne _ _ e1] at h0 ⊢
      by_cases e2 : l1 = l
      ·subst e2; rw [hl] at h0; cases h0
      ·rw [upd_ne _ _ e2]; exact h0
    ·intro h0; apply h2
     show upd (upd s.H l _) s.nx _ l2 = none
     by_cases e1 : l2 = s.nx
     ·subst e1; rw [upd_same] at h0; cases h0
     ·rw [upd_ne _ _ e1] at h0 ⊢
      by_cases e2 : l2 = l
      ·subst e2; rw [hl] at h0; cases h0
      ·rw [upd_ne _ _ e2]; exact h0
   ·refine H2.mine l' g s' ?_
    intro h0; apply h1
    show upd (upd s.H l _) s.nx _ l' = none
    by_cases e1 : l' = s.nx
    ·subst e1; rw [upd_same] at h0; cases h0
    ·rw [upd_ne _ _ e1] at h0 ⊢
     by_cases e2 : l' = l
     ·subst e2; rw [hl] at h0; cases h0
     ·rw [upd_ne _ _ e2]; exact h0
   ·obtain ⟨v, hv, hrv⟩ := m.tmps i' x hx
    exact ⟨v, hv, hrv.mono ext (fun _ h => h) (fun _ _ => rfl)⟩
theorem thaw_lift (lb : Nat) (qs ps : List (List PV)) : (liftE ps).map (fun e => e.map (thaw1 lb qs)) = liftE ps := by
 simp [liftE, thaw1]
end Go.Aw
namespace Go.Aw
open Go.Proofs Go.RowKit
set_option linter.unusedSimpArgs false
set_option linter.unusedVariables false
structure FewM (m : Ms) : Prop where
 name : m.name.length < 3000
 fields : m.fields.length ≤ 20
 res : m.res.length ≤ 40
 fd : ∀ f ∈ m.fields, f.name.length ≤ 200 ∧ f.ty.name.length ≤ 200
structure FewE (e : En) : Prop where
 name : e.name.length ≤ 200
 vals : e.vals.length ≤ 24
 nm : ∀ v ∈ e.vals, v.name.length ≤ 200
structure FewS (S : Sc) : Prop where
 name : S.name.length < 3000
 msgs : S.msgs.length ≤ 14
 enums : S.enums.length ≤ 10
 meths : S.meths.length ≤ 10
 ms : ∀ m ∈ S.msgs, FewM m
 en : ∀ e ∈ S.enums, FewE e
 mt : ∀ t ∈ S.meths, t.name.length ≤ 200 ∧ t.inn.length ≤ 200 ∧ t.out.length ≤ 200
theorem le_sum {l : List Ms} {m : Ms} (h : m ∈ l) : m.name.length ≤ (l.map fun m => m.name.length).sum := by
 induction l with
 | nil => cases h
 | cons a l ih =>
  rw [List.map_cons, List.sum_cons]
  rcases List.mem_cons.1 h with rfl | h
  ·omega
  ·have := ih h; omega
theorem few_spec {S : Sc} (h : fewB S = true) : FewS S := by
 unfold fewB at h
 simp only [Bool.and_eq_true, decide_eq_true_eq] at h
 obtain ⟨h1, h2, h3, h4, h5, h6, h7⟩ := h
 rw [List.take_of_length_le (by omega)] at h1 h2 h3
 unfold totN at h4
 rw [List.take_of_length_le (by omega)] at h4
 refine ⟨by omega, h5, h6, h7, fun m hm => ?_, fun e he => ?_, fun t ht => ?_⟩
 ·have q := List.all_eq_true.1 h1 m hm
  unfold msFew at q
  simp only [Bool.and_eq_true, decide_eq_true_eq] at q
  have := le_sum hm
  exact ⟨by omega, q.1.1, q.1.2, fun f hf => by have := List.all_eq_true.1 q.2 f hf; simpa [fdFew] using this⟩
 ·have q := List.all_eq_true.1 h2 e he
  unfold enFew at q
  simp only [Bool.and_eq_true, decide_eq_true_eq] at q
  exact ⟨q.1.1, q.1.2, fun f hf => by have := List.all_eq_true.1 q.2 f hf; simpa [nmFew] using this⟩
 ·have q := List.all_eq_true.1 h3 t ht
  simpa [mtFew] using q
theorem FewS.lens {S : Sc} (h : FewS S) : LensS S := by
 refine ⟨by have := h.name; omega, fun m hm => ⟨by have := (h.ms m hm).name; omega, fun f hf => by have := ((h.ms m hm).fd f hf).1; omega⟩, fun e he => ⟨by have := (h.en e he).name; omega, fun v hv => by have := (h.en e he).nm v hv; omega⟩, fun t ht => by have := (h.mt t ht).1; omega, by have := h.msgs; omega, by have := h.enums; omega, by have := h.meths; omega⟩
end Go.Aw
namespace Go.Aw
open Go.Proofs Go.RowKit
set_option linter.unusedSimpArgs false
set_option linter.unusedVariables false
theorem lens_few {S : Sc} (h : fewB S = true) : LensS S := (few_spec h).lens
end Go.Aw
namespace Go.Aw
open Go.Proofs Go.RowKit
set_option linter.unusedSimpArgs false
set_option linter.unusedVariables false
theorem msgsC_zero {S : Sc} {K : List (List UInt8) → Int} : ∀ {l : List Ms} {ns : List (List UInt8)}, msgsC S K ns l = 0 → (∀ (i : Nat) m, l[i]? = some m → msgC S (ns ++ (l.take i).map Ms.name) m = 0) ∧ K (ns ++ l.map Ms.name) = 0
 | [], ns, h => ⟨fun i m hm => by simp at hm, by simpa [msgsC] using h⟩
 | a :: l, ns, h => by
  rw [msgsC] at h
  split at h
  ·rename_i h0
   obtain ⟨h1, h2⟩ := msgsC_zero h
   refine ⟨fun i m hm => ?_, by simpa [List.append_assoc] using h2⟩
   cases i with
   | zero => simp at hm; subst hm; simpa using h0
   | succ i => have := h1 i m (by simpa using hm); simpa [List.append_assoc] using this
  ·rename_i h0; exact absurd h h0
theorem enumsC_zero : ∀ {l : List En} {ns : List (List UInt8)}, enumsC ns l = 0 → ∀ (i : Nat) m, l[i]? = some m → enumC (ns ++ (l.take i).map En.name) m = 0
 | [], ns, h, i, m, hm => by simp at hm
 | a :: l, ns, h, i, m, hm => by
  rw [enumsC] at h
  split at h
  ·rename_i h0
   have h1 := enumsC_zero h
   cases i with
   | zero => simp at hm; subst hm; simpa using h0
   | succ i => have := h1 i m (by simpa using hm); simpa [List.append_assoc] using this
  ·rename_i h0; exact absurd h h0
theorem methsC_zero {S : Sc} : ∀ {l : List Mt} {ns : List (List UInt8)}, methsC S ns l = 0 → ∀ (i : Nat) m, l[i]? = some m → takesB (ns ++ (l.take i).map Mt.name) m.name = true ∧ hasM S m.inn = true ∧ hasM S m.out = true
 | [], ns, h, i, m, hm => by simp at hm
 | a :: l, ns, h, i, m, hm => by
  rw [methsC] at h
  split at h
  ·rename_i h0
   split at h
   ·rename_i h2
    have h1 := methsC_zero h
    cases i with
    | zero =>
     simp at hm; subst hm
     simp only [Bool.and_eq_true] at h2
     exact ⟨by simpa using h0, h2⟩
    | succ i => have := h1 i m (by simpa using hm); simpa [List.append_assoc] using this
   ·cases h
  ·cases h
theorem fldsC_zero {S : Sc} : ∀ {l : List Fd} {ns : List (List UInt8)} {us : List Int}, fldsC S ns us l = 0 → ∀ (i : Nat) f, l[i]? = some f → takesB (ns ++ (l.take i).map Fd.name) f.name = true ∧ tagB f.tag = true ∧ (us ++ (l.take i).map Fd.tag).contains f.tag = false ∧ fieldB S f = true
 | [], ns, us, h, i, f, hf => by simp at hf
 | a :: l, ns, us, h, i, f, hf => by
  rw [fldsC] at h
  split at h
  ·rename_i h0
   split at h
   ·rename_i h2
    split at h
    ·rename_i h3
     have h1 := fldsC_zero h
     cases i with
     | zero =>
      simp at hf; subst hf
      simp only [Bool.and_eq_true, Bool.not_eq_true'] at h2
      exact ⟨by simpa using h0, h2.1, by simpa using h2.2, h3⟩
     | succ i => have := h1 i f (by simpa using hf); simpa [List.append_assoc] using this
    ·cases h
   ·cases h
  ·cases h
theorem contains_apart {α : Type} {f : α → List UInt8} {l : List α} {k : List UInt8} (h : (l.map f).contains k = false) : l.all (fun x => !(f x == k)) = true := by
 rw [List.all_eq_true]
 intro x hx
 rw [contains_any, List.any_map] at h
 have := List.any_eq_false.1 h x hx
 simp at this ⊢
 intro e
 exact this e.symm
theorem contains_apartI {α : Type} {f : α → Int} {l : List α} {k : Int} (h : (l.map f).contains k = false) : l.all (fun x => !(f x == k)) = true := by
 rw [List.all_eq_true]
 intro x hx
 rw [contains_any, List.any_map] at h
 have := List.any_eq_false.1 h x hx
 simp at this ⊢
 intro e
 exact this e.symm
theorem contains_app {α : Type} [BEq α] {a b : List α} {k : α} (h : (a ++ b).contains k = false) : a.contains k = false ∧ b.contains k = false := by
 rw [contains_any, List.any_append, Bool.or_eq_false_iff] at h
 exact ⟨by rw [contains_any]; exact h.1, by rw [contains_any]; exact h.2⟩
structure RightS (S : Sc) : Prop where
 msg : ∀ (i : Nat) m, S.msgs[i]? = some m → firstP (fun x => x.name == m.name) zMs S.msgs = (m, true) ∧ firstP (fun x => x.name == m.name) zEn S.enums = (zEn, false) ∧ nameB m.name = true
 enum : ∀ (i : Nat) m, S.enums[i]? = some m → firstP (fun x => x.name == m.name) zEn S.enums = (m, true)
 meth : ∀ (i : Nat) m, S.meths[i]? = some m → firstP (fun x => x.name == m.name) zMt S.meths = (m, true) ∧ hasM S m.inn = true ∧ hasM S m.out = true
 fld : ∀ m ∈ S.msgs, ∀ (i : Nat) f, m.fields[i]? = some f → firstP (fun x => x.tag == f.tag) zFd m.fields = (f, true) ∧ m.res.contains f.tag = false ∧ fieldB S f = true ∧ tagB f.tag = true ∧ nameB f.name = true
 res : ∀ m ∈ S.msgs, ∀ t ∈ m.res, firstP (fun x => x.tag == t) zFd m.fields = (zFd, false)
 no : ∀ m ∈ S.msgs, m.fields.length ≤ 16 ∧ m.res.length ≤ 32
 len : S.msgs.length ≠ 0 ∧ S.msgs.length ≤ 10 ∧ S.enums.length ≤ 6 ∧ S.meths.length ≤ 6
theorem right_of {S : Sc} (h : checkC S = 0) : RightS S := by
 unfold checkC at h
 split at h
 case isFalse => cases h
 split at h
 ·cases h
 rename_i hl0
 split at h
 ·cases h
 rename_i hl1
 split at h
 case isFalse h0 => exact absurd h h0
 rename_i h0
 obtain ⟨h1, h2⟩ := msgsC_zero h0
 have h3 := enumsC_zero h2
 have h4 := methsC_zero h
 have mz : ∀ (i : Nat) m, S.msgs[i]? = some m → takesB ((S.msgs.take i).map Ms.name) m.name = true ∧ bodyC S m = 0 := fun i m hm => by
  have := h1 i m hm
  unfold msgC at this
  rw [List.nil_append] at this
  split at this
  ·rename_i q; exact ⟨q, this⟩
  ·cases this
 have ez : ∀ (i : Nat) m, S.enums[i]? = some m → takesB (S.msgs.map Ms.name ++ (S.enums.take i).map En.name) m.name = true := fun i m hm => by
  have := h3 i m hm
  unfold enumC at this
  rw [List.nil_append] at this
  split at this
  ·rename_i q; exact q
  ·cases this
 have tk : ∀ {ns : List (List UInt8)} {k : List UInt8}, takesB ns k = true → ns.contains k = false ∧ nameB k = true := fun q => by
  unfold takesB at q
  simp only [Bool.and_eq_true, Bool.not_eq_true'] at q
  exact ⟨q.2, q.1⟩
 have bz : ∀ m ∈ S.msgs, (m.fields.length ≤ 16 ∧ m.res.length ≤ 32) ∧ fldsC S [] m.res m.fields = 0 := fun m hm => by
  obtain ⟨i, hi⟩ := List.getElem?_of_mem hm
  have q := (mz i m hi).2
  unfold bodyC at q
  split at q
  ·cases q
  rename_i q1
  split at q
  ·cases q
  ·exact ⟨by omega, q⟩
 have fz : ∀ m ∈ S.msgs, ∀ (i : Nat) f, m.fields[i]? = some f → takesB ((m.fields.take i).map Fd.name) f.name = true ∧ tagB f.tag = true ∧ (m.res ++ (m.fields.take i).map Fd.tag).contains f.tag = false ∧ fieldB S f = true := fun m hm i f hf => by
  have := fldsC_zero (bz m hm).2 i f hf
  rwa [List.nil_append] at this
 refine ⟨fun i m hm => ?_, fun i m hm => ?_, fun i m hm => ?_, fun m hm i f hf => ?_, fun m hm t ht => ?_, fun m hm => (bz m hm).1, ⟨hl0, by omega⟩⟩
 ·refine ⟨first_at hm (contains_apart (tk (mz i m hm).1).1) (by simp), first_not ?_, (tk (mz i m hm).1).2⟩
  rw [List.all_eq_true]
  intro e he
  obtain ⟨j, hj⟩ := List.getElem?_of_mem he
  have q := (contains_app (tk (ez j e hj)).1).1
  have q' := List.all_eq_true.1 (contains_apart q) m (List.mem_of_getElem? hm)
  simp at q' ⊢
  intro e'
  exact q' e'.symm
 ·exact first_at hm (contains_apart (contains_app (tk (ez i m hm)).1).2) (by simp)
 ·have q := h4 i m hm
  rw [List.nil_append] at q
  exact ⟨first_at hm (contains_apart (tk q.1).1) (by simp), q.2⟩
 ·obtain ⟨q1, q2, q3, q4⟩ := fz m hm i f hf
  exact ⟨first_at hf (contains_apartI (contains_app q3).2) (by simp), (contains_app q3).1, q4, q2, (tk q1).2⟩
 ·refine first_not ?_
  rw [List.all_eq_true]
  intro f hf
  obtain ⟨j, hj⟩ := List.getElem?_of_mem hf
  have q := (contains_app (fz m hm j f hj).2.2.1).1
  have : f.tag ≠ t := by
   intro e
   rw [e] at q
   have : m.res.contains t = true := by rw [List.contains_iff_mem]; exact ht
   rw [this] at q
   cases q
  simpa using this
end Go.Aw
namespace Go.Aw
open Go.Proofs Go.RowKit
set_option linter.unusedSimpArgs false
set_option linter.unusedVariables false
theorem msgsC_back {S : Sc} {K : List (List UInt8) → Int} : ∀ {l : List Ms} {ns : List (List UInt8)}, (∀ (i : Nat) m, l[i]? = some m → msgC S (ns ++ (l.take i).map Ms.name) m = 0) → K (ns ++ l.map Ms.name) = 0 → msgsC S K ns l = 0
 | [], ns, _, h => by simpa [msgsC] using h
 | a :: l, ns, h1, h2 => by
  have h0 := h1 0 a rfl
  rw [msgsC, if_pos (by simpa using h0)]
  exact msgsC_back (fun i m hm => by have := h1 (i + 1) m (by simpa using hm); simpa [List.append_assoc] using this) (by simpa [List.append_assoc] using h2)
theorem enumsC_back : ∀ {l : List En} {ns : List (List UInt8)}, (∀ (i : Nat) m, l[i]? = some m → enumC (ns ++ (l.take i).map En.name) m = 0) → enumsC ns l = 0
 | [], ns, _ => rfl
 | a :: l, ns, h1 => by
  have h0 := h1 0 a rfl
  rw [enumsC, if_pos (by simpa using h0)]
  exact enumsC_back (fun i m hm => by have := h1 (i + 1) m (by simpa using hm); simpa [List.append_assoc] using this)
theorem methsC_back {S : Sc} : ∀ {l : List Mt} {ns : List (List UInt8)}, (∀ (i : Nat) m, l[i]? = some m → takesB (ns ++ (l.take i).map Mt.name) m.name = true ∧ hasM S m.inn = true ∧ hasM S m.out = true) → methsC S ns l = 0
 | [], ns, _ => rfl
 | a :: l, ns, h1 => by
  obtain ⟨q1, q2, q3⟩ := h1 0 a rfl
  rw [methsC, if_pos (by simpa using q1), if_pos (by rw [q2, q3]; rfl)]
  exact methsC_back (fun i m hm => by have := h1 (i + 1) m (by simpa using hm); simpa [List.append_assoc] using this)
theorem takes_iff {ns : List (List UInt8)} {k : List UInt8} : takesB ns k = true ↔ nameB k = true ∧ k ∉ ns := by
 unfold takesB
 rw [Bool.and_eq_true, Bool.not_eq_true', ← Bool.not_eq_true, List.contains_iff_mem]
theorem takes_all {α : Type} {f : α → List UInt8} : ∀ {l : List α} {ns : List (List UInt8)}, ns.Nodup → ((∀ (i : Nat) a, l[i]? = some a → takesB (ns ++ (l.take i).map f) (f a) = true) ↔ (∀ a ∈ l, nameB (f a) = true) ∧ (ns ++ l.map f).Nodup)
 | [], ns, hn => by simp [hn]
 | a :: l, ns, hn => by
  constructor
  ·intro h
   have h0 := takes_iff.1 (h 0 a rfl)
   have hn' : (ns ++ [f a]).Nodup := by
    rw [List.nodup_append]
    refine ⟨hn, by simp, fun x hx y hy => ?_⟩
    simp at hy
    subst hy
    rintro rfl
    exact h0.2 (by simpa using hx)
   have := (takes_all (f := f) (l := l) hn').1 fun i b hb => by
    have := h (i + 1) b (by simpa using hb)
    simpa [List.append_assoc] using this
   refine ⟨fun b hb => ?_, by simpa [List.append_assoc] using this.2⟩
   rcases List.mem_cons.1 hb with rfl | hb
   ·exact h0.1
   ·exact this.1 b hb
  ·rintro ⟨h1, h2⟩ i b hb
   have h2' : ((ns ++ [f a]) ++ l.map f).Nodup := by simpa [List.append_assoc] using h2
   cases i with
   | zero =>
    simp at hb
    subst hb
    refine takes_iff.2 ⟨h1 _ List.mem_cons_self, fun hm => ?_⟩
    have q := (List.nodup_append.1 h2').1
    rw [List.nodup_append] at q
    exact q.2.2 (f a) (by simpa using hm) (f a) (by simp) rfl
   | succ i =>
    have hn' := (List.nodup_append.1 h2').1
    have := (takes_all (f := f) (l := l) hn').2 ⟨fun c hc => h1 c (List.mem_cons_of_mem _ hc), h2'⟩ i b (by simpa using hb)
    simpa [List.append_assoc] using this
def namesS (S : Sc) : List (List UInt8) := S.msgs.map Ms.name ++ S.enums.map En.name
structure FitS (S : Sc) : Prop where
 name : nameB S.name = true
 lens : S.msgs.length ≠ 0 ∧ S.msgs.length ≤ 10 ∧ S.enums.length ≤ 6 ∧ S.meths.length ≤ 6
 mn : ∀ m ∈ S.msgs, nameB m.name = true
 en : ∀ m ∈ S.enums, nameB m.name = true
 nd : (namesS S).Nodup
 body : ∀ m ∈ S.msgs, bodyC S m = 0
 ebody : ∀ m ∈ S.enums, enumBody m = 0
 tn : ∀ t ∈ S.meths, nameB t.name = true
 tnd : (S.meths.map Mt.name).Nodup
 tio : ∀ t ∈ S.meths, hasM S t.inn = true ∧ hasM S t.out = true
theorem msgC_zero {S : Sc} {ns : List (List UInt8)} {m : Ms} : msgC S ns m = 0 ↔ takesB ns m.name = true ∧ bodyC S m = 0 := by
 unfold msgC
 split
 ·rename_i h; simp [h]
 ·rename_i h; simp [h]
theorem enumC_zero {ns : List (List UInt8)} {m : En} : enumC ns m = 0 ↔ takesB ns m.name = true ∧ enumBody m = 0 := by
 unfold enumC
 split
 ·rename_i h; simp [h]
 ·rename_i h; simp [h]
theorem check_fit {S : Sc} : checkC S = 0 ↔ FitS S := by
 constructor
 ·intro h
  have R := right_of h
  unfold checkC at h
  split at h
  case isFalse => cases h
  rename_i hn
  split at h
  ·cases h
  split at h
  ·cases h
  split at h
  case isFalse h0 => exact absurd h h0
  rename_i h0
  obtain ⟨h1, h2⟩ := msgsC_zero h0
  have h3 := enumsC_zero h2
  have h4 := methsC_zero h
  rw [List.nil_append] at h3
  have a1 := (takes_all (f := Ms.name) (l := S.msgs) (ns := []) List.nodup_nil).1 fun i m hm => (msgC_zero.1 (h1 i m hm)).1
  rw [List.nil_append] at a1
  have a2 := (takes_all (f := En.name) (l := S.enums) a1.2).1 fun i m hm => (enumC_zero.1 (h3 i m hm)).1
  have a3 := (takes_all (f := Mt.name) (l := S.meths) (ns := []) List.nodup_nil).1 fun i m hm => (h4 i m hm).1
  refine ⟨hn, R.len, a1.1, a2.1, a2.2, fun m hm => ?_, fun m hm => ?_, a3.1, by simpa using a3.2, fun t ht => ?_⟩
  ·obtain ⟨i, hi⟩ := List.getElem?_of_mem hm
   exact (msgC_zero.1 (h1 i m hi)).2
  ·obtain ⟨i, hi⟩ := List.getElem?_of_mem hm
   exact (enumC_zero.1 (h3 i m hi)).2
  ·obtain ⟨i, hi⟩ := List.getElem?_of_mem ht
   exact (h4 i t hi).2
 ·intro F
  have nd := F.nd
  unfold namesS at nd
  have nd1 := (List.nodup_append.1 nd).1
  have a1 := (takes_all (f := Ms.name) (l := S.msgs) (ns := []) List.nodup_nil).2 ⟨F.mn, by simpa using nd1⟩
  have a2 := (takes_all (f := En.name) (l := S.enums) nd1).2 ⟨F.en, nd⟩
  have a3 := (takes_all (f := Mt.name) (l := S.meths) (ns := []) List.nodup_nil).2 ⟨F.tn, by simpa using F.tnd⟩
  have hp : partsC S = 0 := by
   refine msgsC_back (fun i m hm => msgC_zero.2 ⟨a1 i m hm, F.body m (List.mem_of_getElem? hm)⟩) ?_
   rw [List.nil_append]
   exact enumsC_back fun i m hm => enumC_zero.2 ⟨a2 i m hm, F.ebody m (List.mem_of_getElem? hm)⟩
  have hm : methsC S [] S.meths = 0 := methsC_back fun i m hm => ⟨a3 i m hm, F.tio m (List.mem_of_getElem? hm)⟩
  have l := F.lens
  unfold checkC
  rw [if_pos F.name, if_neg l.1, if_neg (by omega), if_pos hp, hm]
theorem found_any {α : Type} {p : α → Bool} {z : α} {l : List α} : (firstP p z l).2 = l.any p := by
 unfold firstP
 cases h : l.find? p with
 | none =>
  symm
  rw [List.find?_eq_none] at h
  rw [List.any_eq_false]
  exact h
 | some a =>
  symm
  rw [List.any_eq_true]
  exact ⟨a, List.mem_of_find?_eq_some h, List.find?_some h⟩
end Go.Aw
namespace Go.Aw
open Go.Proofs Go.RowKit
set_option linter.unusedSimpArgs false
set_option linter.unusedVariables false
def niceE (e : En) : Prop := (e.vals.map Nm.n).Nodup ∧ ∀ v ∈ e.vals, v.name ≠ []
theorem nice_z : niceE zEn := ⟨List.nodup_nil, fun v hv => by cases hv⟩
def mN (l : List Nm) : List (PV × AV) := l.map fun v => (.int .i64 v.n, .p (.str v.name))
theorem mN_ren (l : List Nm) (ρ : Nat → Nat) : (mN l).map (fun e => (e.1, AV.ren ρ e.2)) = mN l := by
 simp [mN, AV.ren]
theorem mN_labs (l : List Nm) (n : Nat) : (mN l).all (fun e => AV.labsIn n e.2) = true := by
 simp [mN, AV.labsIn]
attribute [go_sem] mN_ren mN_labs
theorem mN_no {l : List Nm} {k : Int} (h : l.any (fun v => k == v.n) = false) : MapAt (mN l) (.int .i64 k) none :=
 mapAt_none (q := fun a : Nm => k == a.n) (fun a => by simp [keyEq]) h
theorem mN_yes {l : List Nm} (hd : (l.map Nm.n).Nodup) {v : Nm} (h : v ∈ l) : ∃ i : Nat, MapAt (mN l) (.int .i64 v.n) (some (i, .p (.str v.name))) := by
 obtain ⟨i, a, h1, h2, h3⟩ := first_of (q := fun u : Nm => v.n == u.n) (List.any_eq_true.2 ⟨v, h, by simp⟩)
 have ea : a = v := by
  obtain ⟨j, hj⟩ := List.getElem?_of_mem h
  have e : a.n = v.n := by simpa using (beq_iff_eq.1 h2).symm
  have : i = j := by
   have q1 : (l.map Nm.n)[i]? = some a.n := by simp [h1]
   have q2 : (l.map Nm.n)[j]? = some v.n := by simp [hj]
   have li : i < (l.map Nm.n).length := (List.getElem?_eq_some_iff.1 q1).1
   rw [e, ← q2] at q1
   exact (List.getElem?_inj li hd).1 q1
  subst this
  rw [h1] at hj
  exact Option.some.inj hj
 subst ea
 exact ⟨i, mapAt_some (q := fun u : Nm => a.n == u.n) (fun a => by simp [keyEq]) h1 h2 h3⟩
theorem nm_in {l : List Nm} (hd : (l.map Nm.n).Nodup) {u v : Nm} (hu : u ∈ l) (hn : u.n = v.n) : l.contains v = (u.name == v.name) := by
 rw [Bool.eq_iff_iff, List.contains_iff_mem, beq_iff_eq]
 constructor
 ·intro hv
  obtain ⟨i, hi⟩ := List.getElem?_of_mem hu
  obtain ⟨j, hj⟩ := List.getElem?_of_mem hv
  have q1 : (l.map Nm.n)[i]? = some u.n := by simp [hi]
  have q2 : (l.map Nm.n)[j]? = some v.n := by simp [hj]
  have li : i < (l.map Nm.n).length := (List.getElem?_eq_some_iff.1 q1).1
  rw [hn, ← q2] at q1
  have : i = j := (List.getElem?_inj li hd).1 q1
  subst this
  rw [hi] at hj
  rw [Option.some.inj hj]
 ·intro e
  have : u = v := by cases u; cases v; simp_all
  rw [← this]; exact hu
def fx1 (o n : En) (b1 b2 : Bool) (j : Nat) : St := ⟨ofL [(9, .ptr 0 0 0), (10, .p (.bool b1)), (12, .p (.bool b2)), (13, .map 2), (53, .p (.slice (n.vals.map encNm))), (54, .p (.int .i64 (n.vals.length : Int))), (55, .p (.int .i64 (j : Int)))], ofH [(0, .row 2 [cellsEn o]), (2, .map (mN (n.vals.take j)))], 3⟩
def fx2 (o n : En) (b1 b2 : Bool) (j : Nat) : St := ⟨ofL [(10, .p (.bool b1)), (12, .p (.bool b2)), (13, .map 2), (66, .p (.slice (o.vals.map encNm))), (67, .p (.int .i64 (o.vals.length : Int))), (68, .p (.int .i64 (j : Int)))], ofH [(2, .map (mN n.vals))], 3⟩
set_option maxRecDepth 100000 in
set_option maxHeartbeats 4000000 in
theorem compat_Fits (S U : Sc) (y z : Ty) (h1 : S.enums.length ≤ 1000000) (h2 : U.enums.length ≤ 1000000) (hv : ∀ e ∈ S.enums, e.vals.length ≤ 1000000) (hw : ∀ e ∈ U.enums, e.vals.length ≤ 1000000) (hS : ∀ e ∈ S.enums, niceE e) (hU : ∀ e ∈ U.enums, niceE e) :
  PFn Tryd.prog 44 [.agg (encSc S), .agg (encSc U), .agg (encTy y), .agg (encTy z)] (.bool (fitsB S U y z)) := by
 refine PFn.of Tryd.func44 rfl (by decide) Tryd.ntmps44 Tryd.results44 (Nat.le_of_ble_eq_true rfl) ?_
 simp only [argsT, encSc, encTy]
 refine AW.rT (by rfl) fun K hK => ?_
 simp -implicitDefEqProofs only [go_sem, ↓reduceIte, Nat.reduceAdd, Nat.reduceMul, Nat.reduceEqDiff, Nat.reduceLeDiff, reduceCtorEq, Int.reduceToNat]
 refine hK _ ?_; clear hK K
 refine AW.seq ?_
 refine AW.block ?_
 by_cases k1 : y.kind = 1 ∧ z.kind = 2
 ·have a1 : (y.kind == 1) = true := by simp; omega
  have a2 : (z.kind == 2) = true := by simp; omega
  have e : fitsB S U y z = true := by unfold fitsB; rw [if_pos k1]
  refine AW.rT (by rfl) fun K hK => ?_
  simp -implicitDefEqProofs only [go_sem, ↓reduceIte, Nat.reduceAdd, Nat.reduceMul, Nat.reduceEqDiff, Nat.reduceLeDiff, reduceCtorEq, Int.reduceToNat, a1, a2]
  refine hK _ ?_; clear hK K
  refine AW.cond _ (by simp -implicitDefEqProofs only [go_sem, ↓reduceIte, Nat.reduceAdd, Nat.reduceMul, Nat.reduceEqDiff, Nat.reduceLeDiff, reduceCtorEq, Int.reduceToNat]; rfl) (fun hc => ?_) (fun hc => ?_)
  rotate_left
  ·simp at hc
  refine AW.rT (by rfl) fun K hK => ?_
  simp -implicitDefEqProofs only [go_sem, ↓reduceIte, Nat.reduceAdd, Nat.reduceMul, Nat.reduceEqDiff, Nat.reduceLeDiff, reduceCtorEq, Int.reduceToNat]
  refine hK _ ?_; clear hK K
  refine AW.ret ?_
  simp -implicitDefEqProofs only [go_sem, ↓reduceIte, Nat.reduceAdd, Nat.reduceMul, Nat.reduceEqDiff, Nat.reduceLeDiff, reduceCtorEq, Int.reduceToNat, e]
 have e0 : fitsB S U y z = if y.kind ≠ z.kind then false else if y.kind ≠ 6 then true else fitsE S U y z := by unfold fitsB; rw [if_neg k1]
 have cond1 : (y.kind == 1) = false ∨ ((y.kind == 1) = true ∧ (z.kind == 2) = false) := by
  by_cases h : y.kind = 1
  ·right
   exact ⟨by simp; omega, by simp; omega⟩
  ·left; simp; omega
 refine AW.cut (fun _ : Unit => ⟨ofL [(4, .ptr 0 0 0), (5, .ptr 1 0 0), (6, .ptr 2 0 0), (7, .ptr 3 0 0), (18, .p (.bool false))], ofH [(0, .row 4 [cellsSc S]), (1, .row 4 [cellsSc U]), (2, .row 2 [[.p (.int .i64 y.kind), .p (.str y.name)]]), (3, .row 2 [[.p (.int .i64 z.kind), .p (.str z.name)]])], 4⟩) (fun _ => True) ?_ fun _ _ => ?_
 ·rcases cond1 with a1 | ⟨a1, a2⟩
  ·refine AW.rE (by rfl) fun K hK => ?_
   simp -implicitDefEqProofs only [go_sem, ↓reduceIte, Nat.reduceAdd, Nat.reduceMul, Nat.reduceEqDiff, Nat.reduceLeDiff, reduceCtorEq, Int.reduceToNat, a1]
   refine hK _ ?_; clear hK K
   simp only [andThen, inBlk, reduceCtorEq, ↓reduceIte, if_t, if_f]
   refine ⟨(), trivial, ?_⟩
   simp only [cellsSc]
   refine Ghost.sub ?_ ?_ <;> simp -implicitDefEqProofs only [go_sem, ↓reduceIte, Nat.reduceAdd, Nat.reduceMul, Nat.reduceEqDiff, Nat.reduceLeDiff, reduceCtorEq, Int.reduceToNat,  List.forall_mem_cons, List.not_mem_nil, false_implies, implies_true, and_self, labsIn_lift, List.all_append, List.all_cons, List.all_nil, Nat.reduceLT, labsInL, AV.labsIn]
   all_goals first | rfl | decide | skip
  ·refine AW.rE (by rfl) fun K hK => ?_
   simp -implicitDefEqProofs only [go_sem, ↓reduceIte, Nat.reduceAdd, Nat.reduceMul, Nat.reduceEqDiff, Nat.reduceLeDiff, reduceCtorEq, Int.reduceToNat, a1, a2]
   refine hK _ ?_; clear hK K
   simp only [andThen, inBlk, reduceCtorEq, ↓reduceIte, if_t, if_f]
   refine ⟨(), trivial, ?_⟩
   simp only [cellsSc]
   refine Ghost.sub ?_ ?_ <;> simp -implicitDefEqProofs only [go_sem, ↓reduceIte, Nat.reduceAdd, Nat.reduceMul, Nat.reduceEqDiff, Nat.reduceLeDiff, reduceCtorEq, Int.reduceToNat,  List.forall_mem_cons, List.not_mem_nil, false_implies, implies_true, and_self, labsIn_lift, List.all_append, List.all_cons, List.all_nil, Nat.reduceLT, labsInL, AV.labsIn]
   all_goals first | rfl | decide | skip
 simp only [cellsSc]
 refine AW.cond _ (by simp -implicitDefEqProofs only [go_sem, ↓reduceIte, Nat.reduceAdd, Nat.reduceMul, Nat.reduceEqDiff, Nat.reduceLeDiff, reduceCtorEq, Int.reduceToNat]; rfl) (fun hc => ?_) (fun hc => ?_)
 ·simp at hc
 by_cases k2 : y.kind = z.kind
 case neg =>
  have a3 : (y.kind != z.kind) = true := by simp; omega
  rw [if_pos k2] at e0
  refine AW.rT (by rfl) fun K hK => ?_
  simp -implicitDefEqProofs only [go_sem, ↓reduceIte, Nat.reduceAdd, Nat.reduceMul, Nat.reduceEqDiff, Nat.reduceLeDiff, reduceCtorEq, Int.reduceToNat, a3]
  refine hK _ ?_; clear hK K
  refine AW.cond _ (by simp -implicitDefEqProofs only [go_sem, ↓reduceIte, Nat.reduceAdd, Nat.reduceMul, Nat.reduceEqDiff, Nat.reduceLeDiff, reduceCtorEq, Int.reduceToNat]; rfl) (fun hc => ?_) (fun hc => ?_)
  rotate_left
  ·simp at hc
  refine AW.rT (by rfl) fun K hK => ?_
  simp -implicitDefEqProofs only [go_sem, ↓reduceIte, Nat.reduceAdd, Nat.reduceMul, Nat.reduceEqDiff, Nat.reduceLeDiff, reduceCtorEq, Int.reduceToNat]
  refine hK _ ?_; clear hK K
  refine AW.ret ?_
  simp -implicitDefEqProofs only [go_sem, ↓reduceIte, Nat.reduceAdd, Nat.reduceMul, Nat.reduceEqDiff, Nat.reduceLeDiff, reduceCtorEq, Int.reduceToNat, e0]
 have a3 : (y.kind != z.kind) = false := by simp; omega
 rw [if_neg (by simpa using k2)] at e0
 refine AW.rT (by rfl) fun K hK => ?_
 simp -implicitDefEqProofs only [go_sem, ↓reduceIte, Nat.reduceAdd, Nat.reduceMul, Nat.reduceEqDiff, Nat.reduceLeDiff, reduceCtorEq, Int.reduceToNat, a3]
 refine hK _ ?_; clear hK K
 refine AW.cond _ (by simp -implicitDefEqProofs only [go_sem, ↓reduceIte, Nat.reduceAdd, Nat.reduceMul, Nat.reduceEqDiff, Nat.reduceLeDiff, reduceCtorEq, Int.reduceToNat]; rfl) (fun hc => ?_) (fun hc => ?_)
 ·simp at hc
 by_cases k3 : y.kind = 6
 case neg =>
  have a4 : (y.kind != 6) = true := by simp; omega
  rw [if_pos k3] at e0
  refine AW.rT (by rfl) fun K hK => ?_
  simp -implicitDefEqProofs only [go_sem, ↓reduceIte, Nat.reduceAdd, Nat.reduceMul, Nat.reduceEqDiff, Nat.reduceLeDiff, reduceCtorEq, Int.reduceToNat, a4]
  refine hK _ ?_; clear hK K
  refine AW.cond _ (by simp -implicitDefEqProofs only [go_sem, ↓reduceIte, Nat.reduceAdd, Nat.reduceMul, Nat.reduceEqDiff, Nat.reduceLeDiff, reduceCtorEq, Int.reduceToNat]; rfl) (fun hc => ?_) (fun hc => ?_)
  rotate_left
  ·simp at hc
  refine AW.rT (by rfl) fun K hK => ?_
  simp -implicitDefEqProofs only [go_sem, ↓reduceIte, Nat.reduceAdd, Nat.reduceMul, Nat.reduceEqDiff, Nat.reduceLeDiff, reduceCtorEq, Int.reduceToNat]
  refine hK _ ?_; clear hK K
  refine AW.ret ?_
  simp -implicitDefEqProofs only [go_sem, ↓reduceIte, Nat.reduceAdd, Nat.reduceMul, Nat.reduceEqDiff, Nat.reduceLeDiff, reduceCtorEq, Int.reduceToNat, e0]
 have a4 : (y.kind != 6) = false := by simp; omega
 rw [if_neg (by simpa using k3)] at e0
 refine AW.rT (by rfl) fun K hK => ?_
 simp -implicitDefEqProofs only [go_sem, ↓reduceIte, Nat.reduceAdd, Nat.reduceMul, Nat.reduceEqDiff, Nat.reduceLeDiff, reduceCtorEq, Int.reduceToNat, a4]
 refine hK _ ?_; clear hK K
 refine AW.cond _ (by simp -implicitDefEqProofs only [go_sem, ↓reduceIte, Nat.reduceAdd, Nat.reduceMul, Nat.reduceEqDiff, Nat.reduceLeDiff, reduceCtorEq, Int.reduceToNat]; rfl) (fun hc => ?_) (fun hc => ?_)
 ·simp at hc
 refine AW.skip ?_
 simp only [andThen, inBlk, reduceCtorEq, ↓reduceIte, if_t, if_f]
 have E1 := check_Enum S y.name h1
 have E2 := check_Enum U z.name h2
 have l1 : (firstP (fun x => x.name == y.name) zEn S.enums).1.vals.length ≤ 1000000 := by
  have : (firstP (fun x => x.name == y.name) zEn S.enums).1 ∈ S.enums ∨ (firstP (fun x => x.name == y.name) zEn S.enums).1 = zEn := by
   unfold firstP
   cases h : S.enums.find? fun x => x.name == y.name with
   | none => exact .inr rfl
   | some a => exact .inl (List.mem_of_find?_eq_some h)
  rcases this with h | h
  ·exact hv _ h
  ·rw [h]; decide
 have l2 : (firstP (fun x => x.name == z.name) zEn U.enums).1.vals.length ≤ 1000000 := by
  have : (firstP (fun x => x.name == z.name) zEn U.enums).1 ∈ U.enums ∨ (firstP (fun x => x.name == z.name) zEn U.enums).1 = zEn := by
   unfold firstP
   cases h : U.enums.find? fun x => x.name == z.name with
   | none => exact .inr rfl
   | some a => exact .inl (List.mem_of_find?_eq_some h)
  rcases this with h | h
  ·exact hw _ h
  ·rw [h]; decide
 have n1 : niceE (firstP (fun x => x.name == y.name) zEn S.enums).1 := by
  rcases (show _ ∨ _ from by
   unfold firstP
   cases h : S.enums.find? fun x => x.name == y.name with
   | none => exact .inr rfl
   | some a => exact .inl (List.mem_of_find?_eq_some h) : (firstP (fun x => x.name == y.name) zEn S.enums).1 ∈ S.enums ∨ (firstP (fun x => x.name == y.name) zEn S.enums).1 = zEn) with h | h
  ·exact hS _ h
  ·rw [h]; exact nice_z
 have n2 : niceE (firstP (fun x => x.name == z.name) zEn U.enums).1 := by
  rcases (show _ ∨ _ from by
   unfold firstP
   cases h : U.enums.find? fun x => x.name == z.name with
   | none => exact .inr rfl
   | some a => exact .inl (List.mem_of_find?_eq_some h) : (firstP (fun x => x.name == z.name) zEn U.enums).1 ∈ U.enums ∨ (firstP (fun x => x.name == z.name) zEn U.enums).1 = zEn) with h | h
  ·exact hU _ h
  ·rw [h]; exact nice_z
 unfold fitsE at e0
 generalize firstP (fun x => x.name == y.name) zEn S.enums = o at *
 generalize firstP (fun x => x.name == z.name) zEn U.enums = n at *
 obtain ⟨o, b1⟩ := o
 obtain ⟨n, b2⟩ := n
 dsimp only at e0 E1 E2 l1 l2 n1 n2
 simp only [encSc, encEn] at E1 E2
 refine AW.rT (by rfl) fun K hK => ?_
 simp -implicitDefEqProofs only [go_sem, ↓reduceIte, Nat.reduceAdd, Nat.reduceMul, Nat.reduceEqDiff, Nat.reduceLeDiff, reduceCtorEq, Int.reduceToNat]
 refine ⟨.pure _, E1, ?_⟩
 try simp -implicitDefEqProofs only [go_sem, ↓reduceIte, Nat.reduceAdd, Nat.reduceMul, Nat.reduceEqDiff, Nat.reduceLeDiff, reduceCtorEq, Int.reduceToNat]
 refine hK _ ?_; clear hK K
 refine AW.rT (by rfl) fun K hK => ?_
 simp -implicitDefEqProofs only [go_sem, ↓reduceIte, Nat.reduceAdd, Nat.reduceMul, Nat.reduceEqDiff, Nat.reduceLeDiff, reduceCtorEq, Int.reduceToNat]
 refine ⟨.pure _, E2, ?_⟩
 try simp -implicitDefEqProofs only [go_sem, ↓reduceIte, Nat.reduceAdd, Nat.reduceMul, Nat.reduceEqDiff, Nat.reduceLeDiff, reduceCtorEq, Int.reduceToNat]
 refine hK _ ?_; clear hK K
 refine AW.rT (by rfl) fun K hK => ?_
 simp -implicitDefEqProofs only [go_sem, ↓reduceIte, Nat.reduceAdd, Nat.reduceMul, Nat.reduceEqDiff, Nat.reduceLeDiff, reduceCtorEq, Int.reduceToNat]
 refine hK _ ?_; clear hK K
 refine AW.seq ?_
 refine AW.rT (by rfl) fun K hK => ?_
 simp -implicitDefEqProofs only [go_sem, ↓reduceIte, Nat.reduceAdd, Nat.reduceMul, Nat.reduceEqDiff, Nat.reduceLeDiff, reduceCtorEq, Int.reduceToNat, List.length_map]
 refine hK _ ?_; clear hK K
 refine AW.block ?_
 refine AW.loop (fx1 o n b1 b2) (fun j => j ≤ n.vals.length) (fun j => n.vals.length - j) 0 ?_ (by omega) fun j j1 => ?_
 ·simp only [fx1, cellsEn]
  refine Ghost.ent (fun l => if l = 0 then 21 else 34) ?_ ?_ ?_ <;> simp -implicitDefEqProofs only [go_sem, ↓reduceIte, Nat.reduceAdd, Nat.reduceMul, Nat.reduceEqDiff, Nat.reduceLeDiff, reduceCtorEq, Int.reduceToNat, List.take_zero, mN, List.map_nil, List.forall_mem_cons, List.not_mem_nil, false_implies, implies_true, and_self, map_renL_lift, labsIn_lift, List.all_append, List.all_cons, List.all_nil, List.map_append, Nat.reduceLT, labsInL, AV.labsIn]
  all_goals first | rfl | decide | skip
 simp only [fx1, cellsEn]
 by_cases hjl : j < n.vals.length
 ·obtain ⟨v, hv'⟩ : ∃ v, n.vals[j]? = some v := ⟨_, List.getElem?_eq_getElem hjl⟩
  have ⟨v1, v2, v3⟩ := at_map' encNm hv'
  have hc1 : ((j : Int) < (n.vals.length : Int)) = True := eq_true (by omega)
  have w1 : IntKind.wrap .i64 ((j : Int) + 1) = ((j + 1 : Nat) : Int) := by rw [w64] <;> omega
  have hno : (n.vals.take j).any (fun u => v.n == u.n) = false := by
   rw [List.any_eq_false]
   intro u hu
   obtain ⟨q, hq⟩ := List.getElem?_of_mem hu
   rw [List.getElem?_take] at hq
   split at hq
   ·rename_i hqj
    intro e
    have e := beq_iff_eq.1 e
    have q1 : (n.vals.map Nm.n)[q]? = some u.n := by simp [hq]
    have q2 : (n.vals.map Nm.n)[j]? = some v.n := by simp [hv']
    have li : q < (n.vals.map Nm.n).length := (List.getElem?_eq_some_iff.1 q1).1
    rw [← e, ← q2] at q1
    have := (List.getElem?_inj li n2.1).1 q1
    omega
   ·cases hq
  have hnx : mN (n.vals.take j) ++ [(.int .i64 v.n, .p (.str v.name))] = mN (n.vals.take (j + 1)) := by
   rw [List.take_add_one, hv']; simp [mN]
  have hm := mN_no hno
  refine AW.rT (by rfl) fun K hK => ?_
  simp -implicitDefEqProofs only [go_sem, ↓reduceIte, Nat.reduceAdd, Nat.reduceMul, Nat.reduceEqDiff, Nat.reduceLeDiff, reduceCtorEq, Int.reduceToNat, hc1]
  refine hK _ ?_; clear hK K
  refine AW.seq ?_
  refine AW.cond _ (by simp -implicitDefEqProofs only [go_sem, ↓reduceIte, Nat.reduceAdd, Nat.reduceMul, Nat.reduceEqDiff, Nat.reduceLeDiff, reduceCtorEq, Int.reduceToNat]; rfl) (fun hc => ?_) (fun hc => ?_)
  rotate_left
  ·simp at hc
  refine AW.skip ?_
  simp only [andThen, inBlk, reduceCtorEq, ↓reduceIte, if_t, if_f]
  refine AW.seq ?_
  refine AW.block ?_
  refine AW.rT (by rfl) fun K hK => ?_
  simp -implicitDefEqProofs only [go_sem, ↓reduceIte, Nat.reduceAdd, Nat.reduceMul, Nat.reduceEqDiff, Nat.reduceLeDiff, reduceCtorEq, Int.reduceToNat, v1, v2, v3, hc1, encNm, List.length_map]
  refine hK _ ?_; clear hK K
  refine AW.rE (by rfl) fun K hK => ?_
  simp -implicitDefEqProofs only [go_sem, ↓reduceIte, Nat.reduceAdd, Nat.reduceMul, Nat.reduceEqDiff, Nat.reduceLeDiff, reduceCtorEq, Int.reduceToNat]
  refine ⟨keyI v.n, _, hm, ?_⟩
  try simp -implicitDefEqProofs only [go_sem, ↓reduceIte, Nat.reduceAdd, Nat.reduceMul, Nat.reduceEqDiff, Nat.reduceLeDiff, reduceCtorEq, Int.reduceToNat]
  refine hK _ ?_; clear hK K
  simp only [andThen, inBlk, reduceCtorEq, ↓reduceIte, if_t, if_f]
  refine AW.rE (by rfl) fun K hK => ?_
  simp -implicitDefEqProofs only [go_sem, ↓reduceIte, Nat.reduceAdd, Nat.reduceMul, Nat.reduceEqDiff, Nat.reduceLeDiff, reduceCtorEq, Int.reduceToNat, w1]
  refine hK _ ?_; clear hK K
  refine ⟨j + 1, by omega, by omega, ?_⟩
  refine Ghost.sub ?_ ?_ <;> simp -implicitDefEqProofs only [go_sem, ↓reduceIte, Nat.reduceAdd, Nat.reduceMul, Nat.reduceEqDiff, Nat.reduceLeDiff, reduceCtorEq, Int.reduceToNat, hnx, List.forall_mem_cons, List.not_mem_nil, false_implies, implies_true, and_self, labsIn_lift, List.all_append, List.all_cons, List.all_nil, Nat.reduceLT, labsInL, AV.labsIn]
 have hc1 : ((j : Int) < (n.vals.length : Int)) = False := eq_false (by omega)
 have ea : n.vals.take j = n.vals := List.take_of_length_le (by omega)
 rw [ea]
 clear ea hjl
 refine AW.rT (by rfl) fun K hK => ?_
 simp -implicitDefEqProofs only [go_sem, ↓reduceIte, Nat.reduceAdd, Nat.reduceMul, Nat.reduceEqDiff, Nat.reduceLeDiff, reduceCtorEq, Int.reduceToNat, hc1]
 refine hK _ ?_; clear hK K
 refine AW.seq ?_
 refine AW.cond _ (by simp -implicitDefEqProofs only [go_sem, ↓reduceIte, Nat.reduceAdd, Nat.reduceMul, Nat.reduceEqDiff, Nat.reduceLeDiff, reduceCtorEq, Int.reduceToNat]; rfl) (fun hc => ?_) (fun hc => ?_)
 ·simp at hc
 refine AW.exit ?_
 simp only [andThen, inBlk, reduceCtorEq, ↓reduceIte, if_t, if_f]
 refine AW.seq ?_
 refine AW.rT (by rfl) fun K hK => ?_
 simp -implicitDefEqProofs only [go_sem, ↓reduceIte, Nat.reduceAdd, Nat.reduceMul, Nat.reduceEqDiff, Nat.reduceLeDiff, reduceCtorEq, Int.reduceToNat, List.length_map]
 refine hK _ ?_; clear hK K
 refine AW.block ?_
 refine AW.loop (fx2 o n b1 b2) (fun i => i ≤ o.vals.length ∧ (o.vals.take i).all (fun v => n.vals.contains v) = true) (fun i => o.vals.length - i) 0 ?_ ⟨by omega, by simp⟩ fun i hi => ?_
 ·simp only [fx2]
  refine Ghost.sub ?_ ?_ <;> simp -implicitDefEqProofs only [go_sem, ↓reduceIte, Nat.reduceAdd, Nat.reduceMul, Nat.reduceEqDiff, Nat.reduceLeDiff, reduceCtorEq, Int.reduceToNat,  List.forall_mem_cons, List.not_mem_nil, false_implies, implies_true, and_self, labsIn_lift, List.all_append, List.all_cons, List.all_nil, Nat.reduceLT, labsInL, AV.labsIn]
  all_goals first | rfl | decide | skip
 obtain ⟨i1, i2⟩ := hi
 simp only [fx2]
 by_cases hil : i < o.vals.length
 case neg =>
  have hc2 : ((i : Int) < (o.vals.length : Int)) = False := eq_false (by omega)
  rw [List.take_of_length_le (by omega)] at i2
  rw [i2, Bool.and_true] at e0
  refine AW.rT (by rfl) fun K hK => ?_
  simp -implicitDefEqProofs only [go_sem, ↓reduceIte, Nat.reduceAdd, Nat.reduceMul, Nat.reduceEqDiff, Nat.reduceLeDiff, reduceCtorEq, Int.reduceToNat, hc2]
  refine hK _ ?_; clear hK K
  refine AW.seq ?_
  refine AW.cond _ (by simp -implicitDefEqProofs only [go_sem, ↓reduceIte, Nat.reduceAdd, Nat.reduceMul, Nat.reduceEqDiff, Nat.reduceLeDiff, reduceCtorEq, Int.reduceToNat]; rfl) (fun hc => ?_) (fun hc => ?_)
  ·simp at hc
  refine AW.exit ?_
  simp only [andThen, inBlk, reduceCtorEq, ↓reduceIte, if_t, if_f]
  cases b1 with
  | true =>
   rw [Bool.true_and] at e0
   refine AW.rT (by rfl) fun K hK => ?_
   simp -implicitDefEqProofs only [go_sem, ↓reduceIte, Nat.reduceAdd, Nat.reduceMul, Nat.reduceEqDiff, Nat.reduceLeDiff, reduceCtorEq, Int.reduceToNat]
   refine hK _ ?_; clear hK K
   refine AW.ret ?_
   simp -implicitDefEqProofs only [go_sem, ↓reduceIte, Nat.reduceAdd, Nat.reduceMul, Nat.reduceEqDiff, Nat.reduceLeDiff, reduceCtorEq, Int.reduceToNat, e0]
  | false =>
   rw [Bool.false_and] at e0
   refine AW.rT (by rfl) fun K hK => ?_
   simp -implicitDefEqProofs only [go_sem, ↓reduceIte, Nat.reduceAdd, Nat.reduceMul, Nat.reduceEqDiff, Nat.reduceLeDiff, reduceCtorEq, Int.reduceToNat]
   refine hK _ ?_; clear hK K
   refine AW.ret ?_
   simp -implicitDefEqProofs only [go_sem, ↓reduceIte, Nat.reduceAdd, Nat.reduceMul, Nat.reduceEqDiff, Nat.reduceLeDiff, reduceCtorEq, Int.reduceToNat, e0]
 obtain ⟨v, hv'⟩ : ∃ v, o.vals[i]? = some v := ⟨_, List.getElem?_eq_getElem hil⟩
 have ⟨v1, v2, v3⟩ := at_map' encNm hv'
 have hc2 : ((i : Int) < (o.vals.length : Int)) = True := eq_true (by omega)
 have w2 : IntKind.wrap .i64 ((i : Int) + 1) = ((i + 1 : Nat) : Int) := by rw [w64] <;> omega
 have vne := n1.2 v (List.mem_of_getElem? hv')
 have bad : n.vals.contains v = false → fitsB S U y z = false := fun h => by
  rw [e0, all_not hv' h, Bool.and_false, Bool.and_false]
 refine AW.rT (by rfl) fun K hK => ?_
 simp -implicitDefEqProofs only [go_sem, ↓reduceIte, Nat.reduceAdd, Nat.reduceMul, Nat.reduceEqDiff, Nat.reduceLeDiff, reduceCtorEq, Int.reduceToNat, hc2]
 refine hK _ ?_; clear hK K
 refine AW.seq ?_
 refine AW.cond _ (by simp -implicitDefEqProofs only [go_sem, ↓reduceIte, Nat.reduceAdd, Nat.reduceMul, Nat.reduceEqDiff, Nat.reduceLeDiff, reduceCtorEq, Int.reduceToNat]; rfl) (fun hc => ?_) (fun hc => ?_)
 rotate_left
 ·simp at hc
 refine AW.skip ?_
 simp only [andThen, inBlk, reduceCtorEq, ↓reduceIte, if_t, if_f]
 refine AW.seq ?_
 refine AW.block ?_
 refine AW.rT (by rfl) fun K hK => ?_
 simp -implicitDefEqProofs only [go_sem, ↓reduceIte, Nat.reduceAdd, Nat.reduceMul, Nat.reduceEqDiff, Nat.reduceLeDiff, reduceCtorEq, Int.reduceToNat, v1, v2, v3, hc2, encNm, List.length_map]
 refine hK _ ?_; clear hK K
 cases hk : n.vals.any (fun u => v.n == u.n) with
 | false =>
  have hm := mN_no hk
  have e := bad (by
   rw [contains_any, List.any_eq_false]
   intro u hu
   have := List.any_eq_false.1 hk u hu
   intro e
   have e := beq_iff_eq.1 e
   rw [e] at this
   simp at this)
  have ns : (([] : List UInt8) == v.name) = false := by
   cases hn : v.name with
   | nil => exact absurd hn vne
   | cons a l => rfl
  refine AW.rT (by rfl) fun K hK => ?_
  simp -implicitDefEqProofs only [go_sem, ↓reduceIte, Nat.reduceAdd, Nat.reduceMul, Nat.reduceEqDiff, Nat.reduceLeDiff, reduceCtorEq, Int.reduceToNat]
  refine ⟨keyI v.n, none, hm, .str [], rfl, ?_⟩
  try simp -implicitDefEqProofs only [go_sem, ↓reduceIte, Nat.reduceAdd, Nat.reduceMul, Nat.reduceEqDiff, Nat.reduceLeDiff, reduceCtorEq, Int.reduceToNat, ns]
  refine hK _ ?_; clear hK K
  refine AW.cond _ (by simp -implicitDefEqProofs only [go_sem, ↓reduceIte, Nat.reduceAdd, Nat.reduceMul, Nat.reduceEqDiff, Nat.reduceLeDiff, reduceCtorEq, Int.reduceToNat]; rfl) (fun hc => ?_) (fun hc => ?_)
  rotate_left
  ·simp at hc
  refine AW.rT (by rfl) fun K hK => ?_
  simp -implicitDefEqProofs only [go_sem, ↓reduceIte, Nat.reduceAdd, Nat.reduceMul, Nat.reduceEqDiff, Nat.reduceLeDiff, reduceCtorEq, Int.reduceToNat]
  refine hK _ ?_; clear hK K
  refine AW.ret ?_
  simp -implicitDefEqProofs only [go_sem, ↓reduceIte, Nat.reduceAdd, Nat.reduceMul, Nat.reduceEqDiff, Nat.reduceLeDiff, reduceCtorEq, Int.reduceToNat, e]
 | true =>
  obtain ⟨u, hu, hun⟩ := List.any_eq_true.1 hk
  have hun := (beq_iff_eq.1 hun).symm
  obtain ⟨q, hm⟩ := mN_yes n2.1 hu
  rw [hun] at hm
  have hcn := nm_in n2.1 hu hun
  cases hq : (u.name == v.name) with
  | true =>
   refine AW.rT (by rfl) fun K hK => ?_
   simp -implicitDefEqProofs only [go_sem, ↓reduceIte, Nat.reduceAdd, Nat.reduceMul, Nat.reduceEqDiff, Nat.reduceLeDiff, reduceCtorEq, Int.reduceToNat]
   refine ⟨keyI v.n, some (q, .p (.str u.name)), hm, .str u.name, rfl, ?_⟩
   try simp -implicitDefEqProofs only [go_sem, ↓reduceIte, Nat.reduceAdd, Nat.reduceMul, Nat.reduceEqDiff, Nat.reduceLeDiff, reduceCtorEq, Int.reduceToNat, hq]
   refine hK _ ?_; clear hK K
   refine AW.cond _ (by simp -implicitDefEqProofs only [go_sem, ↓reduceIte, Nat.reduceAdd, Nat.reduceMul, Nat.reduceEqDiff, Nat.reduceLeDiff, reduceCtorEq, Int.reduceToNat]; rfl) (fun hc => ?_) (fun hc => ?_)
   ·simp at hc
   refine AW.skip ?_
   simp only [andThen, inBlk, reduceCtorEq, ↓reduceIte, if_t, if_f]
   refine AW.rE (by rfl) fun K hK => ?_
   simp -implicitDefEqProofs only [go_sem, ↓reduceIte, Nat.reduceAdd, Nat.reduceMul, Nat.reduceEqDiff, Nat.reduceLeDiff, reduceCtorEq, Int.reduceToNat, w2]
   refine hK _ ?_; clear hK K
   refine ⟨i + 1, ⟨by omega, all_next hv' i2 (by rw [hcn, hq])⟩, by omega, ?_⟩
   refine Ghost.sub ?_ ?_ <;> simp -implicitDefEqProofs only [go_sem, ↓reduceIte, Nat.reduceAdd, Nat.reduceMul, Nat.reduceEqDiff, Nat.reduceLeDiff, reduceCtorEq, Int.reduceToNat,  List.forall_mem_cons, List.not_mem_nil, false_implies, implies_true, and_self, labsIn_lift, List.all_append, List.all_cons, List.all_nil, Nat.reduceLT, labsInL, AV.labsIn]
  | false =>
   have e := bad (by rw [hcn, hq])
   refine AW.rT (by rfl) fun K hK => ?_
   simp -implicitDefEqProofs only [go_sem, ↓reduceIte, Nat.reduceAdd, Nat.reduceMul, Nat.reduceEqDiff, Nat.reduceLeDiff, reduceCtorEq, Int.reduceToNat]
   refine ⟨keyI v.n, some (q, .p (.str u.name)), hm, .str u.name, rfl, ?_⟩
   try simp -implicitDefEqProofs only [go_sem, ↓reduceIte, Nat.reduceAdd, Nat.reduceMul, Nat.reduceEqDiff, Nat.reduceLeDiff, reduceCtorEq, Int.reduceToNat, hq]
   refine hK _ ?_; clear hK K
   refine AW.cond _ (by simp -implicitDefEqProofs only [go_sem, ↓reduceIte, Nat.reduceAdd, Nat.reduceMul, Nat.reduceEqDiff, Nat.reduceLeDiff, reduceCtorEq, Int.reduceToNat]; rfl) (fun hc => ?_) (fun hc => ?_)
   rotate_left
   ·simp at hc
   refine AW.rT (by rfl) fun K hK => ?_
   simp -implicitDefEqProofs only [go_sem, ↓reduceIte, Nat.reduceAdd, Nat.reduceMul, Nat.reduceEqDiff, Nat.reduceLeDiff, reduceCtorEq, Int.reduceToNat]
   refine hK _ ?_; clear hK K
   refine AW.ret ?_
   simp -implicitDefEqProofs only [go_sem, ↓reduceIte, Nat.reduceAdd, Nat.reduceMul, Nat.reduceEqDiff, Nat.reduceLeDiff, reduceCtorEq, Int.reduceToNat, e]
end Go.Aw
namespace Go.Aw
open Go.Proofs Go.RowKit
set_option linter.unusedSimpArgs false
set_option linter.unusedVariables false
structure Pr where
 o : List UInt8
 n : List UInt8
 deriving DecidableEq
def encPr (p : Pr) : List PV := [.str p.o, .str p.n]
theorem eq113 (x y : Pr) (w : World) : (Op.equalIn 10000 113 (.agg #[.string ⟨⟨x.o⟩⟩, .string ⟨⟨x.n⟩⟩]) (.agg #[.string ⟨⟨y.o⟩⟩, .string ⟨⟨y.n⟩⟩])).run Tryd.prog w = .ok (decide (x = y)) w := by
 have u3 := Tryd.underlying3
 have u9 := Tryd.underlying9
 have a3 := Tryd.isAgg3
 have a9 := Tryd.isAgg9
 have z3 := Tryd.sizeOf3
 have z9 := Tryd.sizeOf9
 have hS : Tryd.prog.underlying 113 = some (.struct (Tryd.prog.fieldsOf 113)) := by kernel_rfl
 have hp : Tryd.prog.stoodInHeld 113 = false := by kernel_rfl
 rw [show (10000 : Nat) = 9999 + 1 from rfl, run_equalIn_agg w 9999 113 _ _ hS hp]
 simp only [Program.fieldsOf, Tryd.underlying113]
 go_simp
 obtain ⟨a0, a1⟩ := x
 obtain ⟨b0, b1⟩ := y
 simp only [Pr.mk.injEq]
 by_cases h0 : a0 = b0 <;> by_cases h1 : a1 = b1 <;> simp [h0, h1]
theorem keyP (a b : List UInt8) : KeyT Tryd.prog 113 (.agg [.str a, .str b]) := by
 refine key_pair Tryd.underlying113 (fun a b e w => ?_) (fun a b c d w => ?_) a b
 ·have u9 := Tryd.underlying9
  have u113 := Tryd.underlying113
  have a9 := Tryd.isAgg9
  have z9 := Tryd.sizeOf9
  have ck : ∀ (x : List UInt8) w, (Instr.checkKey e 9999 9 (.string ⟨⟨x⟩⟩)).run Tryd.prog w = .ok () w := fun x w => by
   rw [show (9999 : Nat) = 9998 + 1 from rfl]
   unfold Instr.checkKey
   go_simp
  rw [show (10000 : Nat) = 9999 + 1 from rfl]
  unfold Instr.checkKey
  go_simp
 ·have h := eq113 ⟨a, b⟩ ⟨c, d⟩ w
  simp only at h
  have e : decide ((⟨a, b⟩ : Pr) = ⟨c, d⟩) = (a == c && b == d) := by
   rw [Bool.eq_iff_iff]; simp
  rw [e] at h
  exact h
end Go.Aw
namespace Go.Aw
open Go.RowKit
variable {P : Program}
theorem seq_part {w0 : World} {X I0 : Nat → Prop} {nt : Fm} {ops : Array Oper} {Q : Exit → Act → World → Prop} {K : (Nat → Option AV) → (Nat → Option Blk) → Nat → Prop} (hd : ops.toList.all (dstOK nt) = true) (tx : TabX w0 X I0) {r' : List Oper} :
  ∀ (r : List Oper) (i nx : Nat) (T : Nat → Option AV) (H : Nat → Option Blk) (σ : Lab) (I : Nat → Prop) (a : Act) (w : World), ops.toList.drop i = r ++ r' → Match nt w0 X I0 σ I T H a w → (∀ l, nx ≤ l → σ l = none) → seqW P ops.toList nx r T H K →
   (∀ T H n σ I a w, Match nt w0 X I0 σ I T H a w → (∀ l, n ≤ l → σ l = none) → K T H n → wpOps P ops Q (List.range' (i + r.length) r'.length) a w) → wpOps P ops Q (List.range' i (r ++ r').length) a w := by
 intro r
 induction r with
 | nil => intro i nx T H σ I a w _ m hn hk hK; exact hK T H nx σ I a w m hn hk
 | cons o r ih =>
  intro i nx T H σ I a w hr m hn hk hK
  have hi : ops[i]? = some o := by
   rw [← Array.getElem?_toList, show i = i + 0 from rfl, ← List.getElem?_drop, hr]; rfl
  have hdr : ops.toList.drop (i + 1) = r ++ r' := by rw [← List.drop_drop, hr]; rfl
  have hdo : dstOK nt o = true := List.all_eq_true.1 hd o (List.mem_of_getElem? (by rw [Array.getElem?_toList]; exact hi))
  have hK' : ∀ T H n σ I a w, Match nt w0 X I0 σ I T H a w → (∀ l, n ≤ l → σ l = none) → K T H n → wpOps P ops Q (List.range' (i + 1 + r.length) r'.length) a w := by
   intro T H n σ I a w h1 h2 h3
   have := hK T H n σ I a w h1 h2 h3
   rwa [List.length_cons, show i + (r.length + 1) = i + 1 + r.length by omega] at this
  rw [List.cons_append, List.length_cons, List.range'_succ]
  simp only [wpOps, hi]
  simp only [seqW] at hk
  have run : (opW P nx o.op T H fun e => seqW P ops.toList (nx + 1) r (putT T o.dst e.val) (putH H e.upd) K) → o.wp P a w (wpOps P ops Q (List.range' (i + 1) (r ++ r').length)) Q := by
   intro hop
   refine snd_op (w0 := w0) (X := X) (I0 := I0) ⟨m.heap, m.tmps, hn nx (Nat.le_refl _), tx⟩ hop _ _ fun e v w' σ' I' hk' out => ?_
   refine ih (i + 1) (nx + 1) _ _ σ' I' _ w' hdr (m.put hdo out.heap out.ext out.imm out.same out.val) (fun l hl => ?_) hk' hK'
   rw [out.lab l (by omega)]
   exact hn l (by omega)
  have skip : seqW P ops.toList (nx + 1) r (putT T o.dst (some (.p (.cst undef)))) H K → wpOps P ops Q (List.range' (i + 1) (r ++ r').length) (a.put o.dst undef) w := by
   intro hk'
   exact ih (i + 1) (nx + 1) _ _ σ I _ w hdr (m.put hdo m.heap (fun _ _ h => h) (fun _ h => h) (fun _ _ => rfl) (fun y hy => by injection hy with hy; subst hy; exact .p (.cst undef))) (fun l hl => hn l (by omega)) hk' hK'
  unfold guardS at hk
  cases hg : o.guard with
  | none =>
   rw [hg] at hk
   have : Region.wanted o (yielded ops a.tmps) = true := by simp [Region.wanted, hg]
   rw [if_pos this]
   exact .inl (run hk)
  | some jw =>
   obtain ⟨j, want⟩ := jw
   rw [hg] at hk
   simp only at hk
   split at hk
   ·rename_i b hb
    obtain ⟨d, hd1, hd2⟩ := Option.bind_eq_some_iff.1 hb
    rw [Array.getElem?_toList] at hd1
    obtain ⟨u, hu, hru⟩ := m.tmps d _ hd2
    have hy : yielded ops a.tmps j = some b := by
     cases hru with
     | p h => cases h; simp [yielded, hd1, hu]
    have hw : Region.wanted o (yielded ops a.tmps) = (b == want) := by
     simp only [Region.wanted, hg, hy]
     cases b <;> cases want <;> rfl
    split at hk
    ·rename_i hbw
     rw [hw, if_pos (by simp [hbw])]
     exact .inl (run hk)
    ·rename_i hbw
     rw [hw, if_neg (by simp [hbw])]
     exact skip hk
   ·rename_i x hb
    obtain ⟨d, hd1, hd2⟩ := Option.bind_eq_some_iff.1 hb
    rw [Array.getElem?_toList] at hd1
    obtain ⟨u, hu, hru⟩ := m.tmps d _ hd2
    have hy : yielded ops a.tmps j = none := by
     cases hru with
     | p h =>
      cases h
      simp only [yielded, hd1, Option.bind_some, hd2, hu]
      have := hk.1
      cases x <;> first | rfl | exact this.elim
    have hw : Region.wanted o (yielded ops a.tmps) = false := by
     simp only [Region.wanted, hg, hy]
     cases want <;> rfl
    rw [hw, if_neg (by simp)]
    exact skip hk.2
   ·exact hk.elim
end Go.Aw
namespace Go.Aw
open Go.RowKit
variable {P : Program}
def SeqR (P : Program) (nt : Fm) (ops : Array Oper) (i : Nat) (s : St) (K : St → Prop) : Prop :=
 ∀ w0 X I0 a w (Q : Exit → Act → World → Prop), TabX w0 X I0 → Matches nt w0 X I0 s a w → (∀ s' a' w', Matches nt w0 X I0 s' a' w' → K s' → Q .normal a' w') → wpOps P ops Q (List.range' i (ops.size - i)) a w
theorem SeqR.ghost {nt : Fm} {ops : Array Oper} {i : Nat} {s s' : St} {K : St → Prop} (g : Ghost nt s s') (h : SeqR P nt ops i s' K) : SeqR P nt ops i s K :=
 fun w0 X I0 a w Q tx m hQ => h w0 X I0 a w Q tx (g w0 X I0 a w m) hQ
theorem SeqR.last {nt : Fm} {ops : Array Oper} {i : Nat} {s : St} {K : St → Prop} (hi : ops.size = i) (h : K s) : SeqR P nt ops i s K := by
 intro w0 X I0 a w Q tx m hQ
 subst hi
 rw [Nat.sub_self]
 exact hQ s a w m h
theorem SeqR.ev {nt : Fm} {ops : Array Oper} {i : Nat} {s : St} {K : St → Prop} (k : Nat) (hd : ops.toList.all (dstOK nt) = true) (hk : i + k ≤ ops.size) (h : seqO P ops.toList s.nx ((ops.toList.drop i).take k) s.T s.H fun T H n => SeqR P nt ops (i + k) ⟨T, H, n⟩ K) : SeqR P nt ops i s K := by
 intro w0 X I0 a w Q tx ⟨σ, I, hn, m⟩ hQ
 rw [seqO_eq] at h
 have hl : ops.toList.length = ops.size := Array.length_toList
 have main := seq_part (P := P) (w0 := w0) (X := X) (I0 := I0) (r' := ops.toList.drop (i + k)) (Q := Q) hd tx ((ops.toList.drop i).take k) i s.nx s.T s.H σ I a w (by rw [← List.drop_drop, List.take_append_drop]) m hn h
  (fun T H n σ I a w m hn hq => by
   have := hq w0 X I0 a w Q tx ⟨σ, I, hn, m⟩ hQ
   rw [List.length_take, List.length_drop, Nat.min_eq_left (by omega), List.length_drop, hl]
   exact this)
 rw [← List.drop_drop, List.take_append_drop, List.length_drop, hl] at main
 exact main
def CallD (P : Program) (nt : Fm) (o : Oper) (s : St) (K : St → Prop) : Prop :=
 ∀ w0 X I0 a w (next : Act → World → Prop) (Q : Exit → Act → World → Prop), TabX w0 X I0 → Matches nt w0 X I0 s a w → (∀ s' a' w', Matches nt w0 X I0 s' a' w' → K s' → next a' w') → o.wp P a w next Q
theorem SeqR.op {nt : Fm} {ops : Array Oper} {i : Nat} {s : St} {K : St → Prop} {o : Oper} (ho : ops[i]? = some o) (hg : o.guard = none) (h : CallD P nt o s fun s' => SeqR P nt ops (i + 1) s' K) : SeqR P nt ops i s K := by
 intro w0 X I0 a w Q tx m hQ
 have hi : i < ops.size := (Array.getElem?_eq_some_iff.1 ho).1
 rw [show ops.size - i = (ops.size - (i + 1)) + 1 by omega, List.range'_succ]
 simp only [wpOps, ho]
 have : Region.wanted o (yielded ops a.tmps) = true := by simp [Region.wanted, hg]
 rw [if_pos this]
 exact .inl (h w0 X I0 a w _ Q tx m fun s' a' w' m' k => k w0 X I0 a' w' Q tx m' hQ)
theorem AW.rR {nt : Fm} {id : Nat} {ops : Array Oper} {y : Code} {s : St} {Q : Exit → St → Prop} (h : SeqR P nt ops 0 s fun s' => AW P nt y s' Q) : AW P nt (.seq (.region id ops false) y) s Q := by
 refine AW.seq ?_
 intro w0 X I0 a w tx m
 refine wp_region ?_
 have := h w0 X I0 a w (fun e a' w' => ∃ s', Matches nt w0 X I0 s' a' w' ∧ andThen (fun s' => AW P nt y s' Q) Q e s') tx m fun s' a' w' m' k => ⟨s', m', k⟩
 rw [List.range_eq_range']
 simpa using this
theorem AW.rRE {nt : Fm} {id : Nat} {ops : Array Oper} {s : St} {Q : Exit → St → Prop} (h : SeqR P nt ops 0 s fun s' => Q .normal s') : AW P nt (.region id ops false) s Q := by
 intro w0 X I0 a w tx m
 refine wp_region ?_
 have := h w0 X I0 a w (fun e a' w' => ∃ s', Matches nt w0 X I0 s' a' w' ∧ Q e s') tx m fun s' a' w' m' k => ⟨s', m', k⟩
 rw [List.range_eq_range']
 simpa using this
mutual
def AV.labsBy (p : Nat → Bool) : AV → Bool
 | .p _ | .ex _ | .vw _ _ => true
 | .own l | .cut l _ _ | .ptr l _ _ | .map l | .it l => p l
 | .agg cs | .tuple cs | .fn _ cs => labsByL p cs
 | .iface _ x => x.labsBy p
def labsByL (p : Nat → Bool) : List AV → Bool
 | [] => true
 | x :: l => x.labsBy p && labsByL p l
end
theorem labsByL_mem {p : Nat → Bool} {l : List AV} (h : labsByL p l = true) {x : AV} (hx : x ∈ l) : x.labsBy p = true := by
 induction l with
 | nil => cases hx
 | cons y l ih =>
  rw [labsByL, Bool.and_eq_true] at h
  rcases List.mem_cons.1 hx with rfl | hx
  ·exact h.1
  ·exact ih h.2 hx
def Blk.labsBy (p : Nat → Bool) : Blk → Bool
 | .row _ es => es.all (labsByL p)
 | .map es => es.all fun e => e.2.labsBy p
 | .iter _ _ => true
theorem repA_by {σ σ' : Lab} {w : World} {I : Nat → Prop} {ρ : Nat → Nat} {p : Nat → Bool} (hp : ∀ l, p l = true → ∀ s, σ l = some s → σ' (ρ l) = some s) {u : Value} {x : AV} (h : repA σ w I u x) : x.labsBy p = true → repA σ' w I u (x.ren ρ) := by
 induction h with
 | p h => intro _; exact .p h
 | ex hn h => intro _; exact .ex hn h
 | vw hn hm hc h => intro _; exact .vw hn hm hc h
 | ownE h => intro q; exact .ownE (hp _ q _ h)
 | own h => intro q; exact .own (hp _ q _ h)
 | cut h hm hc => intro q; exact .cut (hp _ q _ h) hm hc
 | ptr h => intro q; exact .ptr (hp _ q _ h)
 | map h => intro q; exact .map (hp _ q _ h)
 | it h => intro q; exact .it (hp _ q _ h)
 | agg hs hr ih =>
  intro q
  refine .agg (by rw [renL_length]; exact hs) fun j u y h1 h2 => ?_
  rw [renL_get, Option.map_eq_some_iff] at h2
  obtain ⟨z, hz, rfl⟩ := h2
  exact ih j u z h1 hz (labsByL_mem q (List.mem_of_getElem? hz))
 | tuple hs hr ih =>
  intro q
  refine .tuple (by rw [renL_length]; exact hs) fun j u y h1 h2 => ?_
  rw [renL_get, Option.map_eq_some_iff] at h2
  obtain ⟨z, hz, rfl⟩ := h2
  exact ih j u z h1 hz (labsByL_mem q (List.mem_of_getElem? hz))
 | iface t h ih => intro q; exact .iface t (ih q)
 | fn f hs hr ih =>
  intro q
  refine .fn f (by rw [renL_length]; exact hs) fun j u y h1 h2 => ?_
  rw [renL_get, Option.map_eq_some_iff] at h2
  obtain ⟨z, hz, rfl⟩ := h2
  exact ih j u z h1 hz (labsByL_mem q (List.mem_of_getElem? hz))
theorem repB_by {σ σ' : Lab} {w : World} {I : Nat → Prop} {ρ : Nat → Nat} {p : Nat → Bool} (hp : ∀ l, p l = true → ∀ s, σ l = some s → σ' (ρ l) = some s) {l : Nat} {b : Blk} (hl : p l = true) (h : repB σ w I l b) (hb : b.labsBy p = true) : repB σ' w I (ρ l) (b.ren ρ) := by
 cases h with
 | emp h => exact .emp (hp _ hl _ h)
 | row h hg hcur hc hs ho hr =>
  rename_i g c sz cur et es
  refine .row (by rw [List.length_map]; exact hp _ hl _ h) hg hcur (by rw [List.length_map]; exact hc) (fun e he => ?_) (fun e he x hx => ?_) fun i e j x q1 q2 => ?_
  ·obtain ⟨e', he', rfl⟩ := List.mem_map.1 he
   rw [renL_length]
   exact hs e' he'
  ·obtain ⟨e', he', rfl⟩ := List.mem_map.1 he
   obtain ⟨j, hj⟩ := List.getElem?_of_mem hx
   rw [renL_get, Option.map_eq_some_iff] at hj
   obtain ⟨x', hx', rfl⟩ := hj
   rw [AV.one_ren]
   exact ho e' he' x' (List.mem_of_getElem? hx')
  ·rw [List.getElem?_map, Option.map_eq_some_iff] at q1
   obtain ⟨e', he', rfl⟩ := q1
   rw [renL_get, Option.map_eq_some_iff] at q2
   obtain ⟨x', hx', rfl⟩ := q2
   obtain ⟨u, hu, hru⟩ := hr i e' j x' he' hx'
   exact ⟨u, hu, repA_by hp hru (labsByL_mem (List.all_eq_true.1 hb e' (List.mem_of_getElem? he')) (List.mem_of_getElem? hx'))⟩
 | map h hg hn hr =>
  rename_i g k ms es
  refine .map (hp _ hl _ h) hg (by rw [List.length_map]; exact hn) fun i m e q1 q2 => ?_
  rw [List.getElem?_map, Option.map_eq_some_iff] at q2
  obtain ⟨e', he', rfl⟩ := q2
  obtain ⟨r1, r2⟩ := hr i m e' q1 he'
  exact ⟨r1, repA_by hp r2 (List.all_eq_true.1 hb e' (List.mem_of_getElem? he'))⟩
 | iter h hg => exact .iter (hp _ hl _ h) hg
def DFn (P : Program) (f : FuncId) (args : List AV) (h : List (Nat × Blk)) (n : Nat) (rt : List Nat) (r : AV) (h' : List (Nat × Blk)) (m : Nat) : Prop :=
 enters P f = true ∧ ∀ (w : World) (I : Nat → Prop) (σ : Lab) (vals : Array Value), vals.size = args.length → (∀ l, n ≤ l → σ l = none) → (∀ (j : Nat) u x, vals[j]? = some u → args[j]? = some x → repA σ w I u x) →
  HOK σ w I (ofH h) w (lentX σ (ofH h)) I → tabOK w I →
  Calls P f vals w fun e w' => ∃ v σ' I', e = .returned v ∧ HOK σ' w' I' (ofH h') w (lentX σ (ofH h)) I ∧ repA σ' w' I' v r ∧ (∀ l ∈ rt, σ' l = σ l) ∧ (∀ l, n + m ≤ l → σ' l = none)
def avT : List AV → Nat → Nat → Option AV
 | [], _ => fun _ => none
 | x :: l, i => upd (avT l (i + 1)) i (some x)
theorem avT_at : ∀ (l : List AV) (i j : Nat), avT l i j = if j < i then none else l[j - i]? := by
 intro l
 induction l with
 | nil => intro i j; simp [avT]
 | cons a l ih =>
  intro i j
  rw [avT]
  by_cases h : j = i
  ·subst h; rw [upd_same, if_neg (by omega), Nat.sub_self]; rfl
  ·rw [upd_ne _ _ h, ih]
   by_cases h2 : j < i
   ·rw [if_pos (by omega), if_pos h2]
   ·rw [if_neg (by omega), if_neg h2, show j - i = (j - (i + 1)) + 1 by omega, List.getElem?_cons_succ]
def resD (P : Program) (s : St) : List ResultVar → List AV → Prop
 | [], [] => True
 | .tmp t :: r, x :: l => s.T t = some x ∧ resD P s r l
 | .cell t ty :: r, x :: l => loadW P ty (s.T t) s.H (fun e => e = ⟨some x, []⟩) ∧ resD P s r l
 | _, _ => False
def oneOrA : List AV → AV
 | [x] => x
 | l => .tuple l
def rootOK (s : St) (args : List AV) (h h' : List (Nat × Blk)) (pins : List Nat) (ρ : Nat → Nat) (l : Nat) : Prop :=
 (∃ j i off sz es es', j ∈ pins ∧ args[j]? = some (.ptr l i off) ∧ s.T j = some (.ptr (ρ l) i off) ∧ ofH h l = some (.row sz es) ∧ ofH h' l = some (.row sz es') ∧ es'.length = es.length ∧ 0 < sz) ∨
 (∃ j es, j ∈ pins ∧ args[j]? = some (.map l) ∧ s.T j = some (.map (ρ l)) ∧ ofH h l = some (.map es))
def EndD (P : Program) (rs : Array ResultVar) (args : List AV) (h : List (Nat × Blk)) (n : Nat) (rt : List Nat) (r : AV) (h' : List (Nat × Blk)) (m : Nat) (pins : List Nat) : Exit → St → Prop
 | .normal, s | .ret, s => ∃ (ρ : Nat → Nat) (l : List AV), resD P s rs.toList l ∧ oneOrA l = r.ren ρ ∧ r.labsIn (n + m) = true ∧ (∀ x ∈ h', s.H (ρ x.1) = some (x.2.ren ρ) ∧ x.1 < n + m ∧ x.2.labsIn (n + m) = true) ∧
   (∀ x ∈ h', ∀ y ∈ h', ρ x.1 = ρ y.1 → x.1 = y.1) ∧ ∀ l ∈ rt, l < n ∧ rootOK s args h h' pins ρ l
 | _, _ => False
theorem slot_kept {σ0 σ1 : Lab} {w0 w1 : World} {I0 I1 : Nat → Prop} {v : Value} {l l1 i off sz : Nat} {es es1 : List (List AV)} (h0 : repA σ0 w0 I0 v (.ptr l i off)) (h1 : repA σ1 w1 I1 v (.ptr l1 i off)) (b0 : repB σ0 w0 I0 l (.row sz es)) (b1 : repB σ1 w1 I1 l1 (.row sz es1))
  (hl : es1.length = es.length) (hz : 0 < sz) (hfr : ∀ (b : Nat) (cur : Array Value) (et : TypeId) (p : Nat × Nat), w0.heap[b]? = some (Obj.cells cur et p) → ∃ (cur' : Array Value) (et' : TypeId) (p' : Nat × Nat), w1.heap[b]? = some (Obj.cells cur' et' p') ∧ cur'.size = cur.size) : σ1 l1 = σ0 l := by
 cases h0 with
 | ptr s0 =>
  rename_i g n c sz0
  generalize hxe : Value.pointer (some ⟨g, i * sz0 + off, none⟩) = xv at h1
  cases h1 with
  | ptr s1 =>
   rename_i g1 n1 c1 sz1
   injection hxe with hxe
   injection hxe with hxe
   injection hxe with hg _ _
   subst hg
   obtain ⟨cur0, et0, p0, e0, f0⟩ := cells_slot b0 s0
   obtain ⟨cur1, et1, p1, e1, f1⟩ := cells_slot b1 s1
   obtain ⟨cur2, et2, p2, e2, f2⟩ := hfr g cur0 et0 p0 e0
   rw [e1] at e2
   injection e2 with e2
   injection e2 with e2
   subst e2
   have n0 : n = es.length ∧ sz0 = sz := by
    cases b0 with
    | emp h => rw [s0] at h; cases h
    | row h => rw [s0] at h; injection h with h; injection h with _ h2 _ h4; exact ⟨h2, h4⟩
   have n1' : n1 = es1.length ∧ sz1 = sz := by
    cases b1 with
    | emp h => rw [s1] at h; cases h
    | row h => rw [s1] at h; injection h with h; injection h with _ h2 _ h4; exact ⟨h2, h4⟩
   obtain ⟨rfl, rfl⟩ := n0
   obtain ⟨rfl, rfl⟩ := n1'
   have hc : c1 = c := Nat.eq_of_mul_eq_mul_right hz (by rw [← f1, f2, f0])
   rw [s0, s1, hc, hl]
theorem resD_run {nt : Fm} {w0 : World} {X I0 : Nat → Prop} {σ : Lab} {I : Nat → Prop} {s : St} {a : Act} {w : World} (tx : TabX w0 X I0) (m : Match nt w0 X I0 σ I s.T s.H a w) (hlab : σ s.nx = none) (f : ResultVar → Sem Value) (hf : ∀ t, f (.tmp t) = pure (a.tmps.getD t undef)) (hf' : ∀ t ty, f (.cell t ty) = (do loadVar ty (← asAddr (a.tmps.getD t undef)))) : ∀ (rs : List ResultVar) (l : List AV), resD P s rs l →
  ∃ vs : List Value, (rs.mapM f).run P w = .ok vs w ∧ vs.length = l.length ∧ ∀ (j : Nat) u x, vs[j]? = some u → l[j]? = some x → repA σ w I u x := by
 intro rs
 induction rs with
 | nil =>
  intro l h
  cases l with
  | nil => exact ⟨[], rfl, rfl, fun j u p h _ => by simp at h⟩
  | cons x l => simp [resD] at h
 | cons r rs ih =>
  intro l h
  cases l with
  | nil => cases r <;> simp [resD] at h
  | cons x l =>
   cases r with
   | cell t ty =>
    obtain ⟨hx, hl⟩ := h
    obtain ⟨ad, v, y, q1, q2, q3, q4⟩ := load_run (P := P) (lab := s.nx) (t := ty) (x := .tmp t) (k := fun e => e = ⟨some x, []⟩) ⟨m.heap, m.tmps, hlab, tx⟩ hx
    simp only [Eff.mk.injEq, Option.some.injEq, and_true] at q4
    subst q4
    obtain ⟨vs, h1, h2, h3⟩ := ih l hl
    refine ⟨v :: vs, ?_, by simp [h2], fun j u p r1 r2 => ?_⟩
    ·have q1' : a.tmps.getD t undef = .pointer (some ad) := q1
     rw [List.mapM_cons, hf', q1']
     simp [asAddr, q2, h1]
    ·rcases j with _ | j
     ·simp at r1 r2; subst r1 r2; exact q3
     ·exact h3 j u p (by simpa using r1) (by simpa using r2)
   | tmp t =>
    obtain ⟨hx, hl⟩ := h
    obtain ⟨u, hu, hru⟩ := m.tmps t x hx
    obtain ⟨vs, h1, h2, h3⟩ := ih l hl
    refine ⟨u :: vs, ?_, by simp [h2], fun j u' p r1 r2 => ?_⟩
    ·rw [List.mapM_cons, hf]
     have : a.tmps.getD t undef = u := by simp [Array.getD_eq_getD_getElem?, hu]
     rw [this]
     simp [h1]
    ·rcases j with _ | j
     ·simp at r1 r2; subst r1 r2; exact hru
     ·exact h3 j u' p (by simpa using r1) (by simpa using r2)
end Go.Aw
namespace Go.Aw
open Go.RowKit
variable {P : Program}
theorem DFn.of {f : FuncId} {fn : Func} {c : Code} {args : List AV} {h : List (Nat × Blk)} {n : Nat} {rt : List Nat} {r : AV} {h' : List (Nat × Blk)} {m : Nat} (pins : List Nat) (hf : P.funcs[f]? = some fn) (hb : fn.body = some c) (hn : fn.name ≠ "runtime.NumGoroutine") {nt : Nat} (hnt : fn.ntmps = nt) {rs : Array ResultVar} (hrs : fn.results = rs) (hnt' : args.length ≤ nt)
  (hpins : ∀ i ∈ pins, i < args.length) (hw : ∀ val : Nat → Value, AW P ⟨nt, pins, val⟩ c ⟨avT args 0, ofH h, n⟩ (EndD P rs args h n rt r h' m pins)) : DFn P f args h n rt r h' m := by
 subst hnt hrs
 refine ⟨by simp [enters, hf, hb, hn], fun w I σ vals hs hσ hr hH ht => ?_⟩
 have tx : TabX w (lentX σ (ofH h)) I := ⟨ht, fun g hg => (hH.imm g hg).1, fun g ⟨l, s, q1, q2, q3⟩ => (hH.mine l g s q1 q2 q3).1⟩
 refine calls_of_wp hf hb ?_
 have at_ : ∀ i, i < vals.size → (vals ++ Array.replicate (fn.ntmps - vals.size) undef)[i]? = vals[i]? := fun i hi => by rw [Array.getElem?_append_left hi]
 have mt : Matches ⟨fn.ntmps, pins, fun i => vals.getD i undef⟩ w (lentX σ (ofH h)) I ⟨avT args 0, ofH h, n⟩ { tmps := vals ++ Array.replicate (fn.ntmps - vals.size) undef, defers := [] } w := by
  refine ⟨σ, I, hσ, rfl, (by simp; omega), fun i hi => ?_, hH, fun i x hx => ?_⟩
  ·have hlt := hpins i hi
   rw [← hs] at hlt
   simp only
   rw [at_ i hlt, Array.getD_eq_getD_getElem?, Array.getElem?_eq_getElem hlt]
   rfl
  ·simp only at hx
   rw [avT_at, if_neg (by omega), Nat.sub_zero] at hx
   have hi : i < vals.size := by rw [hs]; exact (List.getElem?_eq_some_iff.1 hx).1
   exact ⟨vals[i], by rw [at_ i hi, Array.getElem?_eq_getElem hi], hr i _ x (Array.getElem?_eq_getElem hi) hx⟩
 refine wp_mono (hw _ w _ I _ w tx mt) ?_
 rintro e a' w' ⟨s', ⟨σ', I', hn', m'⟩, q⟩
 have fin : EndD P fn.results args h n rt r h' m pins .ret s' → a'.defers = [] ∧ ∃ v, (results fn a'.tmps).run P w' = .ok v w' ∧
   ∃ v' σ'' I'', Ending.returned v = .returned v' ∧ HOK σ'' w' I'' (ofH h') w (lentX σ (ofH h)) I ∧ repA σ'' w' I'' v' r ∧ (∀ l ∈ rt, σ'' l = σ l) ∧ (∀ l, n + m ≤ l → σ'' l = none) := by
  rintro ⟨ρ, l, q1, q2, q3, q4, q5, q6⟩
  obtain ⟨vs, h1, h2, h3⟩ := resD_run (P := P) tx m' (hn' _ (Nat.le_refl _)) (resF a'.tmps) (fun t => rfl) (fun t ty => rfl) fn.results.toList l q1
  have hrun : (results fn a'.tmps).run P w' = .ok (if h : vs.length = 1 then vs[0] else .tuple vs.toArray) w' := by
   rw [results_eq, show fn.results = fn.results.toList.toArray by simp, List.mapM_toArray]
   simp only [Sem.run_bind, Sem.run_map, h1, Result.andThen_ok, Sem.run_pure, List.size_toArray, List.getElem_toArray]
  have hat : ∀ l b, ofH h' l = some b → s'.H (ρ l) = some (b.ren ρ) ∧ l < n + m ∧ b.labsIn (n + m) = true := fun l b hl => q4 (l, b) (ofH_mem hl)
  have hv : repA σ' w' I' (if h : vs.length = 1 then vs[0] else .tuple vs.toArray) (oneOrA l) := by
   by_cases h4 : vs.length = 1
   ·rw [dif_pos h4]
    obtain ⟨p, rfl⟩ : ∃ p, l = [p] := List.length_eq_one_iff.1 (by omega)
    exact h3 0 _ p (List.getElem?_eq_getElem (by omega)) rfl
   ·rw [dif_neg h4]
    have : oneOrA l = .tuple l := by
     unfold oneOrA
     split
     ·exact absurd h2 h4
     ·rfl
    rw [this]
    exact .tuple (by simpa using h2) (fun j u p q1 q2 => h3 j u p (by simpa using q1) q2)
  refine ⟨m'.defers, _, hrun, _, relab ρ (n + m) σ', I', rfl, ⟨fun l b hl => ?_, fun l l' g s1 s2 n1 n2 e1 e2 g1 g2 => ?_, fun l g s1 n1 e1 g1 => ?_, m'.heap.imm, m'.heap.sub, m'.heap.fr⟩, repA_ren hv r q2 q3, fun l hl => ?_, fun l hl => ?_⟩
  ·obtain ⟨p1, p2, p3⟩ := hat l b hl
   exact repB_ren p2 (m'.heap.rows _ _ p1) p3
  ·obtain ⟨b1, hb1⟩ := Option.ne_none_iff_exists'.1 n1
   obtain ⟨b2, hb2⟩ := Option.ne_none_iff_exists'.1 n2
   obtain ⟨p1, p2, p3⟩ := hat l b1 hb1
   obtain ⟨p1', p2', p3'⟩ := hat l' b2 hb2
   unfold relab at e1 e2
   rw [if_pos p2] at e1
   rw [if_pos p2'] at e2
   have := m'.heap.inj (ρ l) (ρ l') g s1 s2 (by rw [p1]; simp) (by rw [p1']; simp) e1 e2 g1 g2
   exact q5 (l, b1) (ofH_mem hb1) (l', b2) (ofH_mem hb2) this
  ·obtain ⟨b1, hb1⟩ := Option.ne_none_iff_exists'.1 n1
   obtain ⟨p1, p2, p3⟩ := hat l b1 hb1
   unfold relab at e1
   rw [if_pos p2] at e1
   exact m'.heap.mine (ρ l) g s1 (by rw [p1]; simp) e1 g1
  ·obtain ⟨hln, hroot⟩ := q6 l hl
   unfold relab
   rw [if_pos (by omega)]
   have pin : ∀ j, j ∈ pins → ∀ x, s'.T j = some x → ∃ u, vals[j]? = some u ∧ repA σ' w' I' u x := fun j hj x hx => by
    have hp := m'.pins j hj
    obtain ⟨u, hu, hru⟩ := m'.tmps j x hx
    rw [hp] at hu
    have hlt : j < vals.size := by rw [hs]; exact hpins j hj
    simp only [Option.some.injEq] at hu
    rw [Array.getD_eq_getD_getElem?, Array.getElem?_eq_getElem hlt] at hu
    simp only [Option.getD_some] at hu
    subst hu
    exact ⟨_, Array.getElem?_eq_getElem hlt, hru⟩
   rcases hroot with ⟨j, i, off, sz, es, es', r1, r2, r3, r4, r5, r6, r7⟩ | ⟨j, es, r1, r2, r3, r4⟩
   ·obtain ⟨u, hu, hru⟩ := pin j r1 _ r3
    obtain ⟨p1, p2, p3⟩ := hat l _ r5
    have hu0 := hr j u _ hu r2
    have b0 := hH.rows l _ r4
    have b1 := m'.heap.rows _ _ p1
    exact slot_kept hu0 hru b0 b1 (by rw [List.length_map]; exact r6) r7 m'.heap.fr.shape
   ·obtain ⟨u, hu, hru⟩ := pin j r1 _ r3
    have hu0 := hr j u _ hu r2
    cases hu0 with
    | map s0 =>
     cases hru with
     | map s1 => rw [s0, s1]
  ·unfold relab
   rw [if_neg (by omega)]
 cases e with
 | normal => exact fin q
 | ret => exact fin q
 | exit _ => exact q.elim
 | goto _ => exact q.elim
 | panic _ => exact q.elim
 | outgrown => exact q.elim
def argD (T : Nat → Option AV) (ρ : Nat → Nat) : List Operand → List AV → Prop
 | [], [] => True
 | x :: xs, .p p :: ys => (match ev T x with | some v => pureA v = some p | none => False) ∧ argD T ρ xs ys
 | x :: xs, y :: ys => ev T x = some (y.ren ρ) ∧ argD T ρ xs ys
 | _, _ => False
theorem argD_spec {T : Nat → Option AV} {ρ : Nat → Nat} : ∀ {xs : List Operand} {ys : List AV}, argD T ρ xs ys → xs.length = ys.length ∧ ∀ (j : Nat) x y, xs[j]? = some x → ys[j]? = some y → (∃ p v, y = .p p ∧ ev T x = some v ∧ pureA v = some p) ∨ ev T x = some (y.ren ρ) := by
 intro xs
 induction xs with
 | nil =>
  intro ys h
  cases ys with
  | nil => exact ⟨rfl, fun j x y h => by simp at h⟩
  | cons y ys => simp [argD] at h
 | cons x xs ih =>
  intro ys h
  cases ys with
  | nil => simp [argD] at h
  | cons y ys =>
   have main : argD T ρ xs ys → ((∃ p v, y = .p p ∧ ev T x = some v ∧ pureA v = some p) ∨ ev T x = some (y.ren ρ)) → (x :: xs).length = (y :: ys).length ∧ ∀ (j : Nat) x' y', (x :: xs)[j]? = some x' → (y :: ys)[j]? = some y' → (∃ p v, y' = .p p ∧ ev T x' = some v ∧ pureA v = some p) ∨ ev T x' = some (y'.ren ρ) := by
    intro h1 h2
    obtain ⟨q1, q2⟩ := ih h1
    refine ⟨by simp [q1], fun j x' y' e1 e2 => ?_⟩
    cases j with
    | zero => simp at e1 e2; subst e1 e2; exact h2
    | succ j => exact q2 j x' y' (by simpa using e1) (by simpa using e2)
   cases y with
   | p p =>
    simp only [argD] at h
    obtain ⟨h1, h2⟩ := h
    split at h1
    ·rename_i v hv
     exact main h2 (.inl ⟨p, v, rfl, hv, h1⟩)
    ·exact h1.elim
   | _ => exact main h.2 (.inr h.1)
def lift2 (ρ : Nat → Nat) (n nx : Nat) (l : Nat) : Nat := if l < n then ρ l else nx + (l - n)
def goneU (ρ : Nat → Nat) (h : List (Nat × Blk)) : List (Nat × Option Blk) := h.map fun x => (ρ x.1, none)
def newU (ρ : Nat → Nat) (h : List (Nat × Blk)) : List (Nat × Option Blk) := h.map fun x => (ρ x.1, some (x.2.ren ρ))
theorem putH_gone (ρ : Nat → Nat) (l : Nat) : ∀ (h : List (Nat × Blk)) (H : Nat → Option Blk), (putH H (goneU ρ h) l = H l ∧ ∀ x ∈ h, ρ x.1 ≠ l) ∨ (putH H (goneU ρ h) l = none ∧ ∃ x ∈ h, ρ x.1 = l)
 | [], H => .inl ⟨rfl, fun x hx => by cases hx⟩
 | x :: h, H => by
  have e : putH H (goneU ρ (x :: h)) = putH (upd H (ρ x.1) none) (goneU ρ h) := rfl
  rw [e]
  rcases putH_gone ρ l h (upd H (ρ x.1) none) with ⟨h1, h2⟩ | ⟨h1, y, hy, h2⟩
  ·by_cases hl : ρ x.1 = l
   ·right
    refine ⟨?_, x, List.mem_cons_self, hl⟩
    rw [h1, hl, upd_same]
   ·left
    refine ⟨by rw [h1, upd_ne _ _ (fun h => hl h.symm)], fun y hy => ?_⟩
    rcases List.mem_cons.1 hy with rfl | hy
    ·exact hl
    ·exact h2 y hy
  ·exact .inr ⟨h1, y, List.mem_cons_of_mem _ hy, h2⟩
theorem putH_new (ρ : Nat → Nat) (l : Nat) : ∀ (h : List (Nat × Blk)) (H : Nat → Option Blk), (putH H (newU ρ h) l = H l ∧ ∀ x ∈ h, ρ x.1 ≠ l) ∨ (∃ x ∈ h, ρ x.1 = l ∧ putH H (newU ρ h) l = some (x.2.ren ρ))
 | [], H => .inl ⟨rfl, fun x hx => by cases hx⟩
 | x :: h, H => by
  have e : putH H (newU ρ (x :: h)) = putH (upd H (ρ x.1) (some (x.2.ren ρ))) (newU ρ h) := rfl
  rw [e]
  rcases putH_new ρ l h (upd H (ρ x.1) (some (x.2.ren ρ))) with ⟨h1, h2⟩ | ⟨y, hy, h1, h2⟩
  ·by_cases hl : ρ x.1 = l
   ·right
    refine ⟨x, List.mem_cons_self, hl, ?_⟩
    rw [h1, ← hl, upd_same]
   ·left
    refine ⟨by rw [h1, upd_ne _ _ (fun h => hl h.symm)], fun y hy => ?_⟩
    rcases List.mem_cons.1 hy with rfl | hy
    ·exact hl
    ·exact h2 y hy
  ·exact .inr ⟨y, List.mem_cons_of_mem _ hy, h1, h2⟩
def distinct : List Nat → Bool
 | [] => true
 | x :: l => !l.contains x && distinct l
theorem ofH_of_mem : ∀ {h : List (Nat × Blk)} {x : Nat × Blk}, distinct (h.map (·.1)) = true → x ∈ h → ofH h x.1 = some x.2
 | [], _, _, h => by cases h
 | y :: h, x, hd, hx => by
  simp only [List.map_cons, distinct, Bool.and_eq_true, Bool.not_eq_true'] at hd
  obtain ⟨a, b⟩ := y
  rcases List.mem_cons.1 hx with rfl | hx'
  ·simp [ofH]
  ·have : x.1 ≠ a := by
    intro e
    have : (h.map (·.1)).contains a = true := by
     rw [List.contains_iff_mem]
     exact List.mem_map.2 ⟨x, hx', e⟩
    rw [this] at hd
    cases hd.1
   simp only [ofH, if_neg this]
   exact ofH_of_mem hd.2 hx'
structure FitD (s : St) (xs : List Operand) (args : List AV) (h : List (Nat × Blk)) (n : Nat) (rt : List Nat) (r : AV) (h' : List (Nat × Blk)) (ρ : Nat → Nat) : Prop where
 opd : argD s.T ρ xs args
 labs : args.all (fun y => y.labsIn n) = true
 here : ∀ x ∈ h, s.H (ρ x.1) = some (x.2.ren ρ) ∧ x.1 < n ∧ x.2.labsIn n = true
 inj : distinct (h.map fun x => ρ x.1) = true
 dist : distinct (h.map (·.1)) = true
 dist' : distinct (h'.map (·.1)) = true
 roots : rt.all (fun l => (h.map (·.1)).contains l) = true
 res : r.labsBy (fun l => rt.contains l || decide (n ≤ l)) = true
 mem : h'.all (fun x => (rt.contains x.1 || decide (n ≤ x.1)) && x.2.labsBy (fun l => rt.contains l || decide (n ≤ l))) = true
theorem distinct_inj {ρ : Nat → Nat} : ∀ {h : List (Nat × Blk)}, distinct (h.map fun x => ρ x.1) = true → ∀ x ∈ h, ∀ y ∈ h, ρ x.1 = ρ y.1 → x = y
 | [], _, x, hx, _, _, _ => by cases hx
 | z :: h, hd, x, hx, y, hy, e => by
  simp only [List.map_cons, distinct, Bool.and_eq_true, Bool.not_eq_true'] at hd
  have no : ∀ v ∈ h, ρ v.1 ≠ ρ z.1 := fun v hv e => by
   have : (h.map fun x => ρ x.1).contains (ρ z.1) = true := by
    rw [List.contains_iff_mem]
    exact List.mem_map.2 ⟨v, hv, e⟩
   rw [this] at hd
   cases hd.1
  rcases List.mem_cons.1 hx with hx' | hx'
  ·rcases List.mem_cons.1 hy with hy' | hy'
   ·rw [hx', hy']
   ·rw [hx'] at e
    exact absurd e.symm (no y hy')
  ·rcases List.mem_cons.1 hy with hy' | hy'
   ·rw [hy'] at e
    exact absurd e (no x hx')
   ·exact distinct_inj hd.2 x hx' y hy' e
theorem callD_fn {nt : Fm} {s : St} {K : St → Prop} {o : Oper} {f : FuncId} {xs : Array Operand} {ts : Array TypeId} {args : List AV} {h : List (Nat × Blk)} {n : Nat} {rt : List Nat} {r : AV} {h' : List (Nat × Blk)} {m : Nat} (ρ : Nat → Nat)
  (ho : o.op = .call { callee := .value (.func f), args := xs, argTypes := ts }) (hd : dstOK nt o = true) (D : DFn P f args h n rt r h' m) (F : FitD s xs.toList args h n rt r h' ρ)
  (hk : K ⟨putT s.T o.dst (some (r.ren (lift2 ρ n s.nx))), putH (putH s.H (goneU ρ h)) (newU (lift2 ρ n s.nx) h'), s.nx + m⟩) : CallD P nt o s K := by
 obtain ⟨hen, hp⟩ := D
 intro w0 X I0 a w next Q tx ⟨σ, I, hn, mm⟩ hnext
 have IN : In σ w I s.T s.H w0 X I0 a s.nx := ⟨mm.heap, mm.tmps, hn _ (Nat.le_refl _), tx⟩
 have hrun : (execOp a.eval o).run P w = .ok (.enter f (xs.map a.eval)) w := by
  have he : a.eval (.func f) = .func (.func f) #[] #[] := rfl
  simp only [execOp, ho, resolve, he, Deferred.ofValue, Sem.run_bind, Sem.run_pure, Result.andThen_ok, invoke, Array.append_empty, Array.empty_append, run_enter hen]
 obtain ⟨p1, p2⟩ := argD_spec F.opd
 have here : ∀ l b, ofH h l = some b → s.H (ρ l) = some (b.ren ρ) ∧ l < n ∧ b.labsIn n = true := fun l b hl => F.here (l, b) (ofH_mem hl)
 have inj : ∀ l l' b b', ofH h l = some b → ofH h l' = some b' → ρ l = ρ l' → l = l' := fun l l' b b' h1 h2 e => by
  have := distinct_inj F.inj (l, b) (ofH_mem h1) (l', b') (ofH_mem h2) e
  injection this
 generalize hσc : relab ρ n σ = σc
 have σat : ∀ l, l < n → σc l = σ (ρ l) := fun l hl => by rw [← hσc]; unfold relab; rw [if_pos hl]
 have σno : ∀ l, n ≤ l → σc l = none := fun l hl => by rw [← hσc]; unfold relab; rw [if_neg (by omega)]
 have Xof : ∀ g, lentX σc (ofH h) g → ∃ l b sl, ofH h l = some b ∧ s.H (ρ l) = some (b.ren ρ) ∧ σ (ρ l) = some sl ∧ sl.block = some g := fun g ⟨l, sl, q1, q2, q3⟩ => by
  obtain ⟨b, hb⟩ := Option.ne_none_iff_exists'.1 q1
  obtain ⟨r1, r2, _⟩ := here l b hb
  exact ⟨l, b, sl, hb, r1, by rw [← σat l r2]; exact q2, q3⟩
 have hH : HOK σc w I (ofH h) w (lentX σc (ofH h)) I := by
  refine ⟨fun l b hl => ?_, fun l l' g s1 s2 n1 n2 e1 e2 g1 g2 => ?_, fun l g s1 n1 e1 g1 => ?_, fun g hg => ⟨(mm.heap.imm g hg).1, .inl hg⟩, fun _ h => h, Fr.refl _ _⟩
  ·obtain ⟨r1, r2, r3⟩ := here l b hl
   rw [← hσc]
   exact repB_ren r2 (mm.heap.rows _ _ r1) r3
  ·obtain ⟨b1, hb1⟩ := Option.ne_none_iff_exists'.1 n1
   obtain ⟨b2, hb2⟩ := Option.ne_none_iff_exists'.1 n2
   obtain ⟨r1, r2, _⟩ := here l b1 hb1
   obtain ⟨r1', r2', _⟩ := here l' b2 hb2
   rw [σat l r2] at e1
   rw [σat l' r2'] at e2
   exact inj l l' b1 b2 hb1 hb2 (mm.heap.inj _ _ g s1 s2 (by rw [r1]; simp) (by rw [r1']; simp) e1 e2 g1 g2)
  ·obtain ⟨b1, hb1⟩ := Option.ne_none_iff_exists'.1 n1
   obtain ⟨r1, r2, _⟩ := here l b1 hb1
   refine ⟨?_, .inl ⟨l, s1, n1, e1, g1⟩⟩
   rw [σat l r2] at e1
   exact (mm.heap.mine _ g s1 (by rw [r1]; simp) e1 g1).1
 have hargs := hp w I σc (xs.map a.eval) (by simpa using p1) σno (fun j u y q1 q2 => by
  rw [Array.getElem?_map, Option.map_eq_some_iff] at q1
  obtain ⟨x, hx, rfl⟩ := q1
  have hlab : y.labsIn n = true := List.all_eq_true.1 F.labs y (List.mem_of_getElem? q2)
  rcases p2 j x y (by simpa using hx) q2 with ⟨p, v, rfl, hv, hpv⟩ | hv
  ·exact .p (rep_pureA (IN.ev hv) hpv)
  ·rw [← hσc]
   exact repA_ren (IN.ev hv) y rfl hlab) hH IN.tabs
 unfold Oper.wp
 rw [hrun, Oper.upon_enter]
 refine hargs.mono fun e w' he => ?_
 obtain ⟨v, σ', I', rfl, hh, hrv, hroot, hnew⟩ := he
 -- the caller's labels behind the call
 obtain ⟨σ2, hσ2⟩ : ∃ σ2 : Lab, ∀ l, σ2 l = if l < s.nx then σ l else σ' (n + (l - s.nx)) := ⟨fun l => if l < s.nx then σ l else σ' (n + (l - s.nx)), fun _ => rfl⟩
 have old : ∀ l sl, σ l = some sl → σ2 l = some sl := fun l sl hl => by
  rw [hσ2]
  rcases Nat.lt_or_ge l s.nx with q | q
  ·rw [if_pos q]; exact hl
  ·rw [hn l q] at hl; cases hl
 have new : ∀ l, (rt.contains l || decide (n ≤ l)) = true → ∀ sl, σ' l = some sl → σ2 (lift2 ρ n s.nx l) = some sl := fun l hl sl hs => by
  unfold lift2
  rcases Nat.lt_or_ge l n with q | q
  ·rw [if_pos q]
   have hm : l ∈ rt := by
    rcases Bool.or_eq_true_iff.1 hl with hl | hl
    ·exact List.contains_iff_mem.1 hl
    ·simp at hl; omega
   rw [hroot l hm, σat l q] at hs
   exact old _ _ hs
  ·rw [if_neg (by omega), hσ2, if_neg (by omega), show n + (s.nx + (l - n) - s.nx) = l by omega]
   exact hs
 have blk : ∀ l g sl, s.H l ≠ none → σ l = some sl → sl.block = some g → g < w.heap.size := fun l g sl hn hs hg => by
  obtain ⟨b, hb⟩ := Option.ne_none_iff_exists'.1 hn
  obtain ⟨s', hs', hlt⟩ := (mm.heap.rows l b hb).block
  rw [hs] at hs'; injection hs' with hs'; subst hs'
  exact hlt g hg
 have Xmine : ∀ g, lentX σc (ofH h) g → ¬ I g ∧ (X g ∨ w0.heap.size ≤ g) ∧ g < w.heap.size := fun g hg => by
  obtain ⟨l, b, sl, q1, q2, q3, q4⟩ := Xof g hg
  obtain ⟨m1, m2⟩ := mm.heap.mine _ g sl (by rw [q2]; simp) q3 q4
  exact ⟨m1, m2, blk _ g sl (by rw [q2]; simp) q3 q4⟩
 have same : ∀ b, I b → w'.heap[b]? = w.heap[b]? := fun b hb => hh.fr.block b (mm.heap.imm b hb).1 fun hx => (Xmine b hx).1 hb
 have hI : ∀ g, I g → I' g := hh.sub
 have fresh : ∀ g, I' g → I g ∨ lentX σc (ofH h) g ∨ w.heap.size ≤ g := fun g hg => (hh.imm g hg).2
 have frame : ∀ l b, s.H l = some b → (∀ x ∈ h, ρ x.1 ≠ l) → ∀ g sl, σ l = some sl → sl.block = some g → ¬ lentX σc (ofH h) g := fun l b hl hno g sl hs hg hx => by
  obtain ⟨l2, b2, sl2, q1, q2, q3, q4⟩ := Xof g hx
  exact hno (l2, b2) (ofH_mem q1) (mm.heap.inj _ _ g sl2 sl (by rw [q2]; simp) (by rw [hl]; simp) q3 hs q4 hg)
 -- what stands where
 have cls : ∀ l b, putH (putH s.H (goneU ρ h)) (newU (lift2 ρ n s.nx) h') l = some b → (∃ x ∈ h', lift2 ρ n s.nx x.1 = l ∧ b = x.2.ren (lift2 ρ n s.nx)) ∨ (s.H l = some b ∧ (∀ x ∈ h, ρ x.1 ≠ l)) := fun l b hl => by
  rcases putH_new (lift2 ρ n s.nx) l h' (putH s.H (goneU ρ h)) with ⟨e1, e2⟩ | ⟨x, hx, e1, e2⟩
  ·rw [e1] at hl
   rcases putH_gone ρ l h s.H with ⟨e3, e4⟩ | ⟨e3, _⟩
   ·rw [e3] at hl; exact .inr ⟨hl, e4⟩
   ·rw [e3] at hl; cases hl
  ·rw [e2] at hl
   injection hl with hl
   exact .inl ⟨x, hx, e1, hl.symm⟩
 have mem' : ∀ x ∈ h', (rt.contains x.1 || decide (n ≤ x.1)) = true ∧ x.2.labsBy (fun l => rt.contains l || decide (n ≤ l)) = true := fun x hx => by
  have := List.all_eq_true.1 F.mem x hx
  rwa [Bool.and_eq_true] at this
 have inv : ∀ l, (rt.contains l || decide (n ≤ l)) = true → ∀ sl, σ2 (lift2 ρ n s.nx l) = some sl → σ' l = some sl := fun l hl sl hs => by
  unfold lift2 at hs
  rcases Nat.lt_or_ge l n with q | q
  ·rw [if_pos q] at hs
   have hm : l ∈ rt := by
    rcases Bool.or_eq_true_iff.1 hl with hl | hl
    ·exact List.contains_iff_mem.1 hl
    ·simp at hl; omega
   rw [hroot l hm, σat l q]
   have hc := List.contains_iff_mem.1 (List.all_eq_true.1 F.roots l hm)
   obtain ⟨x, hx, hxl⟩ := List.mem_map.1 hc
   obtain ⟨r1, r2, _⟩ := F.here x hx
   have hlt : ρ l < s.nx := by
    rcases Nat.lt_or_ge (ρ l) s.nx with z | z
    ·exact z
    ·obtain ⟨sl', hsl', _⟩ := (mm.heap.rows _ _ r1).block
     rw [hxl, hn _ z] at hsl'; cases hsl'
   rw [hσ2, if_pos hlt] at hs
   exact hs
  ·rw [if_neg (by omega), hσ2, if_neg (by omega), show n + (s.nx + (l - n) - s.nx) = l by omega] at hs
   exact hs
 have OK : HOK σ2 w' I' (putH (putH s.H (goneU ρ h)) (newU (lift2 ρ n s.nx) h')) w0 X I0 := by
  have rowN : ∀ x ∈ h', repB σ' w' I' x.1 x.2 := fun x hx => hh.rows x.1 x.2 (ofH_of_mem F.dist' hx)
  have neN : ∀ x ∈ h', ofH h' x.1 ≠ none := fun x hx => by rw [ofH_of_mem F.dist' hx]; simp
  have slotF : ∀ l b sl, s.H l = some b → σ2 l = some sl → σ l = some sl := fun l b sl hl hs => by
   obtain ⟨sl', hsl', _⟩ := (mm.heap.rows l b hl).block
   rw [old l sl' hsl'] at hs
   rw [hsl']; exact hs
  refine ⟨fun l b hl => ?_, fun l1 l2 g s1 s2 n1 n2 e1 e2 g1 g2 => ?_, fun l g sl n1 e1 g1 => ?_, fun g hg => ?_, fun g hg => hh.sub g (mm.heap.sub g hg), ⟨hh.fr.os.trans mm.heap.fr.os, hh.fr.tape.trans mm.heap.fr.tape, hh.fr.output.trans mm.heap.fr.output, Nat.le_trans mm.heap.fr.size hh.fr.size, fun b hb hx => ?_, mm.heap.fr.step fun b cur et p hb hc => hh.fr.shape b cur et p hc⟩⟩
  ·rcases cls l b hl with ⟨x, hx, rfl, rfl⟩ | ⟨hl', hno⟩
   ·exact repB_by new (mem' x hx).1 (rowN x hx) (mem' x hx).2
   ·obtain ⟨sl, hsl, hlt⟩ := (mm.heap.rows l b hl').block
    refine (mm.heap.rows l b hl').mono old hI same fun g s' q1 q2 => ?_
    rw [hsl] at q1; injection q1 with q1; subst q1
    exact hh.fr.block g (hlt g q2) (frame l b hl' hno g _ hsl q2)
  ·obtain ⟨b1, hb1⟩ := Option.ne_none_iff_exists'.1 n1
   obtain ⟨b2, hb2⟩ := Option.ne_none_iff_exists'.1 n2
   rcases cls l1 b1 hb1 with ⟨x, hx, rfl, rfl⟩ | ⟨h1, no1⟩
   ·have f1 := inv x.1 (mem' x hx).1 s1 e1
    rcases cls l2 b2 hb2 with ⟨y, hy, rfl, rfl⟩ | ⟨h2, no2⟩
    ·have f2 := inv y.1 (mem' y hy).1 s2 e2
     rw [hh.inj x.1 y.1 g s1 s2 (neN x hx) (neN y hy) f1 f2 g1 g2]
    ·exfalso
     have f2 := slotF l2 b2 s2 h2 e2
     rcases (hh.mine x.1 g s1 (neN x hx) f1 g1).2 with q | q
     ·exact frame l2 b2 h2 no2 g s2 f2 g2 q
     ·have := blk l2 g s2 (by rw [h2]; simp) f2 g2; omega
   ·have f1 := slotF l1 b1 s1 h1 e1
    rcases cls l2 b2 hb2 with ⟨y, hy, rfl, rfl⟩ | ⟨h2, no2⟩
    ·exfalso
     have f2 := inv y.1 (mem' y hy).1 s2 e2
     rcases (hh.mine y.1 g s2 (neN y hy) f2 g2).2 with q | q
     ·exact frame l1 b1 h1 no1 g s1 f1 g1 q
     ·have := blk l1 g s1 (by rw [h1]; simp) f1 g1; omega
    ·exact mm.heap.inj l1 l2 g s1 s2 (by rw [h1]; simp) (by rw [h2]; simp) f1 (slotF l2 b2 s2 h2 e2) g1 g2
  ·obtain ⟨b1, hb1⟩ := Option.ne_none_iff_exists'.1 n1
   rcases cls l b1 hb1 with ⟨x, hx, rfl, rfl⟩ | ⟨h1, no1⟩
   ·have f1 := inv x.1 (mem' x hx).1 sl e1
    obtain ⟨m1, m2⟩ := hh.mine x.1 g sl (neN x hx) f1 g1
    refine ⟨m1, ?_⟩
    rcases m2 with q | q
    ·exact (Xmine g q).2.1
    ·exact .inr (Nat.le_trans mm.heap.fr.size q)
   ·have f1 := slotF l b1 sl h1 e1
    obtain ⟨m1, m2⟩ := mm.heap.mine l g sl (by rw [h1]; simp) f1 g1
    refine ⟨fun hg => ?_, m2⟩
    rcases fresh g hg with q | q | q
    ·exact m1 q
    ·exact frame l b1 h1 no1 g sl f1 g1 q
    ·have := blk l g sl (by rw [h1]; simp) f1 g1; omega
  ·refine ⟨(hh.imm g hg).1, ?_⟩
   rcases fresh g hg with q | q | q
   ·exact (mm.heap.imm g q).2
   ·exact .inr (Xmine g q).2.1
   ·exact .inr (.inr (Nat.le_trans mm.heap.fr.size q))
  ·rw [hh.fr.block b (by have := mm.heap.fr.size; omega) fun hx' => ?_]
   ·exact mm.heap.fr.block b hb hx
   ·rcases (Xmine b hx').2.1 with q | q
    ·exact hx q
    ·omega
 refine hnext ⟨putT s.T o.dst (some (r.ren (lift2 ρ n s.nx))), _, s.nx + m⟩ _ w' ⟨σ2, I', fun l hl => ?_, mm.put hd OK old hI same fun y hy => by injection hy with hy; subst hy; exact repA_by new hrv F.res⟩ hk
 simp only at hl
 rw [hσ2, if_neg (by omega)]
 exact hnew _ (by omega)
end Go.Aw
namespace Go.Aw
open Go.Proofs Go.RowKit
set_option linter.unusedSimpArgs false
set_option linter.unusedVariables false
theorem SeqR.call {P : Program} {nt : Fm} {s : St} {ops : Array Oper} {i : Nat} {K : St → Prop} {d : Tmp} {f : FuncId} {xs : Array Operand} {ts : Array TypeId} {ty : TypeId} {ps : String} {af : Array Edge} {args : List AV} {h : List (Nat × Blk)} {n : Nat} {rt : List Nat} {r : AV} {h' : List (Nat × Blk)} {m : Nat} (ρ : Nat → Nat)
  (ho : ops[i]? = some ⟨some d, .call { callee := .value (.func f), args := xs, argTypes := ts }, ty, ps, af, none⟩) (hd : dstOK nt ⟨some d, .call { callee := .value (.func f), args := xs, argTypes := ts }, ty, ps, af, none⟩ = true) (D : DFn P f args h n rt r h' m) (F : FitD s xs.toList args h n rt r h' ρ)
  (hk : SeqR P nt ops (i + 1) ⟨upd s.T d (some (r.ren (lift2 ρ n s.nx))), putH (putH s.H (goneU ρ h)) (newU (lift2 ρ n s.nx) h'), s.nx + m⟩ K) : SeqR P nt ops i s K :=
 SeqR.op ho rfl (callD_fn ρ rfl hd D F hk)
theorem labsBy_lift {p : Nat → Bool} {sz : Nat} {es : List (List PV)} : (Blk.row sz (liftE es)).labsBy p = true := by
 have : ∀ l : List PV, labsByL p (l.map AV.p) = true := fun l => by
  induction l with
  | nil => rfl
  | cons a l ih => rw [List.map_cons, labsByL, ih]; rfl
 simp only [Blk.labsBy, liftE, List.all_map, List.all_eq_true]
 intro e _
 exact this e
end Go.Aw
namespace Go.Aw
open Go.Proofs Go.RowKit
set_option linter.unusedSimpArgs false
set_option linter.unusedVariables false
def mP (l : List Pr) : List (PV × AV) := l.map fun p => (.agg [.str p.o, .str p.n], .p (.bool true))
theorem mP_no {l : List Pr} {p : Pr} (h : l.contains p = false) : MapAt (mP l) (.agg [.str p.o, .str p.n]) none :=
 mapAt_none (q := fun a : Pr => p == a) (fun a => by
  simp only [keyEq]
  congr 1
  rw [Bool.eq_iff_iff]
  cases p; cases a
  simp) (by rw [← contains_any]; exact h)
theorem mP_yes {l : List Pr} {p : Pr} (h : l.contains p = true) : ∃ i : Nat, MapAt (mP l) (.agg [.str p.o, .str p.n]) (some (i, .p (.bool true))) := by
 rw [contains_any] at h
 obtain ⟨i, a, h1, h2, h3⟩ := first_of h
 exact ⟨i, mapAt_some (q := fun a : Pr => p == a) (fun a => by
  simp only [keyEq]
  congr 1
  rw [Bool.eq_iff_iff]
  cases p; cases a
  simp) h1 h2 h3⟩
theorem mP_add (l : List Pr) (p : Pr) : mP l ++ [(.agg [.str p.o, .str p.n], .p (.bool true))] = mP (l ++ [p]) := by simp [mP]
theorem mP_ren (l : List Pr) (ρ : Nat → Nat) : (mP l).map (fun e => (e.1, AV.ren ρ e.2)) = mP l := by
 simp [mP, AV.ren]
theorem mP_labs (l : List Pr) (n : Nat) : (mP l).all (fun e => AV.labsIn n e.2) = true := by
 simp [mP, AV.labsIn]
attribute [go_sem] mP_ren mP_labs
def addP (l : List Pr) (p : Pr) : List Pr := if l.contains p = true then l else l ++ [p]
def memP (l : List Pr) (r a b : Nat) : List (Nat × Blk) := [(r, .row 2 [[.own a, .map b]]), (a, .row 2 (liftE (l.map encPr))), (b, .map (mP l))]
def adZ (l : List Pr) : St := ⟨ofL [(0, .ptr 0 0 0)], ofH (memP l 0 1 2), 3⟩
set_option maxRecDepth 100000 in
set_option maxHeartbeats 4000000 in
theorem compat_add (l : List Pr) (p : Pr) (hl : l.length ≤ 1000000) : DFn Tryd.prog 67 [.ptr 0 0 0, .p (.str p.o), .p (.str p.n)] (memP l 0 1 2) 3 [0] (.tuple []) (memP (addP l p) 0 3 4) 2 := by
 refine DFn.of [0] Tryd.func67 rfl (by decide) Tryd.ntmps67 Tryd.results67 (Nat.le_of_ble_eq_true rfl) (by simp) fun val => ?_
 simp only [avT, memP]
 refine AW.rT (by rfl) fun K hK => ?_
 simp -implicitDefEqProofs only [go_sem, ↓reduceIte, Nat.reduceAdd, Nat.reduceMul, Nat.reduceEqDiff, Nat.reduceLeDiff, reduceCtorEq, Int.reduceToNat]
 refine hK _ ?_; clear hK K
 cases hk : l.contains p with
 | true =>
  have e : addP l p = l := by unfold addP; rw [hk]; rfl
  obtain ⟨i, hm⟩ := mP_yes hk
  refine AW.dT mixed (by rfl) (by decide +kernel) fun K hK => ?_
  simp -implicitDefEqProofs only [go_sem, ↓reduceIte, Nat.reduceAdd, Nat.reduceMul, Nat.reduceEqDiff, Nat.reduceLeDiff, reduceCtorEq, Int.reduceToNat]
  refine ⟨keyP p.o p.n, _, hm, _, rfl, ?_⟩
  try simp -implicitDefEqProofs only [go_sem, ↓reduceIte, Nat.reduceAdd, Nat.reduceMul, Nat.reduceEqDiff, Nat.reduceLeDiff, reduceCtorEq, Int.reduceToNat]
  refine ⟨heapOK_nil rfl, ?_⟩
  refine hK _ ?_; clear hK K
  refine AW.cond _ (by simp -implicitDefEqProofs only [go_sem, ↓reduceIte, Nat.reduceAdd, Nat.reduceMul, Nat.reduceEqDiff, Nat.reduceLeDiff, reduceCtorEq, Int.reduceToNat]; rfl) (fun hc => ?_) (fun hc => ?_)
  ·simp at hc
  refine AW.ghost (s' := adZ (addP l p)) ?_ ?_
  ·simp only [adZ, memP, e]
   refine Ghost.ent (fun l => l) ?_ ?_ ?_ <;> simp -implicitDefEqProofs only [go_sem, ↓reduceIte, Nat.reduceAdd, Nat.reduceMul, Nat.reduceEqDiff, Nat.reduceLeDiff, reduceCtorEq, Int.reduceToNat,  List.forall_mem_cons, List.not_mem_nil, false_implies, implies_true, and_self, map_renL_lift, labsIn_lift, List.all_append, List.all_cons, List.all_nil, List.map_append, Nat.reduceLT, labsInL, AV.labsIn]
   all_goals first | rfl | decide | skip
  refine AW.skip ⟨fun k => if k = 0 then 0 else k - 2, [], trivial, rfl, rfl, ?_, ?_, ?_⟩
  ·simp only [adZ, memP]
   simp -implicitDefEqProofs only [go_sem, ↓reduceIte, Nat.reduceAdd, Nat.reduceMul, Nat.reduceEqDiff, Nat.reduceLeDiff, reduceCtorEq, Int.reduceToNat, List.forall_mem_cons, List.not_mem_nil, false_implies, implies_true, and_self, Nat.reduceSub]
   first | done | decide
  ·simp [memP]
  ·intro k hk'
   simp at hk'
   subst hk'
   exact ⟨by decide, .inl ⟨0, 0, 0, 2, _, _, by simp, rfl, rfl, rfl, rfl, rfl, by decide⟩⟩
 | false =>
  have e : addP l p = l ++ [p] := by unfold addP; rw [hk]; rfl
  have hm := mP_no hk
  refine AW.dT mixed (by rfl) (by decide +kernel) fun K hK => ?_
  simp -implicitDefEqProofs only [go_sem, ↓reduceIte, Nat.reduceAdd, Nat.reduceMul, Nat.reduceEqDiff, Nat.reduceLeDiff, reduceCtorEq, Int.reduceToNat]
  refine ⟨keyP p.o p.n, _, hm, _, rfl, ?_⟩
  try simp -implicitDefEqProofs only [go_sem, ↓reduceIte, Nat.reduceAdd, Nat.reduceMul, Nat.reduceEqDiff, Nat.reduceLeDiff, reduceCtorEq, Int.reduceToNat]
  refine ⟨heapOK_nil rfl, ?_⟩
  refine hK _ ?_; clear hK K
  refine AW.cond _ (by simp -implicitDefEqProofs only [go_sem, ↓reduceIte, Nat.reduceAdd, Nat.reduceMul, Nat.reduceEqDiff, Nat.reduceLeDiff, reduceCtorEq, Int.reduceToNat]; rfl) (fun hc => ?_) (fun hc => ?_)
  rotate_left
  ·simp at hc
  refine AW.dT mixed (by rfl) (by decide +kernel) fun K hK => ?_
  simp -implicitDefEqProofs only [go_sem, ↓reduceIte, Nat.reduceAdd, Nat.reduceMul, Nat.reduceEqDiff, Nat.reduceLeDiff, reduceCtorEq, Int.reduceToNat]
  refine ⟨keyP p.o p.n, _, hm, ?_⟩
  try simp -implicitDefEqProofs only [go_sem, ↓reduceIte, Nat.reduceAdd, Nat.reduceMul, Nat.reduceEqDiff, Nat.reduceLeDiff, reduceCtorEq, Int.reduceToNat]
  refine ⟨by decide +kernel, ?_⟩
  refine hK _ ?_; clear hK K
  refine AW.dE mixed (by rfl) (by decide +kernel) fun K hK => ?_
  simp -implicitDefEqProofs only [go_sem, ↓reduceIte, Nat.reduceAdd, Nat.reduceMul, Nat.reduceEqDiff, Nat.reduceLeDiff, reduceCtorEq, Int.reduceToNat]
  refine ⟨⟨by simp, by simp [oneAll, AV.one, PV.one], by simp⟩, by simp [liftE_length]; omega, ?_⟩
  try simp -implicitDefEqProofs only [go_sem, ↓reduceIte, Nat.reduceAdd, Nat.reduceMul, Nat.reduceEqDiff, Nat.reduceLeDiff, reduceCtorEq, Int.reduceToNat]
  refine ⟨by decide +kernel, ?_⟩
  refine hK _ ?_; clear hK K
  rw [e]
  refine ⟨fun k => if k = 0 then 0 else if k = 3 then 28 else 2, [], trivial, rfl, rfl, ?_, ?_, ?_⟩
  ·simp -implicitDefEqProofs only [go_sem, ↓reduceIte, Nat.reduceAdd, Nat.reduceMul, Nat.reduceEqDiff, Nat.reduceLeDiff, reduceCtorEq, Int.reduceToNat, List.forall_mem_cons, List.not_mem_nil, false_implies, implies_true, and_self, Nat.reduceSub, mP_add, encPr, List.map_append, liftE_append, liftE_cons, liftE_nil]
   simp [labsIn_lift, labsInL, AV.labsIn, List.all_append]
  ·simp [memP]
  ·intro k hk'
   simp at hk'
   subst hk'
   refine ⟨by decide, .inl ⟨0, 0, 0, 2, [[.own 1, .map 2]], [[.own 3, .map 4]], by simp, rfl, ?_, rfl, rfl, rfl, by decide⟩⟩
   simp -implicitDefEqProofs only [go_sem, ↓reduceIte, Nat.reduceAdd, Nat.reduceMul, Nat.reduceEqDiff, Nat.reduceLeDiff, reduceCtorEq, Int.reduceToNat]
end Go.Aw
namespace Go.Aw
open Go.Proofs Go.RowKit
set_option linter.unusedSimpArgs false
set_option linter.unusedVariables false
theorem mP_by {p : Nat → Bool} (l : List Pr) : (Blk.map (mP l)).labsBy p = true := by
 simp [Blk.labsBy, mP, AV.labsBy]
def fOf (m : Ms) (t : Int) : Fd × Bool := firstP (fun x => x.tag == t) zFd m.fields
def keepB (S U : Sc) (mo mn : Ms) (t : Int) : Bool := (fOf mn t).2 && (((fOf mo t).1.label == (fOf mn t).1.label) && fitsB S U (fOf mo t).1.ty (fOf mn t).1.ty)
def stayB (S U : Sc) (mo mn : Ms) (t : Int) : Bool := if (fOf mo t).2 = true then (if keepB S U mo mn t = true then true else mn.res.contains t) else (mn.res.contains t || !mo.res.contains t)
def stayL (S U : Sc) (mo mn : Ms) (t : Int) (l : List Pr) : List Pr := if (fOf mo t).2 = true ∧ keepB S U mo mn t = true ∧ (fOf mo t).1.ty.kind = 7 then addP l ⟨(fOf mo t).1.ty.name, (fOf mn t).1.ty.name⟩ else l
theorem addEnd {l0 l : List Pr} {b : Bool} {rs : Array ResultVar} {args : List AV} {s : St} (ha : args[0]? = some (.ptr 0 0 0)) (hs : s.T 0 = some (.ptr 0 0 0)) (h0 : s.H 0 = some (.row 2 [[.own 1, .map 2]])) (h1 : s.H 1 = some (.row 2 (liftE (l.map encPr)))) (h2 : s.H 2 = some (.map (mP l))) (hr : resD Tryd.prog s rs.toList [.p (.bool b)]) :
  EndD Tryd.prog rs args (memP l0 0 1 2) 3 [0] (.p (.bool b)) (memP l 0 3 4) 2 [0] .ret s := by
 refine ⟨fun k => if k = 0 then 0 else k - 2, [.p (.bool b)], hr, rfl, rfl, ?_, ?_, ?_⟩
 ·simp only [memP]
  simp -implicitDefEqProofs only [go_sem, ↓reduceIte, Nat.reduceAdd, Nat.reduceMul, Nat.reduceEqDiff, Nat.reduceLeDiff, reduceCtorEq, Int.reduceToNat, List.forall_mem_cons, List.not_mem_nil, false_implies, implies_true, and_self, Nat.reduceSub, h0, h1, h2]
  first | done | decide
 ·simp [memP]
 ·intro k hk'
  simp at hk'
  subst hk'
  exact ⟨by decide, .inl ⟨0, 0, 0, 2, _, _, by simp, ha, hs, rfl, rfl, rfl, by decide⟩⟩
set_option maxRecDepth 100000 in
set_option maxHeartbeats 4000000 in
theorem compat_stays (S U : Sc) (mo mn : Ms) (t : Int) (l : List Pr) (hl : l.length ≤ 1000000) (ho : mo.fields.length ≤ 1000000) (hn : mn.fields.length ≤ 1000000) (hro : mo.res.length ≤ 1000000) (hrn : mn.res.length ≤ 1000000)
  (HF : ∀ y z, PFn Tryd.prog 44 [.agg (encSc S), .agg (encSc U), .agg (encTy y), .agg (encTy z)] (.bool (fitsB S U y z))) :
  DFn Tryd.prog 68 [.ptr 0 0 0, .p (.agg (encSc S)), .p (.agg (encSc U)), .p (.agg (encMs mo)), .p (.agg (encMs mn)), .p (.int .i64 t)] (memP l 0 1 2) 3 [0] (.p (.bool (stayB S U mo mn t))) (memP (stayL S U mo mn t l) 0 3 4) 2 := by
 refine DFn.of [0] Tryd.func68 rfl (by decide) Tryd.ntmps68 Tryd.results68 (Nat.le_of_ble_eq_true rfl) (by simp) fun val => ?_
 have R1 := check_Reserved mn t hrn
 have R2 := check_Reserved mo t hro
 have F1 := check_Field mo t ho
 have F2 := check_Field mn t hn
 have e1 : firstP (fun x => x.tag == t) zFd mo.fields = fOf mo t := rfl
 have e2 : firstP (fun x => x.tag == t) zFd mn.fields = fOf mn t := rfl
 rw [e1] at F1
 rw [e2] at F2
 have HF := HF (fOf mo t).1.ty (fOf mn t).1.ty
 have eL : (fOf mo t).2 = false ∨ keepB S U mo mn t = false → stayL S U mo mn t l = l := by
  intro h
  unfold stayL
  rw [if_neg]
  rintro ⟨q1, q2, _⟩
  rcases h with h | h
  ·rw [h] at q1; cases q1
  ·rw [h] at q2; cases q2
 simp only [encSc, encMs, encFd, encTy] at R1 R2 F1 F2 HF
 simp only [avT, encSc, encMs]
 refine AW.rT (by rfl) fun K hK => ?_
 simp -implicitDefEqProofs only [go_sem, ↓reduceIte, Nat.reduceAdd, Nat.reduceMul, Nat.reduceEqDiff, Nat.reduceLeDiff, reduceCtorEq, Int.reduceToNat, memP]
 refine hK _ ?_; clear hK K
 refine AW.rT (by rfl) fun K hK => ?_
 simp -implicitDefEqProofs only [go_sem, ↓reduceIte, Nat.reduceAdd, Nat.reduceMul, Nat.reduceEqDiff, Nat.reduceLeDiff, reduceCtorEq, Int.reduceToNat, memP]
 refine ⟨.pure _, R1, ?_⟩
 try simp -implicitDefEqProofs only [go_sem, ↓reduceIte, Nat.reduceAdd, Nat.reduceMul, Nat.reduceEqDiff, Nat.reduceLeDiff, reduceCtorEq, Int.reduceToNat]
 refine hK _ ?_; clear hK K
 refine AW.rT (by rfl) fun K hK => ?_
 simp -implicitDefEqProofs only [go_sem, ↓reduceIte, Nat.reduceAdd, Nat.reduceMul, Nat.reduceEqDiff, Nat.reduceLeDiff, reduceCtorEq, Int.reduceToNat]
 refine ⟨.pure _, F1, ?_⟩
 try simp -implicitDefEqProofs only [go_sem, ↓reduceIte, Nat.reduceAdd, Nat.reduceMul, Nat.reduceEqDiff, Nat.reduceLeDiff, reduceCtorEq, Int.reduceToNat]
 refine hK _ ?_; clear hK K
 refine AW.seq ?_
 cases hf : (fOf mo t).2 with
 | false =>
  have eB : stayB S U mo mn t = (mn.res.contains t || !mo.res.contains t) := by unfold stayB; rw [hf]; rfl
  rw [eL (.inl hf)]
  refine AW.rT (by rfl) fun K hK => ?_
  simp -implicitDefEqProofs only [go_sem, ↓reduceIte, Nat.reduceAdd, Nat.reduceMul, Nat.reduceEqDiff, Nat.reduceLeDiff, reduceCtorEq, Int.reduceToNat, hf]
  refine hK _ ?_; clear hK K
  refine AW.cond _ (by simp -implicitDefEqProofs only [go_sem, ↓reduceIte, Nat.reduceAdd, Nat.reduceMul, Nat.reduceEqDiff, Nat.reduceLeDiff, reduceCtorEq, Int.reduceToNat]; rfl) (fun hc => ?_) (fun hc => ?_)
  rotate_left
  ·simp at hc
  cases hg : mn.res.contains t with
  | true =>
   rw [hg, Bool.true_or] at eB
   refine AW.rT (by rfl) fun K hK => ?_
   simp -implicitDefEqProofs only [go_sem, ↓reduceIte, Nat.reduceAdd, Nat.reduceMul, Nat.reduceEqDiff, Nat.reduceLeDiff, reduceCtorEq, Int.reduceToNat, hg]
   refine hK _ ?_; clear hK K
   rw [eB]
   refine AW.ret (addEnd rfl ?_ ?_ ?_ ?_ ⟨?_, trivial⟩) <;> simp -implicitDefEqProofs only [go_sem, ↓reduceIte, Nat.reduceAdd, Nat.reduceMul, Nat.reduceEqDiff, Nat.reduceLeDiff, reduceCtorEq, Int.reduceToNat, memP, hg]
  | false =>
   rw [hg, Bool.false_or] at eB
   refine AW.rT (by rfl) fun K hK => ?_
   simp -implicitDefEqProofs only [go_sem, ↓reduceIte, Nat.reduceAdd, Nat.reduceMul, Nat.reduceEqDiff, Nat.reduceLeDiff, reduceCtorEq, Int.reduceToNat, hg]
   refine ⟨.pure _, R2, ?_⟩
   try simp -implicitDefEqProofs only [go_sem, ↓reduceIte, Nat.reduceAdd, Nat.reduceMul, Nat.reduceEqDiff, Nat.reduceLeDiff, reduceCtorEq, Int.reduceToNat]
   refine hK _ ?_; clear hK K
   rw [eB]
   refine AW.ret (addEnd rfl ?_ ?_ ?_ ?_ ⟨?_, trivial⟩) <;> simp -implicitDefEqProofs only [go_sem, ↓reduceIte, Nat.reduceAdd, Nat.reduceMul, Nat.reduceEqDiff, Nat.reduceLeDiff, reduceCtorEq, Int.reduceToNat, memP, hg]
 | true =>
  have eB : stayB S U mo mn t = if keepB S U mo mn t = true then true else mn.res.contains t := by unfold stayB; rw [hf]; rfl
  refine AW.rT (by rfl) fun K hK => ?_
  simp -implicitDefEqProofs only [go_sem, ↓reduceIte, Nat.reduceAdd, Nat.reduceMul, Nat.reduceEqDiff, Nat.reduceLeDiff, reduceCtorEq, Int.reduceToNat, hf]
  refine hK _ ?_; clear hK K
  refine AW.cond _ (by simp -implicitDefEqProofs only [go_sem, ↓reduceIte, Nat.reduceAdd, Nat.reduceMul, Nat.reduceEqDiff, Nat.reduceLeDiff, reduceCtorEq, Int.reduceToNat]; rfl) (fun hc => ?_) (fun hc => ?_)
  ·simp at hc
  refine AW.skip ?_
  simp only [andThen, inBlk, reduceCtorEq, ↓reduceIte, if_t, if_f]
  refine AW.rT (by rfl) fun K hK => ?_
  simp -implicitDefEqProofs only [go_sem, ↓reduceIte, Nat.reduceAdd, Nat.reduceMul, Nat.reduceEqDiff, Nat.reduceLeDiff, reduceCtorEq, Int.reduceToNat]
  refine ⟨.pure _, F2, ?_⟩
  try simp -implicitDefEqProofs only [go_sem, ↓reduceIte, Nat.reduceAdd, Nat.reduceMul, Nat.reduceEqDiff, Nat.reduceLeDiff, reduceCtorEq, Int.reduceToNat]
  refine hK _ ?_; clear hK K
  refine AW.seq ?_
  cases hg : (fOf mn t).2 with
  | false =>
   have kb : keepB S U mo mn t = false := by unfold keepB; rw [hg]; rfl
   rw [kb, if_neg (by simp)] at eB
   rw [eL (.inr kb), eB]
   refine AW.rT (by rfl) fun K hK => ?_
   simp -implicitDefEqProofs only [go_sem, ↓reduceIte, Nat.reduceAdd, Nat.reduceMul, Nat.reduceEqDiff, Nat.reduceLeDiff, reduceCtorEq, Int.reduceToNat, hg]
   refine hK _ ?_; clear hK K
   refine AW.cond _ (by simp -implicitDefEqProofs only [go_sem, ↓reduceIte, Nat.reduceAdd, Nat.reduceMul, Nat.reduceEqDiff, Nat.reduceLeDiff, reduceCtorEq, Int.reduceToNat]; rfl) (fun hc => ?_) (fun hc => ?_)
   rotate_left
   ·simp at hc
   refine AW.rT (by rfl) fun K hK => ?_
   simp -implicitDefEqProofs only [go_sem, ↓reduceIte, Nat.reduceAdd, Nat.reduceMul, Nat.reduceEqDiff, Nat.reduceLeDiff, reduceCtorEq, Int.reduceToNat]
   refine hK _ ?_; clear hK K
   refine AW.ret (addEnd rfl ?_ ?_ ?_ ?_ ⟨?_, trivial⟩) <;> simp -implicitDefEqProofs only [go_sem, ↓reduceIte, Nat.reduceAdd, Nat.reduceMul, Nat.reduceEqDiff, Nat.reduceLeDiff, reduceCtorEq, Int.reduceToNat, memP]
  | true =>
  by_cases hlb : (fOf mo t).1.label = (fOf mn t).1.label
  case neg =>
   have f1 : ((fOf mo t).1.label != (fOf mn t).1.label) = true := by simp [hlb]
   have kb : keepB S U mo mn t = false := by unfold keepB; rw [beq_eq_false_iff_ne.2 hlb]; simp
   rw [kb, if_neg (by simp)] at eB
   rw [eL (.inr kb), eB]
   refine AW.rT (by rfl) fun K hK => ?_
   simp -implicitDefEqProofs only [go_sem, ↓reduceIte, Nat.reduceAdd, Nat.reduceMul, Nat.reduceEqDiff, Nat.reduceLeDiff, reduceCtorEq, Int.reduceToNat, hg, f1]
   refine hK _ ?_; clear hK K
   refine AW.cond _ (by simp -implicitDefEqProofs only [go_sem, ↓reduceIte, Nat.reduceAdd, Nat.reduceMul, Nat.reduceEqDiff, Nat.reduceLeDiff, reduceCtorEq, Int.reduceToNat]; rfl) (fun hc => ?_) (fun hc => ?_)
   rotate_left
   ·simp at hc
   refine AW.rT (by rfl) fun K hK => ?_
   simp -implicitDefEqProofs only [go_sem, ↓reduceIte, Nat.reduceAdd, Nat.reduceMul, Nat.reduceEqDiff, Nat.reduceLeDiff, reduceCtorEq, Int.reduceToNat]
   refine hK _ ?_; clear hK K
   refine AW.ret (addEnd rfl ?_ ?_ ?_ ?_ ⟨?_, trivial⟩) <;> simp -implicitDefEqProofs only [go_sem, ↓reduceIte, Nat.reduceAdd, Nat.reduceMul, Nat.reduceEqDiff, Nat.reduceLeDiff, reduceCtorEq, Int.reduceToNat, memP]
  have f1 : ((fOf mo t).1.label != (fOf mn t).1.label) = false := by simp [hlb]
  have f1' : ((fOf mo t).1.label == (fOf mn t).1.label) = true := by simp [hlb]
  cases hq : fitsB S U (fOf mo t).1.ty (fOf mn t).1.ty with
  | false =>
   have kb : keepB S U mo mn t = false := by unfold keepB; rw [hq]; simp
   rw [kb, if_neg (by simp)] at eB
   rw [eL (.inr kb), eB]
   refine AW.rT (by rfl) fun K hK => ?_
   simp -implicitDefEqProofs only [go_sem, ↓reduceIte, Nat.reduceAdd, Nat.reduceMul, Nat.reduceEqDiff, Nat.reduceLeDiff, reduceCtorEq, Int.reduceToNat, hg, f1]
   refine ⟨.pure _, HF, ?_⟩
   try simp -implicitDefEqProofs only [go_sem, ↓reduceIte, Nat.reduceAdd, Nat.reduceMul, Nat.reduceEqDiff, Nat.reduceLeDiff, reduceCtorEq, Int.reduceToNat, hq]
   refine hK _ ?_; clear hK K
   refine AW.cond _ (by simp -implicitDefEqProofs only [go_sem, ↓reduceIte, Nat.reduceAdd, Nat.reduceMul, Nat.reduceEqDiff, Nat.reduceLeDiff, reduceCtorEq, Int.reduceToNat]; rfl) (fun hc => ?_) (fun hc => ?_)
   rotate_left
   ·simp at hc
   refine AW.rT (by rfl) fun K hK => ?_
   simp -implicitDefEqProofs only [go_sem, ↓reduceIte, Nat.reduceAdd, Nat.reduceMul, Nat.reduceEqDiff, Nat.reduceLeDiff, reduceCtorEq, Int.reduceToNat]
   refine hK _ ?_; clear hK K
   refine AW.ret (addEnd rfl ?_ ?_ ?_ ?_ ⟨?_, trivial⟩) <;> simp -implicitDefEqProofs only [go_sem, ↓reduceIte, Nat.reduceAdd, Nat.reduceMul, Nat.reduceEqDiff, Nat.reduceLeDiff, reduceCtorEq, Int.reduceToNat, memP]
  | true =>
  have kb : keepB S U mo mn t = true := by unfold keepB; rw [hg, f1', hq]; rfl
  rw [kb, if_pos rfl] at eB
  rw [eB]
  refine AW.rT (by rfl) fun K hK => ?_
  simp -implicitDefEqProofs only [go_sem, ↓reduceIte, Nat.reduceAdd, Nat.reduceMul, Nat.reduceEqDiff, Nat.reduceLeDiff, reduceCtorEq, Int.reduceToNat, hg, f1]
  refine ⟨.pure _, HF, ?_⟩
  try simp -implicitDefEqProofs only [go_sem, ↓reduceIte, Nat.reduceAdd, Nat.reduceMul, Nat.reduceEqDiff, Nat.reduceLeDiff, reduceCtorEq, Int.reduceToNat, hq]
  refine hK _ ?_; clear hK K
  refine AW.cond _ (by simp -implicitDefEqProofs only [go_sem, ↓reduceIte, Nat.reduceAdd, Nat.reduceMul, Nat.reduceEqDiff, Nat.reduceLeDiff, reduceCtorEq, Int.reduceToNat]; rfl) (fun hc => ?_) (fun hc => ?_)
  ·simp at hc
  refine AW.skip ?_
  simp only [andThen, inBlk, reduceCtorEq, ↓reduceIte, if_t, if_f]
  refine AW.seq ?_
  by_cases k7 : (fOf mo t).1.ty.kind = 7
  case neg =>
   have f7 : ((fOf mo t).1.ty.kind == 7) = false := beq_eq_false_iff_ne.2 k7
   have e9 : stayL S U mo mn t l = l := by unfold stayL; rw [if_neg (fun h => k7 h.2.2)]
   rw [e9]
   refine AW.rT (by rfl) fun K hK => ?_
   simp -implicitDefEqProofs only [go_sem, ↓reduceIte, Nat.reduceAdd, Nat.reduceMul, Nat.reduceEqDiff, Nat.reduceLeDiff, reduceCtorEq, Int.reduceToNat, f7]
   refine hK _ ?_; clear hK K
   refine AW.cond _ (by simp -implicitDefEqProofs only [go_sem, ↓reduceIte, Nat.reduceAdd, Nat.reduceMul, Nat.reduceEqDiff, Nat.reduceLeDiff, reduceCtorEq, Int.reduceToNat]; rfl) (fun hc => ?_) (fun hc => ?_)
   ·simp at hc
   refine AW.skip ?_
   simp only [andThen, inBlk, reduceCtorEq, ↓reduceIte, if_t, if_f]
   refine AW.rT (by rfl) fun K hK => ?_
   simp -implicitDefEqProofs only [go_sem, ↓reduceIte, Nat.reduceAdd, Nat.reduceMul, Nat.reduceEqDiff, Nat.reduceLeDiff, reduceCtorEq, Int.reduceToNat]
   refine hK _ ?_; clear hK K
   refine AW.ret (addEnd rfl ?_ ?_ ?_ ?_ ⟨?_, trivial⟩) <;> simp -implicitDefEqProofs only [go_sem, ↓reduceIte, Nat.reduceAdd, Nat.reduceMul, Nat.reduceEqDiff, Nat.reduceLeDiff, reduceCtorEq, Int.reduceToNat, memP]
  have f7 : ((fOf mo t).1.ty.kind == 7) = true := by simp [k7]
  have e9 : stayL S U mo mn t l = addP l ⟨(fOf mo t).1.ty.name, (fOf mn t).1.ty.name⟩ := by unfold stayL; rw [if_pos ⟨hf, kb, k7⟩]
  rw [e9]
  have AD := compat_add l ⟨(fOf mo t).1.ty.name, (fOf mn t).1.ty.name⟩ hl
  generalize addP l ⟨(fOf mo t).1.ty.name, (fOf mn t).1.ty.name⟩ = l' at *
  refine AW.rT (by rfl) fun K hK => ?_
  simp -implicitDefEqProofs only [go_sem, ↓reduceIte, Nat.reduceAdd, Nat.reduceMul, Nat.reduceEqDiff, Nat.reduceLeDiff, reduceCtorEq, Int.reduceToNat, f7]
  refine hK _ ?_; clear hK K
  refine AW.cond _ (by simp -implicitDefEqProofs only [go_sem, ↓reduceIte, Nat.reduceAdd, Nat.reduceMul, Nat.reduceEqDiff, Nat.reduceLeDiff, reduceCtorEq, Int.reduceToNat]; rfl) (fun hc => ?_) (fun hc => ?_)
  rotate_left
  ·simp at hc
  refine AW.rRE (SeqR.ev 7 (by rfl) (by decide) ?_)
  simp -implicitDefEqProofs only [go_sem, ↓reduceIte, Nat.reduceAdd, Nat.reduceMul, Nat.reduceEqDiff, Nat.reduceLeDiff, reduceCtorEq, Int.reduceToNat]
  refine SeqR.call (fun k => k) rfl rfl AD ⟨?_, rfl, ?_, rfl, rfl, rfl, rfl, rfl, ?_⟩ ?_
  ·simp -implicitDefEqProofs only [go_sem, ↓reduceIte, Nat.reduceAdd, Nat.reduceMul, Nat.reduceEqDiff, Nat.reduceLeDiff, reduceCtorEq, Int.reduceToNat, argD]
  ·simp only [memP]
   simp -implicitDefEqProofs only [go_sem, ↓reduceIte, Nat.reduceAdd, Nat.reduceMul, Nat.reduceEqDiff, Nat.reduceLeDiff, reduceCtorEq, Int.reduceToNat, List.forall_mem_cons, List.not_mem_nil, false_implies, implies_true, and_self]
   first | done | decide
  ·simp only [memP, List.all_cons, List.all_nil, labsBy_lift, mP_by]
   rfl
  refine SeqR.last rfl ?_
  simp only [andThen, inBlk, reduceCtorEq, ↓reduceIte, if_t, if_f]
  refine AW.ghost (s' := adZ l') ?_ ?_
  ·simp only [adZ, memP]
   refine Ghost.ent (fun k => if k = 0 then 0 else k + 61) ?_ ?_ ?_ <;> simp -implicitDefEqProofs only [go_sem, ↓reduceIte, Nat.reduceAdd, Nat.reduceMul, Nat.reduceEqDiff, Nat.reduceLeDiff, reduceCtorEq, Int.reduceToNat, lift2, goneU, newU, Nat.reduceSub, List.forall_mem_cons, List.not_mem_nil, false_implies, implies_true, and_self, map_renL_lift, labsIn_lift, List.all_append, List.all_cons, List.all_nil, List.map_append, Nat.reduceLT, labsInL, AV.labsIn]
   all_goals first | rfl | decide | skip
  simp only [adZ]
  refine AW.rT (by rfl) fun K hK => ?_
  simp -implicitDefEqProofs only [go_sem, ↓reduceIte, Nat.reduceAdd, Nat.reduceMul, Nat.reduceEqDiff, Nat.reduceLeDiff, reduceCtorEq, Int.reduceToNat, memP]
  refine hK _ ?_; clear hK K
  refine AW.ret (addEnd rfl ?_ ?_ ?_ ?_ ⟨?_, trivial⟩) <;> simp -implicitDefEqProofs only [go_sem, ↓reduceIte, Nat.reduceAdd, Nat.reduceMul, Nat.reduceEqDiff, Nat.reduceLeDiff, reduceCtorEq, Int.reduceToNat, memP]
end Go.Aw
namespace Go.Aw
open Go.Proofs Go.RowKit
set_option linter.unusedSimpArgs false
set_option linter.unusedVariables false
end Go.Aw
namespace Go.Aw
open Go.Proofs Go.RowKit
set_option linter.unusedSimpArgs false
set_option linter.unusedVariables false
def noGo (Q : Exit → St → Prop) : Exit → St → Prop
 | .goto _, _ => False
 | e, s => Q e s
attribute [go_sem] noGo
theorem AW.scope {P : Program} {nt : Fm} {c : Code} {s : St} {Q : Exit → St → Prop} (h : AW P nt c s (noGo Q)) : AW P nt (.scope c) s Q := by
 intro w0 X I0 a w tx m
 refine wp_scope_straight (wp_mono (h w0 X I0 a w tx m) ?_)
 rintro e a' w' ⟨s', m', q⟩
 cases e <;> first | exact ⟨s', m', q⟩ | exact q.elim
end Go.Aw
namespace Go.Aw
open Go.Proofs Go.RowKit
set_option linter.unusedSimpArgs false
set_option linter.unusedVariables false
def msgOf (S : Sc) (k : List UInt8) : Ms := (firstP (fun x => x.name == k) zMs S.msgs).1
def methOf (S : Sc) (k : List UInt8) : Mt × Bool := firstP (fun x => x.name == k) zMt S.meths
def seedP (U : Sc) (l : List Pr) : List Mt → List UInt8 ⊕ List Pr
 | [] => .inr l
 | m :: r => if (methOf U m.name).2 = true then seedP U (addP (addP l ⟨m.inn, (methOf U m.name).1.inn⟩) ⟨m.out, (methOf U m.name).1.out⟩) r else .inl m.name
def tagsP (S U : Sc) (mo mn : Ms) : Nat → Int → List Pr → Int ⊕ List Pr
 | 0, _, l => .inr l
 | n + 1, t, l => if stayB S U mo mn t = true then tagsP S U mo mn n (t + 1) (stayL S U mo mn t l) else .inl t
def walkP (S U : Sc) : Nat → Nat → List Pr → List UInt8 × Int × Bool
 | 0, _, _ => ([], 0, true)
 | n + 1, i, l => match l[i]? with
  | none => ([], 0, true)
  | some p => match tagsP S U (msgOf S p.o) (msgOf U p.n) 500 1 l with
   | .inl t => (p.o, t, false)
   | .inr l' => walkP S U n (i + 1) l'
def evoP (S U : Sc) : List UInt8 × Int × Bool := if checkC S = 0 ∧ checkC U = 0 then (match seedP U [] S.meths with | .inl k => (k, 0, false) | .inr l => walkP S U 101 0 l) else ([], 0, false)
structure PairsOK (S U : Sc) (l : List Pr) : Prop where
 here : ∀ p ∈ l, hasM S p.o = true ∧ hasM U p.n = true
 nd : l.Nodup
theorem addP_ok {S U : Sc} {l : List Pr} {p : Pr} (h : PairsOK S U l) (h1 : hasM S p.o = true) (h2 : hasM U p.n = true) : PairsOK S U (addP l p) := by
 unfold addP
 split
 ·exact h
 ·rename_i hn
  refine ⟨fun q hq => ?_, ?_⟩
  ·rcases List.mem_append.1 hq with hq | hq
   ·exact h.here q hq
   ·simp at hq; subst hq; exact ⟨h1, h2⟩
  ·rw [List.nodup_append]
   refine ⟨h.nd, by simp, fun x hx y hy => ?_⟩
   simp at hy
   subst hy
   rintro rfl
   exact hn (by rw [List.contains_iff_mem]; exact hx)
theorem sub_len {α : Type} [DecidableEq α] : ∀ {a b : List α}, a.Nodup → (∀ x ∈ a, x ∈ b) → a.length ≤ b.length
 | [], b, _, _ => Nat.zero_le _
 | x :: a, b, hn, hs => by
  have hx := hs x List.mem_cons_self
  have h := sub_len (a := a) (b := b.erase x) (List.nodup_cons.1 hn).2 fun y hy => by
   have hy' := hs y (List.mem_cons_of_mem _ hy)
   have hne : y ≠ x := by
    rintro rfl
    exact (List.nodup_cons.1 hn).1 hy
   exact (List.mem_erase_of_ne hne).2 hy'
  have hl := List.length_erase_of_mem hx
  have : 0 < b.length := List.length_pos_of_mem hx
  rw [List.length_cons]
  omega
def allPairs (S U : Sc) : List Pr := S.msgs.flatMap fun x => U.msgs.map fun y => ⟨x.name, y.name⟩
theorem flat_len {α β : Type} {f : α → List β} {n : Nat} : ∀ {l : List α}, (∀ x ∈ l, (f x).length = n) → (l.flatMap f).length = l.length * n
 | [], _ => by simp
 | x :: l, h => by
  rw [List.flatMap_cons, List.length_append, flat_len (l := l) fun y hy => h y (List.mem_cons_of_mem _ hy), h x List.mem_cons_self, List.length_cons, Nat.add_mul, Nat.one_mul, Nat.add_comm]
theorem pairs_len {S U : Sc} {l : List Pr} (h : PairsOK S U l) (h1 : S.msgs.length ≤ 10) (h2 : U.msgs.length ≤ 10) : l.length ≤ 100 := by
 have q := sub_len (b := allPairs S U) h.nd fun p hp => by
  obtain ⟨q1, q2⟩ := h.here p hp
  unfold hasM at q1 q2
  rw [found_any, List.any_eq_true] at q1 q2
  obtain ⟨x, hx, ex⟩ := q1
  obtain ⟨y, hy, ey⟩ := q2
  unfold allPairs
  rw [List.mem_flatMap]
  refine ⟨x, hx, List.mem_map.2 ⟨y, hy, ?_⟩⟩
  have e1 : x.name = p.o := by simpa using ex
  have e2 : y.name = p.n := by simpa using ey
  rw [e1, e2]
 have e : (allPairs S U).length = S.msgs.length * U.msgs.length := flat_len fun x _ => by simp
 have : S.msgs.length * U.msgs.length ≤ 10 * 10 := Nat.mul_le_mul h1 h2
 omega
theorem first_found {α : Type} {p : α → Bool} {z : α} {l : List α} (h : (firstP p z l).2 = true) : (firstP p z l).1 ∈ l ∧ p (firstP p z l).1 = true := by
 unfold firstP at *
 cases e : l.find? p with
 | none => rw [e] at h; cases h
 | some a => exact ⟨List.mem_of_find?_eq_some e, List.find?_some e⟩
theorem kind7 {S : Sc} (R : RightS S) {m : Ms} (hm : m ∈ S.msgs) {f : Fd} (hf : f ∈ m.fields) (k : f.ty.kind = 7) : hasM S f.ty.name = true := by
 obtain ⟨i, hi⟩ := List.getElem?_of_mem hf
 have q := (R.fld m hm i f hi).2.2.1
 unfold fieldB at q
 rw [Bool.and_eq_true] at q
 have q := q.2
 unfold kindB at q
 rw [if_neg (by omega), if_pos k] at q
 exact q
theorem stayL_ok {S U : Sc} (RS : RightS S) (RU : RightS U) {mo mn : Ms} (hmo : mo ∈ S.msgs) (hmn : mn ∈ U.msgs) {t : Int} {l : List Pr} (h : PairsOK S U l) : PairsOK S U (stayL S U mo mn t l) := by
 unfold stayL
 split
 ·rename_i hc
  obtain ⟨c1, c2, c3⟩ := hc
  unfold keepB at c2
  simp only [Bool.and_eq_true] at c2
  obtain ⟨d1, d2, d3⟩ := c2
  have f1 := first_found (p := fun x : Fd => x.tag == t) (z := zFd) (l := mo.fields) c1
  have f2 := first_found (p := fun x : Fd => x.tag == t) (z := zFd) (l := mn.fields) d1
  have k7 : (fOf mn t).1.ty.kind = 7 := by
   unfold fitsB at d3
   split at d3
   ·rename_i q; omega
   ·split at d3
    ·cases d3
    ·rename_i q; rw [← c3]; symm; simpa using q
  exact addP_ok h (kind7 RS hmo f1.1 c3) (kind7 RU hmn f2.1 k7)
 ·exact h
theorem stayL_len {S U : Sc} {mo mn : Ms} {t : Int} {l : List Pr} : l.length ≤ (stayL S U mo mn t l).length ∧ ∀ (i : Nat) p, l[i]? = some p → (stayL S U mo mn t l)[i]? = some p := by
 unfold stayL addP
 split
 ·split
  ·exact ⟨Nat.le_refl _, fun i p h => h⟩
  ·exact ⟨by simp, fun i p h => by rw [List.getElem?_append_left (List.getElem?_eq_some_iff.1 h).1]; exact h⟩
 ·exact ⟨Nat.le_refl _, fun i p h => h⟩
end Go.Aw
namespace Go.Aw
open Go.Proofs Go.RowKit
set_option linter.unusedSimpArgs false
set_option linter.unusedVariables false
def newP (S U : Sc) (mo mn : Ms) (t : Int) : Option Pr := if (fOf mo t).2 = true ∧ keepB S U mo mn t = true ∧ (fOf mo t).1.ty.kind = 7 then some ⟨(fOf mo t).1.ty.name, (fOf mn t).1.ty.name⟩ else none
theorem stayL_new (S U : Sc) (mo mn : Ms) (t : Int) (l : List Pr) : stayL S U mo mn t l = (match newP S U mo mn t with | some p => addP l p | none => l) := by
 unfold stayL newP
 split <;> rfl
theorem mem_addP {l : List Pr} {p q : Pr} : q ∈ addP l p ↔ q ∈ l ∨ q = p := by
 unfold addP
 split
 ·rename_i h
  rw [List.contains_iff_mem] at h
  constructor
  ·exact .inl
  ·rintro (h' | rfl)
   ·exact h'
   ·exact h
 ·simp
theorem mem_stayL {S U : Sc} {mo mn : Ms} {t : Int} {l : List Pr} {q : Pr} : q ∈ stayL S U mo mn t l ↔ q ∈ l ∨ newP S U mo mn t = some q := by
 rw [stayL_new]
 cases h : newP S U mo mn t with
 | none => simp
 | some p => simp only [mem_addP, Option.some.injEq]; constructor <;> (rintro (h' | h'); exact .inl h'; exact .inr h'.symm)
theorem tagsP_cases {S U : Sc} {mo mn : Ms} (I : Pr → Prop) (Bad : Int → Prop) : ∀ (n : Nat) (t : Int) (l : List Pr), (∀ u, t ≤ u → u < t + n → (stayB S U mo mn u = true ∨ Bad u) ∧ ∀ q, newP S U mo mn u = some q → I q) → (∀ p ∈ l, I p) →
  (∃ l', tagsP S U mo mn n t l = .inr l' ∧ ∀ p ∈ l', I p) ∨ ∃ u, Bad u ∧ tagsP S U mo mn n t l = .inl u
 | 0, t, l, _, hl => .inl ⟨l, rfl, hl⟩
 | n + 1, t, l, hs, hl => by
  rw [tagsP]
  cases hb : stayB S U mo mn t with
  | true =>
   rw [if_pos rfl]
   refine tagsP_cases I Bad n (t + 1) _ (fun u h1 h2 => hs u (by omega) (by push_cast; omega)) fun p hp => ?_
   rcases mem_stayL.1 hp with h | h
   ·exact hl p h
   ·exact (hs t (by omega) (by push_cast; omega)).2 p h
  | false =>
   rw [if_neg (by simp)]
   rcases (hs t (by omega) (by push_cast; omega)).1 with h | h
   ·rw [h] at hb; cases hb
   ·exact .inr ⟨t, h, rfl⟩
theorem walkP_cases {S U : Sc} (I : Pr → Prop) (Bad : Pr → Int → Prop) (hs : ∀ p, I p → ∀ u, 1 ≤ u → u ≤ 500 → (stayB S U (msgOf S p.o) (msgOf U p.n) u = true ∨ Bad p u) ∧ ∀ q, newP S U (msgOf S p.o) (msgOf U p.n) u = some q → I q) : ∀ (n i : Nat) (l : List Pr), (∀ p ∈ l, I p) →
  walkP S U n i l = ([], 0, true) ∨ ∃ p u, I p ∧ Bad p u ∧ walkP S U n i l = (p.o, u, false)
 | 0, i, l, _ => .inl rfl
 | n + 1, i, l, hl => by
  rw [walkP]
  cases hp : l[i]? with
  | none => exact .inl rfl
  | some p =>
   have ip := hl p (List.mem_of_getElem? hp)
   rcases tagsP_cases I (Bad p) 500 1 l (fun u h1 h2 => hs p ip u h1 (by omega)) hl with ⟨l', e, h'⟩ | ⟨u, hu, e⟩
   ·simp only [e]
    exact walkP_cases I Bad hs n (i + 1) l' h'
   ·simp only [e]
    exact .inr ⟨p, u, ip, hu, rfl⟩
theorem seedP_ok {U : Sc} (I : Pr → Prop) : ∀ (ms : List Mt) (l : List Pr), (∀ p ∈ l, I p) → (∀ m ∈ ms, (methOf U m.name).2 = true ∧ I ⟨m.inn, (methOf U m.name).1.inn⟩ ∧ I ⟨m.out, (methOf U m.name).1.out⟩) → ∃ l', seedP U l ms = .inr l' ∧ ∀ p ∈ l', I p
 | [], l, hl, _ => ⟨l, rfl, hl⟩
 | m :: r, l, hl, hm => by
  obtain ⟨h1, h2, h3⟩ := hm m List.mem_cons_self
  rw [seedP, if_pos h1]
  refine seedP_ok I r _ (fun p hp => ?_) fun x hx => hm x (List.mem_cons_of_mem _ hx)
  rcases mem_addP.1 hp with hp | rfl
  ·rcases mem_addP.1 hp with hp | rfl
   ·exact hl p hp
   ·exact h2
  ·exact h3
theorem evo_cases {S U : Sc} (I : Pr → Prop) (Bad : Pr → Int → Prop) (hS : checkC S = 0) (hU : checkC U = 0) (hm : ∀ m ∈ S.meths, (methOf U m.name).2 = true ∧ I ⟨m.inn, (methOf U m.name).1.inn⟩ ∧ I ⟨m.out, (methOf U m.name).1.out⟩)
  (hs : ∀ p, I p → ∀ u, 1 ≤ u → u ≤ 500 → (stayB S U (msgOf S p.o) (msgOf U p.n) u = true ∨ Bad p u) ∧ ∀ q, newP S U (msgOf S p.o) (msgOf U p.n) u = some q → I q) :
  evoP S U = ([], 0, true) ∨ ∃ p u, I p ∧ Bad p u ∧ evoP S U = (p.o, u, false) := by
 obtain ⟨l, e, hl⟩ := seedP_ok I S.meths [] (fun p hp => by cases hp) hm
 have := walkP_cases I Bad hs 101 0 l hl
 unfold evoP
 rw [if_pos ⟨hS, hU⟩, e]
 exact this
theorem tagsP_done {S U : Sc} {mo mn : Ms} : ∀ (n : Nat) (t : Int) (l l' : List Pr), tagsP S U mo mn n t l = .inr l' → (∀ (i : Nat) p, l[i]? = some p → l'[i]? = some p) ∧ ∀ u, t ≤ u → u < t + n → stayB S U mo mn u = true ∧ ∀ q, newP S U mo mn u = some q → q ∈ l'
 | 0, t, l, l', h => by
  injection h with h
  subst h
  exact ⟨fun i p hp => hp, fun u h1 h2 => by simp at h2; omega⟩
 | n + 1, t, l, l', h => by
  rw [tagsP] at h
  split at h
  ·rename_i hb
   obtain ⟨h1, h2⟩ := tagsP_done n (t + 1) _ l' h
   refine ⟨fun i p hp => h1 i p ((stayL_len).2 i p hp), fun u q1 q2 => ?_⟩
   by_cases hu : u = t
   ·subst hu
    refine ⟨hb, fun q hq => ?_⟩
    obtain ⟨i, hi⟩ := List.getElem?_of_mem (mem_stayL.2 (.inr hq) : q ∈ stayL S U mo mn u l)
    exact List.mem_of_getElem? (h1 i q hi)
   ·exact h2 u (by omega) (by push_cast at q2; omega)
  ·cases h
theorem tagsP_ok {S U : Sc} (RS : RightS S) (RU : RightS U) {mo mn : Ms} (hmo : mo ∈ S.msgs) (hmn : mn ∈ U.msgs) : ∀ (n : Nat) (t : Int) (l l' : List Pr), tagsP S U mo mn n t l = .inr l' → PairsOK S U l → PairsOK S U l'
 | 0, t, l, l', h, hl => by injection h with h; subst h; exact hl
 | n + 1, t, l, l', h, hl => by
  rw [tagsP] at h
  split at h
  ·exact tagsP_ok RS RU hmo hmn n (t + 1) _ l' h (stayL_ok RS RU hmo hmn hl)
  ·cases h
theorem msgOf_mem {S : Sc} {k : List UInt8} (h : hasM S k = true) : msgOf S k ∈ S.msgs ∧ (msgOf S k).name = k := by
 have := first_found (p := fun x : Ms => x.name == k) (z := zMs) (l := S.msgs) h
 exact ⟨this.1, eq_of_beq this.2⟩
theorem walkP_done {S U : Sc} (RS : RightS S) (RU : RightS U) : ∀ (n i : Nat) (l : List Pr), 101 ≤ n + i → PairsOK S U l → (walkP S U n i l).2.2 = true →
  ∃ L, PairsOK S U L ∧ (∀ p ∈ l, p ∈ L) ∧ (∀ (j : Nat) p, l[j]? = some p → L[j]? = some p) ∧ ∀ (j : Nat) p, i ≤ j → L[j]? = some p → ∀ u, 1 ≤ u → u ≤ 500 → stayB S U (msgOf S p.o) (msgOf U p.n) u = true ∧ ∀ q, newP S U (msgOf S p.o) (msgOf U p.n) u = some q → q ∈ L
 | 0, i, l, hi, hl, h => ⟨l, hl, fun p hp => hp, fun j p hp => hp, fun j p hj hp => by
   have := pairs_len hl RS.len.2.1 RU.len.2.1
   have := (List.getElem?_eq_some_iff.1 hp).1
   omega⟩
 | n + 1, i, l, hi, hl, h => by
  rw [walkP] at h
  cases hp : l[i]? with
  | none =>
   refine ⟨l, hl, fun p hp => hp, fun j p hp => hp, fun j p hj hq => ?_⟩
   have := List.getElem?_eq_none_iff.1 hp
   have := (List.getElem?_eq_some_iff.1 hq).1
   omega
  | some p =>
   simp only [hp] at h
   have hh := hl.here p (List.mem_of_getElem? hp)
   cases ht : tagsP S U (msgOf S p.o) (msgOf U p.n) 500 1 l with
   | inl t => simp only [ht] at h; cases h
   | inr l' =>
    simp only [ht] at h
    obtain ⟨d1, d2⟩ := tagsP_done 500 1 l l' ht
    have ok' := tagsP_ok RS RU (msgOf_mem hh.1).1 (msgOf_mem hh.2).1 500 1 l l' ht hl
    obtain ⟨L, h1, h2, h3, h4⟩ := walkP_done RS RU n (i + 1) l' (by omega) ok' h
    refine ⟨L, h1, fun q hq => ?_, fun j q hq => h3 j q (d1 j q hq), fun j q hj hq u u1 u2 => ?_⟩
    ·obtain ⟨j, hj⟩ := List.getElem?_of_mem hq
     exact List.mem_of_getElem? (h3 j q (d1 j q hj))
    ·by_cases hij : j = i
     ·subst hij
      have := h3 j p (d1 j p hp)
      rw [this] at hq
      injection hq with hq
      subst hq
      obtain ⟨e1, e2⟩ := d2 u u1 (by omega)
      exact ⟨e1, fun r hr => h2 r (e2 r hr)⟩
     ·exact h4 j q (by omega) hq u u1 u2
theorem seedP_done {U : Sc} : ∀ (ms : List Mt) (l l' : List Pr), seedP U l ms = .inr l' → (∀ p ∈ l, p ∈ l') ∧ ∀ m ∈ ms, (methOf U m.name).2 = true ∧ (⟨m.inn, (methOf U m.name).1.inn⟩ : Pr) ∈ l' ∧ (⟨m.out, (methOf U m.name).1.out⟩ : Pr) ∈ l'
 | [], l, l', h => by injection h with h; subst h; exact ⟨fun p hp => hp, fun m hm => by cases hm⟩
 | m :: r, l, l', h => by
  rw [seedP] at h
  split at h
  ·rename_i h0
   obtain ⟨h1, h2⟩ := seedP_done r _ l' h
   refine ⟨fun p hp => h1 p (mem_addP.2 (.inl (mem_addP.2 (.inl hp)))), fun x hx => ?_⟩
   rcases List.mem_cons.1 hx with rfl | hx
   ·exact ⟨h0, h1 _ (mem_addP.2 (.inl (mem_addP.2 (.inr rfl)))), h1 _ (mem_addP.2 (.inr rfl))⟩
   ·exact h2 x hx
  ·cases h
theorem meth_right {S : Sc} (R : RightS S) {k : List UInt8} (h : (methOf S k).2 = true) : (methOf S k).1 ∈ S.meths ∧ (methOf S k).1.name = k ∧ hasM S (methOf S k).1.inn = true ∧ hasM S (methOf S k).1.out = true := by
 have := first_found (p := fun x : Mt => x.name == k) (z := zMt) (l := S.meths) h
 obtain ⟨i, hi⟩ := List.getElem?_of_mem this.1
 exact ⟨this.1, eq_of_beq this.2, (R.meth i _ hi).2⟩
theorem seedP_pairs {S U : Sc} (RS : RightS S) (RU : RightS U) : ∀ (ms : List Mt) (l l' : List Pr), (∀ m ∈ ms, m ∈ S.meths) → seedP U l ms = .inr l' → PairsOK S U l → PairsOK S U l'
 | [], l, l', _, h, hl => by injection h with h; subst h; exact hl
 | m :: r, l, l', hm, h, hl => by
  rw [seedP] at h
  split at h
  ·rename_i h0
   obtain ⟨i, hi⟩ := List.getElem?_of_mem (hm m List.mem_cons_self)
   have a := (RS.meth i m hi).2
   have b := (meth_right RU h0).2.2
   exact seedP_pairs RS RU r _ l' (fun x hx => hm x (List.mem_cons_of_mem _ hx)) h (addP_ok (addP_ok hl a.1 b.1) a.2 b.2)
  ·cases h
structure Over (S U : Sc) (L : List Pr) : Prop where
 s : checkC S = 0
 u : checkC U = 0
 ok : PairsOK S U L
 meth : ∀ m ∈ S.meths, (methOf U m.name).2 = true ∧ (⟨m.inn, (methOf U m.name).1.inn⟩ : Pr) ∈ L ∧ (⟨m.out, (methOf U m.name).1.out⟩ : Pr) ∈ L
 all : ∀ p ∈ L, ∀ u, 1 ≤ u → u ≤ 500 → stayB S U (msgOf S p.o) (msgOf U p.n) u = true ∧ ∀ q, newP S U (msgOf S p.o) (msgOf U p.n) u = some q → q ∈ L
theorem evo_over {S U : Sc} (h : (evoP S U).2.2 = true) : ∃ L, Over S U L := by
 unfold evoP at h
 split at h
 ·rename_i hc
  have RS := right_of hc.1
  have RU := right_of hc.2
  cases hs : seedP U [] S.meths with
  | inl k => rw [hs] at h; cases h
  | inr l =>
   rw [hs] at h
   have ok := seedP_pairs RS RU S.meths [] l (fun m hm => hm) hs ⟨fun p hp => (by cases hp), List.nodup_nil⟩
   obtain ⟨L, h1, h2, h3, h4⟩ := walkP_done RS RU 101 0 l (by omega) ok h
   have sd := (seedP_done S.meths [] l hs).2
   refine ⟨L, hc.1, hc.2, h1, fun m hm => ?_, fun p hp u u1 u2 => ?_⟩
   ·obtain ⟨q1, q2, q3⟩ := sd m hm
    exact ⟨q1, h2 _ q2, h2 _ q3⟩
   ·obtain ⟨j, hj⟩ := List.getElem?_of_mem hp
    exact h4 j p (Nat.zero_le _) hj u u1 u2
 ·cases h
end Go.Aw
namespace Go.Aw
open Go.Proofs Go.RowKit
set_option linter.unusedSimpArgs false
set_option linter.unusedVariables false
def TagOK (S U : Sc) (Bad : List UInt8 → Int → Prop) (k : List UInt8) (t : Int) : Prop :=
 (Bad k t ∧ keepB S U (msgOf S k) (msgOf U k) t = false) ∨
 ((msgOf U k).res.contains t = true ∧ keepB S U (msgOf S k) (msgOf U k) t = false) ∨
 ((fOf (msgOf S k) t).2 = true ∧ keepB S U (msgOf S k) (msgOf U k) t = true ∧ (fOf (msgOf U k) t).1.ty = (fOf (msgOf S k) t).1.ty) ∨
 ((fOf (msgOf S k) t).2 = false ∧ (msgOf S k).res.contains t = false)
theorem newP_no {S U : Sc} {mo mn : Ms} {t : Int} (h : keepB S U mo mn t = false) : newP S U mo mn t = none := by
 unfold newP
 rw [if_neg]
 rintro ⟨_, q, _⟩
 rw [h] at q; cases q
theorem alike_cases {S U : Sc} (Bad : List UInt8 → Int → Prop) (hS : checkC S = 0) (hU : checkC U = 0)
  (hm : ∀ m ∈ S.meths, (methOf U m.name).2 = true ∧ (methOf U m.name).1.inn = m.inn ∧ (methOf U m.name).1.out = m.out)
  (hk : ∀ k, hasM S k = true → ∀ t, 1 ≤ t → t ≤ 500 → TagOK S U Bad k t) :
  evoP S U = ([], 0, true) ∨ ∃ k t, Bad k t ∧ evoP S U = (k, t, false) := by
 have RS := right_of hS
 have main := evo_cases (S := S) (U := U) (fun p => p.o = p.n ∧ hasM S p.o = true) (fun p u => Bad p.o u) hS hU (fun m hmm => ?_) fun p hp u u1 u2 => ?_
 ·rcases main with h | ⟨p, u, _, h1, h2⟩
  ·exact .inl h
  ·exact .inr ⟨p.o, u, h1, h2⟩
 ·obtain ⟨h1, h2, h3⟩ := hm m hmm
  obtain ⟨i, hi⟩ := List.getElem?_of_mem hmm
  have q := (RS.meth i m hi).2
  exact ⟨h1, ⟨h2.symm, q.1⟩, ⟨h3.symm, q.2⟩⟩
 ·obtain ⟨e, hh⟩ := hp
  rw [← e]
  rcases hk p.o hh u u1 u2 with ⟨b, kb⟩ | ⟨r, kb⟩ | ⟨f, kb, ty⟩ | ⟨f, r⟩
  ·exact ⟨.inr b, fun q hq => by rw [newP_no kb] at hq; cases hq⟩
  ·refine ⟨.inl ?_, fun q hq => by rw [newP_no kb] at hq; cases hq⟩
   unfold stayB
   rw [kb, r]
   simp
  ·refine ⟨.inl ?_, fun q hq => ?_⟩
   ·unfold stayB
    rw [if_pos f, if_pos kb]
   ·unfold newP at hq
    split at hq
    ·rename_i hc
     injection hq with hq
     subst hq
     have f1 := first_found (p := fun x : Fd => x.tag == u) (z := zFd) (l := (msgOf S p.o).fields) f
     exact ⟨by show _ = _; rw [ty], kind7 RS (msgOf_mem hh).1 f1.1 hc.2.2⟩
    ·cases hq
  ·refine ⟨.inl ?_, fun q hq => ?_⟩
   ·unfold stayB
    rw [if_neg (by rw [f]; simp), r]
    simp
   ·unfold newP at hq
    rw [if_neg (by rw [f]; simp)] at hq
    cases hq
theorem alike_not {S U : Sc} {m : Mt} (hm : m ∈ S.meths) (h2 : (methOf U m.name).1.inn = m.inn) {t : Int} (t1 : 1 ≤ t) (t2 : t ≤ 500) (hb : stayB S U (msgOf S m.inn) (msgOf U m.inn) t = false) : (evoP S U).2.2 = false := by
 cases h : (evoP S U).2.2 with
 | false => rfl
 | true =>
  obtain ⟨L, X⟩ := evo_over h
  obtain ⟨_, q, _⟩ := X.meth m hm
  have := (X.all _ q t t1 t2).1
  rw [h2] at this
  simp only at this
  rw [hb] at this
  cases this
end Go.Aw
namespace Go.Aw
open Go.Proofs Go.RowKit
set_option linter.unusedSimpArgs false
set_option linter.unusedVariables false
theorem flds_iff {S : Sc} : ∀ {l : List Fd} {ns : List (List UInt8)} {us : List Int}, fldsC S ns us l = 0 ↔ (∀ f ∈ l, nameB f.name = true ∧ tagB f.tag = true ∧ fieldB S f = true ∧ f.name ∉ ns ∧ f.tag ∉ us) ∧ (l.map Fd.name).Nodup ∧ (l.map Fd.tag).Nodup
 | [], ns, us => by simp [fldsC]
 | f :: l, ns, us => by
  rw [fldsC, List.map_cons, List.map_cons, List.nodup_cons, List.nodup_cons]
  constructor
  ·intro h
   split at h
   ·rename_i h1
    split at h
    ·rename_i h2
     split at h
     ·rename_i h3
      obtain ⟨q1, q2, q3⟩ := (flds_iff (l := l)).1 h
      have t1 := takes_iff.1 h1
      rw [Bool.and_eq_true, Bool.not_eq_true', ← Bool.not_eq_true, List.contains_iff_mem] at h2
      refine ⟨fun g hg => ?_, ⟨fun hm => ?_, q2⟩, ⟨fun hm => ?_, q3⟩⟩
      ·rcases List.mem_cons.1 hg with rfl | hg
       ·exact ⟨t1.1, h2.1, h3, t1.2, h2.2⟩
       ·obtain ⟨a, b, c, d, e⟩ := q1 g hg
        exact ⟨a, b, c, fun hm => d (List.mem_append.2 (.inl hm)), fun hm => e (List.mem_append.2 (.inl hm))⟩
      ·obtain ⟨g, hg, e⟩ := List.mem_map.1 hm
       exact (q1 g hg).2.2.2.1 (by rw [e]; simp)
      ·obtain ⟨g, hg, e⟩ := List.mem_map.1 hm
       exact (q1 g hg).2.2.2.2 (by rw [e]; simp)
     ·cases h
    ·cases h
   ·cases h
  ·rintro ⟨h, ⟨n1, n2⟩, ⟨m1, m2⟩⟩
   obtain ⟨a, b, c, d, e⟩ := h f List.mem_cons_self
   rw [if_pos (takes_iff.2 ⟨a, d⟩), if_pos (by rw [Bool.and_eq_true, Bool.not_eq_true', ← Bool.not_eq_true, List.contains_iff_mem]; exact ⟨b, e⟩), if_pos c]
   refine (flds_iff (l := l)).2 ⟨fun g hg => ?_, n2, m2⟩
   obtain ⟨a', b', c', d', e'⟩ := h g (List.mem_cons_of_mem _ hg)
   refine ⟨a', b', c', fun hm => ?_, fun hm => ?_⟩
   ·rcases List.mem_append.1 hm with hm | hm
    ·exact d' hm
    ·simp at hm; exact n1 (List.mem_map.2 ⟨g, hg, hm⟩)
   ·rcases List.mem_append.1 hm with hm | hm
    ·exact e' hm
    ·simp at hm; exact m1 (List.mem_map.2 ⟨g, hg, hm⟩)
theorem res_iff : ∀ {l : List Int} {us : List Int}, resBad us l = false ↔ (∀ t ∈ l, tagB t = true ∧ t ∉ us) ∧ l.Nodup
 | [], us => by simp [resBad]
 | t :: l, us => by
  rw [resBad, List.nodup_cons]
  constructor
  ·intro h
   split at h
   ·rename_i h2
    rw [Bool.and_eq_true, Bool.not_eq_true', ← Bool.not_eq_true, List.contains_iff_mem] at h2
    obtain ⟨q1, q2⟩ := (res_iff (l := l)).1 h
    refine ⟨fun g hg => ?_, fun hm => ?_, q2⟩
    ·rcases List.mem_cons.1 hg with rfl | hg
     ·exact h2
     ·exact ⟨(q1 g hg).1, fun hm => (q1 g hg).2 (List.mem_append.2 (.inl hm))⟩
    ·exact (q1 t hm).2 (by simp)
   ·cases h
  ·rintro ⟨h, n1, n2⟩
   obtain ⟨a, b⟩ := h t List.mem_cons_self
   rw [if_pos (by rw [Bool.and_eq_true, Bool.not_eq_true', ← Bool.not_eq_true, List.contains_iff_mem]; exact ⟨a, b⟩)]
   refine (res_iff (l := l)).2 ⟨fun g hg => ?_, n2⟩
   obtain ⟨a', b'⟩ := h g (List.mem_cons_of_mem _ hg)
   refine ⟨a', fun hm => ?_⟩
   rcases List.mem_append.1 hm with hm | hm
   ·exact b' hm
   ·simp at hm; subst hm; exact n1 hg
structure FitM (S : Sc) (m : Ms) : Prop where
 no : m.fields.length ≤ 16 ∧ m.res.length ≤ 32
 res : ∀ t ∈ m.res, tagB t = true
 rnd : m.res.Nodup
 fld : ∀ f ∈ m.fields, nameB f.name = true ∧ tagB f.tag = true ∧ fieldB S f = true ∧ f.tag ∉ m.res
 nnd : (m.fields.map Fd.name).Nodup
 tnd : (m.fields.map Fd.tag).Nodup
theorem body_iff {S : Sc} {m : Ms} : bodyC S m = 0 ↔ FitM S m := by
 unfold bodyC
 constructor
 ·intro h
  split at h
  ·cases h
  rename_i h1
  split at h
  ·cases h
  rename_i h2
  obtain ⟨q1, q2, q3⟩ := flds_iff.1 h
  obtain ⟨r1, r2⟩ := res_iff.1 (by simpa using h2)
  exact ⟨by omega, fun t ht => (r1 t ht).1, r2, fun f hf => ⟨(q1 f hf).1, (q1 f hf).2.1, (q1 f hf).2.2.1, (q1 f hf).2.2.2.2⟩, q2, q3⟩
 ·intro F
  have := F.no
  rw [if_neg (by omega), if_neg (by rw [Bool.not_eq_true]; exact res_iff.2 ⟨fun t ht => ⟨F.res t ht, by simp⟩, F.rnd⟩)]
  exact flds_iff.2 ⟨fun f hf => ⟨(F.fld f hf).1, (F.fld f hf).2.1, (F.fld f hf).2.2.1, by simp, (F.fld f hf).2.2.2⟩, F.nnd, F.tnd⟩
theorem first_in {α : Type} {p : α → Bool} {z : α} {l : List α} {a : α} (h : a ∈ l) (hp : p a = true) (hu : ∀ b ∈ l, p b = true → b = a) : firstP p z l = (a, true) := by
 unfold firstP
 cases e : l.find? p with
 | none => rw [List.find?_eq_none] at e; exact absurd hp (e a h)
 | some b => rw [hu b (List.mem_of_find?_eq_some e) (List.find?_some e)]
theorem first_none {α : Type} {p : α → Bool} {z : α} {l : List α} (h : ∀ b ∈ l, p b = false) : firstP p z l = (z, false) := by
 unfold firstP
 cases e : l.find? p with
 | none => rfl
 | some b =>
  have q := List.find?_some e
  rw [h b (List.mem_of_find?_eq_some e)] at q
  cases q
theorem fOf_out {m : Ms} {t : Int} (h : ∀ f ∈ m.fields, f.tag ≠ t) : fOf m t = (zFd, false) :=
 first_none fun b hb => by simpa using h b hb
theorem fit_msgs {S : Sc} (F : FitS S) {m : Ms} (h : m ∈ S.msgs) : FitM S m := body_iff.1 (F.body m h)
theorem hasM_iff {S : Sc} {k : List UInt8} : hasM S k = true ↔ ∃ m ∈ S.msgs, m.name = k := by
 unfold hasM
 rw [found_any, List.any_eq_true]
 simp
end Go.Aw
namespace Go.Aw
open Go.Proofs Go.RowKit
set_option linter.unusedSimpArgs false
set_option linter.unusedVariables false
end Go.Aw
namespace Go.Aw
open Go.Proofs Go.RowKit
set_option linter.unusedSimpArgs false
set_option linter.unusedVariables false
theorem vals_iff : ∀ {l : List Nm} {ns : List (List UInt8)} {us : List Int}, valsC ns us l = 0 ↔ (∀ f ∈ l, nameB f.name = true ∧ numB f.n = true ∧ f.name ∉ ns ∧ f.n ∉ us) ∧ (l.map Nm.name).Nodup ∧ (l.map Nm.n).Nodup
 | [], ns, us => by simp [valsC]
 | f :: l, ns, us => by
  rw [valsC, List.map_cons, List.map_cons, List.nodup_cons, List.nodup_cons]
  constructor
  ·intro h
   split at h
   ·rename_i h1
    split at h
    ·rename_i h2
     obtain ⟨q1, q2, q3⟩ := (vals_iff (l := l)).1 h
     have t1 := takes_iff.1 h1
     rw [Bool.and_eq_true, Bool.not_eq_true', ← Bool.not_eq_true, List.contains_iff_mem] at h2
     refine ⟨fun g hg => ?_, ⟨fun hm => ?_, q2⟩, ⟨fun hm => ?_, q3⟩⟩
     ·rcases List.mem_cons.1 hg with rfl | hg
      ·exact ⟨t1.1, h2.1, t1.2, h2.2⟩
      ·obtain ⟨a, b, d, e⟩ := q1 g hg
       exact ⟨a, b, fun hm => d (List.mem_append.2 (.inl hm)), fun hm => e (List.mem_append.2 (.inl hm))⟩
     ·obtain ⟨g, hg, e⟩ := List.mem_map.1 hm
      exact (q1 g hg).2.2.1 (by rw [e]; simp)
     ·obtain ⟨g, hg, e⟩ := List.mem_map.1 hm
      exact (q1 g hg).2.2.2 (by rw [e]; simp)
    ·cases h
   ·cases h
  ·rintro ⟨h, ⟨n1, n2⟩, ⟨m1, m2⟩⟩
   obtain ⟨a, b, d, e⟩ := h f List.mem_cons_self
   rw [if_pos (takes_iff.2 ⟨a, d⟩), if_pos (by rw [Bool.and_eq_true, Bool.not_eq_true', ← Bool.not_eq_true, List.contains_iff_mem]; exact ⟨b, e⟩)]
   refine (vals_iff (l := l)).2 ⟨fun g hg => ?_, n2, m2⟩
   obtain ⟨a', b', d', e'⟩ := h g (List.mem_cons_of_mem _ hg)
   refine ⟨a', b', fun hm => ?_, fun hm => ?_⟩
   ·rcases List.mem_append.1 hm with hm | hm
    ·exact d' hm
    ·simp at hm; exact n1 (List.mem_map.2 ⟨g, hg, hm⟩)
   ·rcases List.mem_append.1 hm with hm | hm
    ·exact e' hm
    ·simp at hm; exact m1 (List.mem_map.2 ⟨g, hg, hm⟩)
theorem name_nil : nameB [] = false := by decide +kernel
structure FitE (e : En) : Prop where
 no : e.vals.length ≤ 16
 zero : ∃ v ∈ e.vals, v.n = 0
 vals : ∀ v ∈ e.vals, nameB v.name = true ∧ numB v.n = true
 nnd : (e.vals.map Nm.name).Nodup
 vnd : (e.vals.map Nm.n).Nodup
theorem ebody_iff {e : En} : enumBody e = 0 ↔ FitE e := by
 unfold enumBody
 constructor
 ·intro h
  split at h
  ·cases h
  rename_i h1
  split at h
  ·rename_i h2
   obtain ⟨q1, q2, q3⟩ := vals_iff.1 h
   obtain ⟨v, hv, e0⟩ := List.any_eq_true.1 h2
   exact ⟨by omega, ⟨v, hv, eq_of_beq e0⟩, fun v hv => ⟨(q1 v hv).1, (q1 v hv).2.1⟩, q2, q3⟩
  ·cases h
 ·intro F
  have := F.no
  obtain ⟨v, hv, e0⟩ := F.zero
  rw [if_neg (by omega), if_pos (List.any_eq_true.2 ⟨v, hv, by simp [e0]⟩)]
  exact vals_iff.2 ⟨fun v hv => ⟨(F.vals v hv).1, (F.vals v hv).2, by simp, by simp⟩, F.nnd, F.vnd⟩
theorem FitE.nice {e : En} (F : FitE e) : niceE e := by
 refine ⟨F.vnd, fun v hv q => ?_⟩
 have := (F.vals v hv).1
 rw [q, name_nil] at this
 cases this
theorem fit_enum {S : Sc} (F : FitS S) {e : En} (h : e ∈ S.enums) : FitE e := ebody_iff.1 (F.ebody e h)
theorem right_Fits {S U : Sc} (F : FitS S) (G : FitS U) (y z : Ty) : PFn Tryd.prog 44 [.agg (encSc S), .agg (encSc U), .agg (encTy y), .agg (encTy z)] (.bool (fitsB S U y z)) :=
 compat_Fits S U y z (by have := F.lens; omega) (by have := G.lens; omega) (fun e he => by have := (fit_enum F he).no; omega) (fun e he => by have := (fit_enum G he).no; omega) (fun e he => (fit_enum F he).nice) fun e he => (fit_enum G he).nice
end Go.Aw
namespace Go.Aw
open Go.Proofs Go.RowKit
set_option linter.unusedSimpArgs false
set_option linter.unusedVariables false
def digW : List UInt8 := [48, 49, 50, 51, 52, 53, 54, 55, 56, 57]
def zeroW : List UInt8 := [122, 101, 114, 111]
def noughtW : List UInt8 := [110, 111, 117, 103, 104, 116]
def nmV (n : Nat) : Nm := ⟨[118] ++ (digW.take (n + 1)).drop n, (n : Int)⟩
def hitI (l : List Int) (n : Nat) (i : Nat) : Bool := (l.take i).any fun v => (1 + v % 9) == (n : Int)
def inI (l : List Int) (n : Nat) : Bool := hitI l n (min l.length 30)
def pickI (l : List Int) (n : Nat) : List Nm := ((List.range' 1 (n - 1)).filter (inI l)).map nmV
def enV (w : List UInt8) (l : List Int) (n : Nat) : List Nm := ⟨w, 0⟩ :: pickI l n
def enE (w : List UInt8) (l : List Int) : En := ⟨[101], enV w l 10⟩
def enS (e : En) : Sc := ⟨[97], [⟨[109], [⟨[120], 1, 1, ⟨6, [101]⟩⟩], []⟩], [e], [⟨[99], [109], [109]⟩]⟩
theorem pick_next {l : List Int} {n : Nat} (h : 1 ≤ n) : pickI l (n + 1) = if inI l n = true then pickI l n ++ [nmV n] else pickI l n := by
 unfold pickI
 rw [show n + 1 - 1 = (n - 1) + 1 by omega, List.range'_concat, List.filter_append, List.map_append, show 1 + 1 * (n - 1) = n by omega]
 cases hh : inI l n <;> simp [hh]
theorem pick_len {l : List Int} {n : Nat} : (pickI l n).length ≤ n - 1 := by
 unfold pickI
 rw [List.length_map]
 refine Nat.le_trans (List.length_filter_le _ _) ?_
 rw [List.length_range']
 exact Nat.le_refl _
theorem hit_next {l : List Int} {n i : Nat} {v : Int} (h : l[i]? = some v) : hitI l n (i + 1) = (hitI l n i || (1 + v % 9) == (n : Int)) := by
 unfold hitI
 rw [List.take_add_one, h, List.any_append]
 simp
theorem sub_pick (l : List Int) : (pickI l 10).Sublist ((List.range' 1 9).map nmV) := (List.filter_sublist (p := inI l)).map _
theorem all_nm : ∀ v ∈ (List.range' 1 9).map nmV, nameB v.name = true ∧ numB v.n = true ∧ v.name ≠ zeroW ∧ v.name ≠ noughtW ∧ v.n ≠ 0 := by decide +kernel
theorem all_nd1 : (((List.range' 1 9).map nmV).map Nm.name).Nodup := by decide +kernel
theorem all_nd2 : (((List.range' 1 9).map nmV).map Nm.n).Nodup := by decide +kernel
theorem en_fit {w : List UInt8} (hw : w = zeroW ∨ w = noughtW) (l : List Int) : FitE (enE w l) := by
 have sub := sub_pick l
 have nm : ∀ v ∈ pickI l 10, nameB v.name = true ∧ numB v.n = true ∧ v.name ≠ w ∧ v.n ≠ 0 := fun v hv => by
  obtain ⟨a, b, c, d, e⟩ := all_nm v (sub.subset hv)
  refine ⟨a, b, ?_, e⟩
  rcases hw with rfl | rfl
  ·exact c
  ·exact d
 have wn : nameB w = true := by rcases hw with rfl | rfl <;> decide +kernel
 refine ⟨?_, ⟨_, List.mem_cons_self, rfl⟩, fun v hv => ?_, ?_, ?_⟩
 ·have := pick_len (l := l) (n := 10)
  show (_ :: pickI l 10).length ≤ 16
  rw [List.length_cons]; omega
 ·rcases List.mem_cons.1 hv with rfl | hv
  ·exact ⟨wn, show numB 0 = true by decide⟩
  ·exact ⟨(nm v hv).1, (nm v hv).2.1⟩
 ·show (List.map Nm.name (_ :: pickI l 10)).Nodup
  rw [List.map_cons, List.nodup_cons]
  refine ⟨fun hm => ?_, (sub.map _).nodup all_nd1⟩
  obtain ⟨v, hv, e⟩ := List.mem_map.1 hm
  exact (nm v hv).2.2.1 e
 ·show (List.map Nm.n (_ :: pickI l 10)).Nodup
  rw [List.map_cons, List.nodup_cons]
  refine ⟨fun hm => ?_, (sub.map _).nodup all_nd2⟩
  obtain ⟨v, hv, e⟩ := List.mem_map.1 hm
  exact (nm v hv).2.2.2 e
theorem nm_a : nameB [97] = true := by decide +kernel
theorem nm_c : nameB [99] = true := by decide +kernel
theorem nm_e : nameB [101] = true := by decide +kernel
theorem nm_m : nameB [109] = true := by decide +kernel
theorem nm_x : nameB [120] = true := by decide +kernel
theorem enS_fit {e : En} (he : FitE e) (hn : e.name = [101]) : FitS (enS e) := by
 have hk : kindB (enS e) ⟨6, [101]⟩ = true := by
  unfold kindB
  rw [if_pos rfl, found_any]
  show ([e].any fun x => x.name == [101]) = true
  simp [hn]
 refine ⟨nm_a, ⟨by simp [enS], by simp [enS], by simp [enS], by simp [enS]⟩, fun m hm => ?_, fun m hm => ?_, ?_, fun m hm => ?_, fun m hm => ?_, fun t ht => ?_, ?_, fun t ht => ?_⟩
 ·simp [enS] at hm; rw [hm]; exact nm_m
 ·simp [enS] at hm; rw [hm, hn]; exact nm_e
 ·unfold namesS enS; simp [hn]
 ·simp only [enS, List.mem_singleton] at hm
  subst hm
  refine body_iff.2 ⟨by simp, fun t ht => (by cases ht), List.nodup_nil, fun f hf => ?_, by simp, by simp⟩
  simp at hf
  subst hf
  refine ⟨nm_x, by decide, ?_, by simp⟩
  unfold fieldB
  rw [hk]; decide
 ·simp [enS] at hm; rw [hm]; exact ebody_iff.2 he
 ·simp [enS] at ht; rw [ht]; exact nm_c
 ·simp [enS]
 ·simp [enS] at ht; rw [ht]
  have : hasM (enS e) [109] = true := by unfold hasM; rw [found_any]; simp [enS]
  exact ⟨this, this⟩
def enW (x y : En) : Bool := x.vals.all fun v => y.vals.contains v
theorem en_fits {x y : En} (hx : x.name = [101]) (hy : y.name = [101]) : fitsB (enS x) (enS y) ⟨6, [101]⟩ ⟨6, [101]⟩ = enW x y := by
 unfold fitsB
 rw [if_neg (by decide), if_neg (by decide), if_neg (by decide)]
 unfold fitsE
 have e1 : firstP (fun z => z.name == [101]) zEn (enS x).enums = (x, true) := first_in (by simp [enS]) (by simp [hx]) fun b hb _ => by simpa [enS] using hb
 have e2 : firstP (fun z => z.name == [101]) zEn (enS y).enums = (y, true) := first_in (by simp [enS]) (by simp [hy]) fun b hb _ => by simpa [enS] using hb
 simp only [e1, e2, Bool.true_and]
 rfl
theorem en_evo {x y : En} (fx : FitE x) (fy : FitE y) (hx : x.name = [101]) (hy : y.name = [101]) : evoP (enS x) (enS y) = if enW x y = true then ([], 0, true) else ([109], 1, false) := by
 have FX := enS_fit fx hx
 have FY := enS_fit fy hy
 have cx := check_fit.2 FX
 have cy := check_fit.2 FY
 have mx : ∀ z : En, msgOf (enS z) [109] = ⟨[109], [⟨[120], 1, 1, ⟨6, [101]⟩⟩], []⟩ := fun z => rfl
 have f1 : fOf ⟨[109], [⟨[120], 1, 1, ⟨6, [101]⟩⟩], []⟩ 1 = (⟨[120], 1, 1, ⟨6, [101]⟩⟩, true) := rfl
 have fo : ∀ t : Int, t ≠ 1 → fOf ⟨[109], [⟨[120], 1, 1, ⟨6, [101]⟩⟩], []⟩ t = (zFd, false) := fun t ht => fOf_out fun f hf => by
  simp at hf; subst hf; exact Ne.symm ht
 have kb : keepB (enS x) (enS y) (msgOf (enS x) [109]) (msgOf (enS y) [109]) 1 = enW x y := by
  rw [mx, mx]
  unfold keepB
  rw [f1, en_fits hx hy]
  simp
 have cs := alike_cases (S := enS x) (U := enS y) (fun k t => k = [109] ∧ t = 1 ∧ enW x y = false) cx cy (fun m hm => by
  simp only [enS, List.mem_singleton] at hm
  subst hm
  exact ⟨rfl, rfl, rfl⟩) fun k hk t t1 t2 => by
   have e : k = [109] := by
    obtain ⟨m, hm, e⟩ := hasM_iff.1 hk
    simp only [enS, List.mem_singleton] at hm
    subst hm
    exact e.symm
   subst e
   by_cases ht : t = 1
   ·subst ht
    cases hw : enW x y with
    | true => exact .inr (.inr (.inl ⟨rfl, by rw [kb, hw], rfl⟩))
    | false => exact .inl ⟨⟨rfl, rfl, rfl⟩, by rw [kb, hw]⟩
   ·refine .inr (.inr (.inr ⟨?_, rfl⟩))
    rw [mx, fo t ht]
 cases hw : enW x y with
 | true =>
  rw [if_pos rfl]
  rcases cs with h | ⟨_, _, ⟨_, _, h⟩, _⟩
  ·exact h
  ·rw [hw] at h; cases h
 | false =>
  rw [if_neg (by simp)]
  rcases cs with h | ⟨_, _, ⟨rfl, rfl, _⟩, h⟩
  ·exfalso
   have no := alike_not (S := enS x) (U := enS y) (m := ⟨[99], [109], [109]⟩) (by simp [enS]) rfl (t := 1) (by omega) (by omega) (by
    show stayB _ _ (msgOf (enS x) [109]) (msgOf (enS y) [109]) 1 = false
    unfold stayB
    rw [kb, hw]
    rfl)
   rw [h] at no
   cases no
  ·exact h
theorem en_turn (a b : List Int) : enW (enE zeroW a) (enE noughtW b) = false := by
 unfold enW
 rw [List.all_eq_false]
 refine ⟨⟨zeroW, 0⟩, List.mem_cons_self, ?_⟩
 rw [List.contains_iff_mem]
 intro hm
 rcases List.mem_cons.1 hm with h | h
 ·injection h with h; exact absurd h (by decide)
 ·exact (all_nm _ ((sub_pick b).subset h)).2.2.2.2 rfl
end Go.Aw
namespace Go.Aw
open Go.RowKit
variable {P : Program}
theorem callD_val {nt : Fm} {s : St} {K : St → Prop} {o : Oper} {c : Operand} {f : FuncId} {xs : Array Operand} {ts : Array TypeId} {args : List AV} {h : List (Nat × Blk)} {n : Nat} {rt : List Nat} {r : AV} {h' : List (Nat × Blk)} {m : Nat} (ρ : Nat → Nat)
  (ho : o.op = .call { callee := .value c, args := xs, argTypes := ts }) (hcf : fnOf (ev s.T c) = some f) (hd : dstOK nt o = true) (D : DFn P f args h n rt r h' m) (F : FitD s xs.toList args h n rt r h' ρ)
  (hk : K ⟨putT s.T o.dst (some (r.ren (lift2 ρ n s.nx))), putH (putH s.H (goneU ρ h)) (newU (lift2 ρ n s.nx) h'), s.nx + m⟩) : CallD P nt o s K := by
 obtain ⟨hen, hp⟩ := D
 intro w0 X I0 a w next Q tx ⟨σ, I, hn, mm⟩ hnext
 have IN : In σ w I s.T s.H w0 X I0 a s.nx := ⟨mm.heap, mm.tmps, hn _ (Nat.le_refl _), tx⟩
 have hrun : (execOp a.eval o).run P w = .ok (.enter f (xs.map a.eval)) w := by
  have he : a.eval c = .func (.func f) #[] #[] := by
   cases hev : ev s.T c with
   | none => rw [hev] at hcf; simp [fnOf] at hcf
   | some x => rw [hev] at hcf; exact fnOf_spec hcf (IN.ev hev)
  simp only [execOp, ho, resolve, he, Deferred.ofValue, Sem.run_bind, Sem.run_pure, Result.andThen_ok, invoke, Array.append_empty, Array.empty_append, run_enter hen]
 obtain ⟨p1, p2⟩ := argD_spec F.opd
 have here : ∀ l b, ofH h l = some b → s.H (ρ l) = some (b.ren ρ) ∧ l < n ∧ b.labsIn n = true := fun l b hl => F.here (l, b) (ofH_mem hl)
 have inj : ∀ l l' b b', ofH h l = some b → ofH h l' = some b' → ρ l = ρ l' → l = l' := fun l l' b b' h1 h2 e => by
  have := distinct_inj F.inj (l, b) (ofH_mem h1) (l', b') (ofH_mem h2) e
  injection this
 generalize hσc : relab ρ n σ = σc
 have σat : ∀ l, l < n → σc l = σ (ρ l) := fun l hl => by rw [← hσc]; unfold relab; rw [if_pos hl]
 have σno : ∀ l, n ≤ l → σc l = none := fun l hl => by rw [← hσc]; unfold relab; rw [if_neg (by omega)]
 have Xof : ∀ g, lentX σc (ofH h) g → ∃ l b sl, ofH h l = some b ∧ s.H (ρ l) = some (b.ren ρ) ∧ σ (ρ l) = some sl ∧ sl.block = some g := fun g ⟨l, sl, q1, q2, q3⟩ => by
  obtain ⟨b, hb⟩ := Option.ne_none_iff_exists'.1 q1
  obtain ⟨r1, r2, _⟩ := here l b hb
  exact ⟨l, b, sl, hb, r1, by rw [← σat l r2]; exact q2, q3⟩
 have hH : HOK σc w I (ofH h) w (lentX σc (ofH h)) I := by
  refine ⟨fun l b hl => ?_, fun l l' g s1 s2 n1 n2 e1 e2 g1 g2 => ?_, fun l g s1 n1 e1 g1 => ?_, fun g hg => ⟨(mm.heap.imm g hg).1, .inl hg⟩, fun _ h => h, Fr.refl _ _⟩
  ·obtain ⟨r1, r2, r3⟩ := here l b hl
   rw [← hσc]
   exact repB_ren r2 (mm.heap.rows _ _ r1) r3
  ·obtain ⟨b1, hb1⟩ := Option.ne_none_iff_exists'.1 n1
   obtain ⟨b2, hb2⟩ := Option.ne_none_iff_exists'.1 n2
   obtain ⟨r1, r2, _⟩ := here l b1 hb1
   obtain ⟨r1', r2', _⟩ := here l' b2 hb2
   rw [σat l r2] at e1
   rw [σat l' r2'] at e2
   exact inj l l' b1 b2 hb1 hb2 (mm.heap.inj _ _ g s1 s2 (by rw [r1]; simp) (by rw [r1']; simp) e1 e2 g1 g2)
  ·obtain ⟨b1, hb1⟩ := Option.ne_none_iff_exists'.1 n1
   obtain ⟨r1, r2, _⟩ := here l b1 hb1
   refine ⟨?_, .inl ⟨l, s1, n1, e1, g1⟩⟩
   rw [σat l r2] at e1
   exact (mm.heap.mine _ g s1 (by rw [r1]; simp) e1 g1).1
 have hargs := hp w I σc (xs.map a.eval) (by simpa using p1) σno (fun j u y q1 q2 => by
  rw [Array.getElem?_map, Option.map_eq_some_iff] at q1
  obtain ⟨x, hx, rfl⟩ := q1
  have hlab : y.labsIn n = true := List.all_eq_true.1 F.labs y (List.mem_of_getElem? q2)
  rcases p2 j x y (by simpa using hx) q2 with ⟨p, v, rfl, hv, hpv⟩ | hv
  ·exact .p (rep_pureA (IN.ev hv) hpv)
  ·rw [← hσc]
   exact repA_ren (IN.ev hv) y rfl hlab) hH IN.tabs
 unfold Oper.wp
 rw [hrun, Oper.upon_enter]
 refine hargs.mono fun e w' he => ?_
 obtain ⟨v, σ', I', rfl, hh, hrv, hroot, hnew⟩ := he
 -- the caller's labels behind the call
 obtain ⟨σ2, hσ2⟩ : ∃ σ2 : Lab, ∀ l, σ2 l = if l < s.nx then σ l else σ' (n + (l - s.nx)) := ⟨fun l => if l < s.nx then σ l else σ' (n + (l - s.nx)), fun _ => rfl⟩
 have old : ∀ l sl, σ l = some sl → σ2 l = some sl := fun l sl hl => by
  rw [hσ2]
  rcases Nat.lt_or_ge l s.nx with q | q
  ·rw [if_pos q]; exact hl
  ·rw [hn l q] at hl; cases hl
 have new : ∀ l, (rt.contains l || decide (n ≤ l)) = true → ∀ sl, σ' l = some sl → σ2 (lift2 ρ n s.nx l) = some sl := fun l hl sl hs => by
  unfold lift2
  rcases Nat.lt_or_ge l n with q | q
  ·rw [if_pos q]
   have hm : l ∈ rt := by
    rcases Bool.or_eq_true_iff.1 hl with hl | hl
    ·exact List.contains_iff_mem.1 hl
    ·simp at hl; omega
   rw [hroot l hm, σat l q] at hs
   exact old _ _ hs
  ·rw [if_neg (by omega), hσ2, if_neg (by omega), show n + (s.nx + (l - n) - s.nx) = l by omega]
   exact hs
 have blk : ∀ l g sl, s.H l ≠ none → σ l = some sl → sl.block = some g → g < w.heap.size := fun l g sl hn hs hg => by
  obtain ⟨b, hb⟩ := Option.ne_none_iff_exists'.1 hn
  obtain ⟨s', hs', hlt⟩ := (mm.heap.rows l b hb).block
  rw [hs] at hs'; injection hs' with hs'; subst hs'
  exact hlt g hg
 have Xmine : ∀ g, lentX σc (ofH h) g → ¬ I g ∧ (X g ∨ w0.heap.size ≤ g) ∧ g < w.heap.size := fun g hg => by
  obtain ⟨l, b, sl, q1, q2, q3, q4⟩ := Xof g hg
  obtain ⟨m1, m2⟩ := mm.heap.mine _ g sl (by rw [q2]; simp) q3 q4
  exact ⟨m1, m2, blk _ g sl (by rw [q2]; simp) q3 q4⟩
 have same : ∀ b, I b → w'.heap[b]? = w.heap[b]? := fun b hb => hh.fr.block b (mm.heap.imm b hb).1 fun hx => (Xmine b hx).1 hb
 have hI : ∀ g, I g → I' g := hh.sub
 have fresh : ∀ g, I' g → I g ∨ lentX σc (ofH h) g ∨ w.heap.size ≤ g := fun g hg => (hh.imm g hg).2
 have frame : ∀ l b, s.H l = some b → (∀ x ∈ h, ρ x.1 ≠ l) → ∀ g sl, σ l = some sl → sl.block = some g → ¬ lentX σc (ofH h) g := fun l b hl hno g sl hs hg hx => by
  obtain ⟨l2, b2, sl2, q1, q2, q3, q4⟩ := Xof g hx
  exact hno (l2, b2) (ofH_mem q1) (mm.heap.inj _ _ g sl2 sl (by rw [q2]; simp) (by rw [hl]; simp) q3 hs q4 hg)
 -- what stands where
 have cls : ∀ l b, putH (putH s.H (goneU ρ h)) (newU (lift2 ρ n s.nx) h') l = some b → (∃ x ∈ h', lift2 ρ n s.nx x.1 = l ∧ b = x.2.ren (lift2 ρ n s.nx)) ∨ (s.H l = some b ∧ (∀ x ∈ h, ρ x.1 ≠ l)) := fun l b hl => by
  rcases putH_new (lift2 ρ n s.nx) l h' (putH s.H (goneU ρ h)) with ⟨e1, e2⟩ | ⟨x, hx, e1, e2⟩
  ·rw [e1] at hl
   rcases putH_gone ρ l h s.H with ⟨e3, e4⟩ | ⟨e3, _⟩
   ·rw [e3] at hl; exact .inr ⟨hl, e4⟩
   ·rw [e3] at hl; cases hl
  ·rw [e2] at hl
   injection hl with hl
   exact .inl ⟨x, hx, e1, hl.symm⟩
 have mem' : ∀ x ∈ h', (rt.contains x.1 || decide (n ≤ x.1)) = true ∧ x.2.labsBy (fun l => rt.contains l || decide (n ≤ l)) = true := fun x hx => by
  have := List.all_eq_true.1 F.mem x hx
  rwa [Bool.and_eq_true] at this
 have inv : ∀ l, (rt.contains l || decide (n ≤ l)) = true → ∀ sl, σ2 (lift2 ρ n s.nx l) = some sl → σ' l = some sl := fun l hl sl hs => by
  unfold lift2 at hs
  rcases Nat.lt_or_ge l n with q | q
  ·rw [if_pos q] at hs
   have hm : l ∈ rt := by
    rcases Bool.or_eq_true_iff.1 hl with hl | hl
    ·exact List.contains_iff_mem.1 hl
    ·simp at hl; omega
   rw [hroot l hm, σat l q]
   have hc := List.contains_iff_mem.1 (List.all_eq_true.1 F.roots l hm)
   obtain ⟨x, hx, hxl⟩ := List.mem_map.1 hc
   obtain ⟨r1, r2, _⟩ := F.here x hx
   have hlt : ρ l < s.nx := by
    rcases Nat.lt_or_ge (ρ l) s.nx with z | z
    ·exact z
    ·obtain ⟨sl', hsl', _⟩ := (mm.heap.rows _ _ r1).block
     rw [hxl, hn _ z] at hsl'; cases hsl'
   rw [hσ2, if_pos hlt] at hs
   exact hs
  ·rw [if_neg (by omega), hσ2, if_neg (by omega), show n + (s.nx + (l - n) - s.nx) = l by omega] at hs
   exact hs
 have OK : HOK σ2 w' I' (putH (putH s.H (goneU ρ h)) (newU (lift2 ρ n s.nx) h')) w0 X I0 := by
  have rowN : ∀ x ∈ h', repB σ' w' I' x.1 x.2 := fun x hx => hh.rows x.1 x.2 (ofH_of_mem F.dist' hx)
  have neN : ∀ x ∈ h', ofH h' x.1 ≠ none := fun x hx => by rw [ofH_of_mem F.dist' hx]; simp
  have slotF : ∀ l b sl, s.H l = some b → σ2 l = some sl → σ l = some sl := fun l b sl hl hs => by
   obtain ⟨sl', hsl', _⟩ := (mm.heap.rows l b hl).block
   rw [old l sl' hsl'] at hs
   rw [hsl']; exact hs
  refine ⟨fun l b hl => ?_, fun l1 l2 g s1 s2 n1 n2 e1 e2 g1 g2 => ?_, fun l g sl n1 e1 g1 => ?_, fun g hg => ?_, fun g hg => hh.sub g (mm.heap.sub g hg), ⟨hh.fr.os.trans mm.heap.fr.os, hh.fr.tape.trans mm.heap.fr.tape, hh.fr.output.trans mm.heap.fr.output, Nat.le_trans mm.heap.fr.size hh.fr.size, fun b hb hx => ?_, mm.heap.fr.step fun b cur et p hb hc => hh.fr.shape b cur et p hc⟩⟩
  ·rcases cls l b hl with ⟨x, hx, rfl, rfl⟩ | ⟨hl', hno⟩
   ·exact repB_by new (mem' x hx).1 (rowN x hx) (mem' x hx).2
   ·obtain ⟨sl, hsl, hlt⟩ := (mm.heap.rows l b hl').block
    refine (mm.heap.rows l b hl').mono old hI same fun g s' q1 q2 => ?_
    rw [hsl] at q1; injection q1 with q1; subst q1
    exact hh.fr.block g (hlt g q2) (frame l b hl' hno g _ hsl q2)
  ·obtain ⟨b1, hb1⟩ := Option.ne_none_iff_exists'.1 n1
   obtain ⟨b2, hb2⟩ := Option.ne_none_iff_exists'.1 n2
   rcases cls l1 b1 hb1 with ⟨x, hx, rfl, rfl⟩ | ⟨h1, no1⟩
   ·have f1 := inv x.1 (mem' x hx).1 s1 e1
    rcases cls l2 b2 hb2 with ⟨y, hy, rfl, rfl⟩ | ⟨h2, no2⟩
    ·have f2 := inv y.1 (mem' y hy).1 s2 e2
     rw [hh.inj x.1 y.1 g s1 s2 (neN x hx) (neN y hy) f1 f2 g1 g2]
    ·exfalso
     have f2 := slotF l2 b2 s2 h2 e2
     rcases (hh.mine x.1 g s1 (neN x hx) f1 g1).2 with q | q
     ·exact frame l2 b2 h2 no2 g s2 f2 g2 q
     ·have := blk l2 g s2 (by rw [h2]; simp) f2 g2; omega
   ·have f1 := slotF l1 b1 s1 h1 e1
    rcases cls l2 b2 hb2 with ⟨y, hy, rfl, rfl⟩ | ⟨h2, no2⟩
    ·exfalso
     have f2 := inv y.1 (mem' y hy).1 s2 e2
     rcases (hh.mine y.1 g s2 (neN y hy) f2 g2).2 with q | q
     ·exact frame l1 b1 h1 no1 g s1 f1 g1 q
     ·have := blk l1 g s1 (by rw [h1]; simp) f1 g1; omega
    ·exact mm.heap.inj l1 l2 g s1 s2 (by rw [h1]; simp) (by rw [h2]; simp) f1 (slotF l2 b2 s2 h2 e2) g1 g2
  ·obtain ⟨b1, hb1⟩ := Option.ne_none_iff_exists'.1 n1
   rcases cls l b1 hb1 with ⟨x, hx, rfl, rfl⟩ | ⟨h1, no1⟩
   ·have f1 := inv x.1 (mem' x hx).1 sl e1
    obtain ⟨m1, m2⟩ := hh.mine x.1 g sl (neN x hx) f1 g1
    refine ⟨m1, ?_⟩
    rcases m2 with q | q
    ·exact (Xmine g q).2.1
    ·exact .inr (Nat.le_trans mm.heap.fr.size q)
   ·have f1 := slotF l b1 sl h1 e1
    obtain ⟨m1, m2⟩ := mm.heap.mine l g sl (by rw [h1]; simp) f1 g1
    refine ⟨fun hg => ?_, m2⟩
    rcases fresh g hg with q | q | q
    ·exact m1 q
    ·exact frame l b1 h1 no1 g sl f1 g1 q
    ·have := blk l g sl (by rw [h1]; simp) f1 g1; omega
  ·refine ⟨(hh.imm g hg).1, ?_⟩
   rcases fresh g hg with q | q | q
   ·exact (mm.heap.imm g q).2
   ·exact .inr (Xmine g q).2.1
   ·exact .inr (.inr (Nat.le_trans mm.heap.fr.size q))
  ·rw [hh.fr.block b (by have := mm.heap.fr.size; omega) fun hx' => ?_]
   ·exact mm.heap.fr.block b hb hx
   ·rcases (Xmine b hx').2.1 with q | q
    ·exact hx q
    ·omega
 refine hnext ⟨putT s.T o.dst (some (r.ren (lift2 ρ n s.nx))), _, s.nx + m⟩ _ w' ⟨σ2, I', fun l hl => ?_, mm.put hd OK old hI same fun y hy => by injection hy with hy; subst hy; exact repA_by new hrv F.res⟩ hk
 simp only at hl
 rw [hσ2, if_neg (by omega)]
 exact hnew _ (by omega)
theorem SeqR.callV {nt : Fm} {s : St} {ops : Array Oper} {i : Nat} {K : St → Prop} {d : Tmp} {c : Operand} {f : FuncId} {xs : Array Operand} {ts : Array TypeId} {ty : TypeId} {ps : String} {af : Array Edge} {args : List AV} {h : List (Nat × Blk)} {n : Nat} {rt : List Nat} {r : AV} {h' : List (Nat × Blk)} {m : Nat} (ρ : Nat → Nat)
  (ho : ops[i]? = some ⟨some d, .call { callee := .value c, args := xs, argTypes := ts }, ty, ps, af, none⟩) (hcf : fnOf (Go.Aw.ev s.T c) = some f) (hd : dstOK nt ⟨some d, .call { callee := .value c, args := xs, argTypes := ts }, ty, ps, af, none⟩ = true) (D : DFn P f args h n rt r h' m) (F : FitD s xs.toList args h n rt r h' ρ)
  (hk : SeqR P nt ops (i + 1) ⟨upd s.T d (some (r.ren (lift2 ρ n s.nx))), putH (putH s.H (goneU ρ h)) (newU (lift2 ρ n s.nx) h'), s.nx + m⟩ K) : SeqR P nt ops i s K :=
 SeqR.op ho rfl (callD_val ρ rfl hcf hd D F hk)
end Go.Aw
namespace Go.Aw
open Go.Proofs Go.RowKit
set_option linter.unusedSimpArgs false
set_option linter.unusedVariables false
theorem memP_by {p : Nat → Bool} {l : List Pr} {r a b : Nat} (h1 : p a = true) (h2 : p b = true) : (memP l r a b).all (fun x => x.2.labsBy p) = true := by
 simp only [memP, List.all_cons, List.all_nil, labsBy_lift, mP_by, Bool.and_true]
 simp [Blk.labsBy, labsByL, AV.labsBy, h1, h2]
def evS (S U : Sc) (l : List Pr) (m : List (Nat × AV)) : St := ⟨ofL ((2, .ptr 0 0 0) :: (3, .ptr 1 0 0) :: (7, .ptr 2 0 0) :: m), ofH ((0, .row 4 [cellsSc S]) :: (1, .row 4 [cellsSc U]) :: memP l 2 3 4), 5⟩
theorem walkP_end {S U : Sc} : ∀ (n i : Nat) (l : List Pr), l.length ≤ i → walkP S U n i l = ([], 0, true)
 | 0, i, l, _ => rfl
 | n + 1, i, l, h => by
  rw [walkP, List.getElem?_eq_none h]
def evNx (S U : Sc) (p : Pr) (i : Nat) : Int ⊕ List Pr → List UInt8 × Int × Bool
 | .inl t => (p.o, t, false)
 | .inr l' => walkP S U (100 - i) (i + 1) l'
theorem walkP_at {S U : Sc} {i : Nat} {l : List Pr} {p : Pr} (h : l[i]? = some p) (hi : i ≤ 100) : walkP S U (101 - i) i l = evNx S U p i (tagsP S U (msgOf S p.o) (msgOf U p.n) 500 1 l) := by
 rw [show 101 - i = (100 - i) + 1 by omega, walkP, h]
 simp only
 cases tagsP S U (msgOf S p.o) (msgOf U p.n) 500 1 l <;> rfl
def evI (S U : Sc) (mo mn : Ms) (l : List Pr) (i : Nat) (m : List (Nat × AV)) : St := ⟨ofL ((2, .ptr 0 0 0) :: (3, .ptr 1 0 0) :: (7, .ptr 2 0 0) :: (12, .p (.str [])) :: (13, .p (.int .i64 0)) :: (14, .p (.int .i64 (i : Int))) :: (15, .ptr 5 0 0) :: (17, .ptr 6 0 0) :: m),
 ofH ((0, .row 4 [cellsSc S]) :: (1, .row 4 [cellsSc U]) :: (5, .row 3 [cellsMs mo]) :: (6, .row 3 [cellsMs mn]) :: memP l 2 3 4), 7⟩
def evM (S U : Sc) (l : List Pr) (m m' : Mt) (i : Nat) : St := ⟨ofL [(2, .ptr 0 0 0), (3, .ptr 1 0 0), (7, .ptr 2 0 0), (9, .ptr 5 0 0), (10, .ptr 6 0 0), (32, .p (.slice (S.meths.map encMt))), (33, .p (.int .i64 (S.meths.length : Int))), (34, .p (.int .i64 (i : Int)))],
 ofH ((0, .row 4 [cellsSc S]) :: (1, .row 4 [cellsSc U]) :: (5, .row 3 [cellsMt m]) :: (6, .row 3 [cellsMt m']) :: memP l 2 3 4), 7⟩
set_option maxRecDepth 100000 in
set_option maxHeartbeats 4000000 in
theorem compat_Evolves (S U : Sc) (LS : LensS S) (LU : LensS U) : PFn Tryd.prog 42 [.agg (encSc S), .agg (encSc U)] (.tuple [.str (evoP S U).1, .int .i64 (evoP S U).2.1, .bool (evoP S U).2.2]) := by
 refine PFn.of Tryd.func42 rfl (by decide) Tryd.ntmps42 Tryd.results42 (Nat.le_of_ble_eq_true rfl) ?_
 have C1 := check_Check S LS
 have C2 := check_Check U LU
 simp only [encSc] at C1 C2
 simp only [argsT, encSc]
 refine AW.rT (by rfl) fun K hK => ?_
 simp -implicitDefEqProofs only [go_sem, ↓reduceIte, Nat.reduceAdd, Nat.reduceMul, Nat.reduceEqDiff, Nat.reduceLeDiff, reduceCtorEq, Int.reduceToNat]
 refine hK _ ?_; clear hK K
 refine AW.scope ?_
 refine AW.seq ?_
 by_cases hS : checkC S = 0
 case neg =>
  have f1 : (checkC S != 0) = true := by simp [hS]
  have e : evoP S U = ([], 0, false) := by unfold evoP; rw [if_neg (fun h => hS h.1)]
  refine AW.rT (by rfl) fun K hK => ?_
  simp -implicitDefEqProofs only [go_sem, ↓reduceIte, Nat.reduceAdd, Nat.reduceMul, Nat.reduceEqDiff, Nat.reduceLeDiff, reduceCtorEq, Int.reduceToNat]
  refine ⟨.pure _, C1, ?_⟩
  try simp -implicitDefEqProofs only [go_sem, ↓reduceIte, Nat.reduceAdd, Nat.reduceMul, Nat.reduceEqDiff, Nat.reduceLeDiff, reduceCtorEq, Int.reduceToNat, f1]
  refine hK _ ?_; clear hK K
  refine AW.cond _ (by simp -implicitDefEqProofs only [go_sem, ↓reduceIte, Nat.reduceAdd, Nat.reduceMul, Nat.reduceEqDiff, Nat.reduceLeDiff, reduceCtorEq, Int.reduceToNat]; rfl) (fun hc => ?_) (fun hc => ?_)
  rotate_left
  ·simp at hc
  refine AW.rT (by rfl) fun K hK => ?_
  simp -implicitDefEqProofs only [go_sem, ↓reduceIte, Nat.reduceAdd, Nat.reduceMul, Nat.reduceEqDiff, Nat.reduceLeDiff, reduceCtorEq, Int.reduceToNat]
  refine hK _ ?_; clear hK K
  refine AW.ret ?_
  simp -implicitDefEqProofs only [go_sem, ↓reduceIte, Nat.reduceAdd, Nat.reduceMul, Nat.reduceEqDiff, Nat.reduceLeDiff, reduceCtorEq, Int.reduceToNat, e]
 have f1 : (checkC S != 0) = false := by simp [hS]
 by_cases hU : checkC U = 0
 case neg =>
  have f2 : (checkC U != 0) = true := by simp [hU]
  have e : evoP S U = ([], 0, false) := by unfold evoP; rw [if_neg (fun h => hU h.2)]
  refine AW.rT (by rfl) fun K hK => ?_
  simp -implicitDefEqProofs only [go_sem, ↓reduceIte, Nat.reduceAdd, Nat.reduceMul, Nat.reduceEqDiff, Nat.reduceLeDiff, reduceCtorEq, Int.reduceToNat]
  refine ⟨.pure _, C1, ?_⟩
  try simp -implicitDefEqProofs only [go_sem, ↓reduceIte, Nat.reduceAdd, Nat.reduceMul, Nat.reduceEqDiff, Nat.reduceLeDiff, reduceCtorEq, Int.reduceToNat, f1]
  refine ⟨.pure _, C2, ?_⟩
  try simp -implicitDefEqProofs only [go_sem, ↓reduceIte, Nat.reduceAdd, Nat.reduceMul, Nat.reduceEqDiff, Nat.reduceLeDiff, reduceCtorEq, Int.reduceToNat, f2]
  refine hK _ ?_; clear hK K
  refine AW.cond _ (by simp -implicitDefEqProofs only [go_sem, ↓reduceIte, Nat.reduceAdd, Nat.reduceMul, Nat.reduceEqDiff, Nat.reduceLeDiff, reduceCtorEq, Int.reduceToNat]; rfl) (fun hc => ?_) (fun hc => ?_)
  rotate_left
  ·simp at hc
  refine AW.rT (by rfl) fun K hK => ?_
  simp -implicitDefEqProofs only [go_sem, ↓reduceIte, Nat.reduceAdd, Nat.reduceMul, Nat.reduceEqDiff, Nat.reduceLeDiff, reduceCtorEq, Int.reduceToNat]
  refine hK _ ?_; clear hK K
  refine AW.ret ?_
  simp -implicitDefEqProofs only [go_sem, ↓reduceIte, Nat.reduceAdd, Nat.reduceMul, Nat.reduceEqDiff, Nat.reduceLeDiff, reduceCtorEq, Int.reduceToNat, e]
 have f2 : (checkC U != 0) = false := by simp [hU]
 refine AW.rT (by rfl) fun K hK => ?_
 simp -implicitDefEqProofs only [go_sem, ↓reduceIte, Nat.reduceAdd, Nat.reduceMul, Nat.reduceEqDiff, Nat.reduceLeDiff, reduceCtorEq, Int.reduceToNat]
 refine ⟨.pure _, C1, ?_⟩
 try simp -implicitDefEqProofs only [go_sem, ↓reduceIte, Nat.reduceAdd, Nat.reduceMul, Nat.reduceEqDiff, Nat.reduceLeDiff, reduceCtorEq, Int.reduceToNat, f1]
 refine ⟨.pure _, C2, ?_⟩
 try simp -implicitDefEqProofs only [go_sem, ↓reduceIte, Nat.reduceAdd, Nat.reduceMul, Nat.reduceEqDiff, Nat.reduceLeDiff, reduceCtorEq, Int.reduceToNat, f2]
 refine hK _ ?_; clear hK K
 refine AW.cond _ (by simp -implicitDefEqProofs only [go_sem, ↓reduceIte, Nat.reduceAdd, Nat.reduceMul, Nat.reduceEqDiff, Nat.reduceLeDiff, reduceCtorEq, Int.reduceToNat]; rfl) (fun hc => ?_) (fun hc => ?_)
 ·simp at hc
 refine AW.skip ?_
 simp only [andThen, inBlk, reduceCtorEq, ↓reduceIte, if_t, if_f]
 refine AW.rT (by rfl) fun K hK => ?_
 simp -implicitDefEqProofs only [go_sem, ↓reduceIte, Nat.reduceAdd, Nat.reduceMul, Nat.reduceEqDiff, Nat.reduceLeDiff, reduceCtorEq, Int.reduceToNat]
 refine hK _ ?_; clear hK K
 have FS := check_fit.1 hS
 have FU := check_fit.1 hU
 have RS := right_of hS
 have RU := right_of hU
 have HF := right_Fits FS FU
 have Fl := FS.lens
 have Gl := FU.lens
 have eE : evoP S U = (match seedP U [] S.meths with | .inl k => (k, 0, false) | .inr l => walkP S U 101 0 l) := by unfold evoP; rw [if_pos ⟨hS, hU⟩] <;> (cases seedP U [] S.meths <;> rfl)
 -- the calls' messages
 refine AW.cut (fun l : List Pr => evS S U l []) (fun l => seedP U [] S.meths = .inr l ∧ PairsOK S U l) ?_ fun l hl => ?_
 ·refine AW.rT (by rfl) fun K hK => ?_
  simp -implicitDefEqProofs only [go_sem, ↓reduceIte, Nat.reduceAdd, Nat.reduceMul, Nat.reduceEqDiff, Nat.reduceLeDiff, reduceCtorEq, Int.reduceToNat, List.length_map]
  refine hK _ ?_; clear hK K
  refine AW.block ?_
  refine AW.loop (fun x : List Pr × Nat => evS S U x.1 [(32, .p (.slice (S.meths.map encMt))), (33, .p (.int .i64 (S.meths.length : Int))), (34, .p (.int .i64 (x.2 : Int)))]) (fun x => x.2 ≤ S.meths.length ∧ seedP U [] S.meths = seedP U x.1 (S.meths.drop x.2) ∧ PairsOK S U x.1) (fun x => S.meths.length - x.2) ([], 0) ?_ ⟨Nat.zero_le _, rfl, ⟨fun p hp => (by cases hp), List.nodup_nil⟩⟩ fun x hx => ?_
  ·refine Ghost.trans (s' := ⟨ofL [(2, .ptr 0 0 0), (3, .ptr 1 0 0), (7, .ptr 2 0 0), (32, .p (.slice (S.meths.map encMt))), (33, .p (.int .i64 (S.meths.length : Int))), (34, .p (.int .i64 0))], ofH [(0, .row 4 [cellsSc S]), (1, .row 4 [cellsSc U]), (2, .row 2 [[.ex [], .map 4]]), (4, .map [])], 5⟩) ?_ (Ghost.trans (Ghost.nilH (l := 2) (i := 0) (j := 0) (sz' := 2) rfl rfl rfl) ?_)
   ·simp only [cellsSc]
    refine Ghost.ent (fun l => if l = 0 then 0 else if l = 1 then 1 else if l = 2 then 15 else 13) ?_ ?_ ?_ <;> simp -implicitDefEqProofs only [go_sem, ↓reduceIte, Nat.reduceAdd, Nat.reduceMul, Nat.reduceEqDiff, Nat.reduceLeDiff, reduceCtorEq, Int.reduceToNat,  List.forall_mem_cons, List.not_mem_nil, false_implies, implies_true, and_self, map_renL_lift, labsIn_lift, List.all_append, List.all_cons, List.all_nil, List.map_append, Nat.reduceLT, labsInL, AV.labsIn]
    all_goals first | rfl | decide | skip
   ·simp only [evS, memP, cellsSc]
    refine Ghost.ent (fun l => if l = 3 then 5 else l) ?_ ?_ ?_ <;> simp -implicitDefEqProofs only [go_sem, ↓reduceIte, Nat.reduceAdd, Nat.reduceMul, Nat.reduceEqDiff, Nat.reduceLeDiff, reduceCtorEq, Int.reduceToNat, List.map_nil, liftE_nil, mP, List.forall_mem_cons, List.not_mem_nil, false_implies, implies_true, and_self, map_renL_lift, labsIn_lift, List.all_append, List.all_cons, List.all_nil, List.map_append, Nat.reduceLT, labsInL, AV.labsIn]
    all_goals first | rfl | decide | skip
  obtain ⟨l, i⟩ := x
  obtain ⟨i1, i2, i3⟩ := hx
  simp only at i1 i2 i3
  simp only [evS, memP, cellsSc]
  by_cases hil : i < S.meths.length
  case neg =>
   have hc1 : ((i : Int) < (S.meths.length : Int)) = False := eq_false (by omega)
   refine AW.rT (by rfl) fun K hK => ?_
   simp -implicitDefEqProofs only [go_sem, ↓reduceIte, Nat.reduceAdd, Nat.reduceMul, Nat.reduceEqDiff, Nat.reduceLeDiff, reduceCtorEq, Int.reduceToNat, hc1]
   refine hK _ ?_; clear hK K
   refine AW.seq ?_
   refine AW.cond _ (by simp -implicitDefEqProofs only [go_sem, ↓reduceIte, Nat.reduceAdd, Nat.reduceMul, Nat.reduceEqDiff, Nat.reduceLeDiff, reduceCtorEq, Int.reduceToNat]; rfl) (fun hc => ?_) (fun hc => ?_)
   ·simp at hc
   refine AW.exit ?_
   simp only [andThen, inBlk, reduceCtorEq, ↓reduceIte, if_t, if_f]
   refine ⟨l, ⟨?_, i3⟩, ?_⟩
   ·rw [i2, List.drop_of_length_le (by omega)]; rfl
   ·show Ghost _ _ (evS S U l [])
    simp only [evS, memP, cellsSc]
    refine Ghost.sub ?_ ?_ <;> simp -implicitDefEqProofs only [go_sem, ↓reduceIte, Nat.reduceAdd, Nat.reduceMul, Nat.reduceEqDiff, Nat.reduceLeDiff, reduceCtorEq, Int.reduceToNat,  List.forall_mem_cons, List.not_mem_nil, false_implies, implies_true, and_self, labsIn_lift, List.all_append, List.all_cons, List.all_nil, Nat.reduceLT, labsInL, AV.labsIn]
    all_goals first | rfl | decide | skip
  obtain ⟨m, hm⟩ : ∃ m, S.meths[i]? = some m := ⟨_, List.getElem?_eq_getElem hil⟩
  have ⟨hm1, hm2, hm3⟩ := at_map' encMt hm
  have hm2' : (i : Int) < (S.meths.length : Int) := by omega
  have hc1 : ((i : Int) < (S.meths.length : Int)) = True := eq_true (by omega)
  have w1 : IntKind.wrap .i64 ((i : Int) + 1) = ((i + 1 : Nat) : Int) := by rw [w64] <;> omega
  have M1 := check_Method U m.name (by omega)
  have e1 : firstP (fun x => x.name == m.name) zMt U.meths = methOf U m.name := rfl
  rw [e1] at M1
  simp only [encSc, encMt] at M1
  have dr : S.meths.drop i = m :: S.meths.drop (i + 1) := by
   rw [List.drop_eq_getElem_cons hil, (List.getElem?_eq_some_iff.1 hm).2]
  rw [dr, seedP] at i2
  refine AW.rT (by rfl) fun K hK => ?_
  simp -implicitDefEqProofs only [go_sem, ↓reduceIte, Nat.reduceAdd, Nat.reduceMul, Nat.reduceEqDiff, Nat.reduceLeDiff, reduceCtorEq, Int.reduceToNat, hc1]
  refine hK _ ?_; clear hK K
  refine AW.seq ?_
  refine AW.cond _ (by simp -implicitDefEqProofs only [go_sem, ↓reduceIte, Nat.reduceAdd, Nat.reduceMul, Nat.reduceEqDiff, Nat.reduceLeDiff, reduceCtorEq, Int.reduceToNat]; rfl) (fun hc => ?_) (fun hc => ?_)
  rotate_left
  ·simp at hc
  refine AW.skip ?_
  simp only [andThen, inBlk, reduceCtorEq, ↓reduceIte, if_t, if_f]
  refine AW.seq ?_
  refine AW.block ?_
  refine AW.rT (by rfl) fun K hK => ?_
  simp -implicitDefEqProofs only [go_sem, ↓reduceIte, Nat.reduceAdd, Nat.reduceMul, Nat.reduceEqDiff, Nat.reduceLeDiff, reduceCtorEq, Int.reduceToNat, hm1, hm2', hm3, encMt, List.length_map]
  refine hK _ ?_; clear hK K
  refine AW.rT (by rfl) fun K hK => ?_
  simp -implicitDefEqProofs only [go_sem, ↓reduceIte, Nat.reduceAdd, Nat.reduceMul, Nat.reduceEqDiff, Nat.reduceLeDiff, reduceCtorEq, Int.reduceToNat]
  refine ⟨.pure _, M1, ?_⟩
  try simp -implicitDefEqProofs only [go_sem, ↓reduceIte, Nat.reduceAdd, Nat.reduceMul, Nat.reduceEqDiff, Nat.reduceLeDiff, reduceCtorEq, Int.reduceToNat]
  refine hK _ ?_; clear hK K
  refine AW.seq ?_
  cases hk : (methOf U m.name).2 with
  | false =>
   rw [if_neg (by rw [hk]; simp)] at i2
   rw [i2] at eE
   refine AW.rT (by rfl) fun K hK => ?_
   simp -implicitDefEqProofs only [go_sem, ↓reduceIte, Nat.reduceAdd, Nat.reduceMul, Nat.reduceEqDiff, Nat.reduceLeDiff, reduceCtorEq, Int.reduceToNat, hk]
   refine hK _ ?_; clear hK K
   refine AW.cond _ (by simp -implicitDefEqProofs only [go_sem, ↓reduceIte, Nat.reduceAdd, Nat.reduceMul, Nat.reduceEqDiff, Nat.reduceLeDiff, reduceCtorEq, Int.reduceToNat]; rfl) (fun hc => ?_) (fun hc => ?_)
   rotate_left
   ·simp at hc
   refine AW.rT (by rfl) fun K hK => ?_
   simp -implicitDefEqProofs only [go_sem, ↓reduceIte, Nat.reduceAdd, Nat.reduceMul, Nat.reduceEqDiff, Nat.reduceLeDiff, reduceCtorEq, Int.reduceToNat]
   refine hK _ ?_; clear hK K
   refine AW.ret ?_
   simp -implicitDefEqProofs only [go_sem, ↓reduceIte, Nat.reduceAdd, Nat.reduceMul, Nat.reduceEqDiff, Nat.reduceLeDiff, reduceCtorEq, Int.reduceToNat, eE, noGo]
  | true =>
  rw [if_pos hk] at i2
  refine AW.rT (by rfl) fun K hK => ?_
  simp -implicitDefEqProofs only [go_sem, ↓reduceIte, Nat.reduceAdd, Nat.reduceMul, Nat.reduceEqDiff, Nat.reduceLeDiff, reduceCtorEq, Int.reduceToNat, hk]
  refine hK _ ?_; clear hK K
  refine AW.cond _ (by simp -implicitDefEqProofs only [go_sem, ↓reduceIte, Nat.reduceAdd, Nat.reduceMul, Nat.reduceEqDiff, Nat.reduceLeDiff, reduceCtorEq, Int.reduceToNat]; rfl) (fun hc => ?_) (fun hc => ?_)
  ·simp at hc
  refine AW.skip ?_
  simp only [andThen, inBlk, reduceCtorEq, ↓reduceIte, if_t, if_f]
  have hl100 := pairs_len i3 RS.len.2.1 RU.len.2.1
  have mr := RS.meth i m hm
  have mr' := meth_right RU hk
  have A1 := compat_add l ⟨m.inn, (methOf U m.name).1.inn⟩ (by omega)
  have ok1 := addP_ok i3 mr.2.1 mr'.2.2.1 (p := ⟨m.inn, (methOf U m.name).1.inn⟩)
  generalize addP l ⟨m.inn, (methOf U m.name).1.inn⟩ = l1 at *
  have hl101 := pairs_len ok1 RS.len.2.1 RU.len.2.1
  have A2 := compat_add l1 ⟨m.out, (methOf U m.name).1.out⟩ (by omega)
  have ok2 := addP_ok ok1 mr.2.2 mr'.2.2.2 (p := ⟨m.out, (methOf U m.name).1.out⟩)
  generalize addP l1 ⟨m.out, (methOf U m.name).1.out⟩ = l2 at *
  refine AW.rR (SeqR.ev 5 (by rfl) (by decide) ?_)
  simp -implicitDefEqProofs only [go_sem, ↓reduceIte, Nat.reduceAdd, Nat.reduceMul, Nat.reduceEqDiff, Nat.reduceLeDiff, reduceCtorEq, Int.reduceToNat]
  refine SeqR.call (fun k => k + 2) rfl rfl A1 ⟨?_, rfl, ?_, rfl, rfl, rfl, rfl, rfl, memP_by (r := 0) rfl rfl⟩ ?_
  ·simp -implicitDefEqProofs only [go_sem, ↓reduceIte, Nat.reduceAdd, Nat.reduceMul, Nat.reduceEqDiff, Nat.reduceLeDiff, reduceCtorEq, Int.reduceToNat, argD]
  ·simp only [memP]
   simp -implicitDefEqProofs only [go_sem, ↓reduceIte, Nat.reduceAdd, Nat.reduceMul, Nat.reduceEqDiff, Nat.reduceLeDiff, reduceCtorEq, Int.reduceToNat, List.forall_mem_cons, List.not_mem_nil, false_implies, implies_true, and_self]
   first | done | decide
  refine SeqR.last rfl ?_
  refine AW.ghost (s' := evM S U l1 m (methOf U m.name).1 i) ?_ ?_
  ·simp only [evM, memP, cellsSc]
   refine Ghost.ent (fun l => if l = 3 then 27 else if l = 4 then 28 else if l = 5 then 8 else if l = 6 then 17 else l) ?_ ?_ ?_ <;> simp -implicitDefEqProofs only [go_sem, ↓reduceIte, Nat.reduceAdd, Nat.reduceMul, Nat.reduceEqDiff, Nat.reduceLeDiff, reduceCtorEq, Int.reduceToNat, lift2, goneU, newU, Nat.reduceSub, cellsMt, List.forall_mem_cons, List.not_mem_nil, false_implies, implies_true, and_self, map_renL_lift, labsIn_lift, List.all_append, List.all_cons, List.all_nil, List.map_append, Nat.reduceLT, labsInL, AV.labsIn]
   all_goals first | rfl | decide | skip
  simp only [evM, memP, cellsSc, cellsMt]
  refine AW.rRE (SeqR.ev 5 (by rfl) (by decide) ?_)
  simp -implicitDefEqProofs only [go_sem, ↓reduceIte, Nat.reduceAdd, Nat.reduceMul, Nat.reduceEqDiff, Nat.reduceLeDiff, reduceCtorEq, Int.reduceToNat]
  refine SeqR.call (fun k => k + 2) rfl rfl A2 ⟨?_, rfl, ?_, rfl, rfl, rfl, rfl, rfl, memP_by (r := 0) rfl rfl⟩ ?_
  ·simp -implicitDefEqProofs only [go_sem, ↓reduceIte, Nat.reduceAdd, Nat.reduceMul, Nat.reduceEqDiff, Nat.reduceLeDiff, reduceCtorEq, Int.reduceToNat, argD]
  ·simp only [memP]
   simp -implicitDefEqProofs only [go_sem, ↓reduceIte, Nat.reduceAdd, Nat.reduceMul, Nat.reduceEqDiff, Nat.reduceLeDiff, reduceCtorEq, Int.reduceToNat, List.forall_mem_cons, List.not_mem_nil, false_implies, implies_true, and_self]
   first | done | decide
  refine SeqR.last rfl ?_
  simp only [andThen, inBlk, reduceCtorEq, ↓reduceIte, if_t, if_f]
  refine AW.ghost (s' := evM S U l2 m (methOf U m.name).1 i) ?_ ?_
  ·simp only [evM, memP, cellsSc]
   refine Ghost.ent (fun l => if l = 3 then 12 else if l = 4 then 13 else l) ?_ ?_ ?_ <;> simp -implicitDefEqProofs only [go_sem, ↓reduceIte, Nat.reduceAdd, Nat.reduceMul, Nat.reduceEqDiff, Nat.reduceLeDiff, reduceCtorEq, Int.reduceToNat, lift2, goneU, newU, Nat.reduceSub, cellsMt, List.forall_mem_cons, List.not_mem_nil, false_implies, implies_true, and_self, map_renL_lift, labsIn_lift, List.all_append, List.all_cons, List.all_nil, List.map_append, Nat.reduceLT, labsInL, AV.labsIn]
   all_goals first | rfl | decide | skip
  simp only [evM, memP, cellsSc, cellsMt]
  refine AW.rE (by rfl) fun K hK => ?_
  simp -implicitDefEqProofs only [go_sem, ↓reduceIte, Nat.reduceAdd, Nat.reduceMul, Nat.reduceEqDiff, Nat.reduceLeDiff, reduceCtorEq, Int.reduceToNat, w1]
  refine hK _ ?_; clear hK K
  refine ⟨(l2, i + 1), ⟨by omega, i2, ok2⟩, by simp only; omega, ?_⟩
  show Ghost _ _ (evS S U l2 [(32, .p (.slice (S.meths.map encMt))), (33, .p (.int .i64 (S.meths.length : Int))), (34, .p (.int .i64 ((i + 1 : Nat) : Int)))])
  simp only [evS, memP, cellsSc]
  refine Ghost.sub ?_ ?_ <;> simp -implicitDefEqProofs only [go_sem, ↓reduceIte, Nat.reduceAdd, Nat.reduceMul, Nat.reduceEqDiff, Nat.reduceLeDiff, reduceCtorEq, Int.reduceToNat,  List.forall_mem_cons, List.not_mem_nil, false_implies, implies_true, and_self, labsIn_lift, List.all_append, List.all_cons, List.all_nil, Nat.reduceLT, labsInL, AV.labsIn]
  all_goals first | rfl | decide | skip
 obtain ⟨hl1, hl2⟩ := hl
 rw [hl1] at eE
 simp only at eE
 have okl := hl2
 clear hl2 hl1
 simp only [evS, memP, cellsSc]
 refine AW.rT (by rfl) fun K hK => ?_
 simp -implicitDefEqProofs only [go_sem, ↓reduceIte, Nat.reduceAdd, Nat.reduceMul, Nat.reduceEqDiff, Nat.reduceLeDiff, reduceCtorEq, Int.reduceToNat]
 refine hK _ ?_; clear hK K
 refine AW.seq ?_
 refine AW.label ?_
 simp only [andThen, inBlk, reduceCtorEq, ↓reduceIte, if_t, if_f]
 refine AW.cut (fun x : List UInt8 × Int => ⟨ofL [(12, .p (.str x.1)), (13, .p (.int .i64 x.2))], ofH [], 0⟩) (fun x => evoP S U = (x.1, x.2, x.2 == 0)) ?_ fun x hx => ?_
 rotate_left
 ·refine AW.rT (by rfl) fun K hK => ?_
  simp -implicitDefEqProofs only [go_sem, ↓reduceIte, Nat.reduceAdd, Nat.reduceMul, Nat.reduceEqDiff, Nat.reduceLeDiff, reduceCtorEq, Int.reduceToNat]
  refine hK _ ?_; clear hK K
  refine AW.ret ?_
  simp -implicitDefEqProofs only [go_sem, ↓reduceIte, Nat.reduceAdd, Nat.reduceMul, Nat.reduceEqDiff, Nat.reduceLeDiff, reduceCtorEq, Int.reduceToNat, hx, noGo]
 refine AW.rT (by rfl) fun K hK => ?_
 simp -implicitDefEqProofs only [go_sem, ↓reduceIte, Nat.reduceAdd, Nat.reduceMul, Nat.reduceEqDiff, Nat.reduceLeDiff, reduceCtorEq, Int.reduceToNat]
 refine hK _ ?_; clear hK K
 refine AW.block ?_
 refine AW.loop (fun x : List Pr × Nat => evS S U x.1 [(12, .p (.str [])), (13, .p (.int .i64 0)), (14, .p (.int .i64 (x.2 : Int)))]) (fun x => x.2 ≤ x.1.length ∧ evoP S U = walkP S U (101 - x.2) x.2 x.1 ∧ PairsOK S U x.1) (fun x => 101 - x.2) (l, 0) ?_ ⟨Nat.zero_le _, eE, okl⟩ fun x hx => ?_
 ·simp only [evS, memP, cellsSc]
  refine Ghost.sub ?_ ?_ <;> simp -implicitDefEqProofs only [go_sem, ↓reduceIte, Nat.reduceAdd, Nat.reduceMul, Nat.reduceEqDiff, Nat.reduceLeDiff, reduceCtorEq, Int.reduceToNat,  List.forall_mem_cons, List.not_mem_nil, false_implies, implies_true, and_self, labsIn_lift, List.all_append, List.all_cons, List.all_nil, Nat.reduceLT, labsInL, AV.labsIn]
  all_goals first | rfl | decide | skip
 clear eE okl
 obtain ⟨l, i⟩ := x
 obtain ⟨i1, eE, okl⟩ := hx
 simp only at i1 eE okl
 have hl100 := pairs_len okl RS.len.2.1 RU.len.2.1
 simp only [evS, memP, cellsSc]
 refine AW.seq ?_
 by_cases hil : i < l.length
 case neg =>
  have hc1 : ((i : Int) < (l.length : Int)) = False := eq_false (by omega)
  rw [walkP_end _ _ _ (by omega)] at eE
  refine AW.rT (by rfl) fun K hK => ?_
  simp -implicitDefEqProofs only [go_sem, ↓reduceIte, Nat.reduceAdd, Nat.reduceMul, Nat.reduceEqDiff, Nat.reduceLeDiff, reduceCtorEq, Int.reduceToNat, hc1, liftE_length, List.length_map]
  refine hK _ ?_; clear hK K
  refine AW.cond _ (by simp -implicitDefEqProofs only [go_sem, ↓reduceIte, Nat.reduceAdd, Nat.reduceMul, Nat.reduceEqDiff, Nat.reduceLeDiff, reduceCtorEq, Int.reduceToNat]; rfl) (fun hc => ?_) (fun hc => ?_)
  ·simp at hc
  refine AW.exit ?_
  simp only [andThen, inBlk, reduceCtorEq, ↓reduceIte, if_t, if_f]
  refine ⟨([], 0), eE, ?_⟩
  refine Ghost.sub ?_ ?_ <;> simp -implicitDefEqProofs only [go_sem, ↓reduceIte, Nat.reduceAdd, Nat.reduceMul, Nat.reduceEqDiff, Nat.reduceLeDiff, reduceCtorEq, Int.reduceToNat,  List.forall_mem_cons, List.not_mem_nil, false_implies, implies_true, and_self, labsIn_lift, List.all_append, List.all_cons, List.all_nil, Nat.reduceLT, labsInL, AV.labsIn]
 obtain ⟨p, hp⟩ : ∃ p, l[i]? = some p := ⟨_, List.getElem?_eq_getElem hil⟩
 rw [walkP_at hp (by omega)] at eE
 have g1 := at_lift encPr hp
 have b0 : 0 ≤ (i : Int) := by omega
 have b1 : (i : Int) < (l.length : Int) := by omega
 have hc1 : ((i : Int) < (l.length : Int)) = True := eq_true (by omega)
 have w1 : IntKind.wrap .i64 ((i : Int) + 1) = ((i + 1 : Nat) : Int) := by rw [w64] <;> omega
 have hh := okl.here p (List.mem_of_getElem? hp)
 have hmo := (msgOf_mem hh.1).1
 have hmn := (msgOf_mem hh.2).1
 have M1 := check_Message S p.o (by omega)
 have M2 := check_Message U p.n (by omega)
 have e1 : firstP (fun x => x.name == p.o) zMs S.msgs = (msgOf S p.o, true) := by rw [← hh.1]; rfl
 have e2 : firstP (fun x => x.name == p.n) zMs U.msgs = (msgOf U p.n, true) := by rw [← hh.2]; rfl
 rw [e1] at M1
 rw [e2] at M2
 simp only [encSc, encMs] at M1 M2
 simp only [encPr, List.map_cons, List.map_nil] at g1
 refine AW.rT (by rfl) fun K hK => ?_
 simp -implicitDefEqProofs only [go_sem, ↓reduceIte, Nat.reduceAdd, Nat.reduceMul, Nat.reduceEqDiff, Nat.reduceLeDiff, reduceCtorEq, Int.reduceToNat, hc1, liftE_length, List.length_map]
 refine hK _ ?_; clear hK K
 refine AW.cond _ (by simp -implicitDefEqProofs only [go_sem, ↓reduceIte, Nat.reduceAdd, Nat.reduceMul, Nat.reduceEqDiff, Nat.reduceLeDiff, reduceCtorEq, Int.reduceToNat]; rfl) (fun hc => ?_) (fun hc => ?_)
 rotate_left
 ·simp at hc
 refine AW.skip ?_
 simp only [andThen, inBlk, reduceCtorEq, ↓reduceIte, if_t, if_f]
 refine AW.seq ?_
 refine AW.block ?_
 refine AW.dT mixed (by rfl) (by decide +kernel) fun K hK => ?_
 simp -implicitDefEqProofs only [go_sem, ↓reduceIte, Nat.reduceAdd, Nat.reduceMul, Nat.reduceEqDiff, Nat.reduceLeDiff, reduceCtorEq, Int.reduceToNat, g1, b0, b1, liftE_length, List.length_map]
 refine ⟨.pure _, M1, ?_⟩
 try simp -implicitDefEqProofs only [go_sem, ↓reduceIte, Nat.reduceAdd, Nat.reduceMul, Nat.reduceEqDiff, Nat.reduceLeDiff, reduceCtorEq, Int.reduceToNat]
 refine ⟨by decide +kernel, ?_⟩
 refine hK _ ?_; clear hK K
 refine AW.dT mixed (by rfl) (by decide +kernel) fun K hK => ?_
 simp -implicitDefEqProofs only [go_sem, ↓reduceIte, Nat.reduceAdd, Nat.reduceMul, Nat.reduceEqDiff, Nat.reduceLeDiff, reduceCtorEq, Int.reduceToNat, g1, b0, b1, liftE_length, List.length_map]
 refine ⟨.pure _, M2, ?_⟩
 try simp -implicitDefEqProofs only [go_sem, ↓reduceIte, Nat.reduceAdd, Nat.reduceMul, Nat.reduceEqDiff, Nat.reduceLeDiff, reduceCtorEq, Int.reduceToNat]
 refine ⟨by decide +kernel, ?_⟩
 refine hK _ ?_; clear hK K
 refine AW.rT (by rfl) fun K hK => ?_
 simp -implicitDefEqProofs only [go_sem, ↓reduceIte, Nat.reduceAdd, Nat.reduceMul, Nat.reduceEqDiff, Nat.reduceLeDiff, reduceCtorEq, Int.reduceToNat]
 refine hK _ ?_; clear hK K
 refine AW.block ?_
 refine AW.loop (fun x : List Pr × Nat => evI S U (msgOf S p.o) (msgOf U p.n) x.1 i [(19, .p (.int .i64 (x.2 : Int)))]) (fun x => x.2 ≤ 501 ∧ 1 ≤ x.2 ∧ i < x.1.length ∧ evoP S U = evNx S U p i (tagsP S U (msgOf S p.o) (msgOf U p.n) (501 - x.2) (x.2 : Int) x.1) ∧ PairsOK S U x.1) (fun x => 501 - x.2) (l, 1) ?_ ⟨by simp, by simp, hil, eE, okl⟩ fun x hx => ?_
 ·simp only [evI, memP, cellsSc, cellsMs]
  refine Ghost.ent (fun l => if l = 5 then 25 else if l = 6 then 41 else l) ?_ ?_ ?_ <;> simp -implicitDefEqProofs only [go_sem, ↓reduceIte, Nat.reduceAdd, Nat.reduceMul, Nat.reduceEqDiff, Nat.reduceLeDiff, reduceCtorEq, Int.reduceToNat, Int.natCast_one, Int.cast_ofNat_Int, List.forall_mem_cons, List.not_mem_nil, false_implies, implies_true, and_self, map_renL_lift, labsIn_lift, List.all_append, List.all_cons, List.all_nil, List.map_append, Nat.reduceLT, labsInL, AV.labsIn]
  all_goals first | rfl | decide | skip
 clear eE okl hl100 g1 hc1 hil hp i1 M1 M2
 obtain ⟨l, n⟩ := x
 obtain ⟨n1, n2, hil, eE, okl⟩ := hx
 simp only at n1 n2 hil eE okl
 have hl100 := pairs_len okl RS.len.2.1 RU.len.2.1
 simp only [evI, memP, cellsSc, cellsMs]
 refine AW.seq ?_
 by_cases hn : n ≤ 500
 case neg =>
  have hc1 : ((n : Int) ≤ 500) = False := eq_false (by omega)
  rw [show 501 - n = 0 by omega] at eE
  refine AW.rT (by rfl) fun K hK => ?_
  simp -implicitDefEqProofs only [go_sem, ↓reduceIte, Nat.reduceAdd, Nat.reduceMul, Nat.reduceEqDiff, Nat.reduceLeDiff, reduceCtorEq, Int.reduceToNat, hc1]
  refine hK _ ?_; clear hK K
  refine AW.cond _ (by simp -implicitDefEqProofs only [go_sem, ↓reduceIte, Nat.reduceAdd, Nat.reduceMul, Nat.reduceEqDiff, Nat.reduceLeDiff, reduceCtorEq, Int.reduceToNat]; rfl) (fun hc => ?_) (fun hc => ?_)
  ·simp at hc
  refine AW.exit ?_
  simp only [andThen, inBlk, reduceCtorEq, ↓reduceIte, if_t, if_f]
  refine AW.rE (by rfl) fun K hK => ?_
  simp -implicitDefEqProofs only [go_sem, ↓reduceIte, Nat.reduceAdd, Nat.reduceMul, Nat.reduceEqDiff, Nat.reduceLeDiff, reduceCtorEq, Int.reduceToNat, w1]
  refine hK _ ?_; clear hK K
  refine ⟨(l, i + 1), ⟨by simp only; omega, ?_, okl⟩, by simp only; omega, ?_⟩
  ·simp only
   rw [eE, show 101 - (i + 1) = 100 - i by omega]; rfl
  ·show Ghost _ _ (evS S U l [(12, .p (.str [])), (13, .p (.int .i64 0)), (14, .p (.int .i64 ((i + 1 : Nat) : Int)))])
   simp only [evS, memP, cellsSc]
   refine Ghost.sub ?_ ?_ <;> simp -implicitDefEqProofs only [go_sem, ↓reduceIte, Nat.reduceAdd, Nat.reduceMul, Nat.reduceEqDiff, Nat.reduceLeDiff, reduceCtorEq, Int.reduceToNat,  List.forall_mem_cons, List.not_mem_nil, false_implies, implies_true, and_self, labsIn_lift, List.all_append, List.all_cons, List.all_nil, Nat.reduceLT, labsInL, AV.labsIn]
   all_goals first | rfl | decide | skip
 have hc1 : ((n : Int) ≤ 500) = True := eq_true (by omega)
 have w2 : IntKind.wrap .i64 ((n : Int) + 1) = ((n + 1 : Nat) : Int) := by rw [w64] <;> omega
 have no1 := (fit_msgs FS hmo).no
 have no2 := (fit_msgs FU hmn).no
 have ST := compat_stays S U (msgOf S p.o) (msgOf U p.n) (n : Int) l (by omega) (by omega) (by omega) (by omega) (by omega) HF
 rw [show 501 - n = (500 - n) + 1 by omega, tagsP] at eE
 refine AW.rT (by rfl) fun K hK => ?_
 simp -implicitDefEqProofs only [go_sem, ↓reduceIte, Nat.reduceAdd, Nat.reduceMul, Nat.reduceEqDiff, Nat.reduceLeDiff, reduceCtorEq, Int.reduceToNat, hc1]
 refine hK _ ?_; clear hK K
 refine AW.cond _ (by simp -implicitDefEqProofs only [go_sem, ↓reduceIte, Nat.reduceAdd, Nat.reduceMul, Nat.reduceEqDiff, Nat.reduceLeDiff, reduceCtorEq, Int.reduceToNat]; rfl) (fun hc => ?_) (fun hc => ?_)
 rotate_left
 ·simp at hc
 refine AW.skip ?_
 simp only [andThen, inBlk, reduceCtorEq, ↓reduceIte, if_t, if_f]
 refine AW.seq ?_
 refine AW.block ?_
 refine AW.rR (SeqR.ev 6 (by rfl) (by decide) ?_)
 simp -implicitDefEqProofs only [go_sem, ↓reduceIte, Nat.reduceAdd, Nat.reduceMul, Nat.reduceEqDiff, Nat.reduceLeDiff, reduceCtorEq, Int.reduceToNat]
 refine SeqR.call (fun k => k + 2) rfl rfl ST ⟨?_, rfl, ?_, rfl, rfl, rfl, rfl, rfl, memP_by (r := 0) rfl rfl⟩ ?_
 ·simp -implicitDefEqProofs only [go_sem, ↓reduceIte, Nat.reduceAdd, Nat.reduceMul, Nat.reduceEqDiff, Nat.reduceLeDiff, reduceCtorEq, Int.reduceToNat, argD, encSc, encMs]
 ·simp only [memP]
  simp -implicitDefEqProofs only [go_sem, ↓reduceIte, Nat.reduceAdd, Nat.reduceMul, Nat.reduceEqDiff, Nat.reduceLeDiff, reduceCtorEq, Int.reduceToNat, List.forall_mem_cons, List.not_mem_nil, false_implies, implies_true, and_self]
  first | done | decide
 refine SeqR.ev 1 (by rfl) (by decide) ?_
 simp -implicitDefEqProofs only [go_sem, ↓reduceIte, Nat.reduceAdd, Nat.reduceMul, Nat.reduceEqDiff, Nat.reduceLeDiff, reduceCtorEq, Int.reduceToNat]
 refine SeqR.last rfl ?_
 cases hb : stayB S U (msgOf S p.o) (msgOf U p.n) (n : Int) with
 | false =>
  rw [if_neg (by rw [hb]; simp)] at eE
  refine AW.cond _ (by simp -implicitDefEqProofs only [go_sem, ↓reduceIte, Nat.reduceAdd, Nat.reduceMul, Nat.reduceEqDiff, Nat.reduceLeDiff, reduceCtorEq, Int.reduceToNat]; rfl) (fun hc => ?_) (fun hc => ?_)
  rotate_left
  ·simp at hc
  refine AW.rT (by rfl) fun K hK => ?_
  simp -implicitDefEqProofs only [go_sem, ↓reduceIte, Nat.reduceAdd, Nat.reduceMul, Nat.reduceEqDiff, Nat.reduceLeDiff, reduceCtorEq, Int.reduceToNat]
  refine hK _ ?_; clear hK K
  refine AW.exit ?_
  simp only [andThen, inBlk, reduceCtorEq, ↓reduceIte, if_t, if_f]
  refine ⟨(p.o, (n : Int)), ?_, ?_⟩
  ·simp only
   rw [eE]
   have : ((n : Int) == 0) = false := beq_eq_false_iff_ne.2 (by omega)
   rw [this]; rfl
  ·show Ghost _ _ ⟨ofL [(12, .p (.str p.o)), (13, .p (.int .i64 (n : Int)))], ofH [], 0⟩
   refine Ghost.sub ?_ ?_ <;> simp -implicitDefEqProofs only [go_sem, ↓reduceIte, Nat.reduceAdd, Nat.reduceMul, Nat.reduceEqDiff, Nat.reduceLeDiff, reduceCtorEq, Int.reduceToNat, (msgOf_mem hh.1).2, List.forall_mem_cons, List.not_mem_nil, false_implies, implies_true, and_self, labsIn_lift, List.all_append, List.all_cons, List.all_nil, Nat.reduceLT, labsInL, AV.labsIn]
 | true =>
  rw [if_pos hb] at eE
  have okl' := stayL_ok RS RU hmo hmn (t := (n : Int)) okl
  have il' : i < (stayL S U (msgOf S p.o) (msgOf U p.n) (n : Int) l).length := Nat.lt_of_lt_of_le hil stayL_len.1
  generalize stayL S U (msgOf S p.o) (msgOf U p.n) (n : Int) l = l' at *
  refine AW.cond _ (by simp -implicitDefEqProofs only [go_sem, ↓reduceIte, Nat.reduceAdd, Nat.reduceMul, Nat.reduceEqDiff, Nat.reduceLeDiff, reduceCtorEq, Int.reduceToNat]; rfl) (fun hc => ?_) (fun hc => ?_)
  ·simp at hc
  refine AW.skip ?_
  simp only [andThen, inBlk, reduceCtorEq, ↓reduceIte, if_t, if_f]
  refine AW.ghost (s' := evI S U (msgOf S p.o) (msgOf U p.n) l' i [(19, .p (.int .i64 (n : Int)))]) ?_ ?_
  ·simp only [evI, memP, cellsSc, cellsMs]
   refine Ghost.ent (fun l => if l = 3 then 15 else if l = 4 then 16 else l) ?_ ?_ ?_ <;> simp -implicitDefEqProofs only [go_sem, ↓reduceIte, Nat.reduceAdd, Nat.reduceMul, Nat.reduceEqDiff, Nat.reduceLeDiff, reduceCtorEq, Int.reduceToNat, lift2, goneU, newU, Nat.reduceSub, List.forall_mem_cons, List.not_mem_nil, false_implies, implies_true, and_self, map_renL_lift, labsIn_lift, List.all_append, List.all_cons, List.all_nil, List.map_append, Nat.reduceLT, labsInL, AV.labsIn]
   all_goals first | rfl | decide | skip
  simp only [evI, memP, cellsSc, cellsMs]
  refine AW.rE (by rfl) fun K hK => ?_
  simp -implicitDefEqProofs only [go_sem, ↓reduceIte, Nat.reduceAdd, Nat.reduceMul, Nat.reduceEqDiff, Nat.reduceLeDiff, reduceCtorEq, Int.reduceToNat, w2]
  refine hK _ ?_; clear hK K
  refine ⟨(l', n + 1), ⟨by simp only; omega, by simp only; omega, il', ?_, okl'⟩, by simp only; omega, ?_⟩
  ·simp only
   rw [eE, show 501 - (n + 1) = 500 - n by omega]
   push_cast
   rfl
  ·show Ghost _ _ (evI S U (msgOf S p.o) (msgOf U p.n) l' i [(19, .p (.int .i64 ((n + 1 : Nat) : Int)))])
   simp only [evI, memP, cellsSc, cellsMs]
   refine Ghost.sub ?_ ?_ <;> simp -implicitDefEqProofs only [go_sem, ↓reduceIte, Nat.reduceAdd, Nat.reduceMul, Nat.reduceEqDiff, Nat.reduceLeDiff, reduceCtorEq, Int.reduceToNat,  List.forall_mem_cons, List.not_mem_nil, false_implies, implies_true, and_self, labsIn_lift, List.all_append, List.all_cons, List.all_nil, Nat.reduceLT, labsInL, AV.labsIn]
   all_goals first | rfl | decide | skip
end Go.Aw
namespace Go.Aw
open Go.Proofs Go.RowKit
set_option linter.unusedSimpArgs false
set_option linter.unusedVariables false
def vF : Fd := ⟨[120], 3, 1, ⟨1, []⟩⟩
def vT : Mt := ⟨[99], [109], [109]⟩
def vS1 : Sc := ⟨[97], [⟨[109], [vF], []⟩], [], [vT]⟩
def vS2 : Sc := ⟨[97], [⟨[109], [], []⟩], [], [vT]⟩
theorem vS1_lens : LensS vS1 := lens_few (by decide +kernel)
theorem vS2_lens : LensS vS2 := lens_few (by decide +kernel)
theorem v_yes : evoP vS1 vS1 = ([], 0, true) := by decide +kernel
theorem v_no : evoP vS1 vS2 = ([109], 3, false) := by decide +kernel
def vk0 : St := ⟨ofL [(2, .ptr 0 0 0), (3, .ptr 1 0 0)], ofH [(0, .row 4 [[.p (.str [97]), .own 2, .ex [], .own 4]]), (1, .row 4 [[.p (.str [97]), .own 5, .ex [], .own 6]]), (2, .row 3 [[.p (.str [109]), .own 3, .ex []]]), (3, .row 5 (liftE ([vF].map encFd))), (4, .row 3 (liftE ([vT].map encMt))), (5, .row 3 [[.p (.str [109]), .ex [], .ex []]]), (6, .row 3 (liftE ([vT].map encMt)))], 7⟩
def vM1 : List AV := [.p (.str [109]), .p (.slice ([vF].map encFd)), .ex []]
def vk1 : St := ⟨ofL [(2, .ptr 0 0 0), (3, .ptr 1 0 0)], ofH [(0, .row 4 [[.p (.str [97]), .own 2, .ex [], .own 4]]), (1, .row 4 [[.p (.str [97]), .own 5, .ex [], .own 6]]), (2, .row 3 [vM1]), (4, .row 3 (liftE ([vT].map encMt))), (5, .row 3 [[.p (.str [109]), .ex [], .ex []]]), (6, .row 3 (liftE ([vT].map encMt)))], 7⟩
def vk2 : St := ⟨ofL [(2, .ptr 0 0 0), (3, .ptr 1 0 0)], ofH [(0, .row 4 [[.p (.str [97]), .p (.slice [encMs ⟨[109], [vF], []⟩]), .ex [], .own 4]]), (1, .row 4 [[.p (.str [97]), .own 5, .ex [], .own 6]]), (4, .row 3 (liftE ([vT].map encMt))), (5, .row 3 [[.p (.str [109]), .ex [], .ex []]]), (6, .row 3 (liftE ([vT].map encMt)))], 7⟩
def vR1 : List AV := [.p (.str [97]), .p (.slice [encMs ⟨[109], [vF], []⟩]), .ex [], .p (.slice ([vT].map encMt))]
def vR2 : List AV := [.p (.str [97]), .p (.slice [encMs ⟨[109], [], []⟩]), .ex [], .p (.slice ([vT].map encMt))]
def vk3 : St := ⟨ofL [(2, .ptr 0 0 0), (3, .ptr 1 0 0)], ofH [(0, .row 4 [vR1]), (1, .row 4 [[.p (.str [97]), .own 5, .ex [], .own 6]]), (5, .row 3 [[.p (.str [109]), .ex [], .ex []]]), (6, .row 3 (liftE ([vT].map encMt)))], 7⟩
def vk4 : St := ⟨ofL [(2, .ptr 0 0 0), (3, .ptr 1 0 0)], ofH [(0, .row 4 [vR1]), (1, .row 4 [[.p (.str [97]), .p (.slice [encMs ⟨[109], [], []⟩]), .ex [], .own 6]]), (6, .row 3 (liftE ([vT].map encMt)))], 7⟩
def vk5 : St := ⟨ofL [(2, .ptr 0 0 0), (3, .ptr 1 0 0)], ofH [(0, .row 4 [vR1]), (1, .row 4 [vR2])], 7⟩
set_option maxRecDepth 100000 in
set_option maxHeartbeats 4000000 in
theorem law14_awake : PFn Tryd.prog 41 [] (.bool true) := by
 refine PFn.of Tryd.func41 rfl (by decide) Tryd.ntmps41 Tryd.results41 (Nat.le_of_ble_eq_true rfl) ?_
 simp only [argsT]
 refine AW.rT (by rfl) fun K hK => ?_
 simp -implicitDefEqProofs only [go_sem, ↓reduceIte, Nat.reduceAdd, Nat.reduceMul, Nat.reduceEqDiff, Nat.reduceLeDiff, reduceCtorEq, Int.reduceToNat]
 refine hK _ ?_; clear hK K
 refine AW.rT (by rfl) fun K hK => ?_
 simp -implicitDefEqProofs only [go_sem, ↓reduceIte, Nat.reduceAdd, Nat.reduceMul, Nat.reduceEqDiff, Nat.reduceLeDiff, reduceCtorEq, Int.reduceToNat]
 refine hK _ ?_; clear hK K
 refine AW.rT (by rfl) fun K hK => ?_
 simp -implicitDefEqProofs only [go_sem, ↓reduceIte, Nat.reduceAdd, Nat.reduceMul, Nat.reduceEqDiff, Nat.reduceLeDiff, reduceCtorEq, Int.reduceToNat]
 refine hK _ ?_; clear hK K
 refine AW.rT (by rfl) fun K hK => ?_
 simp -implicitDefEqProofs only [go_sem, ↓reduceIte, Nat.reduceAdd, Nat.reduceMul, Nat.reduceEqDiff, Nat.reduceLeDiff, reduceCtorEq, Int.reduceToNat]
 refine hK _ ?_; clear hK K
 refine AW.ghost (s' := vk0) ?_ ?_
 ·simp only [vk0]
  refine Ghost.ent (fun l => if l = 0 then 12 else if l = 1 then 19 else if l = 2 then 8 else if l = 3 then 6 else if l = 4 then 10 else if l = 5 then 15 else 17) ?_ ?_ ?_ <;> simp -implicitDefEqProofs only [go_sem, ↓reduceIte, Nat.reduceAdd, Nat.reduceMul, Nat.reduceEqDiff, Nat.reduceLeDiff, reduceCtorEq, Int.reduceToNat, vF, vT, encFd, encMt, liftE_cons, liftE_nil, List.map_cons, List.map_nil, List.forall_mem_cons, List.not_mem_nil, false_implies, implies_true, and_self, map_renL_lift, labsIn_lift, List.all_append, List.all_cons, List.all_nil, List.map_append, Nat.reduceLT, labsInL, AV.labsIn]
  all_goals first | rfl | decide | skip
 refine AW.ghost (s' := vk1) (Ghost.trans (Ghost.freeze (lb := 3) (ps := [vF].map encFd) rfl (unlift_liftE _)) ?_) ?_
 ·simp only [vk0, vk1]
  refine Ghost.sub ?_ ?_ <;> simp -implicitDefEqProofs only [go_sem, ↓reduceIte, Nat.reduceAdd, Nat.reduceMul, Nat.reduceEqDiff, Nat.reduceLeDiff, reduceCtorEq, Int.reduceToNat, thaw, thaw1, Option.map_some, List.map_cons, List.map_nil, vM1, vF, vT, encFd, encMt, liftE_cons, liftE_nil, List.forall_mem_cons, List.not_mem_nil, false_implies, implies_true, and_self, labsIn_lift, List.all_append, List.all_cons, List.all_nil, Nat.reduceLT, labsInL, AV.labsIn]
  all_goals first | rfl | decide | skip
 refine AW.ghost (s' := vk2) (Ghost.trans (Ghost.freeze (lb := 2) (ps := [encMs ⟨[109], [vF], []⟩]) rfl (by rfl)) ?_) ?_
 ·simp only [vk1, vk2]
  refine Ghost.sub ?_ ?_ <;> simp -implicitDefEqProofs only [go_sem, ↓reduceIte, Nat.reduceAdd, Nat.reduceMul, Nat.reduceEqDiff, Nat.reduceLeDiff, reduceCtorEq, Int.reduceToNat, thaw, thaw1, Option.map_some, List.map_cons, List.map_nil, vM1, vF, vT, encFd, encMs, encMt, liftE_cons, liftE_nil, List.forall_mem_cons, List.not_mem_nil, false_implies, implies_true, and_self, labsIn_lift, List.all_append, List.all_cons, List.all_nil, Nat.reduceLT, labsInL, AV.labsIn]
  all_goals first | rfl | decide | skip
 refine AW.ghost (s' := vk3) (Ghost.trans (Ghost.freeze (lb := 4) (ps := [vT].map encMt) rfl (unlift_liftE _)) ?_) ?_
 ·simp only [vk2, vk3]
  refine Ghost.sub ?_ ?_ <;> simp -implicitDefEqProofs only [go_sem, ↓reduceIte, Nat.reduceAdd, Nat.reduceMul, Nat.reduceEqDiff, Nat.reduceLeDiff, reduceCtorEq, Int.reduceToNat, thaw, thaw1, Option.map_some, List.map_cons, List.map_nil, vR1, vM1, vF, vT, encFd, encMs, encMt, liftE_cons, liftE_nil, List.forall_mem_cons, List.not_mem_nil, false_implies, implies_true, and_self, labsIn_lift, List.all_append, List.all_cons, List.all_nil, Nat.reduceLT, labsInL, AV.labsIn]
  all_goals first | rfl | decide | skip
 refine AW.ghost (s' := vk4) (Ghost.trans (Ghost.freeze (lb := 5) (ps := [encMs ⟨[109], [], []⟩]) rfl (by rfl)) ?_) ?_
 ·simp only [vk3, vk4]
  refine Ghost.sub ?_ ?_ <;> simp -implicitDefEqProofs only [go_sem, ↓reduceIte, Nat.reduceAdd, Nat.reduceMul, Nat.reduceEqDiff, Nat.reduceLeDiff, reduceCtorEq, Int.reduceToNat, thaw, thaw1, Option.map_some, List.map_cons, List.map_nil, vR1, vM1, vF, vT, encFd, encMs, encMt, liftE_cons, liftE_nil, List.forall_mem_cons, List.not_mem_nil, false_implies, implies_true, and_self, labsIn_lift, List.all_append, List.all_cons, List.all_nil, Nat.reduceLT, labsInL, AV.labsIn]
  all_goals first | rfl | decide | skip
 refine AW.ghost (s' := vk5) (Ghost.trans (Ghost.freeze (lb := 6) (ps := [vT].map encMt) rfl (unlift_liftE _)) ?_) ?_
 ·simp only [vk4, vk5]
  refine Ghost.sub ?_ ?_ <;> simp -implicitDefEqProofs only [go_sem, ↓reduceIte, Nat.reduceAdd, Nat.reduceMul, Nat.reduceEqDiff, Nat.reduceLeDiff, reduceCtorEq, Int.reduceToNat, thaw, thaw1, Option.map_some, List.map_cons, List.map_nil, vR1, vR2, vM1, vF, vT, encFd, encMs, encMt, liftE_cons, liftE_nil, List.forall_mem_cons, List.not_mem_nil, false_implies, implies_true, and_self, labsIn_lift, List.all_append, List.all_cons, List.all_nil, Nat.reduceLT, labsInL, AV.labsIn]
  all_goals first | rfl | decide | skip
 simp only [vk5, vR1, vR2]
 have C1 := compat_Evolves vS1 vS1 vS1_lens vS1_lens
 have C2 := compat_Evolves vS1 vS2 vS1_lens vS2_lens
 rw [v_yes] at C1
 rw [v_no] at C2
 simp only [encSc, vS1, vS2, List.map_cons, List.map_nil] at C1 C2
 refine AW.rT (by rfl) fun K hK => ?_
 simp -implicitDefEqProofs only [go_sem, ↓reduceIte, Nat.reduceAdd, Nat.reduceMul, Nat.reduceEqDiff, Nat.reduceLeDiff, reduceCtorEq, Int.reduceToNat]
 refine ⟨.pure _, C1, ?_⟩
 try simp -implicitDefEqProofs only [go_sem, ↓reduceIte, Nat.reduceAdd, Nat.reduceMul, Nat.reduceEqDiff, Nat.reduceLeDiff, reduceCtorEq, Int.reduceToNat]
 refine hK _ ?_; clear hK K
 refine AW.rT (by rfl) fun K hK => ?_
 simp -implicitDefEqProofs only [go_sem, ↓reduceIte, Nat.reduceAdd, Nat.reduceMul, Nat.reduceEqDiff, Nat.reduceLeDiff, reduceCtorEq, Int.reduceToNat]
 refine ⟨.pure _, C2, ?_⟩
 try simp -implicitDefEqProofs only [go_sem, ↓reduceIte, Nat.reduceAdd, Nat.reduceMul, Nat.reduceEqDiff, Nat.reduceLeDiff, reduceCtorEq, Int.reduceToNat]
 refine hK _ ?_; clear hK K
 refine AW.rT (by rfl) fun K hK => ?_
 simp -implicitDefEqProofs only [go_sem, ↓reduceIte, Nat.reduceAdd, Nat.reduceMul, Nat.reduceEqDiff, Nat.reduceLeDiff, reduceCtorEq, Int.reduceToNat]
 refine hK _ ?_; clear hK K
 refine AW.ret ?_
 simp -implicitDefEqProofs only [go_sem, ↓reduceIte, Nat.reduceAdd, Nat.reduceMul, Nat.reduceEqDiff, Nat.reduceLeDiff, reduceCtorEq, Int.reduceToNat]
end Go.Aw
namespace Go.Aw
open Go.Proofs Go.RowKit
set_option linter.unusedSimpArgs false
set_option linter.unusedVariables false
def enA (l : List Int) (m : List (Nat × AV)) (n : Nat) : St := ⟨ofL ((0, .p (.slice (l.map encI))) :: (2, .ptr 0 0 0) :: (3, .ptr 1 0 0) :: (4, .p (.int .i64 (n : Int))) :: m), ofH [(0, .row 2 [[.p (.str []), .ex []]]), (1, .row 2 [[.p (.str [101]), .own 2]]), (2, .row 2 (liftE ((enV zeroW l n).map encNm)))], 3⟩
set_option maxRecDepth 100000 in
set_option maxHeartbeats 4000000 in
theorem enums_46 (l : List Int) (hb : ∀ v ∈ l, -9223372036854775808 ≤ v ∧ v ≤ 9223372036854775807) : DFn Tryd.prog 46 [.p (.slice (l.map encI))] [] 0 [] (.agg [.p (.str [101]), .own 0]) [(0, .row 2 (liftE ((enV zeroW l 10).map encNm)))] 1 := by
 refine DFn.of [] Tryd.func46 rfl (by decide) Tryd.ntmps46 Tryd.results46 (Nat.le_of_ble_eq_true rfl) (by simp) fun val => ?_
 simp only [avT]
 refine AW.rT (by rfl) fun K hK => ?_
 simp -implicitDefEqProofs only [go_sem, ↓reduceIte, Nat.reduceAdd, Nat.reduceMul, Nat.reduceEqDiff, Nat.reduceLeDiff, reduceCtorEq, Int.reduceToNat]
 refine hK _ ?_; clear hK K
 refine AW.rT (by rfl) fun K hK => ?_
 simp -implicitDefEqProofs only [go_sem, ↓reduceIte, Nat.reduceAdd, Nat.reduceMul, Nat.reduceEqDiff, Nat.reduceLeDiff, reduceCtorEq, Int.reduceToNat]
 refine hK _ ?_; clear hK K
 refine AW.cut (fun _ : Unit => enA l [] 10) (fun _ => True) ?_ fun _ _ => ?_
 rotate_left
 ·simp only [enA]
  refine AW.rT (by rfl) fun K hK => ?_
  simp -implicitDefEqProofs only [go_sem, ↓reduceIte, Nat.reduceAdd, Nat.reduceMul, Nat.reduceEqDiff, Nat.reduceLeDiff, reduceCtorEq, Int.reduceToNat]
  refine hK _ ?_; clear hK K
  refine AW.ret ⟨fun _ => 2, [.agg [.p (.str [101]), .own 2]], ⟨?_, trivial⟩, rfl, rfl, ?_, ?_, ?_⟩
  ·simp -implicitDefEqProofs only [go_sem, ↓reduceIte, Nat.reduceAdd, Nat.reduceMul, Nat.reduceEqDiff, Nat.reduceLeDiff, reduceCtorEq, Int.reduceToNat]
  ·simp -implicitDefEqProofs only [go_sem, ↓reduceIte, Nat.reduceAdd, Nat.reduceMul, Nat.reduceEqDiff, Nat.reduceLeDiff, reduceCtorEq, Int.reduceToNat, List.forall_mem_cons, List.not_mem_nil, false_implies, implies_true, and_self, labsIn_lift, map_renL_lift]
   first | done | decide
  ·simp
  ·simp
 refine AW.rT (by rfl) fun K hK => ?_
 simp -implicitDefEqProofs only [go_sem, ↓reduceIte, Nat.reduceAdd, Nat.reduceMul, Nat.reduceEqDiff, Nat.reduceLeDiff, reduceCtorEq, Int.reduceToNat]
 refine hK _ ?_; clear hK K
 refine AW.block ?_
 refine AW.loop (fun n : Nat => enA l [] n) (fun n => 1 ≤ n ∧ n ≤ 10) (fun n => 10 - n) 1 ?_ (by omega) fun n hn => ?_
 ·simp only [enA, enV, pickI]
  refine Ghost.ent (fun k => if k = 0 then 0 else if k = 1 then 4 else 2) ?_ ?_ ?_ <;> simp -implicitDefEqProofs only [go_sem, ↓reduceIte, Nat.reduceAdd, Nat.reduceMul, Nat.reduceEqDiff, Nat.reduceLeDiff, reduceCtorEq, Int.reduceToNat, List.range'_zero, List.filter_nil, List.map_nil, encNm, zeroW, liftE_cons, liftE_nil, Nat.sub_self, List.forall_mem_cons, List.not_mem_nil, false_implies, implies_true, and_self, map_renL_lift, labsIn_lift, List.all_append, List.all_cons, List.all_nil, List.map_append, Nat.reduceLT, labsInL, AV.labsIn]
  all_goals first | rfl | decide | skip
 simp only [enA]
 refine AW.seq ?_
 by_cases hn10 : n < 10
 case neg =>
  have e : n = 10 := by omega
  subst e
  refine AW.rT (by rfl) fun K hK => ?_
  simp -implicitDefEqProofs only [go_sem, ↓reduceIte, Nat.reduceAdd, Nat.reduceMul, Nat.reduceEqDiff, Nat.reduceLeDiff, reduceCtorEq, Int.reduceToNat]
  refine hK _ ?_; clear hK K
  refine AW.cond _ (by simp -implicitDefEqProofs only [go_sem, ↓reduceIte, Nat.reduceAdd, Nat.reduceMul, Nat.reduceEqDiff, Nat.reduceLeDiff, reduceCtorEq, Int.reduceToNat]; rfl) (fun hc => ?_) (fun hc => ?_)
  ·simp at hc
  refine AW.exit ?_
  simp only [andThen, inBlk, reduceCtorEq, ↓reduceIte, if_t, if_f]
  refine ⟨(), trivial, ?_⟩
  show Ghost _ _ (enA l [] 10)
  simp only [enA]
  refine Ghost.sub ?_ ?_ <;> simp -implicitDefEqProofs only [go_sem, ↓reduceIte, Nat.reduceAdd, Nat.reduceMul, Nat.reduceEqDiff, Nat.reduceLeDiff, reduceCtorEq, Int.reduceToNat,  List.forall_mem_cons, List.not_mem_nil, false_implies, implies_true, and_self, labsIn_lift, List.all_append, List.all_cons, List.all_nil, Nat.reduceLT, labsInL, AV.labsIn]
  all_goals first | rfl | decide | skip
 have hc1 : ((n : Int) < 10) = True := eq_true (by omega)
 have w1 : IntKind.wrap .i64 ((n : Int) + 1) = ((n + 1 : Nat) : Int) := by rw [w64] <;> omega
 refine AW.rT (by rfl) fun K hK => ?_
 simp -implicitDefEqProofs only [go_sem, ↓reduceIte, Nat.reduceAdd, Nat.reduceMul, Nat.reduceEqDiff, Nat.reduceLeDiff, reduceCtorEq, Int.reduceToNat, hc1]
 refine hK _ ?_; clear hK K
 refine AW.cond _ (by simp -implicitDefEqProofs only [go_sem, ↓reduceIte, Nat.reduceAdd, Nat.reduceMul, Nat.reduceEqDiff, Nat.reduceLeDiff, reduceCtorEq, Int.reduceToNat]; rfl) (fun hc => ?_) (fun hc => ?_)
 rotate_left
 ·simp at hc
 refine AW.skip ?_
 simp only [andThen, inBlk, reduceCtorEq, ↓reduceIte, if_t, if_f]
 refine AW.seq ?_
 refine AW.block ?_
 refine AW.rT (by rfl) fun K hK => ?_
 simp -implicitDefEqProofs only [go_sem, ↓reduceIte, Nat.reduceAdd, Nat.reduceMul, Nat.reduceEqDiff, Nat.reduceLeDiff, reduceCtorEq, Int.reduceToNat]
 refine hK _ ?_; clear hK K
 refine AW.cut (fun _ : Unit => enA l [(5, .p (.bool (inI l n)))] n) (fun _ => True) ?_ fun _ _ => ?_
 ·refine AW.rT (by rfl) fun K hK => ?_
  simp -implicitDefEqProofs only [go_sem, ↓reduceIte, Nat.reduceAdd, Nat.reduceMul, Nat.reduceEqDiff, Nat.reduceLeDiff, reduceCtorEq, Int.reduceToNat]
  refine hK _ ?_; clear hK K
  refine AW.block ?_
  refine AW.loop (fun i : Nat => enA l [(5, .p (.bool (hitI l n i))), (6, .p (.int .i64 (i : Int)))] n) (fun i => i ≤ min l.length 30) (fun i => 30 - i) 0 ?_ (by omega) fun i hi => ?_
  ·simp only [enA]
   refine Ghost.sub ?_ ?_ <;> simp -implicitDefEqProofs only [go_sem, ↓reduceIte, Nat.reduceAdd, Nat.reduceMul, Nat.reduceEqDiff, Nat.reduceLeDiff, reduceCtorEq, Int.reduceToNat, hitI, List.take_zero, List.any_nil, List.forall_mem_cons, List.not_mem_nil, false_implies, implies_true, and_self, labsIn_lift, List.all_append, List.all_cons, List.all_nil, Nat.reduceLT, labsInL, AV.labsIn]
   all_goals first | rfl | decide | skip
  simp only [enA]
  refine AW.seq ?_
  by_cases h1 : i < l.length
  case neg =>
   have hc2 : ((i : Int) < (l.length : Int)) = False := eq_false (by omega)
   have e : i = min l.length 30 := by omega
   refine AW.rT (by rfl) fun K hK => ?_
   simp -implicitDefEqProofs only [go_sem, ↓reduceIte, Nat.reduceAdd, Nat.reduceMul, Nat.reduceEqDiff, Nat.reduceLeDiff, reduceCtorEq, Int.reduceToNat, hc2, List.length_map]
   refine hK _ ?_; clear hK K
   refine AW.cond _ (by simp -implicitDefEqProofs only [go_sem, ↓reduceIte, Nat.reduceAdd, Nat.reduceMul, Nat.reduceEqDiff, Nat.reduceLeDiff, reduceCtorEq, Int.reduceToNat]; rfl) (fun hc => ?_) (fun hc => ?_)
   ·simp at hc
   refine AW.exit ?_
   simp only [andThen, inBlk, reduceCtorEq, ↓reduceIte, if_t, if_f]
   refine ⟨(), trivial, ?_⟩
   show Ghost _ _ (enA l [(5, .p (.bool (inI l n)))] n)
   unfold inI
   rw [← e]
   simp only [enA]
   refine Ghost.sub ?_ ?_ <;> simp -implicitDefEqProofs only [go_sem, ↓reduceIte, Nat.reduceAdd, Nat.reduceMul, Nat.reduceEqDiff, Nat.reduceLeDiff, reduceCtorEq, Int.reduceToNat,  List.forall_mem_cons, List.not_mem_nil, false_implies, implies_true, and_self, labsIn_lift, List.all_append, List.all_cons, List.all_nil, Nat.reduceLT, labsInL, AV.labsIn]
   all_goals first | rfl | decide | skip
  by_cases h2 : i < 30
  case neg =>
   have hc2 : ((i : Int) < (l.length : Int)) = True := eq_true (by omega)
   have hc3 : ((i : Int) < 30) = False := eq_false (by omega)
   have e : i = min l.length 30 := by omega
   refine AW.rT (by rfl) fun K hK => ?_
   simp -implicitDefEqProofs only [go_sem, ↓reduceIte, Nat.reduceAdd, Nat.reduceMul, Nat.reduceEqDiff, Nat.reduceLeDiff, reduceCtorEq, Int.reduceToNat, hc2, hc3, List.length_map]
   refine hK _ ?_; clear hK K
   refine AW.cond _ (by simp -implicitDefEqProofs only [go_sem, ↓reduceIte, Nat.reduceAdd, Nat.reduceMul, Nat.reduceEqDiff, Nat.reduceLeDiff, reduceCtorEq, Int.reduceToNat]; rfl) (fun hc => ?_) (fun hc => ?_)
   ·simp at hc
   refine AW.exit ?_
   simp only [andThen, inBlk, reduceCtorEq, ↓reduceIte, if_t, if_f]
   refine ⟨(), trivial, ?_⟩
   show Ghost _ _ (enA l [(5, .p (.bool (inI l n)))] n)
   unfold inI
   rw [← e]
   simp only [enA]
   refine Ghost.sub ?_ ?_ <;> simp -implicitDefEqProofs only [go_sem, ↓reduceIte, Nat.reduceAdd, Nat.reduceMul, Nat.reduceEqDiff, Nat.reduceLeDiff, reduceCtorEq, Int.reduceToNat,  List.forall_mem_cons, List.not_mem_nil, false_implies, implies_true, and_self, labsIn_lift, List.all_append, List.all_cons, List.all_nil, Nat.reduceLT, labsInL, AV.labsIn]
   all_goals first | rfl | decide | skip
  have hc2 : ((i : Int) < (l.length : Int)) = True := eq_true (by omega)
  have hc3 : ((i : Int) < 30) = True := eq_true (by omega)
  obtain ⟨v, hv⟩ : ∃ v, l[i]? = some v := ⟨_, List.getElem?_eq_getElem h1⟩
  have ⟨hm1, hm2, hm3⟩ := at_map' encI hv
  have hm2' : (i : Int) < (l.length : Int) := by omega
  have w2 : IntKind.wrap .i64 ((i : Int) + 1) = ((i + 1 : Nat) : Int) := by rw [w64] <;> omega
  have bv := hb v (List.mem_of_getElem? hv)
  have PL := law00_Place v 9 (by omega) (by omega) bv.1 bv.2
  have m1 := Int.emod_nonneg v (show (9 : Int) ≠ 0 by omega)
  have m2 := Int.emod_lt_of_pos v (show (0 : Int) < 9 by omega)
  have w3 : IntKind.wrap .i64 (1 + v % 9) = 1 + v % 9 := by rw [w64] <;> omega
  have nx := hit_next (n := n) hv
  refine AW.rT (by rfl) fun K hK => ?_
  simp -implicitDefEqProofs only [go_sem, ↓reduceIte, Nat.reduceAdd, Nat.reduceMul, Nat.reduceEqDiff, Nat.reduceLeDiff, reduceCtorEq, Int.reduceToNat, hc2, hc3, List.length_map]
  refine hK _ ?_; clear hK K
  refine AW.cond _ (by simp -implicitDefEqProofs only [go_sem, ↓reduceIte, Nat.reduceAdd, Nat.reduceMul, Nat.reduceEqDiff, Nat.reduceLeDiff, reduceCtorEq, Int.reduceToNat]; rfl) (fun hc => ?_) (fun hc => ?_)
  rotate_left
  ·simp at hc
  refine AW.skip ?_
  simp only [andThen, inBlk, reduceCtorEq, ↓reduceIte, if_t, if_f]
  refine AW.seq ?_
  refine AW.block ?_
  cases hh : hitI l n i with
  | true =>
   rw [hh, Bool.true_or] at nx
   refine AW.rE (by rfl) fun K hK => ?_
   simp -implicitDefEqProofs only [go_sem, ↓reduceIte, Nat.reduceAdd, Nat.reduceMul, Nat.reduceEqDiff, Nat.reduceLeDiff, reduceCtorEq, Int.reduceToNat]
   refine hK _ ?_; clear hK K
   simp only [andThen, inBlk, reduceCtorEq, ↓reduceIte, if_t, if_f]
   refine AW.rE (by rfl) fun K hK => ?_
   simp -implicitDefEqProofs only [go_sem, ↓reduceIte, Nat.reduceAdd, Nat.reduceMul, Nat.reduceEqDiff, Nat.reduceLeDiff, reduceCtorEq, Int.reduceToNat, w2]
   refine hK _ ?_; clear hK K
   refine ⟨i + 1, by omega, by omega, ?_⟩
   show Ghost _ _ (enA l [(5, .p (.bool (hitI l n (i + 1)))), (6, .p (.int .i64 ((i + 1 : Nat) : Int)))] n)
   rw [nx]
   simp only [enA]
   refine Ghost.sub ?_ ?_ <;> simp -implicitDefEqProofs only [go_sem, ↓reduceIte, Nat.reduceAdd, Nat.reduceMul, Nat.reduceEqDiff, Nat.reduceLeDiff, reduceCtorEq, Int.reduceToNat,  List.forall_mem_cons, List.not_mem_nil, false_implies, implies_true, and_self, labsIn_lift, List.all_append, List.all_cons, List.all_nil, Nat.reduceLT, labsInL, AV.labsIn]
   all_goals first | rfl | decide | skip
  | false =>
   rw [hh, Bool.false_or] at nx
   refine AW.rE (by rfl) fun K hK => ?_
   simp -implicitDefEqProofs only [go_sem, ↓reduceIte, Nat.reduceAdd, Nat.reduceMul, Nat.reduceEqDiff, Nat.reduceLeDiff, reduceCtorEq, Int.reduceToNat, hm1, hm2, hm2', hm3, encI, List.length_map]
   refine ⟨.pure _, PL, ?_⟩
   try simp -implicitDefEqProofs only [go_sem, ↓reduceIte, Nat.reduceAdd, Nat.reduceMul, Nat.reduceEqDiff, Nat.reduceLeDiff, reduceCtorEq, Int.reduceToNat, w3]
   refine hK _ ?_; clear hK K
   simp only [andThen, inBlk, reduceCtorEq, ↓reduceIte, if_t, if_f]
   refine AW.rE (by rfl) fun K hK => ?_
   simp -implicitDefEqProofs only [go_sem, ↓reduceIte, Nat.reduceAdd, Nat.reduceMul, Nat.reduceEqDiff, Nat.reduceLeDiff, reduceCtorEq, Int.reduceToNat, w2]
   refine hK _ ?_; clear hK K
   refine ⟨i + 1, by omega, by omega, ?_⟩
   show Ghost _ _ (enA l [(5, .p (.bool (hitI l n (i + 1)))), (6, .p (.int .i64 ((i + 1 : Nat) : Int)))] n)
   rw [nx]
   simp only [enA]
   refine Ghost.sub ?_ ?_ <;> simp -implicitDefEqProofs only [go_sem, ↓reduceIte, Nat.reduceAdd, Nat.reduceMul, Nat.reduceEqDiff, Nat.reduceLeDiff, reduceCtorEq, Int.reduceToNat,  List.forall_mem_cons, List.not_mem_nil, false_implies, implies_true, and_self, labsIn_lift, List.all_append, List.all_cons, List.all_nil, Nat.reduceLT, labsInL, AV.labsIn]
   all_goals first | rfl | decide | skip
 simp only [enA]
 have pn := pick_next (l := l) hn.1
 have pl := pick_len (l := l) (n := n)
 cases hh : inI l n with
 | false =>
  rw [hh, if_neg (by simp)] at pn
  refine AW.rT (by rfl) fun K hK => ?_
  simp -implicitDefEqProofs only [go_sem, ↓reduceIte, Nat.reduceAdd, Nat.reduceMul, Nat.reduceEqDiff, Nat.reduceLeDiff, reduceCtorEq, Int.reduceToNat]
  refine hK _ ?_; clear hK K
  refine AW.cond _ (by simp -implicitDefEqProofs only [go_sem, ↓reduceIte, Nat.reduceAdd, Nat.reduceMul, Nat.reduceEqDiff, Nat.reduceLeDiff, reduceCtorEq, Int.reduceToNat]; rfl) (fun hc => ?_) (fun hc => ?_)
  ·simp at hc
  refine AW.skip ?_
  simp only [andThen, inBlk, reduceCtorEq, ↓reduceIte, if_t, if_f]
  refine AW.rE (by rfl) fun K hK => ?_
  simp -implicitDefEqProofs only [go_sem, ↓reduceIte, Nat.reduceAdd, Nat.reduceMul, Nat.reduceEqDiff, Nat.reduceLeDiff, reduceCtorEq, Int.reduceToNat, w1]
  refine hK _ ?_; clear hK K
  refine ⟨n + 1, by omega, by omega, ?_⟩
  show Ghost _ _ (enA l [] (n + 1))
  simp only [enA, enV, pn]
  refine Ghost.sub ?_ ?_ <;> simp -implicitDefEqProofs only [go_sem, ↓reduceIte, Nat.reduceAdd, Nat.reduceMul, Nat.reduceEqDiff, Nat.reduceLeDiff, reduceCtorEq, Int.reduceToNat,  List.forall_mem_cons, List.not_mem_nil, false_implies, implies_true, and_self, labsIn_lift, List.all_append, List.all_cons, List.all_nil, Nat.reduceLT, labsInL, AV.labsIn]
  all_goals first | rfl | decide | skip
 | true =>
  rw [hh, if_pos rfl] at pn
  refine AW.rT (by rfl) fun K hK => ?_
  simp -implicitDefEqProofs only [go_sem, ↓reduceIte, Nat.reduceAdd, Nat.reduceMul, Nat.reduceEqDiff, Nat.reduceLeDiff, reduceCtorEq, Int.reduceToNat]
  refine hK _ ?_; clear hK K
  refine AW.cond _ (by simp -implicitDefEqProofs only [go_sem, ↓reduceIte, Nat.reduceAdd, Nat.reduceMul, Nat.reduceEqDiff, Nat.reduceLeDiff, reduceCtorEq, Int.reduceToNat]; rfl) (fun hc => ?_) (fun hc => ?_)
  rotate_left
  ·simp at hc
  have b0 : 0 ≤ (n : Int) := by omega
  have b1 : (n : Int) ≤ ((n + 1 : Nat) : Int) := by omega
  have b2 : (((n + 1 : Nat) : Int) ≤ ((10 : Nat) : Int)) = True := eq_true (by omega)
  have bl : (1 + (List.drop n ((48 : UInt8) :: List.take n [49, 50, 51, 52, 53, 54, 55, 56, 57])).length ≤ 9223372036854775807) = True := eq_true (by
   have q : (List.drop n (48 :: List.take n [49, 50, 51, 52, 53, 54, 55, 56, 57] : List UInt8)).length ≤ 10 := by simp; omega
   omega)
  refine AW.dE mixed (by rfl) (by decide +kernel) fun K hK => ?_
  simp -implicitDefEqProofs only [go_sem, ↓reduceIte, Nat.reduceAdd, Nat.reduceMul, Nat.reduceEqDiff, Nat.reduceLeDiff, reduceCtorEq, Int.reduceToNat, w1, b0, b1, b2, bl, Int.toNat_natCast]
  refine ⟨⟨by simp, by simp [oneAll, AV.one, PV.one], by simp⟩, by simp [liftE_length, enV]; omega, ?_⟩
  try simp -implicitDefEqProofs only [go_sem, ↓reduceIte, Nat.reduceAdd, Nat.reduceMul, Nat.reduceEqDiff, Nat.reduceLeDiff, reduceCtorEq, Int.reduceToNat]
  refine ⟨by decide +kernel, ?_⟩
  refine hK _ ?_; clear hK K
  simp only [andThen, inBlk, reduceCtorEq, ↓reduceIte, if_t, if_f]
  refine AW.rE (by rfl) fun K hK => ?_
  simp -implicitDefEqProofs only [go_sem, ↓reduceIte, Nat.reduceAdd, Nat.reduceMul, Nat.reduceEqDiff, Nat.reduceLeDiff, reduceCtorEq, Int.reduceToNat, w1]
  refine hK _ ?_; clear hK K
  refine ⟨n + 1, by omega, by omega, ?_⟩
  show Ghost _ _ (enA l [] (n + 1))
  simp only [enA, enV, pn]
  refine Ghost.ent (fun k => if k = 2 then 14 else k) ?_ ?_ ?_ <;> simp -implicitDefEqProofs only [go_sem, ↓reduceIte, Nat.reduceAdd, Nat.reduceMul, Nat.reduceEqDiff, Nat.reduceLeDiff, reduceCtorEq, Int.reduceToNat, List.map_cons, List.map_append, List.map_nil, liftE_cons, liftE_append, liftE_nil, encNm, nmV, digW, List.take_succ_cons, List.cons_append, List.nil_append, List.forall_mem_cons, List.not_mem_nil, false_implies, implies_true, and_self, map_renL_lift, labsIn_lift, List.all_append, List.all_cons, List.all_nil, List.map_append, Nat.reduceLT, labsInL, AV.labsIn]
  all_goals first | rfl | decide | skip
def fkF : Fd := ⟨[120], 1, 1, ⟨6, [101]⟩⟩
def fk0 (e : En) : St := ⟨ofL [(2, .ptr 0 0 0)], ofH [(0, .row 4 [[.p (.str [97]), .own 1, .own 3, .own 4]]), (1, .row 3 [[.p (.str [109]), .own 2, .ex []]]), (2, .row 5 (liftE ([fkF].map encFd))), (3, .row 2 (liftE ([e].map encEn))), (4, .row 3 (liftE ([vT].map encMt)))], 5⟩
def fk1 (e : En) : St := ⟨ofL [(2, .ptr 0 0 0)], ofH [(0, .row 4 [[.p (.str [97]), .own 1, .own 3, .own 4]]), (1, .row 3 [[.p (.str [109]), .p (.slice ([fkF].map encFd)), .ex []]]), (3, .row 2 (liftE ([e].map encEn))), (4, .row 3 (liftE ([vT].map encMt)))], 5⟩
def fk2 (e : En) : St := ⟨ofL [(2, .ptr 0 0 0)], ofH [(0, .row 4 [[.p (.str [97]), .p (.slice [encMs ⟨[109], [fkF], []⟩]), .own 3, .own 4]]), (3, .row 2 (liftE ([e].map encEn))), (4, .row 3 (liftE ([vT].map encMt)))], 5⟩
def fk3 (e : En) : St := ⟨ofL [(2, .ptr 0 0 0)], ofH [(0, .row 4 [[.p (.str [97]), .p (.slice [encMs ⟨[109], [fkF], []⟩]), .p (.slice ([e].map encEn)), .own 4]]), (4, .row 3 (liftE ([vT].map encMt)))], 5⟩
def fk4 (e : En) : St := ⟨ofL [(2, .ptr 0 0 0)], ofH [(0, .row 4 [[.p (.str [97]), .p (.slice [encMs ⟨[109], [fkF], []⟩]), .p (.slice ([e].map encEn)), .p (.slice ([vT].map encMt))]])], 5⟩
set_option maxRecDepth 100000 in
set_option maxHeartbeats 4000000 in
theorem enums_47 (e : En) : PFn Tryd.prog 47 [.agg (encEn e)] (.agg (encSc (enS e))) := by
 refine PFn.of Tryd.func47 rfl (by decide) Tryd.ntmps47 Tryd.results47 (Nat.le_of_ble_eq_true rfl) ?_
 simp only [argsT, encEn]
 refine AW.rT (by rfl) fun K hK => ?_
 simp -implicitDefEqProofs only [go_sem, ↓reduceIte, Nat.reduceAdd, Nat.reduceMul, Nat.reduceEqDiff, Nat.reduceLeDiff, reduceCtorEq, Int.reduceToNat]
 refine hK _ ?_; clear hK K
 refine AW.rT (by rfl) fun K hK => ?_
 simp -implicitDefEqProofs only [go_sem, ↓reduceIte, Nat.reduceAdd, Nat.reduceMul, Nat.reduceEqDiff, Nat.reduceLeDiff, reduceCtorEq, Int.reduceToNat]
 refine hK _ ?_; clear hK K
 refine AW.ghost (s' := fk0 e) ?_ ?_
 ·simp only [fk0]
  refine Ghost.ent (fun l => if l = 0 then 1 else if l = 1 then 6 else if l = 2 then 4 else if l = 3 then 8 else 10) ?_ ?_ ?_ <;> simp -implicitDefEqProofs only [go_sem, ↓reduceIte, Nat.reduceAdd, Nat.reduceMul, Nat.reduceEqDiff, Nat.reduceLeDiff, reduceCtorEq, Int.reduceToNat, fkF, vT, encFd, encEn, encMt, liftE_cons, liftE_nil, List.map_cons, List.map_nil, List.forall_mem_cons, List.not_mem_nil, false_implies, implies_true, and_self, map_renL_lift, labsIn_lift, List.all_append, List.all_cons, List.all_nil, List.map_append, Nat.reduceLT, labsInL, AV.labsIn]
  all_goals first | rfl | decide | skip
 refine AW.ghost (s' := fk1 e) (Ghost.trans (Ghost.freeze (lb := 2) (ps := [fkF].map encFd) rfl (unlift_liftE _)) ?_) ?_
 ·simp only [fk0, fk1]
  refine Ghost.sub ?_ ?_ <;> simp -implicitDefEqProofs only [go_sem, ↓reduceIte, Nat.reduceAdd, Nat.reduceMul, Nat.reduceEqDiff, Nat.reduceLeDiff, reduceCtorEq, Int.reduceToNat, thaw, thaw1, Option.map_some, List.map_cons, List.map_nil, fkF, vT, encFd, encEn, encMt, liftE_cons, liftE_nil, List.forall_mem_cons, List.not_mem_nil, false_implies, implies_true, and_self, labsIn_lift, List.all_append, List.all_cons, List.all_nil, Nat.reduceLT, labsInL, AV.labsIn]
  all_goals first | rfl | decide | skip
 refine AW.ghost (s' := fk2 e) (Ghost.trans (Ghost.freeze (lb := 1) (ps := [encMs ⟨[109], [fkF], []⟩]) rfl (by rfl)) ?_) ?_
 ·simp only [fk1, fk2]
  refine Ghost.sub ?_ ?_ <;> simp -implicitDefEqProofs only [go_sem, ↓reduceIte, Nat.reduceAdd, Nat.reduceMul, Nat.reduceEqDiff, Nat.reduceLeDiff, reduceCtorEq, Int.reduceToNat, thaw, thaw1, Option.map_some, List.map_cons, List.map_nil, fkF, vT, encFd, encMs, encEn, encMt, liftE_cons, liftE_nil, List.forall_mem_cons, List.not_mem_nil, false_implies, implies_true, and_self, labsIn_lift, List.all_append, List.all_cons, List.all_nil, Nat.reduceLT, labsInL, AV.labsIn]
  all_goals first | rfl | decide | skip
 refine AW.ghost (s' := fk3 e) (Ghost.trans (Ghost.freeze (lb := 3) (ps := [e].map encEn) rfl (unlift_liftE _)) ?_) ?_
 ·simp only [fk2, fk3]
  refine Ghost.sub ?_ ?_ <;> simp -implicitDefEqProofs only [go_sem, ↓reduceIte, Nat.reduceAdd, Nat.reduceMul, Nat.reduceEqDiff, Nat.reduceLeDiff, reduceCtorEq, Int.reduceToNat, thaw, thaw1, Option.map_some, List.map_cons, List.map_nil, fkF, vT, encFd, encMs, encEn, encMt, liftE_cons, liftE_nil, List.forall_mem_cons, List.not_mem_nil, false_implies, implies_true, and_self, labsIn_lift, List.all_append, List.all_cons, List.all_nil, Nat.reduceLT, labsInL, AV.labsIn]
  all_goals first | rfl | decide | skip
 refine AW.ghost (s' := fk4 e) (Ghost.trans (Ghost.freeze (lb := 4) (ps := [vT].map encMt) rfl (unlift_liftE _)) ?_) ?_
 ·simp only [fk3, fk4]
  refine Ghost.sub ?_ ?_ <;> simp -implicitDefEqProofs only [go_sem, ↓reduceIte, Nat.reduceAdd, Nat.reduceMul, Nat.reduceEqDiff, Nat.reduceLeDiff, reduceCtorEq, Int.reduceToNat, thaw, thaw1, Option.map_some, List.map_cons, List.map_nil, fkF, vT, encFd, encMs, encEn, encMt, liftE_cons, liftE_nil, List.forall_mem_cons, List.not_mem_nil, false_implies, implies_true, and_self, labsIn_lift, List.all_append, List.all_cons, List.all_nil, Nat.reduceLT, labsInL, AV.labsIn]
  all_goals first | rfl | decide | skip
 simp only [fk4]
 refine AW.ret ?_
 simp -implicitDefEqProofs only [go_sem, ↓reduceIte, Nat.reduceAdd, Nat.reduceMul, Nat.reduceEqDiff, Nat.reduceLeDiff, reduceCtorEq, Int.reduceToNat, encSc, enS, fkF, vT, List.map_cons, List.map_nil]
end Go.Aw
namespace Go.Aw
open Go.Proofs Go.RowKit
set_option linter.unusedSimpArgs false
set_option linter.unusedVariables false
end Go.Aw
namespace Go.Aw
open Go.Proofs Go.RowKit
set_option linter.unusedSimpArgs false
set_option linter.unusedVariables false
theorem eqP_bool (a b : Bool) : EqP Tryd.prog 4 (.bool a) (.bool b) (a == b) := by
 intro w I u v hu hv
 cases hu; cases hv
 have e : (Op.equalIn 10000 4 (.bool a) (.bool b)).run Tryd.prog w = .ok (a == b) w := run_equalIn_bool' w 9999 4 a b Tryd.underlying4
 refine ⟨?_, ?_, fun op x y => by cases op <;> rfl⟩
 ·simp only [binOp]; simp [Op.equal, Op.maxDepth, e]
 ·simp only [binOp]; simp [Op.equal, Op.maxDepth, e]
theorem first_mem {α : Type} {p : α → Bool} {z : α} {l : List α} : (firstP p z l).1 ∈ l ∨ (firstP p z l).1 = z := by
 unfold firstP
 cases h : l.find? p with
 | none => exact .inr rfl
 | some a => exact .inl (List.mem_of_find?_eq_some h)
theorem FewS.msg {S : Sc} (F : FewS S) (p : Ms → Bool) : FewM (firstP p zMs S.msgs).1 := by
 rcases first_mem (p := p) (z := zMs) (l := S.msgs) with h | h
 ·exact F.ms _ h
 ·rw [h]; exact ⟨by decide, by decide, by decide, fun f hf => by cases hf⟩
theorem FewS.enum {S : Sc} (F : FewS S) (p : En → Bool) : FewE (firstP p zEn S.enums).1 := by
 rcases first_mem (p := p) (z := zEn) (l := S.enums) with h | h
 ·exact F.en _ h
 ·rw [h]; exact ⟨by decide, by decide, fun f hf => by cases hf⟩
end Go.Aw
namespace Go.Aw
open Go.Proofs Go.RowKit
set_option linter.unusedSimpArgs false
set_option linter.unusedVariables false
theorem enS_lens {w : List UInt8} (hw : w = zeroW ∨ w = noughtW) (l : List Int) : LensS (enS (enE w l)) := by
 refine ⟨by simp [enS], fun m hm => ?_, fun e he => ?_, fun t ht => ?_, by simp [enS], by simp [enS], by simp [enS]⟩
 ·simp [enS] at hm; subst hm; exact ⟨by simp, fun f hf => by simp at hf; subst hf; simp⟩
 ·simp [enS] at he; subst he
  refine ⟨by simp [enE], fun v hv => ?_⟩
  rcases List.mem_cons.1 hv with rfl | hv
  ·rcases hw with rfl | rfl <;> decide
  ·have : ∀ v ∈ (List.range' 1 9).map nmV, v.name.length ≤ 1000000000 := by decide +kernel
   exact this v ((sub_pick l).subset hv)
 ·simp [enS] at ht; subst ht; simp
def ceS (X Y : List Nm) (m : List (Nat × AV)) : St := ⟨ofL ((8, .ptr 0 0 0) :: (9, .ptr 1 0 0) :: m), ofH [(0, .row 2 [[.p (.str [101]), .p (.slice (X.map encNm))]]), (1, .row 2 [[.p (.str [101]), .own 2]]), (2, .row 2 (liftE (Y.map encNm)))], 3⟩
def ceZ (X Y : List Nm) (m : List (Nat × AV)) : St := ⟨ofL ((8, .ptr 0 0 0) :: (9, .ptr 1 0 0) :: m), ofH [(0, .row 2 [[.p (.str [101]), .p (.slice (X.map encNm))]]), (1, .row 2 [[.p (.str [101]), .p (.slice (Y.map encNm))]])], 3⟩
theorem any_cont {l : List Nm} {v : Nm} : l.any (fun x => decide (v = x)) = l.contains v := by
 rw [Bool.eq_iff_iff, List.any_eq_true, List.contains_iff_mem]
 simp
theorem any_next {l : List Nm} {i : Nat} {x v : Nm} (h : l[i]? = some x) : (l.take (i + 1)).any (fun x => decide (v = x)) = ((l.take i).any (fun x => decide (v = x)) || decide (v = x)) := by
 rw [List.take_add_one, h, List.any_append]
 simp
theorem all_nextB {l : List Nm} {p : Nm → Bool} {i : Nat} {x : Nm} (h : l[i]? = some x) : (l.take (i + 1)).all p = ((l.take i).all p && p x) := by
 rw [List.take_add_one, h, List.all_append]
 simp
set_option maxRecDepth 100000 in
set_option maxHeartbeats 4000000 in
theorem law14_CompatEnums (a b : List Int) (turn : Bool) (ha : ∀ v ∈ a, -9223372036854775808 ≤ v ∧ v ≤ 9223372036854775807) (hb : ∀ v ∈ b, -9223372036854775808 ≤ v ∧ v ≤ 9223372036854775807) : PFn Tryd.prog 14 [.slice (a.map encI), .slice (b.map encI), .bool turn] (.bool true) := by
 refine PFn.of Tryd.func14 rfl (by decide) Tryd.ntmps14 Tryd.results14 (Nat.le_of_ble_eq_true rfl) ?_
 simp only [argsT]
 have DA := enums_46 a ha
 have DB := enums_46 b hb
 refine AW.rT (by rfl) fun K hK => ?_
 simp -implicitDefEqProofs only [go_sem, ↓reduceIte, Nat.reduceAdd, Nat.reduceMul, Nat.reduceEqDiff, Nat.reduceLeDiff, reduceCtorEq, Int.reduceToNat]
 refine hK _ ?_; clear hK K
 refine AW.rT (by rfl) fun K hK => ?_
 simp -implicitDefEqProofs only [go_sem, ↓reduceIte, Nat.reduceAdd, Nat.reduceMul, Nat.reduceEqDiff, Nat.reduceLeDiff, reduceCtorEq, Int.reduceToNat]
 refine hK _ ?_; clear hK K
 refine AW.rR (SeqR.ev 2 (by rfl) (by decide) ?_)
 simp -implicitDefEqProofs only [go_sem, ↓reduceIte, Nat.reduceAdd, Nat.reduceMul, Nat.reduceEqDiff, Nat.reduceLeDiff, reduceCtorEq, Int.reduceToNat]
 refine SeqR.callV (fun l => l) rfl (by rfl) (by decide) DA ⟨?_, rfl, (fun x hx => by cases hx), rfl, rfl, rfl, rfl, rfl, ?_⟩ ?_
 ·simp -implicitDefEqProofs only [go_sem, ↓reduceIte, Nat.reduceAdd, Nat.reduceMul, Nat.reduceEqDiff, Nat.reduceLeDiff, reduceCtorEq, Int.reduceToNat, argD]
 ·simp [labsBy_lift]
 refine SeqR.ghost (s' := ⟨ofL [(1, .p (.slice (b.map encI))), (2, .p (.bool turn)), (7, .fn 46 []), (20, .agg [.p (.str [101]), .own 0])], ofH [(0, .row 2 (liftE ((enV zeroW a 10).map encNm)))], 1⟩) ?_ ?_
 ·skip
  refine Ghost.ent (fun l => l + 4) ?_ ?_ ?_ <;> simp -implicitDefEqProofs only [go_sem, ↓reduceIte, Nat.reduceAdd, Nat.reduceMul, Nat.reduceEqDiff, Nat.reduceLeDiff, reduceCtorEq, Int.reduceToNat, lift2, goneU, newU, Nat.reduceSub, List.forall_mem_cons, List.not_mem_nil, false_implies, implies_true, and_self, map_renL_lift, labsIn_lift, List.all_append, List.all_cons, List.all_nil, List.map_append, Nat.reduceLT, labsInL, AV.labsIn]
  all_goals first | rfl | decide | skip
 refine SeqR.ev 2 (by rfl) (by decide) ?_
 simp -implicitDefEqProofs only [go_sem, ↓reduceIte, Nat.reduceAdd, Nat.reduceMul, Nat.reduceEqDiff, Nat.reduceLeDiff, reduceCtorEq, Int.reduceToNat]
 refine SeqR.callV (fun l => l) rfl (by rfl) (by decide) DB ⟨?_, rfl, (fun x hx => by cases hx), rfl, rfl, rfl, rfl, rfl, ?_⟩ ?_
 ·simp -implicitDefEqProofs only [go_sem, ↓reduceIte, Nat.reduceAdd, Nat.reduceMul, Nat.reduceEqDiff, Nat.reduceLeDiff, reduceCtorEq, Int.reduceToNat, argD]
 ·simp [labsBy_lift]
 refine SeqR.ghost (s' := ⟨ofL [(2, .p (.bool turn)), (20, .agg [.p (.str [101]), .own 0]), (23, .agg [.p (.str [101]), .own 1])], ofH [(0, .row 2 (liftE ((enV zeroW a 10).map encNm))), (1, .row 2 (liftE ((enV zeroW b 10).map encNm)))], 2⟩) ?_ ?_
 ·skip
  refine Ghost.ent (fun l => if l = 0 then 0 else 3) ?_ ?_ ?_ <;> simp -implicitDefEqProofs only [go_sem, ↓reduceIte, Nat.reduceAdd, Nat.reduceMul, Nat.reduceEqDiff, Nat.reduceLeDiff, reduceCtorEq, Int.reduceToNat, lift2, goneU, newU, Nat.reduceSub, List.forall_mem_cons, List.not_mem_nil, false_implies, implies_true, and_self, map_renL_lift, labsIn_lift, List.all_append, List.all_cons, List.all_nil, List.map_append, Nat.reduceLT, labsInL, AV.labsIn]
  all_goals first | rfl | decide | skip
 refine SeqR.ev 4 (by rfl) (by decide) ?_
 simp -implicitDefEqProofs only [go_sem, ↓reduceIte, Nat.reduceAdd, Nat.reduceMul, Nat.reduceEqDiff, Nat.reduceLeDiff, reduceCtorEq, Int.reduceToNat]
 refine SeqR.last rfl ?_
 refine AW.ghost (s' := ceS (enV zeroW a 10) (enV zeroW b 10) [(2, .p (.bool turn))]) ?_ ?_
 ·refine Ghost.trans (s' := ⟨ofL [(2, .p (.bool turn)), (8, .ptr 2 0 0), (9, .ptr 3 0 0)], ofH [(0, .row 2 (liftE ((enV zeroW a 10).map encNm))), (1, .row 2 (liftE ((enV zeroW b 10).map encNm))), (2, .row 2 [[.p (.str [101]), .own 0]]), (3, .row 2 [[.p (.str [101]), .own 1]])], 4⟩) ?_ (Ghost.trans (Ghost.freeze (lb := 0) (ps := (enV zeroW a 10).map encNm) rfl (unlift_liftE _)) ?_)
  ·skip
   refine Ghost.ent (fun l => l) ?_ ?_ ?_ <;> simp -implicitDefEqProofs only [go_sem, ↓reduceIte, Nat.reduceAdd, Nat.reduceMul, Nat.reduceEqDiff, Nat.reduceLeDiff, reduceCtorEq, Int.reduceToNat,  List.forall_mem_cons, List.not_mem_nil, false_implies, implies_true, and_self, map_renL_lift, labsIn_lift, List.all_append, List.all_cons, List.all_nil, List.map_append, Nat.reduceLT, labsInL, AV.labsIn]
   all_goals first | rfl | decide | skip
  ·simp only [ceS]
   refine Ghost.ent (fun l => if l = 0 then 2 else if l = 1 then 3 else 1) ?_ ?_ ?_ <;> simp -implicitDefEqProofs only [go_sem, ↓reduceIte, Nat.reduceAdd, Nat.reduceMul, Nat.reduceEqDiff, Nat.reduceLeDiff, reduceCtorEq, Int.reduceToNat, thaw, thaw1, Option.map_some, List.map_cons, List.map_nil, thaw_lift, List.forall_mem_cons, List.not_mem_nil, false_implies, implies_true, and_self, map_renL_lift, labsIn_lift, List.all_append, List.all_cons, List.all_nil, List.map_append, Nat.reduceLT, labsInL, AV.labsIn]
   all_goals first | rfl | decide | skip
 simp only [ceS]
 refine AW.rT (by rfl) fun K hK => ?_
 simp -implicitDefEqProofs only [go_sem, ↓reduceIte, Nat.reduceAdd, Nat.reduceMul, Nat.reduceEqDiff, Nat.reduceLeDiff, reduceCtorEq, Int.reduceToNat]
 refine hK _ ?_; clear hK K
 have lX : (enV zeroW a 10).length ≤ 10 := by have := pick_len (l := a) (n := 10); unfold enV; rw [List.length_cons]; omega
 have lY : (enV zeroW b 10).length ≤ 10 := by have := pick_len (l := b) (n := 10); unfold enV; rw [List.length_cons]; omega
 obtain ⟨X, hX⟩ : ∃ X, enV zeroW a 10 = X := ⟨_, rfl⟩
 obtain ⟨Y, hY⟩ : ∃ Y, enV zeroW b 10 = Y := ⟨_, rfl⟩
 rw [hX] at lX
 rw [hY] at lY
 simp only [hX, hY]
 refine AW.cut (fun w : Bool => ceS X Y [(2, .p (.bool turn)), (10, .p (.bool w))]) (fun w => w = X.all fun v => Y.contains v) ?_ fun w hw => ?_
 ·skip
  refine AW.rT (by rfl) fun K hK => ?_
  simp -implicitDefEqProofs only [go_sem, ↓reduceIte, Nat.reduceAdd, Nat.reduceMul, Nat.reduceEqDiff, Nat.reduceLeDiff, reduceCtorEq, Int.reduceToNat]
  refine hK _ ?_; clear hK K
  refine AW.block ?_
  refine AW.loop (fun i : Nat => ceS X Y [(2, .p (.bool turn)), (10, .p (.bool ((X.take i).all fun v => Y.contains v))), (11, .p (.int .i64 (i : Int)))]) (fun i => i ≤ X.length) (fun i => X.length - i) 0 ?_ (by omega) fun i hi => ?_
  ·simp only [ceS]
   refine Ghost.sub ?_ ?_ <;> simp -implicitDefEqProofs only [go_sem, ↓reduceIte, Nat.reduceAdd, Nat.reduceMul, Nat.reduceEqDiff, Nat.reduceLeDiff, reduceCtorEq, Int.reduceToNat, List.take_zero, List.all_nil, List.forall_mem_cons, List.not_mem_nil, false_implies, implies_true, and_self, labsIn_lift, List.all_append, List.all_cons, List.all_nil, Nat.reduceLT, labsInL, AV.labsIn]
   all_goals first | rfl | decide | skip
  simp only [ceS]
  refine AW.seq ?_
  by_cases h1 : i < X.length
  case neg =>
   have hc2 : ((i : Int) < (X.length : Int)) = False := eq_false (by omega)
   refine AW.rT (by rfl) fun K hK => ?_
   simp -implicitDefEqProofs only [go_sem, ↓reduceIte, Nat.reduceAdd, Nat.reduceMul, Nat.reduceEqDiff, Nat.reduceLeDiff, reduceCtorEq, Int.reduceToNat, hc2, List.length_map]
   refine hK _ ?_; clear hK K
   refine AW.cond _ (by simp -implicitDefEqProofs only [go_sem, ↓reduceIte, Nat.reduceAdd, Nat.reduceMul, Nat.reduceEqDiff, Nat.reduceLeDiff, reduceCtorEq, Int.reduceToNat]; rfl) (fun hc => ?_) (fun hc => ?_)
   ·simp at hc
   refine AW.exit ?_
   simp only [andThen, inBlk, reduceCtorEq, ↓reduceIte, if_t, if_f]
   refine ⟨(X.take i).all fun v => Y.contains v, ?_, ?_⟩
   ·rw [List.take_of_length_le (by omega)]
   ·show Ghost _ _ (ceS X Y [(2, .p (.bool turn)), (10, .p (.bool ((X.take i).all fun v => Y.contains v)))])
    simp only [ceS]
    refine Ghost.sub ?_ ?_ <;> simp -implicitDefEqProofs only [go_sem, ↓reduceIte, Nat.reduceAdd, Nat.reduceMul, Nat.reduceEqDiff, Nat.reduceLeDiff, reduceCtorEq, Int.reduceToNat,  List.forall_mem_cons, List.not_mem_nil, false_implies, implies_true, and_self, labsIn_lift, List.all_append, List.all_cons, List.all_nil, Nat.reduceLT, labsInL, AV.labsIn]
    all_goals first | rfl | decide | skip
  have hc2 : ((i : Int) < (X.length : Int)) = True := eq_true (by omega)
  obtain ⟨x, hx⟩ : ∃ x, X[i]? = some x := ⟨_, List.getElem?_eq_getElem h1⟩
  have ⟨hm1, hm2, hm3⟩ := at_map' encNm hx
  have hm2' : (i : Int) < (X.length : Int) := by omega
  have w1 : IntKind.wrap .i64 ((i : Int) + 1) = ((i + 1 : Nat) : Int) := by rw [w64] <;> omega
  have nx := all_nextB (p := fun v => Y.contains v) hx
  refine AW.rT (by rfl) fun K hK => ?_
  simp -implicitDefEqProofs only [go_sem, ↓reduceIte, Nat.reduceAdd, Nat.reduceMul, Nat.reduceEqDiff, Nat.reduceLeDiff, reduceCtorEq, Int.reduceToNat, hc2, List.length_map]
  refine hK _ ?_; clear hK K
  refine AW.cond _ (by simp -implicitDefEqProofs only [go_sem, ↓reduceIte, Nat.reduceAdd, Nat.reduceMul, Nat.reduceEqDiff, Nat.reduceLeDiff, reduceCtorEq, Int.reduceToNat]; rfl) (fun hc => ?_) (fun hc => ?_)
  rotate_left
  ·simp at hc
  refine AW.skip ?_
  simp only [andThen, inBlk, reduceCtorEq, ↓reduceIte, if_t, if_f]
  refine AW.seq ?_
  refine AW.block ?_
  refine AW.rT (by rfl) fun K hK => ?_
  simp -implicitDefEqProofs only [go_sem, ↓reduceIte, Nat.reduceAdd, Nat.reduceMul, Nat.reduceEqDiff, Nat.reduceLeDiff, reduceCtorEq, Int.reduceToNat]
  refine hK _ ?_; clear hK K
  refine AW.cut (fun _ : Unit => ceS X Y [(2, .p (.bool turn)), (10, .p (.bool ((X.take i).all fun v => Y.contains v))), (11, .p (.int .i64 (i : Int))), (12, .p (.bool (Y.contains x)))]) (fun _ => True) ?_ fun _ _ => ?_
  ·refine AW.rT (by rfl) fun K hK => ?_
   simp -implicitDefEqProofs only [go_sem, ↓reduceIte, Nat.reduceAdd, Nat.reduceMul, Nat.reduceEqDiff, Nat.reduceLeDiff, reduceCtorEq, Int.reduceToNat]
   refine hK _ ?_; clear hK K
   refine AW.block ?_
   refine AW.loop (fun k : Nat => ceS X Y [(2, .p (.bool turn)), (10, .p (.bool ((X.take i).all fun v => Y.contains v))), (11, .p (.int .i64 (i : Int))), (12, .p (.bool ((Y.take k).any fun y => decide (x = y)))), (13, .p (.int .i64 (k : Int)))]) (fun k => k ≤ Y.length) (fun k => Y.length - k) 0 ?_ (by omega) fun k hk => ?_
   ·simp only [ceS]
    refine Ghost.sub ?_ ?_ <;> simp -implicitDefEqProofs only [go_sem, ↓reduceIte, Nat.reduceAdd, Nat.reduceMul, Nat.reduceEqDiff, Nat.reduceLeDiff, reduceCtorEq, Int.reduceToNat, List.take_zero, List.any_nil, List.forall_mem_cons, List.not_mem_nil, false_implies, implies_true, and_self, labsIn_lift, List.all_append, List.all_cons, List.all_nil, Nat.reduceLT, labsInL, AV.labsIn]
    all_goals first | rfl | decide | skip
   simp only [ceS]
   refine AW.seq ?_
   by_cases h2 : k < Y.length
   case neg =>
    have hc3 : ((k : Int) < (Y.length : Int)) = False := eq_false (by omega)
    refine AW.rT (by rfl) fun K hK => ?_
    simp -implicitDefEqProofs only [go_sem, ↓reduceIte, Nat.reduceAdd, Nat.reduceMul, Nat.reduceEqDiff, Nat.reduceLeDiff, reduceCtorEq, Int.reduceToNat, hc3, liftE_length, List.length_map]
    refine hK _ ?_; clear hK K
    refine AW.cond _ (by simp -implicitDefEqProofs only [go_sem, ↓reduceIte, Nat.reduceAdd, Nat.reduceMul, Nat.reduceEqDiff, Nat.reduceLeDiff, reduceCtorEq, Int.reduceToNat]; rfl) (fun hc => ?_) (fun hc => ?_)
    ·simp at hc
    refine AW.exit ?_
    simp only [andThen, inBlk, reduceCtorEq, ↓reduceIte, if_t, if_f]
    refine ⟨(), trivial, ?_⟩
    show Ghost _ _ (ceS X Y [(2, .p (.bool turn)), (10, .p (.bool ((X.take i).all fun v => Y.contains v))), (11, .p (.int .i64 (i : Int))), (12, .p (.bool (Y.contains x)))])
    rw [← any_cont, show Y.any (fun y => decide (x = y)) = (Y.take k).any (fun y => decide (x = y)) by rw [List.take_of_length_le (by omega)]]
    simp only [ceS]
    refine Ghost.sub ?_ ?_ <;> simp -implicitDefEqProofs only [go_sem, ↓reduceIte, Nat.reduceAdd, Nat.reduceMul, Nat.reduceEqDiff, Nat.reduceLeDiff, reduceCtorEq, Int.reduceToNat,  List.forall_mem_cons, List.not_mem_nil, false_implies, implies_true, and_self, labsIn_lift, List.all_append, List.all_cons, List.all_nil, Nat.reduceLT, labsInL, AV.labsIn]
    all_goals first | rfl | decide | skip
   have hc3 : ((k : Int) < (Y.length : Int)) = True := eq_true (by omega)
   obtain ⟨y, hy⟩ : ∃ y, Y[k]? = some y := ⟨_, List.getElem?_eq_getElem h2⟩
   have g1 := at_lift encNm hy
   have b0 : 0 ≤ (k : Int) := by omega
   have b1 : (k : Int) < (Y.length : Int) := by omega
   have w2 : IntKind.wrap .i64 ((k : Int) + 1) = ((k + 1 : Nat) : Int) := by rw [w64] <;> omega
   have nx2 := any_next (v := x) hy
   have E := eqP_nm x y
   simp only [encNm, List.map_cons, List.map_nil] at g1 E
   refine AW.rT (by rfl) fun K hK => ?_
   simp -implicitDefEqProofs only [go_sem, ↓reduceIte, Nat.reduceAdd, Nat.reduceMul, Nat.reduceEqDiff, Nat.reduceLeDiff, reduceCtorEq, Int.reduceToNat, hc3, liftE_length, List.length_map]
   refine hK _ ?_; clear hK K
   refine AW.cond _ (by simp -implicitDefEqProofs only [go_sem, ↓reduceIte, Nat.reduceAdd, Nat.reduceMul, Nat.reduceEqDiff, Nat.reduceLeDiff, reduceCtorEq, Int.reduceToNat]; rfl) (fun hc => ?_) (fun hc => ?_)
   rotate_left
   ·simp at hc
   refine AW.skip ?_
   simp only [andThen, inBlk, reduceCtorEq, ↓reduceIte, if_t, if_f]
   refine AW.seq ?_
   refine AW.block ?_
   cases hh : (Y.take k).any (fun y => decide (x = y)) with
   | true =>
    rw [hh, Bool.true_or] at nx2
    refine AW.dE mixed (by rfl) (by decide +kernel) fun K hK => ?_
    simp -implicitDefEqProofs only [go_sem, ↓reduceIte, Nat.reduceAdd, Nat.reduceMul, Nat.reduceEqDiff, Nat.reduceLeDiff, reduceCtorEq, Int.reduceToNat]
    refine ⟨heapOK_nil rfl, ?_⟩
    refine hK _ ?_; clear hK K
    simp only [andThen, inBlk, reduceCtorEq, ↓reduceIte, if_t, if_f]
    refine AW.rE (by rfl) fun K hK => ?_
    simp -implicitDefEqProofs only [go_sem, ↓reduceIte, Nat.reduceAdd, Nat.reduceMul, Nat.reduceEqDiff, Nat.reduceLeDiff, reduceCtorEq, Int.reduceToNat, w2]
    refine hK _ ?_; clear hK K
    refine ⟨k + 1, by omega, by omega, ?_⟩
    show Ghost _ _ (ceS X Y [(2, .p (.bool turn)), (10, .p (.bool ((X.take i).all fun v => Y.contains v))), (11, .p (.int .i64 (i : Int))), (12, .p (.bool ((Y.take (k + 1)).any fun y => decide (x = y)))), (13, .p (.int .i64 ((k + 1 : Nat) : Int)))])
    rw [nx2]
    simp only [ceS]
    refine Ghost.sub ?_ ?_ <;> simp -implicitDefEqProofs only [go_sem, ↓reduceIte, Nat.reduceAdd, Nat.reduceMul, Nat.reduceEqDiff, Nat.reduceLeDiff, reduceCtorEq, Int.reduceToNat,  List.forall_mem_cons, List.not_mem_nil, false_implies, implies_true, and_self, labsIn_lift, List.all_append, List.all_cons, List.all_nil, Nat.reduceLT, labsInL, AV.labsIn]
    all_goals first | rfl | decide | skip
   | false =>
    rw [hh, Bool.false_or] at nx2
    refine AW.dE mixed (by rfl) (by decide +kernel) fun K hK => ?_
    simp -implicitDefEqProofs only [go_sem, ↓reduceIte, Nat.reduceAdd, Nat.reduceMul, Nat.reduceEqDiff, Nat.reduceLeDiff, reduceCtorEq, Int.reduceToNat, g1, b0, b1, hm1, hm2, hm2', hm3, encNm, liftE_length, List.length_map]
    refine ⟨_, E, ?_⟩
    generalize decide (x = y) = e at *
    cases e
    all_goals
     try simp -implicitDefEqProofs only [go_sem, ↓reduceIte, Nat.reduceAdd, Nat.reduceMul, Nat.reduceEqDiff, Nat.reduceLeDiff, reduceCtorEq, Int.reduceToNat]
     refine ⟨heapOK_nil rfl, ?_⟩
     refine hK _ ?_; clear hK K
     simp only [andThen, inBlk, reduceCtorEq, ↓reduceIte, if_t, if_f]
     refine AW.rE (by rfl) fun K hK => ?_
     simp -implicitDefEqProofs only [go_sem, ↓reduceIte, Nat.reduceAdd, Nat.reduceMul, Nat.reduceEqDiff, Nat.reduceLeDiff, reduceCtorEq, Int.reduceToNat, w2]
     refine hK _ ?_; clear hK K
     refine ⟨k + 1, by omega, by omega, ?_⟩
     show Ghost _ _ (ceS X Y [(2, .p (.bool turn)), (10, .p (.bool ((X.take i).all fun v => Y.contains v))), (11, .p (.int .i64 (i : Int))), (12, .p (.bool ((Y.take (k + 1)).any fun y => decide (x = y)))), (13, .p (.int .i64 ((k + 1 : Nat) : Int)))])
     rw [nx2]
     simp only [ceS]
     refine Ghost.sub ?_ ?_ <;> simp -implicitDefEqProofs only [go_sem, ↓reduceIte, Nat.reduceAdd, Nat.reduceMul, Nat.reduceEqDiff, Nat.reduceLeDiff, reduceCtorEq, Int.reduceToNat,  List.forall_mem_cons, List.not_mem_nil, false_implies, implies_true, and_self, labsIn_lift, List.all_append, List.all_cons, List.all_nil, Nat.reduceLT, labsInL, AV.labsIn]
     all_goals first | rfl | decide | skip
  simp only [ceS]
  generalize Y.contains x = c at *
  cases hh : (X.take i).all (fun v => Y.contains v) <;> cases c
  all_goals
   rw [hh] at nx
   simp only [Bool.and_true, Bool.and_false, Bool.true_and, Bool.false_and] at nx
   refine AW.rE (by rfl) fun K hK => ?_
   simp -implicitDefEqProofs only [go_sem, ↓reduceIte, Nat.reduceAdd, Nat.reduceMul, Nat.reduceEqDiff, Nat.reduceLeDiff, reduceCtorEq, Int.reduceToNat]
   refine hK _ ?_; clear hK K
   simp only [andThen, inBlk, reduceCtorEq, ↓reduceIte, if_t, if_f]
   refine AW.rE (by rfl) fun K hK => ?_
   simp -implicitDefEqProofs only [go_sem, ↓reduceIte, Nat.reduceAdd, Nat.reduceMul, Nat.reduceEqDiff, Nat.reduceLeDiff, reduceCtorEq, Int.reduceToNat, w1]
   refine hK _ ?_; clear hK K
   refine ⟨i + 1, by omega, by omega, ?_⟩
   show Ghost _ _ (ceS X Y [(2, .p (.bool turn)), (10, .p (.bool ((X.take (i + 1)).all fun v => Y.contains v))), (11, .p (.int .i64 ((i + 1 : Nat) : Int)))])
   rw [nx]
   simp only [ceS]
   refine Ghost.sub ?_ ?_ <;> simp -implicitDefEqProofs only [go_sem, ↓reduceIte, Nat.reduceAdd, Nat.reduceMul, Nat.reduceEqDiff, Nat.reduceLeDiff, reduceCtorEq, Int.reduceToNat,  List.forall_mem_cons, List.not_mem_nil, false_implies, implies_true, and_self, labsIn_lift, List.all_append, List.all_cons, List.all_nil, Nat.reduceLT, labsInL, AV.labsIn]
   all_goals first | rfl | decide | skip
 have lt : turn = turn := rfl
 have kW : w = enW (enE zeroW a) (enE zeroW b) := by rw [hw]; unfold enW enE; simp only [hX, hY]
 simp only [ceS]
 refine AW.cut (fun x : List UInt8 × Bool => ceS X (enV x.1 b 10) [(10, .p (.bool x.2))]) (fun x => (x.1 = zeroW ∨ x.1 = noughtW) ∧ x.2 = enW (enE zeroW a) (enE x.1 b)) ?_ fun x hx => ?_
 ·refine AW.rT (by rfl) fun K hK => ?_
  simp -implicitDefEqProofs only [go_sem, ↓reduceIte, Nat.reduceAdd, Nat.reduceMul, Nat.reduceEqDiff, Nat.reduceLeDiff, reduceCtorEq, Int.reduceToNat]
  refine hK _ ?_; clear hK K
  cases turn with
  | false =>
   refine AW.cond _ (by simp -implicitDefEqProofs only [go_sem, ↓reduceIte, Nat.reduceAdd, Nat.reduceMul, Nat.reduceEqDiff, Nat.reduceLeDiff, reduceCtorEq, Int.reduceToNat]; rfl) (fun hc => ?_) (fun hc => ?_)
   ·simp at hc
   refine AW.skip ?_
   simp only [andThen, inBlk, reduceCtorEq, ↓reduceIte, if_t, if_f]
   refine ⟨(zeroW, w), ⟨.inl rfl, kW⟩, ?_⟩
   show Ghost _ _ (ceS X (enV zeroW b 10) [(10, .p (.bool w))])
   rw [hY]
   simp only [ceS]
   refine Ghost.sub ?_ ?_ <;> simp -implicitDefEqProofs only [go_sem, ↓reduceIte, Nat.reduceAdd, Nat.reduceMul, Nat.reduceEqDiff, Nat.reduceLeDiff, reduceCtorEq, Int.reduceToNat,  List.forall_mem_cons, List.not_mem_nil, false_implies, implies_true, and_self, labsIn_lift, List.all_append, List.all_cons, List.all_nil, Nat.reduceLT, labsInL, AV.labsIn]
   all_goals first | rfl | decide | skip
  | true =>
   refine AW.cond _ (by simp -implicitDefEqProofs only [go_sem, ↓reduceIte, Nat.reduceAdd, Nat.reduceMul, Nat.reduceEqDiff, Nat.reduceLeDiff, reduceCtorEq, Int.reduceToNat]; rfl) (fun hc => ?_) (fun hc => ?_)
   rotate_left
   ·simp at hc
   rw [← hY]
   simp only [enV, List.map_cons, encNm, liftE_cons, List.map_nil]
   refine AW.rT (by rfl) fun K hK => ?_
   simp -implicitDefEqProofs only [go_sem, ↓reduceIte, Nat.reduceAdd, Nat.reduceMul, Nat.reduceEqDiff, Nat.reduceLeDiff, reduceCtorEq, Int.reduceToNat]
   refine ⟨⟨by omega, by omega⟩, ?_⟩
   refine hK _ ?_; clear hK K
   refine AW.rE (by rfl) fun K hK => ?_
   simp -implicitDefEqProofs only [go_sem, ↓reduceIte, Nat.reduceAdd, Nat.reduceMul, Nat.reduceEqDiff, Nat.reduceLeDiff, reduceCtorEq, Int.reduceToNat]
   refine hK _ ?_; clear hK K
   simp only [andThen, inBlk, reduceCtorEq, ↓reduceIte, if_t, if_f]
   refine ⟨(noughtW, false), ⟨.inr rfl, (en_turn a b).symm⟩, ?_⟩
   show Ghost _ _ (ceS X (enV noughtW b 10) [(10, .p (.bool false))])
   simp only [ceS, enV, List.map_cons, encNm, liftE_cons, List.map_nil, noughtW]
   refine Ghost.sub ?_ ?_ <;> simp -implicitDefEqProofs only [go_sem, ↓reduceIte, Nat.reduceAdd, Nat.reduceMul, Nat.reduceEqDiff, Nat.reduceLeDiff, reduceCtorEq, Int.reduceToNat,  List.forall_mem_cons, List.not_mem_nil, false_implies, implies_true, and_self, labsIn_lift, List.all_append, List.all_cons, List.all_nil, Nat.reduceLT, labsInL, AV.labsIn]
   all_goals first | rfl | decide | skip
 obtain ⟨w', v⟩ := x
 obtain ⟨hx1, hx2⟩ := hx
 simp only at hx1 hx2
 have P1 := enums_47 (enE zeroW a)
 have P2 := enums_47 (enE w' b)
 have EV := compat_Evolves (enS (enE zeroW a)) (enS (enE w' b)) (enS_lens (.inl rfl) a) (enS_lens hx1 b)
 rw [en_evo (en_fit (.inl rfl) a) (en_fit hx1 b) rfl rfl, ← hx2] at EV
 simp only [encSc, enE, encEn, hX] at P1 P2 EV
 generalize enV w' b 10 = Y' at *
 refine AW.rT (by rfl) fun K hK => ?_
 simp -implicitDefEqProofs only [go_sem, ↓reduceIte, Nat.reduceAdd, Nat.reduceMul, Nat.reduceEqDiff, Nat.reduceLeDiff, reduceCtorEq, Int.reduceToNat]
 refine hK _ ?_; clear hK K
 refine AW.ghost (s' := ceZ X Y' [(10, .p (.bool v)), (14, .fn 47 [])]) ?_ ?_
 ·refine Ghost.trans (Ghost.freeze (lb := 2) (ps := Y'.map encNm) rfl (unlift_liftE _)) ?_
  simp only [ceS, ceZ]
  refine Ghost.sub ?_ ?_ <;> simp -implicitDefEqProofs only [go_sem, ↓reduceIte, Nat.reduceAdd, Nat.reduceMul, Nat.reduceEqDiff, Nat.reduceLeDiff, reduceCtorEq, Int.reduceToNat, thaw, thaw1, Option.map_some, List.map_cons, List.map_nil, List.forall_mem_cons, List.not_mem_nil, false_implies, implies_true, and_self, labsIn_lift, List.all_append, List.all_cons, List.all_nil, Nat.reduceLT, labsInL, AV.labsIn]
  all_goals first | rfl | decide | skip
 simp only [ceZ]
 cases v
 all_goals
  simp only [if_true, if_false, Bool.false_eq_true] at EV
  refine AW.dT mixed (by rfl) (by decide +kernel) fun K hK => ?_
  simp -implicitDefEqProofs only [go_sem, ↓reduceIte, Nat.reduceAdd, Nat.reduceMul, Nat.reduceEqDiff, Nat.reduceLeDiff, reduceCtorEq, Int.reduceToNat]
  refine ⟨.pure _, P1, ?_⟩
  try simp -implicitDefEqProofs only [go_sem, ↓reduceIte, Nat.reduceAdd, Nat.reduceMul, Nat.reduceEqDiff, Nat.reduceLeDiff, reduceCtorEq, Int.reduceToNat]
  refine ⟨.pure _, P2, ?_⟩
  try simp -implicitDefEqProofs only [go_sem, ↓reduceIte, Nat.reduceAdd, Nat.reduceMul, Nat.reduceEqDiff, Nat.reduceLeDiff, reduceCtorEq, Int.reduceToNat]
  refine ⟨.pure _, EV, ?_⟩
  try simp -implicitDefEqProofs only [go_sem, ↓reduceIte, Nat.reduceAdd, Nat.reduceMul, Nat.reduceEqDiff, Nat.reduceLeDiff, reduceCtorEq, Int.reduceToNat]
  refine ⟨by decide +kernel, ?_⟩
  refine hK _ ?_; clear hK K
  refine AW.rT (by rfl) fun K hK => ?_
  simp -implicitDefEqProofs only [go_sem, ↓reduceIte, Nat.reduceAdd, Nat.reduceMul, Nat.reduceEqDiff, Nat.reduceLeDiff, reduceCtorEq, Int.reduceToNat]
  refine ⟨_, eqP_bool _ _, ?_⟩
  try simp -implicitDefEqProofs only [go_sem, ↓reduceIte, Nat.reduceAdd, Nat.reduceMul, Nat.reduceEqDiff, Nat.reduceLeDiff, reduceCtorEq, Int.reduceToNat, beq_self_eq_true]
  refine ⟨.pure _, law14_awake, ?_⟩
  try simp -implicitDefEqProofs only [go_sem, ↓reduceIte, Nat.reduceAdd, Nat.reduceMul, Nat.reduceEqDiff, Nat.reduceLeDiff, reduceCtorEq, Int.reduceToNat]
  refine hK _ ?_; clear hK K
  refine AW.ret ?_
  simp -implicitDefEqProofs only [go_sem, ↓reduceIte, Nat.reduceAdd, Nat.reduceMul, Nat.reduceEqDiff, Nat.reduceLeDiff, reduceCtorEq, Int.reduceToNat]
theorem okI_range {p : Int} (hp : okI p) : -9223372036854775808 ≤ p ∧ p ≤ 9223372036854775807 := by
 have e1 : IntKind.i64.min = -9223372036854775808 := by decide
 have e2 : IntKind.i64.max = 9223372036854775807 := by decide
 simpa [okI, Lit.wf, e1, e2] using hp
end Go.Aw
