/- A right schema, one field of it spoilt. -/
import Derived.Test.YtmeplhcfjihafaaDoorAwP1
namespace Go.Aw
open Go.Proofs Go.RowKit
set_option linter.unusedSimpArgs false
set_option linter.unusedVariables false
def nobody : List UInt8 := [110, 111, 98, 111, 100, 121, 95, 97, 116, 95, 97, 108, 108]
def spF (f : Fd) (k : Nat) : Fd := if k = 0 then { f with name := [114, 101, 116, 117, 114, 110, 115] } else if k = 1 then { f with tag := 0 } else if k = 2 then { f with ty := ⟨7, nobody⟩ } else if k = 3 then { f with tag := 501 } else { f with label := 4 }
def spC (k : Nat) : Int := if k = 0 then 6 else if k = 1 then 7 else if k = 2 then 8 else if k = 3 then 7 else 8
def spM (m : Ms) (b : Nat) (f : Fd) : Ms := { m with fields := m.fields.set b f }
def spS (S : Sc) (a : Nat) (m : Ms) : Sc := { S with msgs := S.msgs.set a m }
theorem any_set {α : Type} {p : α → Bool} {l : List α} {a : Nat} {x y : α} (h : l[a]? = some x) (e : p y = p x) : (l.set a y).any p = l.any p := by
  have hl : a < l.length := (List.getElem?_eq_some_iff.1 h).1
  rw [Bool.eq_iff_iff, List.any_eq_true, List.any_eq_true]
  constructor
  · rintro ⟨z, hz, q⟩
    rcases List.mem_or_eq_of_mem_set hz with hz | rfl
    · exact ⟨z, hz, q⟩
    · exact ⟨x, List.mem_of_getElem? h, by rw [← e]; exact q⟩
  · rintro ⟨z, hz, q⟩
    obtain ⟨i, hi⟩ := List.getElem?_of_mem hz
    by_cases hia : a = i
    · subst hia
      rw [h] at hi; injection hi with hi; subst hi
      exact ⟨y, List.mem_of_getElem? (i := a) (by rw [List.getElem?_set_self hl]), by rw [e]; exact q⟩
    · exact ⟨z, List.mem_of_getElem? (i := i) (by rw [List.getElem?_set_ne hia]; exact hi), q⟩
theorem sp_has {S : Sc} {a : Nat} {m m' : Ms} (h : S.msgs[a]? = some m) (e : m'.name = m.name) (k : List UInt8) : hasM (spS S a m') k = hasM S k := by
  unfold hasM spS
  rw [found_any, found_any]
  exact any_set h (by rw [e])
theorem sp_kind {S : Sc} {a : Nat} {m m' : Ms} (h : S.msgs[a]? = some m) (e : m'.name = m.name) (y : Ty) : kindB (spS S a m') y = kindB S y := by
  have h1 : (S.msgs.set a m').any (fun x => x.name == y.name) = S.msgs.any (fun x => x.name == y.name) := any_set h (by rw [e])
  unfold kindB spS
  simp only [found_any, h1]
theorem fldsC_eq {S U : Sc} (h : ∀ y, kindB U y = kindB S y) : ∀ (l : List Fd) (ns : List (List UInt8)) (us : List Int), fldsC U ns us l = fldsC S ns us l
  | [], ns, us => rfl
  | f :: l, ns, us => by
    rw [fldsC, fldsC]
    have : fieldB U f = fieldB S f := by unfold fieldB; rw [h]
    rw [this, fldsC_eq h l]
theorem fldsC_stop {S : Sc} : ∀ {l : List Fd} {ns : List (List UInt8)} {us : List Int} {b : Nat} {f : Fd} {c : Int}, l[b]? = some f →
    (∀ (i : Nat) g, i < b → l[i]? = some g → takesB (ns ++ (l.take i).map Fd.name) g.name = true ∧ tagB g.tag = true ∧ (us ++ (l.take i).map Fd.tag).contains g.tag = false ∧ fieldB S g = true) →
    fldsC S (ns ++ (l.take b).map Fd.name) (us ++ (l.take b).map Fd.tag) (f :: l.drop (b + 1)) = c → fldsC S ns us l = c
  | [], ns, us, b, f, c, h, _, _ => by simp at h
  | a :: l, ns, us, 0, f, c, h, _, h2 => by
    simp at h
    subst h
    simpa using h2
  | a :: l, ns, us, b + 1, f, c, h, h1, h2 => by
    obtain ⟨q1, q2, q3, q4⟩ := h1 0 a (by omega) rfl
    rw [fldsC, if_pos (by simpa using q1), if_pos (by rw [q2]; simpa using q3), if_pos q4]
    refine fldsC_stop (l := l) (b := b) (f := f) (by simpa using h) (fun i g hi hg => ?_) ?_
    · have := h1 (i + 1) g (by omega) (by simpa using hg)
      simpa [List.append_assoc] using this
    · simpa [List.append_assoc] using h2
theorem msgsC_stop {S : Sc} {K : List (List UInt8) → Int} : ∀ {l : List Ms} {ns : List (List UInt8)} {a : Nat} {m : Ms} {c : Int}, l[a]? = some m →
    (∀ (i : Nat) g, i < a → l[i]? = some g → msgC S (ns ++ (l.take i).map Ms.name) g = 0) → msgC S (ns ++ (l.take a).map Ms.name) m = c → c ≠ 0 → msgsC S K ns l = c
  | [], ns, a, m, c, h, _, _, _ => by simp at h
  | x :: l, ns, 0, m, c, h, _, h2, h3 => by
    simp at h
    subst h
    have h2' : msgC S ns x = c := by simpa using h2
    rw [msgsC, h2', if_neg h3]
  | x :: l, ns, a + 1, m, c, h, h1, h2, h3 => by
    have q := h1 0 x (by omega) rfl
    rw [msgsC, if_pos (by simpa using q)]
    exact msgsC_stop (l := l) (a := a) (m := m) (by simpa using h) (fun i g hi hg => by have := h1 (i + 1) g (by omega) (by simpa using hg); simpa [List.append_assoc] using this) (by simpa [List.append_assoc] using h2) h3
theorem returns_no : nameB [114, 101, 116, 117, 114, 110, 115] = false := by decide +kernel
theorem spoilt {S : Sc} {a b k : Nat} {m : Ms} {f : Fd} (FT : FitS S) (hm : S.msgs[a]? = some m) (hf : m.fields[b]? = some f) (hn : k = 2 → hasM S nobody = false) : checkC (spS S a (spM m b (spF f k))) = spC k := by
  have hz := check_fit.2 FT
  have R := right_of hz
  have nd := FT.nd
  unfold namesS at nd
  have nd1 := (List.nodup_append.1 nd).1
  have a1 := (takes_all (f := Ms.name) (l := S.msgs) (ns := []) List.nodup_nil).2 ⟨FT.mn, by simpa using nd1⟩
  have mm := List.mem_of_getElem? hm
  have hb := FT.body m mm
  have hal : a < S.msgs.length := (List.getElem?_eq_some_iff.1 hm).1
  have hbl : b < m.fields.length := (List.getElem?_eq_some_iff.1 hf).1
  generalize hm' : spM m b (spF f k) = m'
  have en : m'.name = m.name := by rw [← hm']; rfl
  have kd := fun y => sp_kind (S := S) (a := a) (m' := m') hm en y
  have fz : (m.fields.length ≤ 16 ∧ m.res.length ≤ 32) ∧ resBad [] m.res = false ∧ fldsC S [] m.res m.fields = 0 := by
    unfold bodyC at hb
    split at hb
    · cases hb
    rename_i q1
    split at hb
    · cases hb
    · rename_i q2
      exact ⟨by omega, by simpa using q2, hb⟩
  obtain ⟨⟨l1, l2⟩, l3, l4⟩ := fz
  have F4 := fldsC_zero l4
  obtain ⟨z1, z2, z3, z4⟩ := F4 b f hf
  rw [List.nil_append] at z1
  have body : bodyC (spS S a m') m' = spC k := by
    unfold bodyC
    have e1 : m'.fields = m.fields.set b (spF f k) := by rw [← hm']; rfl
    have e2 : m'.res = m.res := by rw [← hm']; rfl
    rw [e1, e2, List.length_set, if_neg (by omega), if_neg (by rw [l3]; simp), fldsC_eq kd]
    refine fldsC_stop (b := b) (f := spF f k) (by rw [List.getElem?_set_self hbl]) (fun i g hi hg => ?_) ?_
    · rw [List.getElem?_set_ne (by omega)] at hg
      have := F4 i g hg
      rw [List.take_set_of_le (by omega)]
      exact this
    · rw [List.take_set_of_le (Nat.le_refl b), List.nil_append, fldsC]
      unfold spF spC
      by_cases k0 : k = 0
      · rw [if_pos k0, if_pos k0]
        have : takesB ((m.fields.take b).map Fd.name) [114, 101, 116, 117, 114, 110, 115] = false := by unfold takesB; rw [returns_no]; rfl
        dsimp only
        rw [this, if_neg (by simp)]
      rw [if_neg k0, if_neg k0]
      by_cases k1 : k = 1
      · rw [if_pos k1, if_pos k1]
        dsimp only
        have : tagB 0 = false := by decide
        rw [if_pos z1, this, Bool.false_and, if_neg (by simp)]
      rw [if_neg k1, if_neg k1]
      by_cases k2 : k = 2
      · rw [if_pos k2, if_pos k2]
        dsimp only
        have hk : fieldB S ⟨f.name, f.tag, f.label, ⟨7, nobody⟩⟩ = false := by
          have q := hn k2
          unfold hasM at q
          unfold fieldB kindB
          dsimp only
          rw [if_neg (by decide), if_pos rfl, q, Bool.and_false]
        rw [if_pos z1, if_pos (by rw [z2]; simpa using z3), hk, if_neg (by simp)]
      rw [if_neg k2, if_neg k2]
      by_cases k3 : k = 3
      · rw [if_pos k3, if_pos k3]
        dsimp only
        have : tagB 501 = false := by decide
        rw [if_pos z1, this, Bool.false_and, if_neg (by simp)]
      rw [if_neg k3, if_neg k3]
      dsimp only
      have hk : fieldB S ⟨f.name, f.tag, 4, f.ty⟩ = false := by
        unfold fieldB
        have : labelB 4 = false := by decide
        rw [this]; rfl
      rw [if_pos z1, if_pos (by rw [z2]; simpa using z3), hk, if_neg (by simp)]
  have hc : spC k ≠ 0 := by unfold spC; (repeat' split) <;> decide
  have hp : partsC (spS S a m') = spC k := by
    have e3 : (spS S a m').msgs = S.msgs.set a m' := rfl
    unfold partsC
    rw [e3]
    refine msgsC_stop (a := a) (m := m') (by rw [List.getElem?_set_self hal]) (fun i g hi hg => ?_) ?_ hc
    · rw [List.getElem?_set_ne (by omega)] at hg
      rw [List.take_set_of_le (by omega)]
      refine msgC_zero.2 ⟨a1 i g hg, ?_⟩
      have := FT.body g (List.mem_of_getElem? hg)
      unfold bodyC at this ⊢
      rw [fldsC_eq kd]
      exact this
    · rw [List.take_set_of_le (Nat.le_refl a)]
      unfold msgC
      rw [en, if_pos (by have := a1 a m hm; simpa using this), body]
  have hl := FT.lens
  have e4 : (spS S a m').msgs.length = S.msgs.length := List.length_set
  have e5 : nameB (spS S a m').name = true := FT.name
  unfold checkC
  rw [if_pos e5, e4, if_neg hl.1, if_neg (show ¬ (S.msgs.length > 10 ∨ (spS S a m').enums.length > 6 ∨ (spS S a m').meths.length > 6) from fun h => by have e6 : (spS S a m').enums.length = S.enums.length := rfl; have e7 : (spS S a m').meths.length = S.meths.length := rfl; omega), hp, if_neg hc]
end Go.Aw
