/- Two messages one behind the other: their bytes. -/
import Derived.Test.YtmeplhcfjihafaaAwE3
namespace Go.Aw
open Go.Proofs Go.RowKit
set_option linter.unusedSimpArgs false
set_option linter.unusedVariables false
theorem fldE_app : ∀ (a b : List (Int × List Tr)), (fldE a).2 = 0 → (fldE b).2 = 0 → fldE (a ++ b) = ((fldE a).1 ++ (fldE b).1, 0)
  | [], b, _, hb => by
    rw [List.nil_append]
    show fldE b = ((fldE b).1, 0)
    rw [← hb]
  | (g, l) :: a, b, ha, hb => by
    rw [fldE] at ha
    split at ha
    · rename_i h; exact absurd ha h
    · rename_i h
      split at ha
      · rename_i h2; exact absurd ha h2
      · rename_i h2
        have ih := fldE_app a b (by simpa using h2) hb
        rw [List.cons_append, fldE, if_neg h, ih, if_neg (by simp), fldE, if_neg h, if_neg h2]
        simp
theorem dTs_max : ∀ (l : List Tr) (m d : Nat), dTs l m d = max d (dTs l m 0)
  | [], m, d => by simp [dTs]
  | x :: l, m, d => by
    rw [dTs, dTs, dTs_max l m (max d (dT x m)), dTs_max l m (max 0 (dT x m))]
    omega
theorem dE_max : ∀ (l : List (Int × List Tr)) (m d : Nat), dE l m d = max d (dE l m 0)
  | [], m, d => by simp [dE]
  | (g, x) :: l, m, d => by
    rw [dE, dE, dE_max l m (dTs x m d), dE_max l m (dTs x m 0), dTs_max x m d]
    omega
theorem dE_app : ∀ (a b : List (Int × List Tr)) (m d : Nat), dE (a ++ b) m d = dE b m (dE a m d)
  | [], b, m, d => rfl
  | (g, l) :: a, b, m, d => by rw [List.cons_append, dE, dE, dE_app a b]
theorem rightE_low : ∀ (b : List (Int × List Tr)) (L : Int), rightE b 0 = true → (∀ e ∈ b, L < e.1) → rightE b L = true
  | [], L, _, _ => rfl
  | (g, l) :: b, L, h, hb => by
    have hg : L < g := hb (g, l) List.mem_cons_self
    rw [rightE] at h ⊢
    split at h
    · cases h
    · rename_i h1
      rw [if_neg (by omega)]
      exact h
theorem rightE_app : ∀ (a b : List (Int × List Tr)) (L : Int), rightE a L = true → rightE b 0 = true → (∀ e ∈ a, e.1 < 200) → (∀ e ∈ b, 200 ≤ e.1) → L < 200 → rightE (a ++ b) L = true
  | [], b, L, _, hb, _, h2, hL => rightE_low b L hb fun e he => by have := h2 e he; omega
  | (g, l) :: a, b, L, ha, hb, h1, h2, hL => by
    rw [rightE] at ha
    rw [List.cons_append, rightE]
    split at ha
    · cases ha
    · rename_i q
      rw [if_neg q]
      split at ha
      · rename_i q2
        rw [if_pos q2]
        exact rightE_app a b g ha hb (fun e he => h1 e (List.mem_cons_of_mem _ he)) h2 (h1 (g, l) List.mem_cons_self)
      · cases ha
theorem sort_app {a b : List Raw} (h : ∀ x ∈ a, ∀ y ∈ b, x.tag ≤ y.tag) : sortL [] (a ++ b) = sortL [] a ++ sortL [] b := by
  refine pair_unique (sort_pair _) (List.pairwise_append.2 ⟨sort_pair a, sort_pair b, fun x hx y hy => h x (mem_sort hx) y (mem_sort hy)⟩) fun t => ?_
  rw [List.filter_append, sortL_filter, sortL_filter, sortL_filter]
  simp
theorem bytes_of {t : Tr} (hr : t.rest = []) (h : (bytesT t).2 = 0) : (fldE t.ents).2 = 0 ∧ bytesT t = wirePut (sortL [] (fldE t.ents).1) := by
  have e : rawsT t = if (fldE t.ents).2 ≠ 0 then ([], (fldE t.ents).2) else (sortL [] (fldE t.ents).1, 0) := by unfold rawsT; rw [hr, List.nil_append]
  by_cases q : (fldE t.ents).2 = 0
  · rw [if_neg (by simpa using q)] at e
    refine ⟨q, ?_⟩
    unfold bytesT
    rw [e]
    simp
  · rw [if_pos q] at e
    unfold bytesT at h
    rw [e, if_pos q] at h
    exact absurd h q
def bothT (A U : Tr) : Tr := .mk A.kind A.n A.s (A.ents ++ U.ents) A.rest
theorem joins {A U : Tr} (kA : A.kind = 3) (kU : U.kind = 3) (rA : A.rest = []) (rU : U.rest = []) (hA : (encA A).2 = 0) (hU : (encA U).2 = 0) (h1 : ∀ e ∈ A.ents, e.1 < 200) (h2 : ∀ e ∈ U.ents, 200 ≤ e.1)
    (hl : (encA A).1.length + (encA U).1.length ≤ 4096) : encA (bothT A U) = ((encA A).1 ++ (encA U).1, 0) ∧ dT A 101 ≤ dT (bothT A U) 101 := by
  have okA : okT A = true := by
    unfold encA at hA
    split at hA
    · rename_i h; exact h.1
    · cases hA
  have okU : okT U = true := by
    unfold encA at hU
    split at hU
    · rename_i h; exact h.1
    · cases hU
  have eA : encA A = bytesT A := by unfold encA; rw [if_pos ⟨okA, kA⟩]
  have eU : encA U = bytesT U := by unfold encA; rw [if_pos ⟨okU, kU⟩]
  rw [eA] at hA hl ⊢
  rw [eU] at hU hl ⊢
  have fA := bytes_of rA hA
  have fU := bytes_of rU hU
  rw [fA.2] at hA hl ⊢
  rw [fU.2] at hU hl ⊢
  have app := fldE_app A.ents U.ents fA.1 fU.1
  have srt : sortL [] ((fldE A.ents).1 ++ (fldE U.ents).1) = sortL [] (fldE A.ents).1 ++ sortL [] (fldE U.ents).1 := sort_app fun x hx y hy => by
    obtain ⟨e, he, q⟩ := fldE_tags x hx
    obtain ⟨f, hf, q'⟩ := fldE_tags y hy
    have := h1 e he
    have := h2 f hf
    omega
  have wput : ∀ {a b : List Raw}, (wirePut a).2 = 0 → (wirePut b).2 = 0 → (wirePut a).1.length + (wirePut b).1.length ≤ 4096 → wirePut (a ++ b) = ((wirePut a).1 ++ (wirePut b).1, 0) := by
    intro a b ha hb hab
    have wo : ∀ {l : List Raw}, (wirePut l).2 = 0 → l.all checkR = true ∧ (wirePut l).1 = flatR l := by
      intro l h
      unfold wirePut at h ⊢
      split at h
      · rename_i q
        rw [if_pos q]
        split at h
        · rename_i q2; rw [if_pos q2]; exact ⟨q, rfl⟩
        · cases h
      · cases h
    obtain ⟨a1, a2⟩ := wo ha
    obtain ⟨b1, b2⟩ := wo hb
    rw [a2, b2] at hab ⊢
    have fl : flatR (a ++ b) = flatR a ++ flatR b := by unfold flatR; simp
    unfold wirePut
    rw [List.all_append, a1, b1, fl, List.length_append, if_pos (show (true && true) = true from rfl), if_pos hab]
  have dA : dT A 101 = dE A.ents 100 0 + 1 := by
    cases A
    rw [dT, if_neg (by intro h; rcases h with h | h; exact h kA; omega)]
    rfl
  have dU : dT U 101 = dE U.ents 100 0 + 1 := by
    cases U
    rw [dT, if_neg (by intro h; rcases h with h | h; exact h kU; omega)]
    rfl
  have dB : dT (bothT A U) 101 = max (dE A.ents 100 0) (dE U.ents 100 0) + 1 := by
    unfold bothT
    rw [dT, if_neg (by intro h; rcases h with h | h; exact h kA; omega), dE_app, dE_max U.ents]
  have okB : okT (bothT A U) = true := by
    unfold okT at okA okU ⊢
    rw [Bool.and_eq_true, decide_eq_true_eq] at okA okU ⊢
    refine ⟨by omega, ?_⟩
    have ra := okA.2
    have ru := okU.2
    rw [rightT_mk, if_neg (by omega), if_neg (by omega), if_pos kA] at ra
    rw [rightT_mk, if_neg (by omega), if_neg (by omega), if_pos kU] at ru
    simp only [Bool.and_eq_true] at ra ru
    rw [rightT_mk]
    show (if A.kind = 1 then _ else if A.kind = 2 then _ else if A.kind = 3 then decide (A.n = 0) && decide (A.s = []) && rightE (A.ents ++ U.ents) 0 && restT (A.ents ++ U.ents) A.rest else false) = true
    rw [if_neg (by omega), if_neg (by omega), if_pos kA, rA, rightE_app A.ents U.ents 0 ra.1.2 ru.1.2 h1 h2 (by decide), ra.1.1.1, ra.1.1.2]
    simp [restT]
    rfl
  refine ⟨?_, by omega⟩
  unfold encA
  rw [if_pos ⟨okB, kA⟩]
  unfold bytesT rawsT
  have eB : (bothT A U).ents = A.ents ++ U.ents := rfl
  have rB : (bothT A U).rest = [] := rA
  rw [eB, rB, app]
  simp only [ne_eq, not_true_eq_false, if_false, List.nil_append]
  rw [srt]
  exact wput hA hU hl
end Go.Aw
