/- Lists turned and reversed, piece by piece. -/
import Derived.Test.YtmeplhcfjihafaaDoorAwP1
namespace Go.Aw
set_option linter.unusedSimpArgs false
set_option linter.unusedVariables false
variable {α : Type}
/-- A list of which the first i entries have been laid c places on (round the end). -/
def rotI (l : List α) (c i : Nat) : List α := (List.range l.length).filterMap fun k => if (k + l.length - c) % l.length < i then l[(k + l.length - c) % l.length]? else l[k]?
theorem filterMap_some {β : Type} {f : Nat → Option β} {g : Nat → β} : ∀ (n : Nat), (∀ k, k < n → f k = some (g k)) → (List.range n).filterMap f = (List.range n).map g
  | 0, _ => rfl
  | n + 1, h => by
    rw [List.range_succ, List.filterMap_append, List.map_append, filterMap_some n fun k hk => h k (by omega)]
    simp [h n (by omega)]
theorem rotI_get {l : List α} {c i : Nat} (hc : c < l.length) (k : Nat) : (rotI l c i)[k]? = if k < l.length then (if (k + l.length - c) % l.length < i then l[(k + l.length - c) % l.length]? else l[k]?) else none := by
  have hn : 0 < l.length := by omega
  have hne : l ≠ [] := by intro e; rw [e] at hn; simp at hn
  obtain ⟨x0, hx0⟩ : ∃ x, l[0]? = some x := ⟨_, List.getElem?_eq_getElem hn⟩
  unfold rotI
  rw [filterMap_some (g := fun k => if (k + l.length - c) % l.length < i then l.getD ((k + l.length - c) % l.length) x0 else l.getD k x0) l.length ?_]
  · rw [List.getElem?_map]
    by_cases hk : k < l.length
    · rw [List.getElem?_range hk, if_pos hk]
      have h1 : (k + l.length - c) % l.length < l.length := Nat.mod_lt _ hn
      simp only [Option.map_some]
      split
      · simp [List.getD, List.getElem?_eq_getElem h1]
      · simp [List.getD, List.getElem?_eq_getElem hk]
    · rw [List.getElem?_eq_none (by simpa using hk), if_neg hk]; rfl
  · intro k hk
    have h1 : (k + l.length - c) % l.length < l.length := Nat.mod_lt _ hn
    split
    · simp [List.getD, List.getElem?_eq_getElem h1]
    · simp [List.getD, List.getElem?_eq_getElem hk]
theorem rotI_len {l : List α} {c i : Nat} (hc : c < l.length) : (rotI l c i).length = l.length := by
  have h := fun k => rotI_get (i := i) hc k
  rcases Nat.lt_trichotomy (rotI l c i).length l.length with q | q | q
  · have := h (rotI l c i).length
    rw [List.getElem?_eq_none (Nat.le_refl _), if_pos q] at this
    have h1 : ((rotI l c i).length + l.length - c) % l.length < l.length := Nat.mod_lt _ (by omega)
    split at this
    · rw [List.getElem?_eq_getElem h1] at this; cases this
    · rw [List.getElem?_eq_getElem q] at this; cases this
  · exact q
  · have := h l.length
    rw [List.getElem?_eq_getElem q, if_neg (by omega)] at this; cases this
theorem rotI_zero {l : List α} {c : Nat} (hc : c < l.length) : rotI l c 0 = l := by
  apply List.ext_getElem?
  intro k
  rw [rotI_get hc]
  by_cases hk : k < l.length
  · rw [if_pos hk, if_neg (by omega)]
  · rw [if_neg hk, List.getElem?_eq_none (by omega)]
theorem mod_back {n c k : Nat} (hc : c < n) (hk : k < n) : (k + n - c) % n = if k < c then k + n - c else k - c := by
  split
  · exact Nat.mod_eq_of_lt (by omega)
  · rw [show k + n - c = (k - c) + n by omega, Nat.add_mod_right]
    exact Nat.mod_eq_of_lt (by omega)
theorem mod_on {n c i : Nat} (hc : c < n) (hi : i < n) : (i + c) % n = if i + c < n then i + c else i + c - n := by
  split
  · rename_i h; exact Nat.mod_eq_of_lt h
  · rw [Nat.mod_eq_sub_mod (by omega)]
    exact Nat.mod_eq_of_lt (by omega)
theorem rotI_set {l : List α} {c i : Nat} {x : α} (hc : c < l.length) (hx : l[i]? = some x) : (rotI l c i).set ((i + c) % l.length) x = rotI l c (i + 1) := by
  have hi : i < l.length := (List.getElem?_eq_some_iff.1 hx).1
  apply List.ext_getElem?
  intro k
  rw [List.getElem?_set, rotI_get hc, rotI_get hc, rotI_len hc, mod_on hc hi]
  by_cases hk : k < l.length
  · rw [if_pos hk, if_pos hk, mod_back hc hk]
    by_cases h1 : i + c < l.length
    · rw [if_pos h1]
      by_cases h2 : i + c = k
      · subst h2
        have e : (if i + c < c then i + c + l.length - c else i + c - c) = i := by rw [if_neg (by omega)]; omega
        rw [if_pos rfl, if_pos (by omega), e, if_pos (by omega), hx]
      · rw [if_neg h2]
        by_cases h3 : k < c
        · rw [if_pos h3]
          by_cases h4 : k + l.length - c < i
          · rw [if_pos h4, if_pos (by omega)]
          · rw [if_neg h4, if_neg (by omega)]
        · rw [if_neg h3]
          by_cases h4 : k - c < i
          · rw [if_pos h4, if_pos (by omega)]
          · rw [if_neg h4, if_neg (by omega)]
    · rw [if_neg h1]
      by_cases h2 : i + c - l.length = k
      · subst h2
        have e : (if i + c - l.length < c then i + c - l.length + l.length - c else i + c - l.length - c) = i := by rw [if_pos (by omega)]; omega
        rw [if_pos rfl, if_pos (by omega), e, if_pos (by omega), hx]
      · rw [if_neg h2]
        by_cases h3 : k < c
        · rw [if_pos h3]
          by_cases h4 : k + l.length - c < i
          · rw [if_pos h4, if_pos (by omega)]
          · rw [if_neg h4, if_neg (by omega)]
        · rw [if_neg h3]
          by_cases h4 : k - c < i
          · rw [if_pos h4, if_pos (by omega)]
          · rw [if_neg h4, if_neg (by omega)]
  · rw [if_neg hk, if_neg hk]
    rw [if_neg (by split <;> omega)]
theorem rotI_end {l : List α} {c : Nat} (hc : c < l.length) : rotI l c l.length = l.drop (l.length - c) ++ l.take (l.length - c) := by
  apply List.ext_getElem?
  intro k
  rw [rotI_get hc, List.getElem?_append, List.length_drop, List.getElem?_drop, List.getElem?_take]
  by_cases hk : k < l.length
  · rw [if_pos hk, if_pos (Nat.mod_lt _ (by omega)), mod_back hc hk]
    by_cases h : k < c
    · rw [if_pos h, if_pos (by omega)]
      congr 1; omega
    · rw [if_neg h, if_neg (by omega), if_pos (by omega)]
      congr 1; omega
  · rw [if_neg hk, if_neg (by omega), if_neg (by omega)]
theorem rotI_perm {l : List α} {c : Nat} (hc : c < l.length) : (rotI l c l.length).Perm l := by
  rw [rotI_end hc]
  refine List.perm_append_comm.trans ?_
  rw [List.take_append_drop]
/-- A list of which the first i entries have been laid from the end on. -/
def revI (l : List α) (i : Nat) : List α := l.take (l.length - i) ++ (l.take i).reverse
theorem revI_zero (l : List α) : revI l 0 = l := by simp [revI]
theorem revI_len {l : List α} {i : Nat} (hi : i ≤ l.length) : (revI l i).length = l.length := by
  simp [revI]; omega
theorem revI_set {l : List α} {i : Nat} {x : α} (hx : l[i]? = some x) : (revI l i).set (l.length - 1 - i) x = revI l (i + 1) := by
  have hi : i < l.length := (List.getElem?_eq_some_iff.1 hx).1
  unfold revI
  rw [List.take_add_one, hx, List.set_append_left _ _ (by rw [List.length_take]; omega)]
  simp only [Option.toList_some, List.reverse_append, List.reverse_cons, List.reverse_nil, List.nil_append, List.singleton_append]
  have e : (l.take (l.length - i)).set (l.length - 1 - i) x = l.take (l.length - (i + 1)) ++ [x] := by
    apply List.ext_getElem?
    intro k
    rw [List.getElem?_set, List.getElem?_append, List.length_take, List.length_take, List.getElem?_take, List.getElem?_take, List.getElem?_singleton]
    by_cases h1 : l.length - 1 - i = k
    · subst h1
      rw [if_pos rfl, if_pos (by omega), if_neg (by omega), if_pos (by omega)]
    · rw [if_neg h1]
      by_cases h2 : k < l.length - (i + 1)
      · rw [if_pos (by omega), if_pos (by omega), if_pos h2]
      · rw [if_neg (by omega), if_neg (by omega), if_neg (by omega)]
  rw [e, List.append_assoc]
  rfl
theorem revI_end (l : List α) : revI l l.length = l.reverse := by simp [revI]
end Go.Aw
