/- Runes of texts, as plain functions. -/
import Derived.Test.YtmeplhcfjihafaaDoorAwMp
import Derived.Lib.DecodeN
namespace Go.Aw
open Go.Lib
set_option linter.unusedSimpArgs false
set_option linter.unusedVariables false
theorem sget (s : List UInt8) (i : Nat) : (⟨⟨s⟩⟩ : ByteArray).get! i = s.getD i 0 := by
  show (⟨s⟩ : Array UInt8)[i]! = _
  simp [getElem!_def, List.getD]
  cases s[i]? <;> rfl
/-- The byte at a place; behind the end 0. -/
def bk (s : List UInt8) (i : Nat) : Nat := (s.getD i 0).toNat
theorem bk_lt (s : List UInt8) (i : Nat) : bk s i < 256 := (s.getD i 0).toNat_lt
theorem runeAt_eq (s : List UInt8) (p : Nat) : runeAt s p = decodeN (s.length - p) (bk s p) (bk s (p + 1)) (bk s (p + 2)) (bk s (p + 3)) := by
  unfold runeAt bk
  rw [decode_at, sget, sget, sget, sget]
  rfl
theorem bk_drop (s : List UInt8) (p i : Nat) : bk (s.drop p) i = bk s (p + i) := by
  unfold bk
  simp [List.getD, List.getElem?_drop]
theorem runeAt_drop (s : List UInt8) (p : Nat) : runeAt (s.drop p) 0 = runeAt s p := by
  rw [runeAt_eq, runeAt_eq, bk_drop, bk_drop, bk_drop, bk_drop, List.length_drop]
  rfl
theorem runeAt_wid (s : List UInt8) (p : Nat) : 1 ≤ (runeAt s p).2 ∧ (runeAt s p).2 ≤ 4 ∧ (runeAt s p).1 ≤ 1114111 := by
  rw [runeAt_eq]
  unfold decodeN
  repeat' split
  all_goals simp
  all_goals omega
theorem runeAt_in (s : List UInt8) (p : Nat) (h : p < s.length) : p + (runeAt s p).2 ≤ s.length := by
  rw [runeAt_eq]
  unfold decodeN
  repeat' split
  all_goals simp only
  all_goals omega
def good (s : List UInt8) (q : Nat) : Prop := q < s.length ∧ 128 ≤ bk s q ∧ bk s q ≤ 191
instance (s : List UInt8) (q : Nat) : Decidable (good s q) := by unfold good; infer_instance
def resN (r : Nat × Nat) : Int × Int × Bool := if r.1 = 65533 ∧ r.2 < 2 then (0, 0, false) else (r.1, r.2, true)
def vN (s : List UInt8) (p : Nat) (v : Int) : Nat → Int
  | 0 => v
  | k + 1 => 64 * vN s p v k + ((bk s (p + (k + 1)) : Int) - 128)
theorem vN_bound {s : List UInt8} {p : Nat} {v : Int} (h0 : 0 ≤ v) (h1 : v < 32) : ∀ k, (∀ j, 1 ≤ j → j ≤ k → good s (p + j)) → 0 ≤ vN s p v k ∧ vN s p v k < 32 * 64 ^ k
  | 0, _ => by simp [vN]; omega
  | k + 1, h => by
    have ih := vN_bound h0 h1 k fun j a b => h j a (by omega)
    have g := h (k + 1) (by omega) (Nat.le_refl _)
    unfold good at g
    rw [vN, Int.pow_succ]
    omega
theorem next_ascii {s : List UInt8} {p : Nat} (h : bk s p < 128) : resN (runeAt s p) = ((bk s p : Int), 1, true) := by
  rw [runeAt_eq]
  unfold decodeN
  rw [if_pos h]
  unfold resN
  rw [if_neg (by simp; omega)]
  rfl
theorem next_none {s : List UInt8} {p : Nat} (h : 128 ≤ bk s p) (h' : bk s p < 192 ∨ 248 ≤ bk s p) : resN (runeAt s p) = (0, 0, false) := by
  have hl := bk_lt s p
  rw [runeAt_eq]
  unfold decodeN
  rw [if_neg (by omega), if_neg (by omega), if_neg (by omega), if_neg (by omega)]
  rfl
theorem next_two {s : List UInt8} {p : Nat} (h : 192 ≤ bk s p) (h' : bk s p < 224) : resN (runeAt s p) = if good s (p + 1) then (if vN s p ((bk s p : Int) - 192) 1 < 128 then (0, 0, false) else (vN s p ((bk s p : Int) - 192) 1, 2, true)) else (0, 0, false) := by
  have e : vN s p ((bk s p : Int) - 192) 1 = 64 * ((bk s p : Int) - 192) + ((bk s (p + 1) : Int) - 128) := rfl
  have hl := bk_lt s (p + 1)
  rw [e, runeAt_eq]
  unfold decodeN
  rw [if_neg (by omega)]
  by_cases g : good s (p + 1)
  · have g' : p + 1 < s.length ∧ 128 ≤ bk s (p + 1) ∧ bk s (p + 1) ≤ 191 := g
    rw [if_pos g, if_pos (by omega)]
    by_cases c : 64 * ((bk s p : Int) - 192) + ((bk s (p + 1) : Int) - 128) < 128
    · rw [if_pos c, if_neg (by omega)]
      rfl
    · rw [if_neg c, if_pos (by omega)]
      unfold resN
      rw [if_neg (by simp)]
      simp
      omega
  · have g' : ¬ (p + 1 < s.length ∧ 128 ≤ bk s (p + 1) ∧ bk s (p + 1) ≤ 191) := g
    rw [if_neg g, if_neg (by omega), if_neg (by omega), if_neg (by omega)]
    rfl
theorem next_three {s : List UInt8} {p : Nat} (h : 224 ≤ bk s p) (h' : bk s p < 240) : resN (runeAt s p) = if good s (p + 1) ∧ good s (p + 2) then
    (if vN s p ((bk s p : Int) - 224) 2 < 2048 ∨ (55296 ≤ vN s p ((bk s p : Int) - 224) 2 ∧ vN s p ((bk s p : Int) - 224) 2 ≤ 57343) then (0, 0, false) else (vN s p ((bk s p : Int) - 224) 2, 3, true)) else (0, 0, false) := by
  have e : vN s p ((bk s p : Int) - 224) 2 = 64 * (64 * ((bk s p : Int) - 224) + ((bk s (p + 1) : Int) - 128)) + ((bk s (p + 2) : Int) - 128) := rfl
  have hl := bk_lt s (p + 1)
  have hl2 := bk_lt s (p + 2)
  rw [e, runeAt_eq]
  unfold decodeN
  rw [if_neg (by omega), if_neg (by omega)]
  by_cases g : good s (p + 1) ∧ good s (p + 2)
  · have g' : (p + 1 < s.length ∧ 128 ≤ bk s (p + 1) ∧ bk s (p + 1) ≤ 191) ∧ (p + 2 < s.length ∧ 128 ≤ bk s (p + 2) ∧ bk s (p + 2) ≤ 191) := g
    rw [if_pos g, if_pos (by omega)]
    split
    · rename_i c
      rw [if_neg (by omega)]
      unfold resN
      rw [if_neg (by simp)]
      simp
      omega
    · rename_i c
      rw [if_pos (by omega)]
      rfl
  · have g' : ¬ ((p + 1 < s.length ∧ 128 ≤ bk s (p + 1) ∧ bk s (p + 1) ≤ 191) ∧ (p + 2 < s.length ∧ 128 ≤ bk s (p + 2) ∧ bk s (p + 2) ≤ 191)) := g
    rw [if_neg g, if_neg (by omega), if_neg (by omega)]
    rfl
theorem next_four {s : List UInt8} {p : Nat} (h : 240 ≤ bk s p) (h' : bk s p < 248) : resN (runeAt s p) = if good s (p + 1) ∧ good s (p + 2) ∧ good s (p + 3) then
    (if vN s p ((bk s p : Int) - 240) 3 < 65536 ∨ 1114111 < vN s p ((bk s p : Int) - 240) 3 then (0, 0, false) else (vN s p ((bk s p : Int) - 240) 3, 4, true)) else (0, 0, false) := by
  have e : vN s p ((bk s p : Int) - 240) 3 = 64 * (64 * (64 * ((bk s p : Int) - 240) + ((bk s (p + 1) : Int) - 128)) + ((bk s (p + 2) : Int) - 128)) + ((bk s (p + 3) : Int) - 128) := rfl
  have hl := bk_lt s (p + 1)
  have hl2 := bk_lt s (p + 2)
  have hl3 := bk_lt s (p + 3)
  rw [e, runeAt_eq]
  unfold decodeN
  rw [if_neg (by omega), if_neg (by omega), if_neg (by omega)]
  by_cases g : good s (p + 1) ∧ good s (p + 2) ∧ good s (p + 3)
  · have g' : (p + 1 < s.length ∧ 128 ≤ bk s (p + 1) ∧ bk s (p + 1) ≤ 191) ∧ (p + 2 < s.length ∧ 128 ≤ bk s (p + 2) ∧ bk s (p + 2) ≤ 191) ∧ (p + 3 < s.length ∧ 128 ≤ bk s (p + 3) ∧ bk s (p + 3) ≤ 191) := g
    rw [if_pos g, if_pos (by omega)]
    split
    · rename_i c
      rw [if_neg (by omega)]
      unfold resN
      rw [if_neg (by simp)]
      simp
      omega
    · rename_i c
      rw [if_pos (by omega)]
      rfl
  · have g' : ¬ ((p + 1 < s.length ∧ 128 ≤ bk s (p + 1) ∧ bk s (p + 1) ≤ 191) ∧ (p + 2 < s.length ∧ 128 ≤ bk s (p + 2) ∧ bk s (p + 2) ≤ 191) ∧ (p + 3 < s.length ∧ 128 ≤ bk s (p + 3) ∧ bk s (p + 3) ≤ 191)) := g
    rw [if_neg g, if_neg (by omega)]
    rfl
/-- The lead of a rune of several bytes: how many, its bits, the least number. -/
def leadN (b : Nat) : Nat × Int × Int := if b < 224 then (2, (b : Int) - 192, 128) else if b < 240 then (3, (b : Int) - 224, 2048) else (4, (b : Int) - 240, 65536)
theorem next_end {s : List UInt8} {p : Nat} (h : 192 ≤ bk s p) (h' : bk s p < 248) (hg : ∀ j, 1 ≤ j → j < (leadN (bk s p)).1 → good s (p + j)) :
    resN (runeAt s p) = if vN s p (leadN (bk s p)).2.1 ((leadN (bk s p)).1 - 1) < (leadN (bk s p)).2.2 ∨ vN s p (leadN (bk s p)).2.1 ((leadN (bk s p)).1 - 1) > 1114111 ∨ (vN s p (leadN (bk s p)).2.1 ((leadN (bk s p)).1 - 1) ≥ 55296 ∧ vN s p (leadN (bk s p)).2.1 ((leadN (bk s p)).1 - 1) ≤ 57343) then (0, 0, false)
      else (vN s p (leadN (bk s p)).2.1 ((leadN (bk s p)).1 - 1), ((leadN (bk s p)).1 : Int), true) := by
  have bnd := fun v h0 h1 k => vN_bound (s := s) (p := p) (v := v) h0 h1 k
  revert hg
  unfold leadN
  by_cases c1 : bk s p < 224
  · simp only [if_pos c1]
    intro hg
    have g1 := hg 1 (by omega) (by omega)
    rw [next_two h c1, if_pos g1]
    have b := bnd ((bk s p : Int) - 192) (by omega) (by omega) 1 fun j a b => hg j a (by omega)
    generalize vN s p ((bk s p : Int) - 192) 1 = v at b
    show _ = if v < 128 ∨ v > 1114111 ∨ (v ≥ 55296 ∧ v ≤ 57343) then _ else _
    by_cases c : v < 128
    · rw [if_pos c, if_pos (.inl c)]
    · rw [if_neg c, if_neg (by omega)]
      rfl
  simp only [if_neg c1]
  by_cases c2 : bk s p < 240
  · simp only [if_pos c2]
    intro hg
    rw [next_three (by omega) c2, if_pos ⟨hg 1 (by omega) (by omega), hg 2 (by omega) (by omega)⟩]
    have b := bnd ((bk s p : Int) - 224) (by omega) (by omega) 2 fun j a b => hg j a (by omega)
    have b' : vN s p ((bk s p : Int) - 224) 2 < 65536 := by
      have g1 := hg 1 (by omega) (by omega)
      have g2 := hg 2 (by omega) (by omega)
      unfold good at g1 g2
      show 64 * (64 * ((bk s p : Int) - 224) + ((bk s (p + 1) : Int) - 128)) + ((bk s (p + 2) : Int) - 128) < 65536
      omega
    show _ = if vN s p ((bk s p : Int) - 224) 2 < 2048 ∨ vN s p ((bk s p : Int) - 224) 2 > 1114111 ∨ (vN s p ((bk s p : Int) - 224) 2 ≥ 55296 ∧ vN s p ((bk s p : Int) - 224) 2 ≤ 57343) then _ else _
    generalize vN s p ((bk s p : Int) - 224) 2 = v at b b'
    by_cases c : v < 2048 ∨ (55296 ≤ v ∧ v ≤ 57343)
    · rw [if_pos c, if_pos (by omega)]
    · rw [if_neg c, if_neg (by omega)]
      rfl
  · simp only [if_neg c2]
    intro hg
    rw [next_four (by omega) h', if_pos ⟨hg 1 (by omega) (by omega), hg 2 (by omega) (by omega), hg 3 (by omega) (by omega)⟩]
    show _ = if vN s p ((bk s p : Int) - 240) 3 < 65536 ∨ vN s p ((bk s p : Int) - 240) 3 > 1114111 ∨ (vN s p ((bk s p : Int) - 240) 3 ≥ 55296 ∧ vN s p ((bk s p : Int) - 240) 3 ≤ 57343) then _ else _
    generalize vN s p ((bk s p : Int) - 240) 3 = v
    by_cases c : v < 65536 ∨ 1114111 < v
    · rw [if_pos c, if_pos (by omega)]
    · rw [if_neg c, if_neg (by omega)]
      rfl
theorem next_bad {s : List UInt8} {p j : Nat} (h : 192 ≤ bk s p) (h' : bk s p < 248) (h1 : 1 ≤ j) (h2 : j < (leadN (bk s p)).1) (hg : ¬ good s (p + j)) : resN (runeAt s p) = (0, 0, false) := by
  unfold leadN at h2
  by_cases c1 : bk s p < 224
  · simp only [if_pos c1] at h2
    have : j = 1 := by omega
    subst this
    rw [next_two h c1, if_neg hg]
  simp only [if_neg c1] at h2
  by_cases c2 : bk s p < 240
  · simp only [if_pos c2] at h2
    have : j = 1 ∨ j = 2 := by omega
    rw [next_three (by omega) c2, if_neg]
    rintro ⟨g1, g2⟩
    rcases this with rfl | rfl
    · exact hg g1
    · exact hg g2
  · simp only [if_neg c2] at h2
    have : j = 1 ∨ j = 2 ∨ j = 3 := by omega
    rw [next_four (by omega) h', if_neg]
    rintro ⟨g1, g2, g3⟩
    rcases this with rfl | rfl | rfl
    · exact hg g1
    · exact hg g2
    · exact hg g3
/-- The runes from a place on; none: something is no rune. -/
def runesF (s : List UInt8) : Nat → Nat → Option (List Int)
  | 0, _ => some []
  | n + 1, p => if p < s.length then (if (resN (runeAt s p)).2.2 = true then (match runesF s n (p + (runeAt s p).2) with | some l => some (((runeAt s p).1 : Int) :: l) | none => none) else none) else some []
def runesO (s : List UInt8) (p : Nat) : Option (List Int) := runesF s (s.length - p) p
theorem runesF_fuel (s : List UInt8) : ∀ (n m p : Nat), s.length - p ≤ n → s.length - p ≤ m → runesF s n p = runesF s m p
  | 0, 0, p, _, _ => rfl
  | 0, m + 1, p, h, _ => by rw [runesF, runesF, if_neg (by omega)]
  | n + 1, 0, p, _, h => by rw [runesF, runesF, if_neg (by omega)]
  | n + 1, m + 1, p, h1, h2 => by
    rw [runesF, runesF]
    have := runeAt_wid s p
    by_cases h : p < s.length
    · rw [if_pos h, if_pos h, runesF_fuel s n m (p + (runeAt s p).2) (by omega) (by omega)]
    · rw [if_neg h, if_neg h]
theorem runesO_step (s : List UInt8) (p : Nat) : runesO s p = if p < s.length then (if (resN (runeAt s p)).2.2 = true then (match runesO s (p + (runeAt s p).2) with | some l => some (((runeAt s p).1 : Int) :: l) | none => none) else none) else some [] := by
  unfold runesO
  by_cases h : p < s.length
  · have := runeAt_wid s p
    rw [if_pos h, show s.length - p = (s.length - p - 1) + 1 by omega, runesF, if_pos h, runesF_fuel s (s.length - p - 1) (s.length - (p + (runeAt s p).2)) (p + (runeAt s p).2) (by omega) (by omega)]
  · rw [if_neg h, show s.length - p = 0 by omega, runesF]
def letterB (r : Int) : Bool := decide (97 ≤ r ∧ r ≤ 122 ∨ 65 ≤ r ∧ r ≤ 90 ∨ r = 95 ∨ 192 ≤ r ∧ r ≤ 591 ∧ r ≠ 215 ∧ r ≠ 247 ∨ 913 ≤ r ∧ r ≤ 969 ∧ r ≠ 930)
def digitB (r : Int) : Bool := decide (48 ≤ r ∧ r ≤ 57)
def keyWords : List (List UInt8) := [[115, 99, 104, 101, 109, 97], [109, 101, 115, 115, 97, 103, 101], [101, 110, 117, 109], [99, 97, 108, 108], [114, 101, 116, 117, 114, 110, 115], [114, 101, 115, 101, 114, 118, 101, 100], [111, 112, 116, 105, 111, 110, 97, 108], [114, 101, 112, 101, 97, 116, 101, 100], [105, 110, 116, 51, 50], [105, 110, 116, 54, 52], [98, 111, 111, 108], [116, 101, 120, 116], [98, 121, 116, 101, 115]]
def keyB (s : List UInt8) : Bool := keyWords.contains s
/-- Are runes those of a name: a letter, then letters and digits? -/
def wordB : List Int → Bool
  | [] => false
  | r :: l => letterB r && l.all fun x => letterB x || digitB x
def nameB (s : List UInt8) : Bool := match runesO s 0 with
  | none => false
  | some l => decide (l.length ≤ 20) && !keyB s && wordB l
end Go.Aw
