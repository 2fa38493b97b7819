/- Plain facts on fields: what is put is got, what is got is put, a part is none. No program in sight. -/
import Derived.Test.YtmeplhcfjihafaaAwW3
namespace Go.Aw
set_option linter.unusedSimpArgs false
set_option linter.unusedVariables false
def refZig (n : Int) : Nat := if 0 ≤ n then (2 * n).toNat else (2 * (-(n + 1)) + 1).toNat
def zagR (v : Nat) : Int := if v % 2 = 0 then (v / 2 : Nat) else -((v / 2 : Nat) : Int) - 1
theorem zag_zig (n : Int) : zagR (refZig n) = n := by
  unfold zagR refZig
  by_cases h : 0 ≤ n
  · rw [if_pos h]; split <;> omega
  · rw [if_neg h]; split <;> omega
theorem zig_zag (v : Nat) : refZig (zagR v) = v := by
  unfold zagR refZig
  by_cases h : v % 2 = 0
  · rw [if_pos h]; split <;> omega
  · rw [if_neg h]; split <;> omega
theorem refZig_lt {n : Int} (h : -9223372036854775808 ≤ n) (h' : n ≤ 9223372036854775807) : refZig n < 18446744073709551616 := by
  unfold refZig
  split <;> omega
theorem xor_ones (x : BitVec 64) : (x ^^^ BitVec.ofInt 64 18446744073709551615).toNat = 18446744073709551615 - x.toNat := by
  have h : BitVec.ofInt 64 18446744073709551615 = BitVec.allOnes 64 := by decide
  rw [h, BitVec.xor_allOnes, BitVec.toNat_not]
theorem zigN_ref {n : Int} (h : -9223372036854775808 ≤ n) (h' : n ≤ 9223372036854775807) : zigN n = refZig n := by
  have e : (2 : Int) ^ 64 = 18446744073709551616 := by decide
  have e1 : (2 : Int) ^ min 1 64 = 2 := by decide
  have e63 : (2 : Int) ^ min 63 64 = 9223372036854775808 := by decide
  have hw : ∀ x : Int, IntKind.wrap .u64 x = x % 18446744073709551616 := fun x => by
    simp only [IntKind.wrap, IntKind.bits, IntKind.signed, e, Bool.false_and, Bool.false_eq_true, if_false]
  unfold zigN zigI
  rw [e1, e63]
  show (IntKind.wrap .u64 (((BitVec.ofInt 64 (IntKind.wrap .u64 (IntKind.wrap .u64 n * 2)) ^^^ BitVec.ofInt 64 (IntKind.wrap .u64 (n.fdiv 9223372036854775808))).toNat : Nat) : Int)).toNat = _
  have hofn : ∀ x : Int, 0 ≤ x → x < 18446744073709551616 → (BitVec.ofInt 64 x).toNat = x.toNat := fun x h1 h2 => by
    rw [BitVec.toNat_ofInt]
    congr 1
    rw [show ((2 : Nat) ^ 64 : Nat) = (18446744073709551616 : Nat) by decide]
    omega
  unfold refZig
  by_cases h0 : 0 ≤ n
  · rw [if_pos h0]
    have f0 : n.fdiv 9223372036854775808 = 0 := by
      rw [Int.fdiv_eq_ediv_of_nonneg _ (by decide)]; omega
    rw [f0, hw, hw, hw, hw]
    have : BitVec.ofInt 64 (0 % 18446744073709551616) = 0#64 := by decide
    rw [this, BitVec.xor_zero, hofn _ (by omega) (by omega)]
    omega
  · rw [if_neg h0]
    have f0 : n.fdiv 9223372036854775808 = -1 := by
      rw [Int.fdiv_eq_ediv_of_nonneg _ (by decide)]; omega
    rw [f0, hw, hw, hw, hw]
    have : (-1 : Int) % 18446744073709551616 = 18446744073709551615 := by decide
    rw [this, xor_ones, hofn _ (by omega) (by omega)]
    omega

/-- A number from its bytes: what it is, how many bytes it took, whether it is one (0, 2 short, 3 not so). -/
def vget : List UInt8 → Nat → Nat → Nat × Nat × Int
  | [], _, _ => (0, 0, 2)
  | x :: l, i, acc =>
    if i = 9 ∧ 1 < x.toNat then (0, 0, 3)
    else if 128 ≤ x.toNat then vget l (i + 1) (acc + x.toNat % 128 * 2 ^ (7 * i))
    else if x.toNat = 0 ∧ 0 < i then (0, 0, 3)
    else (acc + x.toNat % 128 * 2 ^ (7 * i), i + 1, 0)
theorem u8nat {n : Nat} (h : n < 256) : (UInt8.ofNat n).toNat = n := by
  simp; omega
theorem pow7 (i : Nat) : 2 ^ (7 * (i + 1)) = 2 ^ (7 * i) * 128 := by
  rw [show 7 * (i + 1) = 7 * i + 7 by omega, Nat.pow_add]
theorem varint_small {v : Nat} (h : v < 128) : varint v = [UInt8.ofNat v] := by
  unfold varint; rw [if_pos h]
theorem varint_big {v : Nat} (h : ¬ v < 128) : varint v = UInt8.ofNat (v % 128 + 128) :: varint (v / 128) := by
  conv => lhs; unfold varint
  rw [if_neg h]
theorem pow_split (i : Nat) (h : i ≤ 9) : 2 ^ (64 - 7 * i) = if i = 9 then 2 else 2 ^ (64 - 7 * (i + 1)) * 128 := by
  split
  · subst_vars; rfl
  · rw [show 64 - 7 * i = 64 - 7 * (i + 1) + 7 by omega, Nat.pow_add]
theorem vget_put : ∀ (v : Nat) (rest : List UInt8) (i acc : Nat), i ≤ 9 → v < 2 ^ (64 - 7 * i) → (0 < i → 0 < v) → vget (varint v ++ rest) i acc = (acc + v * 2 ^ (7 * i), i + (varint v).length, 0) := by
  intro v
  induction v using Nat.strongRecOn with
  | _ v ih =>
    intro rest i acc hi hv hz
    by_cases h : v < 128
    · rw [varint_small h]
      have h9 : ¬ (i = 9 ∧ 1 < v) := by
        rintro ⟨rfl, h1⟩
        have : (2 : Nat) ^ (64 - 7 * 9) = 2 := by decide
        omega
      simp only [List.cons_append, List.nil_append, vget, u8nat (show v < 256 by omega)]
      rw [if_neg h9, if_neg (by omega), if_neg (by omega), Nat.mod_eq_of_lt h]
      rfl
    · rw [varint_big h]
      have h9 : i ≠ 9 := by
        rintro rfl
        have : (2 : Nat) ^ (64 - 7 * 9) = 2 := by decide
        omega
      have hp := pow_split i hi
      rw [if_neg h9] at hp
      rw [hp] at hv
      have hd : v / 128 < 2 ^ (64 - 7 * (i + 1)) := by
        rw [Nat.div_lt_iff_lt_mul (by decide)]; exact hv
      simp only [List.cons_append, vget, u8nat (show v % 128 + 128 < 256 by omega)]
      rw [if_neg (by omega), if_pos (by omega), ih (v / 128) (by omega) rest (i + 1) _ (by omega) hd (by omega)]
      have e : (v % 128 + 128) % 128 = v % 128 := by omega
      rw [e, pow7, List.length_cons]
      have e2 : v / 128 * (2 ^ (7 * i) * 128) = v / 128 * 128 * 2 ^ (7 * i) := by
        rw [Nat.mul_comm (2 ^ (7 * i)) 128, ← Nat.mul_assoc]
      rw [e2, Nat.add_assoc, ← Nat.add_mul, show v % 128 + v / 128 * 128 = v by omega]
      congr 2
      omega
theorem vget_back : ∀ (l : List UInt8) (i acc v k : Nat), i ≤ 9 → vget l i acc = (v, k, 0) →
    ∃ u, v = acc + u * 2 ^ (7 * i) ∧ i < k ∧ k - i ≤ l.length ∧ l.take (k - i) = varint u ∧ u < 2 ^ (64 - 7 * i) ∧ (0 < i → 0 < u) := by
  intro l
  induction l with
  | nil => intro i acc v k _ h; simp [vget] at h
  | cons x l ih =>
    intro i acc v k hi h
    have hx := x.toNat_lt
    have hx8 : UInt8.ofNat x.toNat = x := by simp
    simp only [vget] at h
    split at h
    · simp at h
    rename_i h9
    split at h
    · rename_i h128
      have hi9 : i ≠ 9 := by rintro rfl; exact h9 ⟨rfl, by omega⟩
      obtain ⟨u, h1, h2, h3, h4, h5, h6⟩ := ih (i + 1) _ v k (by omega) h
      have hp := pow_split i hi
      rw [if_neg hi9] at hp
      have hu := h6 (by omega)
      have d1 : (x.toNat % 128 + u * 128) / 128 = u := by omega
      have d2 : (x.toNat % 128 + u * 128) % 128 + 128 = x.toNat := by omega
      have vb := varint_big (v := x.toNat % 128 + u * 128) (by omega)
      rw [d1, d2, hx8] at vb
      refine ⟨x.toNat % 128 + u * 128, ?_, by omega, by simp; omega, ?_, ?_, fun _ => Nat.lt_of_lt_of_le (Nat.mul_pos hu (by decide)) (Nat.le_add_left _ _)⟩
      · rw [h1, pow7, Nat.add_mul, Nat.mul_assoc u 128, Nat.mul_comm 128, Nat.add_assoc]
      · rw [show k - i = k - (i + 1) + 1 by omega, List.take_succ_cons, h4, vb]
      · rw [hp]
        omega
    · split at h
      · simp at h
      · rename_i h1 h2
        simp only [Prod.mk.injEq] at h
        obtain ⟨h3, h4, _⟩ := h
        refine ⟨x.toNat, ?_, by omega, by simp; omega, ?_, ?_, by omega⟩
        · rw [← h3, Nat.mod_eq_of_lt (by omega)]
        · rw [← h4, show i + 1 - i = 1 by omega, varint_small (by omega), hx8]
          simp
        · have hp := pow_split i hi
          split at hp
          · rename_i h9'
            rw [hp]
            have : ¬ 1 < x.toNat := fun hh => h9 ⟨h9', hh⟩
            omega
          · rw [hp]
            have : 0 < 2 ^ (64 - 7 * (i + 1)) := Nat.pow_pos (by decide)
            omega
theorem vget_short : ∀ (v m i acc : Nat), i ≤ 9 → v < 2 ^ (64 - 7 * i) → m < (varint v).length → vget ((varint v).take m) i acc = (0, 0, 2) := by
  intro v
  induction v using Nat.strongRecOn with
  | _ v ih =>
    intro m i acc hi hv hm
    cases m with
    | zero => simp [vget]
    | succ m =>
      by_cases h : v < 128
      · rw [varint_small h] at hm; simp at hm
      · rw [varint_big h] at hm ⊢
        have h9 : i ≠ 9 := by
          rintro rfl
          have : (2 : Nat) ^ (64 - 7 * 9) = 2 := by decide
          omega
        have hp := pow_split i hi
        rw [if_neg h9] at hp
        rw [hp] at hv
        have hd : v / 128 < 2 ^ (64 - 7 * (i + 1)) := by
          rw [Nat.div_lt_iff_lt_mul (by decide)]; exact hv
        simp only [List.take_succ_cons, vget, u8nat (show v % 128 + 128 < 256 by omega)]
        rw [if_neg (by omega), if_pos (by omega)]
        exact ih (v / 128) (by omega) m (i + 1) _ (by omega) hd (by simpa using hm)
theorem varint_pos (v : Nat) : 0 < (varint v).length := by
  unfold varint; split <;> simp

/-- A field from its bytes: the field, how many bytes it took, what is wrong. -/
def oneR (l : List UInt8) : Raw × Nat × Int :=
  if (vget l 0 0).2.2 ≠ 0 then (⟨0, 0, 0, []⟩, 0, (vget l 0 0).2.2)
  else if (vget l 0 0).1 < 2 ∨ 500 < (vget l 0 0).1 / 2 then (⟨0, 0, 0, []⟩, 0, 7)
  else if (vget (l.drop (vget l 0 0).2.1) 0 0).2.2 ≠ 0 then (⟨0, 0, 0, []⟩, 0, (vget (l.drop (vget l 0 0).2.1) 0 0).2.2)
  else if (vget l 0 0).1 % 2 = 0 then (⟨((vget l 0 0).1 / 2 : Nat), 0, zagR (vget (l.drop (vget l 0 0).2.1) 0 0).1, []⟩, (vget l 0 0).2.1 + (vget (l.drop (vget l 0 0).2.1) 0 0).2.1, 0)
  else if l.length - ((vget l 0 0).2.1 + (vget (l.drop (vget l 0 0).2.1) 0 0).2.1) < (vget (l.drop (vget l 0 0).2.1) 0 0).1 then (⟨0, 0, 0, []⟩, 0, 2)
  else (⟨((vget l 0 0).1 / 2 : Nat), 1, 0, (l.drop ((vget l 0 0).2.1 + (vget (l.drop (vget l 0 0).2.1) 0 0).2.1)).take (vget (l.drop (vget l 0 0).2.1) 0 0).1⟩,
    (vget l 0 0).2.1 + (vget (l.drop (vget l 0 0).2.1) 0 0).2.1 + (vget (l.drop (vget l 0 0).2.1) 0 0).1, 0)
/-- The same, told by what the two numbers are. -/
theorem oneR_of {l : List UInt8} {key k v k2 : Nat} {e : Int} (h : vget l 0 0 = (key, k, e)) {e2 : Int} (h2 : vget (l.drop k) 0 0 = (v, k2, e2)) :
    oneR l = if e ≠ 0 then (⟨0, 0, 0, []⟩, 0, e) else if key < 2 ∨ 500 < key / 2 then (⟨0, 0, 0, []⟩, 0, 7) else if e2 ≠ 0 then (⟨0, 0, 0, []⟩, 0, e2)
      else if key % 2 = 0 then (⟨(key / 2 : Nat), 0, zagR v, []⟩, k + k2, 0) else if l.length - (k + k2) < v then (⟨0, 0, 0, []⟩, 0, 2)
      else (⟨(key / 2 : Nat), 1, 0, (l.drop (k + k2)).take v⟩, k + k2 + v, 0) := by
  unfold oneR
  rw [h]
  simp only [h2]
def okRaw (r : Raw) : Prop := checkR r = true ∧ -9223372036854775808 ≤ r.n ∧ r.n ≤ 9223372036854775807
theorem checkR_all {r : Raw} (h : checkR r = true) : 1 ≤ r.tag ∧ r.tag ≤ 500 ∧ ((r.wire = 0 ∧ r.b = []) ∨ (r.wire = 1 ∧ r.n = 0 ∧ r.b.length ≤ 4096)) := by
  unfold checkR at h
  split at h
  · cases h
  · rename_i h1
    refine ⟨by omega, by omega, ?_⟩
    split at h
    · rename_i h0
      simp at h
      exact .inl ⟨h0, h⟩
    · split at h
      · rename_i h2
        simp at h
        exact .inr ⟨h2, h⟩
      · cases h
theorem checkR_of {r : Raw} (h1 : 1 ≤ r.tag) (h2 : r.tag ≤ 500) (h : (r.wire = 0 ∧ r.b = []) ∨ (r.wire = 1 ∧ r.n = 0 ∧ r.b.length ≤ 4096)) : checkR r = true := by
  unfold checkR
  rw [if_neg (by omega)]
  rcases h with ⟨h, h'⟩ | ⟨h, h', h''⟩
  · rw [if_pos h]; simp [h']
  · rw [if_neg (by omega), if_pos h]; simp [h', h'']
theorem two64 : (2 : Nat) ^ (64 - 7 * 0) = 18446744073709551616 := by decide
theorem vget_at {v : Nat} (hv : v < 18446744073709551616) (rest : List UInt8) : vget (varint v ++ rest) 0 0 = (v, (varint v).length, 0) := by
  rw [vget_put v rest 0 0 (by omega) (by rw [two64]; exact hv) (by omega)]
  simp
theorem keyR_num {r : Raw} (h : checkR r = true) (hw : r.wire = 0) : keyR r / 2 = r.tag.toNat ∧ keyR r % 2 = 0 ∧ keyR r < 1002 ∧ 2 ≤ keyR r := by
  obtain ⟨h1, h2, _⟩ := checkR_all h
  unfold keyR; omega
theorem keyR_text {r : Raw} (h : checkR r = true) (hw : r.wire = 1) : keyR r / 2 = r.tag.toNat ∧ keyR r % 2 = 1 ∧ keyR r < 1002 ∧ 2 ≤ keyR r := by
  obtain ⟨h1, h2, _⟩ := checkR_all h
  unfold keyR; omega
theorem one_put {r : Raw} (h : okRaw r) (rest : List UInt8) : oneR (putR r ++ rest) = (r, (putR r).length, 0) := by
  obtain ⟨hk, hn1, hn2⟩ := h
  obtain ⟨h1, h2, h3⟩ := checkR_all hk
  rcases h3 with ⟨hw, hb⟩ | ⟨hw, hn, hb⟩
  · obtain ⟨k1, k2, k3, k4⟩ := keyR_num hk hw
    have ep : putR r = varint (keyR r) ++ varint (zigN r.n) := by unfold putR; rw [if_pos hw]
    have z := zigN_ref hn1 hn2
    have zl := refZig_lt hn1 hn2
    have g1 : vget (putR r ++ rest) 0 0 = (keyR r, (varint (keyR r)).length, 0) := by
      rw [ep, List.append_assoc]; exact vget_at (by omega) _
    have g2 : vget ((putR r ++ rest).drop (varint (keyR r)).length) 0 0 = (zigN r.n, (varint (zigN r.n)).length, 0) := by
      rw [ep, List.append_assoc, List.drop_left]; exact vget_at (by omega) _
    rw [oneR_of g1 g2, if_neg (by simp), if_neg (by omega), if_neg (by simp), if_pos k2, k1, z, zag_zig, ep, List.length_append]
    obtain ⟨t, w, n, b⟩ := r
    simp only at hw hb h1 ⊢
    subst hw hb
    rw [Int.toNat_of_nonneg (by omega), z]
  · obtain ⟨k1, k2, k3, k4⟩ := keyR_text hk hw
    have ep : putR r = varint (keyR r) ++ (varint r.b.length ++ r.b) := by unfold putR; rw [if_neg (by omega)]
    have g1 : vget (putR r ++ rest) 0 0 = (keyR r, (varint (keyR r)).length, 0) := by
      rw [ep, List.append_assoc]; exact vget_at (by omega) _
    have g2 : vget ((putR r ++ rest).drop (varint (keyR r)).length) 0 0 = (r.b.length, (varint r.b.length).length, 0) := by
      rw [ep, List.append_assoc, List.drop_left, List.append_assoc]; exact vget_at (by omega) _
    have e3 : (putR r ++ rest).drop ((varint (keyR r)).length + (varint r.b.length).length) = r.b ++ rest := by
      rw [ep, ← List.drop_drop, List.append_assoc, List.drop_left, List.append_assoc, List.drop_left]
    rw [oneR_of g1 g2, if_neg (by simp), if_neg (by omega), if_neg (by simp), if_neg (by omega), e3, if_neg (by rw [ep]; simp; omega), k1, ep]
    rw [List.take_left']
    · obtain ⟨t, w, n, b⟩ := r
      simp only at hw hn h1 ⊢
      subst hw hn
      rw [Int.toNat_of_nonneg (by omega)]
      simp; omega
    · rfl
theorem one_back {l : List UInt8} {r : Raw} {k : Nat} (hl : l.length ≤ 4096) (h : oneR l = (r, k, 0)) : okRaw r ∧ 0 < k ∧ k ≤ l.length ∧ l.take k = putR r := by
  rcases g1 : vget l 0 0 with ⟨key, k1, e1⟩
  rcases g2 : vget (l.drop k1) 0 0 with ⟨v, k2, e2⟩
  rw [oneR_of g1 g2] at h
  split at h
  · rename_i h0; simp only [Prod.mk.injEq] at h; exact absurd h.2.2 h0
  rename_i q1
  split at h
  · simp at h
  rename_i q2
  split at h
  · rename_i h0; simp only [Prod.mk.injEq] at h; exact absurd h.2.2 h0
  rename_i q3
  have q1' : e1 = 0 := by omega
  have q3' : e2 = 0 := by omega
  subst q1' q3'
  obtain ⟨u, a1, a2, a3, a4, a5, _⟩ := vget_back l 0 0 key k1 (by omega) g1
  obtain ⟨u2, b1, b2, b3, b4, b5, _⟩ := vget_back (l.drop k1) 0 0 v k2 (by omega) g2
  have e0 : (2 : Nat) ^ (7 * 0) = 1 := rfl
  rw [e0, Nat.mul_one, Nat.zero_add] at a1 b1
  subst a1 b1
  rw [Nat.sub_zero] at a3 a4 b3 b4
  rw [two64] at a5 b5
  rw [List.length_drop] at b3
  have tk : ∀ m, l.take (k1 + k2 + m) = varint key ++ (varint v ++ (l.drop (k1 + k2)).take m) := fun m => by
    rw [Nat.add_assoc, List.take_add, List.take_add, a4, b4, List.drop_drop]
  split at h
  · rename_i q4
    simp only [Prod.mk.injEq] at h
    obtain ⟨rfl, rfl, _⟩ := h
    have zr : -9223372036854775808 ≤ zagR v ∧ zagR v ≤ 9223372036854775807 := by unfold zagR; split <;> omega
    refine ⟨⟨checkR_of (by show (1 : Int) ≤ ((key / 2 : Nat) : Int); omega) (by show ((key / 2 : Nat) : Int) ≤ 500; omega) (.inl ⟨rfl, rfl⟩), zr⟩, by omega, by omega, ?_⟩
    have := tk 0
    rw [Nat.add_zero, List.take_zero, List.append_nil] at this
    rw [this]
    unfold putR keyR
    rw [if_pos rfl]
    show _ = varint (2 * ((key / 2 : Nat) : Int) + 0).toNat ++ varint (zigN (zagR v))
    rw [zigN_ref zr.1 zr.2, zig_zag]
    congr 2
    omega
  · rename_i q4
    split at h
    · simp at h
    rename_i q5
    simp only [Prod.mk.injEq] at h
    obtain ⟨rfl, rfl, _⟩ := h
    have ln : ((l.drop (k1 + k2)).take v).length = v := by
      rw [List.length_take, List.length_drop]; omega
    refine ⟨⟨checkR_of (by show (1 : Int) ≤ ((key / 2 : Nat) : Int); omega) (by show ((key / 2 : Nat) : Int) ≤ 500; omega) (.inr ⟨rfl, rfl, by show ((l.drop (k1 + k2)).take v).length ≤ 4096; omega⟩), by show (-9223372036854775808 : Int) ≤ 0; omega, by show (0 : Int) ≤ 9223372036854775807; omega⟩, by omega, by omega, ?_⟩
    rw [tk v]
    unfold putR keyR
    rw [if_neg (by show ¬ ((1 : Int) = 0); decide)]
    show _ = varint (2 * ((key / 2 : Nat) : Int) + 1).toNat ++ (varint ((l.drop (k1 + k2)).take v).length ++ (l.drop (k1 + k2)).take v)
    rw [ln]
    congr 2
    omega
/-- A part of a field is none. -/
theorem one_short {r : Raw} (h : okRaw r) {m : Nat} (hm : m < (putR r).length) : oneR ((putR r).take m) = (⟨0, 0, 0, []⟩, 0, 2) := by
  obtain ⟨hk, hn1, hn2⟩ := h
  obtain ⟨h1, h2, h3⟩ := checkR_all hk
  have key : keyR r < 18446744073709551616 ∧ 2 ≤ keyR r ∧ keyR r / 2 ≤ 500 := by
    rcases h3 with ⟨hw, _⟩ | ⟨hw, _⟩
    · have := keyR_num hk hw; omega
    · have := keyR_text hk hw; omega
  by_cases hmk : m < (varint (keyR r)).length
  · have g1 : vget ((putR r).take m) 0 0 = (0, 0, 2) := by
      unfold putR
      rw [List.take_append_of_le_length (by omega)]
      exact vget_short _ m 0 0 (by omega) (by rw [two64]; exact key.1) hmk
    rw [oneR_of g1 rfl, if_pos (by decide)]
  · have tk : ∀ (x y : List UInt8), (x ++ y).take m = x ++ y.take (m - x.length) ∨ m < x.length := fun x y => by
      by_cases hx : m < x.length
      · exact .inr hx
      · left; rw [List.take_append, List.take_of_length_le (by omega)]
    rcases h3 with ⟨hw, hb⟩ | ⟨hw, hn, hb⟩
    · have ep : putR r = varint (keyR r) ++ varint (zigN r.n) := by unfold putR; rw [if_pos hw]
      have et := (tk (varint (keyR r)) (varint (zigN r.n))).resolve_right hmk
      rw [ep] at hm ⊢
      rw [et]
      have g1 := vget_at (rest := (varint (zigN r.n)).take (m - (varint (keyR r)).length)) key.1
      have g2 : vget ((varint (keyR r) ++ (varint (zigN r.n)).take (m - (varint (keyR r)).length)).drop (varint (keyR r)).length) 0 0 = (0, 0, 2) := by
        rw [List.drop_left]
        have z := zigN_ref hn1 hn2
        have zl := refZig_lt hn1 hn2
        exact vget_short _ _ 0 0 (by omega) (by rw [two64]; omega) (by rw [List.length_append] at hm; omega)
      rw [oneR_of g1 g2, if_neg (by simp), if_neg (by omega), if_pos (by decide)]
    · have ep : putR r = varint (keyR r) ++ (varint r.b.length ++ r.b) := by unfold putR; rw [if_neg (by omega)]
      have et := (tk (varint (keyR r)) (varint r.b.length ++ r.b)).resolve_right hmk
      rw [ep] at hm ⊢
      rw [et]
      have g1 := vget_at (rest := (varint r.b.length ++ r.b).take (m - (varint (keyR r)).length)) key.1
      generalize hmm : m - (varint (keyR r)).length = m2 at g1
      have hm2 : m2 < (varint r.b.length ++ r.b).length := by rw [List.length_append] at hm; omega
      by_cases hmv : m2 < (varint r.b.length).length
      · have g2 : vget ((varint (keyR r) ++ (varint r.b.length ++ r.b).take m2).drop (varint (keyR r)).length) 0 0 = (0, 0, 2) := by
          rw [List.drop_left, List.take_append_of_le_length (by omega)]
          exact vget_short _ _ 0 0 (by omega) (by rw [two64]; omega) hmv
        rw [oneR_of g1 g2, if_neg (by simp), if_neg (by omega), if_pos (by decide)]
      · have g2 : vget ((varint (keyR r) ++ (varint r.b.length ++ r.b).take m2).drop (varint (keyR r)).length) 0 0 = (r.b.length, (varint r.b.length).length, 0) := by
          rw [List.drop_left, List.take_append, List.take_of_length_le (by omega)]
          exact vget_at (by omega) _
        have kt := keyR_text hk hw
        rw [oneR_of g1 g2, if_neg (by simp), if_neg (by omega), if_neg (by simp), if_neg (by omega), if_pos]
        rw [List.length_append] at hm2
        simp only [List.length_append, List.length_take]
        omega
def flatR (l : List Raw) : List UInt8 := l.flatMap putR
/-- All fields from their bytes. -/
def getR : Nat → List UInt8 → List Raw × Int
  | 0, _ => ([], 0)
  | _ + 1, [] => ([], 0)
  | n + 1, x :: l => if (oneR (x :: l)).2.2 ≠ 0 then ([], (oneR (x :: l)).2.2) else if (getR n ((x :: l).drop (oneR (x :: l)).2.1)).2 ≠ 0 then ([], (getR n ((x :: l).drop (oneR (x :: l)).2.1)).2)
    else ((oneR (x :: l)).1 :: (getR n ((x :: l).drop (oneR (x :: l)).2.1)).1, 0)
def wireGet (b : List UInt8) : List Raw × Int := if 4096 < b.length then ([], 4) else getR b.length b
def wirePut (l : List Raw) : List UInt8 × Int := if l.all checkR then (if (flatR l).length ≤ 4096 then (flatR l, 0) else ([], 4)) else ([], 1)
theorem putR_pos (r : Raw) : 0 < (putR r).length := by
  unfold putR
  have := varint_pos (keyR r)
  rw [List.length_append]; omega
theorem getR_step {n : Nat} {l : List UInt8} (h : l ≠ []) {r : Raw} {k : Nat} {e : Int} (ho : oneR l = (r, k, e)) :
    getR (n + 1) l = if e ≠ 0 then ([], e) else if (getR n (l.drop k)).2 ≠ 0 then ([], (getR n (l.drop k)).2) else (r :: (getR n (l.drop k)).1, 0) := by
  cases l with
  | nil => exact absurd rfl h
  | cons x l => rw [getR, ho]
theorem get_put : ∀ (l : List Raw) (n : Nat), (∀ r ∈ l, okRaw r) → (flatR l).length ≤ n → getR n (flatR l) = (l, 0) := by
  intro l
  induction l with
  | nil => intro n _ _; cases n <;> simp [getR, flatR]
  | cons r l ih =>
    intro n h hn
    have e : flatR (r :: l) = putR r ++ flatR l := rfl
    have hp := putR_pos r
    rw [e] at hn ⊢
    rw [List.length_append] at hn
    cases n with
    | zero => omega
    | succ n =>
      rw [getR_step (fun h0 => by have := congrArg List.length h0; rw [List.length_append, List.length_nil] at this; omega) (one_put (h r List.mem_cons_self) _), if_neg (by simp), List.drop_left, ih n (fun x hx => h x (List.mem_cons_of_mem _ hx)) (by omega)]
      simp
theorem get_back : ∀ (n : Nat) (l : List UInt8) (m : List Raw), l.length ≤ n → l.length ≤ 4096 → getR n l = (m, 0) → (∀ r ∈ m, okRaw r) ∧ flatR m = l := by
  intro n
  induction n with
  | zero =>
    intro l m hn _ h
    have : l = [] := List.eq_nil_of_length_eq_zero (by omega)
    subst this
    simp only [getR, Prod.mk.injEq] at h
    obtain ⟨rfl, _⟩ := h
    exact ⟨by simp, rfl⟩
  | succ n ih =>
    intro l m hn hl h
    by_cases h0 : l = []
    · subst h0
      simp only [getR, Prod.mk.injEq] at h
      obtain ⟨rfl, _⟩ := h
      exact ⟨by simp, rfl⟩
    rcases ho : oneR l with ⟨r, k, e⟩
    rw [getR_step h0 ho] at h
    split at h
    · rename_i hh; simp only [Prod.mk.injEq] at h; exact absurd h.2 hh
    rename_i he
    have he' : e = 0 := by omega
    subst he'
    obtain ⟨p1, p2, p3, p4⟩ := one_back hl ho
    split at h
    · rename_i hh; simp only [Prod.mk.injEq] at h; exact absurd h.2 hh
    rename_i hf
    simp only [Prod.mk.injEq] at h
    obtain ⟨rfl, _⟩ := h
    rcases hg : getR n (l.drop k) with ⟨m', f⟩
    rw [hg] at hf
    have hf' : f = 0 := by simpa using hf
    subst hf'
    obtain ⟨q1, q2⟩ := ih (l.drop k) m' (by rw [List.length_drop]; omega) (by rw [List.length_drop]; omega) hg
    refine ⟨fun x hx => ?_, ?_⟩
    · rcases List.mem_cons.1 hx with rfl | hx
      · exact p1
      · exact q1 x hx
    · show putR r ++ flatR m' = l
      rw [q2, ← p4, List.take_append_drop]
/-- Cut within a field. -/
theorem get_cut : ∀ (l : List Raw) (r : Raw) (n m : Nat), (∀ x ∈ l, okRaw x) → okRaw r → 0 < m → m < (putR r).length → (flatR l).length + m ≤ n → getR n (flatR l ++ (putR r).take m) = ([], 2) := by
  intro l
  induction l with
  | nil =>
    intro r n m _ hr h0 hm hn
    simp only [flatR, List.flatMap_nil, List.nil_append, List.length_nil] at hn ⊢
    cases n with
    | zero => omega
    | succ n =>
      rw [getR_step (fun h => by have := congrArg List.length h; rw [List.length_take, List.length_nil] at this; omega) (one_short hr hm), if_pos (by decide)]
  | cons x l ih =>
    intro r n m h hr h0 hm hn
    have e : flatR (x :: l) = putR x ++ flatR l := rfl
    have hp := putR_pos x
    rw [e, List.length_append] at hn
    rw [e, List.append_assoc]
    cases n with
    | zero => omega
    | succ n =>
      rw [getR_step (fun h0 => by have := congrArg List.length h0; rw [List.length_append, List.length_nil] at this; omega) (one_put (h x List.mem_cons_self) _), if_neg (by simp), List.drop_left, ih r n m (fun y hy => h y (List.mem_cons_of_mem _ hy)) hr h0 hm (by omega)]
      simp
end Go.Aw
