/- Sorted lists of fields; the fields and the bytes of a message, as plain functions. -/
import Derived.Test.YtmeplhcfjihafaaAwG6
namespace Go.Aw
open Go.Proofs
set_option linter.unusedSimpArgs false
set_option linter.unusedVariables false
def upTo (l : List Raw) : Prop := ∀ (i : Nat) a b, l[i]? = some a → l[i + 1]? = some b → a.tag ≤ b.tag
theorem rising_of {l : List Raw} (h : upTo l) : rising l = true := by
  induction l with
  | nil => rfl
  | cons a l ih =>
    cases l with
    | nil => rfl
    | cons b r =>
      have h0 := h 0 a b rfl rfl
      simp only [rising]
      rw [if_neg (by omega)]
      exact ih fun i x y hx hy => h (i + 1) x y (by simpa using hx) (by simpa using hy)
theorem placeR_stop (s : List Raw) (r : Raw) : ∀ m, m ≤ s.length → ∀ k x, placeR s r m = k + 1 → s[k]? = some x → x.tag ≤ r.tag := by
  intro m
  induction m with
  | zero => intro _ k x h; simp [placeR] at h
  | succ m ih =>
    intro hm k x h hx
    obtain ⟨y, hy⟩ : ∃ y, s[m]? = some y := ⟨_, List.getElem?_eq_getElem (by omega)⟩
    simp only [placeR, hy] at h
    split at h
    · exact ih (by omega) k x h hx
    · have : k = m := by omega
      subst this
      rw [hy] at hx; injection hx with hx; subst hx
      omega
theorem placeR_le' (s : List Raw) (r : Raw) : ∀ m, placeR s r m ≤ m := by
  intro m
  induction m with
  | zero => simp [placeR]
  | succ m ih =>
    simp only [placeR]
    split
    · split <;> omega
    · omega
theorem placeR_above (s : List Raw) (r : Raw) : ∀ m, m ≤ s.length → ∀ (j : Nat) x, placeR s r m ≤ j → j < m → s[j]? = some x → r.tag < x.tag := by
  intro m
  induction m with
  | zero => intro _ j x _ h; omega
  | succ m ih =>
    intro hm j x h1 h2 hx
    obtain ⟨y, hy⟩ : ∃ y, s[m]? = some y := ⟨_, List.getElem?_eq_getElem (by omega)⟩
    simp only [placeR, hy] at h1
    split at h1
    · rename_i h
      rcases Nat.lt_or_ge j m with hj | hj
      · exact ih (by omega) j x h1 hj hx
      · have : j = m := by omega
        subst this
        rw [hy] at hx; injection hx with hx; subst hx
        exact h
    · omega
theorem insR_get (s : List Raw) (r : Raw) (k i : Nat) (hk : k ≤ s.length) : (insR s r k)[i]? = if i < k then s[i]? else if i = k then some r else s[i - 1]? := by
  unfold insR
  by_cases h : i < k
  · rw [List.getElem?_append_left (by rw [List.length_take]; omega), List.getElem?_take, if_pos h, if_pos h]
  · rw [List.getElem?_append_right (by rw [List.length_take]; omega), List.length_take, Nat.min_eq_left hk, if_neg h]
    by_cases e : i = k
    · subst e; rw [Nat.sub_self, if_pos rfl]; rfl
    · rw [if_neg e, show i - k = (i - k - 1) + 1 by omega, List.getElem?_cons_succ, List.getElem?_drop]
      congr 1; omega
theorem upTo_ins (s : List Raw) (r : Raw) (h : upTo s) : upTo (insR s r (placeR s r s.length)) := by
  have hle := placeR_le' s r s.length
  have hst := placeR_stop s r s.length (Nat.le_refl _)
  have hab := placeR_above s r s.length (Nat.le_refl _)
  generalize placeR s r s.length = k at hle hst hab
  intro i a b ha hb
  rw [insR_get _ _ _ _ hle] at ha hb
  by_cases h1 : i + 1 < k
  · rw [if_pos h1] at hb
    rw [if_pos (by omega)] at ha
    exact h i a b ha hb
  · rw [if_neg h1] at hb
    by_cases h2 : i + 1 = k
    · rw [if_pos h2] at hb
      rw [if_pos (by omega)] at ha
      injection hb with hb; subst hb
      exact hst i a h2.symm ha
    · rw [if_neg h2] at hb
      rw [if_neg (by omega)] at ha
      simp only [Nat.add_sub_cancel] at hb
      by_cases h3 : i = k
      · rw [if_pos h3] at ha
        injection ha with ha; subst ha
        have := hab i b (by omega) (List.getElem?_eq_some_iff.1 hb).1 hb
        omega
      · rw [if_neg h3] at ha
        exact h (i - 1) a b ha (by rw [show i - 1 + 1 = i by omega]; exact hb)
theorem upTo_sort : ∀ (l s : List Raw), upTo s → upTo (sortL s l) := by
  intro l
  induction l with
  | nil => intro s h; exact h
  | cons r l ih => intro s h; exact ih _ (upTo_ins s r h)
theorem filter_ins (s : List Raw) (r : Raw) (t : Int) : (insR s r (placeR s r s.length)).filter (fun x => x.tag == t) = s.filter (fun x => x.tag == t) ++ [r].filter (fun x => x.tag == t) := by
  have hle := placeR_le' s r s.length
  have hsp := placeR_above s r s.length (Nat.le_refl _)
  generalize placeR s r s.length = k at hle hsp
  unfold insR
  conv => rhs; rw [← List.take_append_drop k s]
  rw [List.filter_append, List.filter_append, List.append_assoc]
  congr 1
  by_cases h : r.tag = t
  · have : (s.drop k).filter (fun x => x.tag == t) = [] := by
      rw [List.filter_eq_nil_iff]
      intro x hx
      obtain ⟨j, hj⟩ := List.getElem?_of_mem hx
      rw [List.getElem?_drop] at hj
      have := hsp (k + j) x (by omega) (List.getElem?_eq_some_iff.1 hj).1 hj
      simp; omega
    simp [List.filter_cons, h, this]
  · have : (r.tag == t) = false := by simpa using h
    simp [List.filter_cons, this]
theorem sortL_filter (t : Int) : ∀ (l s : List Raw), (sortL s l).filter (fun x => x.tag == t) = (s ++ l).filter (fun x => x.tag == t) := by
  intro l
  induction l with
  | nil => intro s; simp [sortL]
  | cons r l ih => intro s; rw [sortL, ih, List.filter_append, filter_ins]; simp [List.filter_cons]; split <;> simp
theorem upTo_pair : ∀ {l : List Raw}, upTo l → l.Pairwise (fun a b => a.tag ≤ b.tag) := by
  intro l
  induction l with
  | nil => intro _; exact .nil
  | cons a l ih =>
    intro h
    have ht : upTo l := fun i x y hx hy => h (i + 1) x y (by simpa using hx) (by simpa using hy)
    have p := ih ht
    refine .cons (fun b hb => ?_) p
    cases l with
    | nil => cases hb
    | cons c r =>
      have h0 := h 0 a c rfl rfl
      rcases List.mem_cons.1 hb with rfl | hb
      · exact h0
      · have := (List.pairwise_cons.1 p).1 b hb
        omega
theorem pair_unique : ∀ {a b : List Raw}, a.Pairwise (fun a b => a.tag ≤ b.tag) → b.Pairwise (fun a b => a.tag ≤ b.tag) → (∀ t : Int, a.filter (fun x => x.tag == t) = b.filter (fun x => x.tag == t)) → a = b := by
  intro a
  induction a with
  | nil =>
    intro b _ _ h
    cases b with
    | nil => rfl
    | cons y b => have := h y.tag; simp [List.filter_cons] at this
  | cons x a ih =>
    intro b ha hb h
    cases b with
    | nil => have := h x.tag; simp [List.filter_cons] at this
    | cons y b =>
      have hx : x ∈ y :: b := by
        have : x ∈ (y :: b).filter (fun z => z.tag == x.tag) := by rw [← h x.tag]; simp [List.filter_cons]
        exact (List.mem_filter.1 this).1
      have hy : y ∈ x :: a := by
        have : y ∈ (x :: a).filter (fun z => z.tag == y.tag) := by rw [h y.tag]; simp [List.filter_cons]
        exact (List.mem_filter.1 this).1
      have h1 : y.tag ≤ x.tag := by
        rcases List.mem_cons.1 hx with q | q
        · rw [q]; exact Int.le_refl _
        · exact (List.pairwise_cons.1 hb).1 x q
      have h2 : x.tag ≤ y.tag := by
        rcases List.mem_cons.1 hy with q | q
        · rw [q]; exact Int.le_refl _
        · exact (List.pairwise_cons.1 ha).1 y q
      have e : y.tag = x.tag := by omega
      have hh := h x.tag
      rw [List.filter_cons, List.filter_cons, if_pos (by simp), if_pos (by simp [e])] at hh
      injection hh with hxy hrest
      subst hxy
      rw [ih (List.pairwise_cons.1 ha).2 (List.pairwise_cons.1 hb).2 fun t => ?_]
      have ht := h t
      rw [List.filter_cons, List.filter_cons] at ht
      split at ht
      · injection ht
      · exact ht
theorem sort_pair (l : List Raw) : (sortL [] l).Pairwise (fun a b => a.tag ≤ b.tag) := upTo_pair (upTo_sort l [] (fun i a b h => by simp at h))
theorem sort_swap {a b : List Raw} (h : ∀ x ∈ a, ∀ y ∈ b, x.tag ≠ y.tag) : sortL [] (a ++ b) = sortL [] (b ++ a) := by
  refine pair_unique (sort_pair _) (sort_pair _) fun t => ?_
  rw [sortL_filter, sortL_filter, List.nil_append, List.nil_append, List.filter_append, List.filter_append]
  by_cases q : ∃ x ∈ a, x.tag = t
  · obtain ⟨x, hx, rfl⟩ := q
    have : b.filter (fun z => z.tag == x.tag) = [] := by
      rw [List.filter_eq_nil_iff]
      intro y hy
      have := h x hx y hy
      simp; omega
    rw [this]; simp
  · have : a.filter (fun z => z.tag == t) = [] := by
      rw [List.filter_eq_nil_iff]
      intro y hy
      simp
      intro e
      exact q ⟨y, hy, e⟩
    rw [this]; simp
mutual
/-- The fields of entries; of values under a tag; of one value. A number above 0: why there are none. -/
def fldE : List (Int × List Tr) → List Raw × Int
  | [] => ([], 0)
  | (t, l) :: r => if (fldL t l).2 ≠ 0 then ([], (fldL t l).2) else if (fldE r).2 ≠ 0 then ([], (fldE r).2) else ((fldL t l).1 ++ (fldE r).1, 0)
def fldL (t : Int) : List Tr → List Raw × Int
  | [] => ([], 0)
  | x :: l => if (fldR t x).2 ≠ 0 then ([], (fldR t x).2) else if (fldL t l).2 ≠ 0 then ([], (fldL t l).2) else ((fldR t x).1 :: (fldL t l).1, 0)
def fldR (t : Int) : Tr → Raw × Int
  | .mk k n s es rest => if k = 1 then (⟨t, 0, n, []⟩, 0) else if k = 2 then (if 4096 < s.length then (zeroR, 4) else (⟨t, 1, 0, s⟩, 0))
    else if (fldE es).2 ≠ 0 then (zeroR, (fldE es).2) else if (wirePut (sortL [] (rest ++ (fldE es).1))).2 ≠ 0 then (zeroR, (wirePut (sortL [] (rest ++ (fldE es).1))).2) else (⟨t, 1, 0, (wirePut (sortL [] (rest ++ (fldE es).1))).1⟩, 0)
end
def rawsT (t : Tr) : List Raw × Int := if (fldE t.ents).2 ≠ 0 then ([], (fldE t.ents).2) else (sortL [] (t.rest ++ (fldE t.ents).1), 0)
def bytesT (t : Tr) : List UInt8 × Int := if (rawsT t).2 ≠ 0 then ([], (rawsT t).2) else wirePut (rawsT t).1
theorem wp_err (l : List Raw) (h : (wirePut l).2 ≠ 0) : (wirePut l).1 = [] := by
  unfold wirePut at h ⊢
  split
  · rename_i h1
    rw [if_pos h1] at h
    split
    · rename_i h2
      rw [if_pos h2] at h
      exact absurd rfl h
    · rfl
  · rfl
theorem wp_len (l : List Raw) : (wirePut l).1.length ≤ 4096 := by
  unfold wirePut
  split
  · split
    · rename_i h; exact h
    · simp
  · simp
theorem bytes_len (t : Tr) : (bytesT t).1.length ≤ 4096 := by
  unfold bytesT
  split
  · simp
  · exact wp_len _
theorem bytes_err (t : Tr) (h : (bytesT t).2 ≠ 0) : (bytesT t).1 = [] := by
  unfold bytesT at h ⊢
  split
  · rfl
  · rename_i h1
    rw [if_neg h1] at h
    exact wp_err _ h
theorem fldR_mk (g : Int) (t : Tr) : fldR g t = if t.kind = 1 then (⟨g, 0, t.n, []⟩, 0) else if t.kind = 2 then (if 4096 < t.s.length then (zeroR, 4) else (⟨g, 1, 0, t.s⟩, 0))
    else if (bytesT t).2 ≠ 0 then (zeroR, (bytesT t).2) else (⟨g, 1, 0, (bytesT t).1⟩, 0) := by
  cases t with
  | mk k n s es rest =>
    have hb : bytesT (.mk k n s es rest) = if (fldE es).2 ≠ 0 then ([], (fldE es).2) else wirePut (sortL [] (rest ++ (fldE es).1)) := by
      simp only [bytesT, rawsT, Tr.ents, Tr.rest]
      by_cases h : (fldE es).2 = 0
      · simp [h]
      · simp [h]
    rw [fldR, hb]
    show _ = if k = 1 then ((⟨g, 0, n, []⟩ : Raw), (0 : Int)) else if k = 2 then (if 4096 < s.length then (zeroR, 4) else (⟨g, 1, 0, s⟩, 0)) else _
    by_cases h : (fldE es).2 = 0
    · simp [h]
    · simp [h]
theorem fldR_err (g : Int) (t : Tr) (h : (fldR g t).2 ≠ 0) : (fldR g t).1 = zeroR := by
  rw [fldR_mk] at h ⊢
  by_cases h1 : t.kind = 1
  · rw [if_pos h1] at h; exact absurd rfl h
  rw [if_neg h1] at h ⊢
  by_cases h2 : t.kind = 2
  · rw [if_pos h2] at h ⊢
    split
    · rfl
    · rename_i h3; rw [if_neg h3] at h; exact absurd rfl h
  rw [if_neg h2] at h ⊢
  split
  · rfl
  · rename_i h3; rw [if_neg h3] at h; exact absurd rfl h
/-- What was before, and then these. -/
def addR (acc : List Raw) (p : List Raw × Int) : List Raw × Int := if p.2 ≠ 0 then ([], p.2) else (acc ++ p.1, 0)
def addR2 (acc : List Raw) (p q : List Raw × Int) : List Raw × Int := if p.2 ≠ 0 then ([], p.2) else addR (acc ++ p.1) q
theorem addR_nil (acc : List Raw) : addR acc ([], 0) = (acc, 0) := by simp [addR]
theorem addR2_nil (acc : List Raw) (q : List Raw × Int) : addR2 acc ([], 0) q = addR acc q := by simp [addR2]
theorem addR_at {es : List (Int × List Tr)} {i : Nat} {e : Int × List Tr} (h : es[i]? = some e) (acc : List Raw) : addR acc (fldE (es.drop i)) = addR2 acc (fldL e.1 e.2) (fldE (es.drop (i + 1))) := by
  rw [List.drop_eq_getElem_cons (List.getElem?_eq_some_iff.1 h).1, (List.getElem?_eq_some_iff.1 h).2]
  obtain ⟨a, l⟩ := e
  rw [fldE]
  unfold addR addR2 addR
  by_cases h1 : (fldL a l).2 ≠ 0
  · rw [if_pos h1, if_pos h1, if_pos h1]
  · rw [if_neg h1, if_neg h1]
    by_cases h2 : (fldE (es.drop (i + 1))).2 ≠ 0
    · rw [if_pos h2, if_pos h2, if_pos h2]
    · rw [if_neg h2, if_neg h2]
      simp
theorem addL_at {l : List Tr} {k : Nat} {x : Tr} (h : l[k]? = some x) (g : Int) (acc : List Raw) (q : List Raw × Int) : addR2 acc (fldL g (l.drop k)) q = if (fldR g x).2 ≠ 0 then ([], (fldR g x).2) else addR2 (acc ++ [(fldR g x).1]) (fldL g (l.drop (k + 1))) q := by
  rw [List.drop_eq_getElem_cons (List.getElem?_eq_some_iff.1 h).1, (List.getElem?_eq_some_iff.1 h).2, fldL]
  unfold addR2
  by_cases h1 : (fldR g x).2 ≠ 0
  · rw [if_pos h1, if_pos h1]
    simp only [if_pos h1]
  · rw [if_neg h1, if_neg h1]
    by_cases h2 : (fldL g (l.drop (k + 1))).2 ≠ 0
    · simp only [if_pos h2]
    · rw [if_neg h2, if_neg h2]
      simp
theorem right_len : ∀ {es : List (Int × List Tr)} {last : Int}, rightE es last = true → ∀ e ∈ es, last < e.1 ∧ e.1 ≤ 500 ∧ 1 ≤ e.2.length ∧ e.2.length ≤ 64 := by
  intro es
  induction es with
  | nil => intro _ _ e h; cases h
  | cons y es ih =>
    intro last h e he
    obtain ⟨a, l⟩ := y
    rw [rightE] at h
    split at h
    · cases h
    · rename_i hn
      split at h
      · rcases List.mem_cons.1 he with rfl | he
        · dsimp only; omega
        · have := ih h e he
          exact ⟨by omega, this.2⟩
      · cases h
theorem right_take : ∀ {es : List (Int × List Tr)} {last : Int} {i : Nat} {e : Int × List Tr}, rightE es last = true → es[i]? = some e → (es.take i).all (fun x => x.1 != e.1) = true := by
  intro es
  induction es with
  | nil => intro _ i e h h'; simp at h'
  | cons y es ih =>
    intro last i e h he
    obtain ⟨a, l⟩ := y
    cases i with
    | zero => rfl
    | succ i =>
      simp only [List.getElem?_cons_succ] at he
      rw [rightE] at h
      split at h
      · cases h
      · split at h
        · have h1 := (right_len h e (List.mem_of_getElem? he)).1
          rw [List.take_succ_cons, List.all_cons, ih h he]
          simp
          omega
        · cases h
/-- What a value of a tree is inside. -/
def inV (t : Tr) : In0 := if t.kind = 1 then .num t.n else if t.kind = 2 then .str t.s else .node (ndV t)
theorem encIn_inV (t : Tr) : encIn (inV t) = encV t := by
  rw [inV, encV_eq]
  split
  · rfl
  · split <;> rfl
theorem okT_right {t : Tr} (h : okT t = true) : rightT t = true := by
  rw [okT, Bool.and_eq_true] at h; exact h.2
theorem smallB_lens {t : Tr} (h : smallB t = true) : lensT t = true := by
  unfold smallB at h
  exact lens_small t _ _ h
end Go.Aw
