/- The law EncodeFlat. -/
import Derived.Test.YtmeplhcfjihafaaAwL23
namespace Go.Aw
open Go.Proofs
set_option linter.unusedSimpArgs false
set_option linter.unusedVariables false
theorem dTs_ge : ∀ (l : List Tr) (m d : Nat), d ≤ dTs l m d := by
  intro l
  induction l with
  | nil => intro m d; rw [dTs]; omega
  | cons x l ih =>
    intro m d
    rw [dTs]
    have := ih m (max d (dT x m))
    omega
theorem dTs_sub : ∀ {l : List Tr} {x : Tr}, x ∈ l → ∀ (m d : Nat), dT x m ≤ dTs l m d := by
  intro l
  induction l with
  | nil => intro x h; cases h
  | cons y l ih =>
    intro x h m d
    rw [dTs]
    rcases List.mem_cons.1 h with rfl | h
    · have := dTs_ge l m (max d (dT x m))
      omega
    · exact ih h m _
theorem dE_ge : ∀ (es : List (Int × List Tr)) (m d : Nat), d ≤ dE es m d := by
  intro es
  induction es with
  | nil => intro m d; rw [dE]; omega
  | cons e es ih =>
    intro m d
    obtain ⟨a, l⟩ := e
    rw [dE]
    have h1 := ih m (dTs l m d)
    have h2 := dTs_ge l m d
    omega
theorem dE_sub : ∀ {es : List (Int × List Tr)} {e : Int × List Tr}, e ∈ es → ∀ {x : Tr}, x ∈ e.2 → ∀ (m d : Nat), dT x m ≤ dE es m d := by
  intro es
  induction es with
  | nil => intro e h; cases h
  | cons y es ih =>
    intro e h x hx m d
    obtain ⟨a, l⟩ := y
    rw [dE]
    rcases List.mem_cons.1 h with rfl | h
    · have h1 : dT x m ≤ dTs l m d := dTs_sub hx m d
      have h2 := dE_ge es m (dTs l m d)
      omega
    · exact ih h hx m _
theorem flat_leaves {t : Tr} (h : dT t 101 = 1) : ∀ e ∈ t.ents, ∀ x ∈ e.2, x.kind ≠ 3 := by
  intro e he x hx hk
  rw [dT_mk] at h
  split at h
  · cases h
  · have h1 := dE_sub he hx (101 - 1) 0
    rw [dT_mk, if_neg (by simp [hk])] at h1
    omega
theorem leaf_inj {g : Int} {x y : Tr} (hx : rightT x = true) (hy : rightT y = true) (kx : x.kind ≠ 3) (ky : y.kind ≠ 3) (ex : (fldR g x).2 = 0) (ey : (fldR g y).2 = 0) (h : (fldR g x).1 = (fldR g y).1) : x = y := by
  have fx := fldR_mk g x
  have fy := fldR_mk g y
  have two : ∀ {z : Tr}, z.kind = 2 → (fldR g z).2 = 0 → (fldR g z) = (⟨g, 1, 0, z.s⟩, 0) := by
    intro z hz ez
    rw [fldR_mk, if_neg (by omega), if_pos hz] at ez ⊢
    split at ez
    · cases ez
    · rename_i q
      rw [if_neg q]
  rcases right_kinds hx with ⟨h1, q1⟩ | ⟨h1, q1⟩ | ⟨h1, _⟩
  · rw [if_pos h1] at fx
    rcases right_kinds hy with ⟨h2, q2⟩ | ⟨h2, q2⟩ | ⟨h2, _⟩
    · rw [if_pos h2] at fy
      rw [fx, fy] at h
      injection h with _ _ h _
      rw [q1, q2, h]
    · rw [fx, two h2 ey] at h
      injection h with _ h
      cases h
    · exact absurd h2 ky
  · rcases right_kinds hy with ⟨h2, q2⟩ | ⟨h2, q2⟩ | ⟨h2, _⟩
    · rw [if_pos h2] at fy
      rw [two h1 ex, fy] at h
      injection h with _ h
      cases h
    · rw [two h1 ex, two h2 ey] at h
      injection h with _ _ _ h
      rw [q1, q2, h]
    · exact absurd h2 ky
  · exact absurd h1 kx
theorem fldL_cons {g : Int} {x : Tr} {l : List Tr} (h : (fldL g (x :: l)).2 = 0) : (fldR g x).2 = 0 ∧ (fldL g l).2 = 0 ∧ (fldL g (x :: l)).1 = (fldR g x).1 :: (fldL g l).1 := by
  rw [fldL] at h ⊢
  by_cases h1 : (fldR g x).2 = 0
  · by_cases h2 : (fldL g l).2 = 0
    · simp [h1, h2]
    · simp [h1, h2] at h
  · simp [h1] at h
theorem fldL_inj {g : Int} : ∀ {l m : List Tr}, (∀ x ∈ l, rightT x = true ∧ x.kind ≠ 3) → (∀ x ∈ m, rightT x = true ∧ x.kind ≠ 3) → (fldL g l).2 = 0 → (fldL g m).2 = 0 → (fldL g l).1 = (fldL g m).1 → l = m := by
  intro l
  induction l with
  | nil =>
    intro m _ _ _ hm h
    cases m with
    | nil => rfl
    | cons y m => rw [(fldL_cons hm).2.2] at h; simp [fldL] at h
  | cons x l ih =>
    intro m hl hm e1 e2 h
    cases m with
    | nil => rw [(fldL_cons e1).2.2] at h; simp [fldL] at h
    | cons y m =>
      obtain ⟨a1, a2, a3⟩ := fldL_cons e1
      obtain ⟨b1, b2, b3⟩ := fldL_cons e2
      rw [a3, b3] at h
      injection h with h1 h2
      have p := hl x List.mem_cons_self
      have q := hm y List.mem_cons_self
      rw [leaf_inj p.1 q.1 p.2 q.2 a1 b1 h1, ih (fun z hz => hl z (List.mem_cons_of_mem _ hz)) (fun z hz => hm z (List.mem_cons_of_mem _ hz)) a2 b2 h2]
theorem fldE_cons {g : Int} {l : List Tr} {r : List (Int × List Tr)} (h : (fldE ((g, l) :: r)).2 = 0) : (fldL g l).2 = 0 ∧ (fldE r).2 = 0 ∧ (fldE ((g, l) :: r)).1 = (fldL g l).1 ++ (fldE r).1 := by
  rw [fldE] at h ⊢
  by_cases h1 : (fldL g l).2 = 0
  · by_cases h2 : (fldE r).2 = 0
    · simp [h1, h2]
    · simp [h1, h2] at h
  · simp [h1] at h
theorem fldL_tag {g : Int} {l : List Tr} : ∀ r ∈ (fldL g l).1, r.tag = g := fldL_all fun x _ h => fldR_tag g x h
theorem rightE_tail {g : Int} {l : List Tr} {r : List (Int × List Tr)} {last : Int} (h : rightE ((g, l) :: r) last = true) : 1 ≤ l.length ∧ rightE r g = true := by
  rw [rightE] at h
  split at h
  · cases h
  · split at h
    · exact ⟨by omega, h⟩
    · cases h
theorem fldE_inj : ∀ {es fs : List (Int × List Tr)} {a b : Int}, rightE es a = true → rightE fs b = true → (∀ e ∈ es, ∀ x ∈ e.2, rightT x = true ∧ x.kind ≠ 3) → (∀ e ∈ fs, ∀ x ∈ e.2, rightT x = true ∧ x.kind ≠ 3) → (fldE es).2 = 0 → (fldE fs).2 = 0 → (fldE es).1 = (fldE fs).1 → es = fs := by
  intro es
  have ne : ∀ {g : Int} {l : List Tr} {r : List (Int × List Tr)} {last : Int}, rightE ((g, l) :: r) last = true → (fldE ((g, l) :: r)).2 = 0 → ∃ x m, (fldE ((g, l) :: r)).1 = x :: m ∧ x.tag = g := by
    intro g l r last h e
    obtain ⟨h1, h2, h3⟩ := fldE_cons e
    have hl := fldL_len h1
    have := (rightE_tail h).1
    cases hq : (fldL g l).1 with
    | nil => rw [hq] at hl; simp at hl; omega
    | cons x m => exact ⟨x, m ++ (fldE r).1, by rw [h3, hq]; rfl, fldL_tag x (by rw [hq]; exact List.mem_cons_self)⟩
  induction es with
  | nil =>
    intro fs a b _ hb _ _ _ eb h
    cases fs with
    | nil => rfl
    | cons f fs =>
      obtain ⟨g, l⟩ := f
      obtain ⟨x, m, q, _⟩ := ne hb eb
      rw [q] at h
      simp [fldE] at h
  | cons e es ih =>
    intro fs a b ha hb la lb ea eb h
    obtain ⟨g, l⟩ := e
    obtain ⟨x, m, q, qt⟩ := ne ha ea
    cases fs with
    | nil => rw [q] at h; simp [fldE] at h
    | cons f fs =>
      obtain ⟨g', l'⟩ := f
      obtain ⟨x', m', q', qt'⟩ := ne hb eb
      have hg : g = g' := by
        rw [q, q'] at h
        injection h with h _
        rw [← qt, ← qt', h]
      subst hg
      obtain ⟨a1, a2, a3⟩ := fldE_cons ea
      obtain ⟨b1, b2, b3⟩ := fldE_cons eb
      rw [a3, b3] at h
      have key : ∀ (l : List Tr) (r : List (Int × List Tr)), rightE r g = true → ((fldL g l).1 ++ (fldE r).1).filter (fun z => z.tag == g) = (fldL g l).1 := by
        intro l r hr
        rw [List.filter_append, List.filter_eq_self.2 (by intro z hz; simpa using fldL_tag z hz), List.filter_eq_nil_iff.2, List.append_nil]
        intro z hz hzg
        obtain ⟨e, he, ht⟩ := fldE_tags z hz
        have := (right_len hr e he).1
        have hzg : z.tag = g := by simpa using hzg
        omega
      have f1 := congrArg (fun z : List Raw => z.filter (fun z => z.tag == g)) h
      simp only [key l es (rightE_tail ha).2, key l' fs (rightE_tail hb).2] at f1
      rw [f1] at h
      have f2 := List.append_cancel_left h
      have hll : l = l' := fldL_inj (la (g, l) List.mem_cons_self) (lb (g, l') List.mem_cons_self) a1 b1 f1
      rw [hll, ih (rightE_tail ha).2 (rightE_tail hb).2 (fun e he => la e (List.mem_cons_of_mem _ he)) (fun e he => lb e (List.mem_cons_of_mem _ he)) a2 b2 f2]
theorem fldE_pair : ∀ {es : List (Int × List Tr)} {a : Int}, rightE es a = true → (fldE es).1.Pairwise (fun a b => a.tag ≤ b.tag) := by
  intro es
  induction es with
  | nil => intro a _; simp [fldE]
  | cons e es ih =>
    intro a h
    obtain ⟨g, l⟩ := e
    by_cases he : (fldE ((g, l) :: es)).2 = 0
    · obtain ⟨h1, h2, h3⟩ := fldE_cons he
      rw [h3, List.pairwise_append]
      have ht := (rightE_tail h).2
      refine ⟨?_, ih ht, fun x hx y hy => ?_⟩
      · rw [List.pairwise_iff_getElem]
        intro i j hi hj _
        rw [fldL_tag _ (List.getElem_mem hi), fldL_tag _ (List.getElem_mem hj)]
        exact Int.le_refl _
      · obtain ⟨e, he, q⟩ := fldE_tags y hy
        have := (right_len ht e he).1
        rw [fldL_tag x hx, q]
        omega
    · rw [fldE] at he ⊢
      by_cases h1 : (fldL g l).2 = 0
      · by_cases h2 : (fldE es).2 = 0
        · simp [h1, h2] at he
        · simp [h1, h2]
      · simp [h1]
theorem sort_id {l : List Raw} (h : l.Pairwise (fun a b => a.tag ≤ b.tag)) : sortL [] l = l := pair_unique (sort_pair l) h fun t => by rw [sortL_filter, List.nil_append]
theorem flat_same {a b : Tr} (ha : okTr a) (hb : okTr b) (da : dT a 101 = 1) (db : dT b 101 = 1) (ra : a.rest = []) (rb : b.rest = []) (ea : (encA a).2 = 0) (eb : (encA b).2 = 0) : ((encA a).1 == (encA b).1) = sameT a b := by
  obtain ⟨a1, a2, a3, a4, _⟩ := encA_ok ha ea
  obtain ⟨b1, b2, b3, b4, _⟩ := encA_ok hb eb
  have ka := right_kinds (okT_right a1)
  have kb := right_kinds (okT_right b1)
  obtain ⟨_, na, sa, reA, _⟩ := ka.resolve_left (by omega) |>.resolve_left (by omega)
  obtain ⟨_, nb, sb, reB, _⟩ := kb.resolve_left (by omega) |>.resolve_left (by omega)
  rw [Bool.eq_iff_iff, sameT_iff, beq_iff_eq]
  constructor
  · intro h
    rw [h, b4, ra, rb, List.nil_append, List.nil_append, sort_id (fldE_pair reA), sort_id (fldE_pair reB)] at a4
    injection a4 with a4 _
    have hr := fldE_inj reA reB (fun e he x hx => ⟨right_ents reA e he x hx, flat_leaves da e he x hx⟩) (fun e he x hx => ⟨right_ents reB e he x hx, flat_leaves db e he x hx⟩) a3 b3 a4.symm
    obtain ⟨k, n, s, es, rest⟩ := a
    obtain ⟨k', n', s', es', rest'⟩ := b
    simp only [Tr.kind, Tr.n, Tr.s, Tr.ents, Tr.rest] at *
    rw [a2, b2, na, nb, sa, sb, hr, ra, rb]
  · rintro rfl; rfl
set_option maxRecDepth 100000 in
set_option maxHeartbeats 4000000 in
theorem law11_Flat (a b : Tr) (ha : okTr a) (hb : okTr b) : PFn Try.prog 18 [.agg (encTr a), .agg (encTr b)] (.bool true) := by
  refine PFn.of Try.func18 rfl (by decide) Try.ntmps18 Try.results18 (Nat.le_of_ble_eq_true rfl) ?_
  simp only [argsT]
  have SA := law00_Small a
  have SB := law00_Small b
  rw [encTr_eq] at SA SB
  refine AW.rT (by rfl) fun K hK => ?_
  simp -implicitDefEqProofs only [go_sem, ↓reduceIte, Nat.reduceAdd, Nat.reduceSub, Nat.reduceMul, Nat.reduceEqDiff, Nat.reduceLeDiff, Int.reduceNeg, reduceCtorEq, Int.reduceToNat, Nat.reduceDiv, Nat.reduceMod, encTr_eq]
  refine hK _ ?_; clear hK K
  refine AW.seq ?_
  cases qa : smallB a with
  | false =>
    rw [qa] at SA
    refine AW.rT (by rfl) fun K hK => ?_
    simp -implicitDefEqProofs only [go_sem, ↓reduceIte, Nat.reduceAdd, Nat.reduceSub, Nat.reduceMul, Nat.reduceEqDiff, Nat.reduceLeDiff, Int.reduceNeg, reduceCtorEq, Int.reduceToNat, Nat.reduceDiv, Nat.reduceMod]
    refine ⟨.pure _, SA, ?_⟩
    try simp -implicitDefEqProofs only [go_sem, ↓reduceIte, Nat.reduceAdd, Nat.reduceSub, Nat.reduceMul, Nat.reduceEqDiff, Nat.reduceLeDiff, Int.reduceNeg, reduceCtorEq, Int.reduceToNat, Nat.reduceDiv, Nat.reduceMod]
    refine hK _ ?_; clear hK K
    refine AW.cond _ (by simp -implicitDefEqProofs only [go_sem, ↓reduceIte, Nat.reduceAdd, Nat.reduceSub, Nat.reduceMul, Nat.reduceEqDiff, Nat.reduceLeDiff, Int.reduceNeg, reduceCtorEq, Int.reduceToNat, Nat.reduceDiv, Nat.reduceMod]; rfl) (fun hc => ?_) (fun hc => ?_)
    rotate_left
    · simp at hc
    refine AW.rT (by rfl) fun K hK => ?_
    simp -implicitDefEqProofs only [go_sem, ↓reduceIte, Nat.reduceAdd, Nat.reduceSub, Nat.reduceMul, Nat.reduceEqDiff, Nat.reduceLeDiff, Int.reduceNeg, reduceCtorEq, Int.reduceToNat, Nat.reduceDiv, Nat.reduceMod]
    refine ⟨.pure _, law11_awake, ?_⟩
    try simp -implicitDefEqProofs only [go_sem, ↓reduceIte, Nat.reduceAdd, Nat.reduceSub, Nat.reduceMul, Nat.reduceEqDiff, Nat.reduceLeDiff, Int.reduceNeg, reduceCtorEq, Int.reduceToNat, Nat.reduceDiv, Nat.reduceMod]
    refine hK _ ?_; clear hK K
    refine AW.ret ?_
    simp -implicitDefEqProofs only [go_sem, ↓reduceIte, Nat.reduceAdd, Nat.reduceSub, Nat.reduceMul, Nat.reduceEqDiff, Nat.reduceLeDiff, Int.reduceNeg, reduceCtorEq, Int.reduceToNat, Nat.reduceDiv, Nat.reduceMod]
  | true =>
  rw [qa] at SA
  cases qb : smallB b with
  | false =>
    rw [qb] at SB
    refine AW.rT (by rfl) fun K hK => ?_
    simp -implicitDefEqProofs only [go_sem, ↓reduceIte, Nat.reduceAdd, Nat.reduceSub, Nat.reduceMul, Nat.reduceEqDiff, Nat.reduceLeDiff, Int.reduceNeg, reduceCtorEq, Int.reduceToNat, Nat.reduceDiv, Nat.reduceMod]
    refine ⟨.pure _, SA, ?_⟩
    try simp -implicitDefEqProofs only [go_sem, ↓reduceIte, Nat.reduceAdd, Nat.reduceSub, Nat.reduceMul, Nat.reduceEqDiff, Nat.reduceLeDiff, Int.reduceNeg, reduceCtorEq, Int.reduceToNat, Nat.reduceDiv, Nat.reduceMod]
    refine ⟨.pure _, SB, ?_⟩
    try simp -implicitDefEqProofs only [go_sem, ↓reduceIte, Nat.reduceAdd, Nat.reduceSub, Nat.reduceMul, Nat.reduceEqDiff, Nat.reduceLeDiff, Int.reduceNeg, reduceCtorEq, Int.reduceToNat, Nat.reduceDiv, Nat.reduceMod]
    refine hK _ ?_; clear hK K
    refine AW.cond _ (by simp -implicitDefEqProofs only [go_sem, ↓reduceIte, Nat.reduceAdd, Nat.reduceSub, Nat.reduceMul, Nat.reduceEqDiff, Nat.reduceLeDiff, Int.reduceNeg, reduceCtorEq, Int.reduceToNat, Nat.reduceDiv, Nat.reduceMod]; rfl) (fun hc => ?_) (fun hc => ?_)
    rotate_left
    · simp at hc
    refine AW.rT (by rfl) fun K hK => ?_
    simp -implicitDefEqProofs only [go_sem, ↓reduceIte, Nat.reduceAdd, Nat.reduceSub, Nat.reduceMul, Nat.reduceEqDiff, Nat.reduceLeDiff, Int.reduceNeg, reduceCtorEq, Int.reduceToNat, Nat.reduceDiv, Nat.reduceMod]
    refine ⟨.pure _, law11_awake, ?_⟩
    try simp -implicitDefEqProofs only [go_sem, ↓reduceIte, Nat.reduceAdd, Nat.reduceSub, Nat.reduceMul, Nat.reduceEqDiff, Nat.reduceLeDiff, Int.reduceNeg, reduceCtorEq, Int.reduceToNat, Nat.reduceDiv, Nat.reduceMod]
    refine hK _ ?_; clear hK K
    refine AW.ret ?_
    simp -implicitDefEqProofs only [go_sem, ↓reduceIte, Nat.reduceAdd, Nat.reduceSub, Nat.reduceMul, Nat.reduceEqDiff, Nat.reduceLeDiff, Int.reduceNeg, reduceCtorEq, Int.reduceToNat, Nat.reduceDiv, Nat.reduceMod]
  | true =>
  rw [qb] at SB
  have la := smallB_lens qa
  have lb := smallB_lens qb
  have DA := ref09_Depth a la
  have DB := ref09_Depth b lb
  rw [encTr_eq] at DA DB
  by_cases da : dT a 101 = 1
  case neg =>
    have b1 : ((dT a 101 : Int) != 1) = true := by simp; omega
    refine AW.rT (by rfl) fun K hK => ?_
    simp -implicitDefEqProofs only [go_sem, ↓reduceIte, Nat.reduceAdd, Nat.reduceSub, Nat.reduceMul, Nat.reduceEqDiff, Nat.reduceLeDiff, Int.reduceNeg, reduceCtorEq, Int.reduceToNat, Nat.reduceDiv, Nat.reduceMod]
    refine ⟨.pure _, SA, ?_⟩
    try simp -implicitDefEqProofs only [go_sem, ↓reduceIte, Nat.reduceAdd, Nat.reduceSub, Nat.reduceMul, Nat.reduceEqDiff, Nat.reduceLeDiff, Int.reduceNeg, reduceCtorEq, Int.reduceToNat, Nat.reduceDiv, Nat.reduceMod]
    refine ⟨.pure _, SB, ?_⟩
    try simp -implicitDefEqProofs only [go_sem, ↓reduceIte, Nat.reduceAdd, Nat.reduceSub, Nat.reduceMul, Nat.reduceEqDiff, Nat.reduceLeDiff, Int.reduceNeg, reduceCtorEq, Int.reduceToNat, Nat.reduceDiv, Nat.reduceMod]
    refine ⟨.pure _, DA, ?_⟩
    try simp -implicitDefEqProofs only [go_sem, ↓reduceIte, Nat.reduceAdd, Nat.reduceSub, Nat.reduceMul, Nat.reduceEqDiff, Nat.reduceLeDiff, Int.reduceNeg, reduceCtorEq, Int.reduceToNat, Nat.reduceDiv, Nat.reduceMod, b1]
    refine hK _ ?_; clear hK K
    refine AW.cond _ (by simp -implicitDefEqProofs only [go_sem, ↓reduceIte, Nat.reduceAdd, Nat.reduceSub, Nat.reduceMul, Nat.reduceEqDiff, Nat.reduceLeDiff, Int.reduceNeg, reduceCtorEq, Int.reduceToNat, Nat.reduceDiv, Nat.reduceMod]; rfl) (fun hc => ?_) (fun hc => ?_)
    rotate_left
    · simp at hc
    refine AW.rT (by rfl) fun K hK => ?_
    simp -implicitDefEqProofs only [go_sem, ↓reduceIte, Nat.reduceAdd, Nat.reduceSub, Nat.reduceMul, Nat.reduceEqDiff, Nat.reduceLeDiff, Int.reduceNeg, reduceCtorEq, Int.reduceToNat, Nat.reduceDiv, Nat.reduceMod]
    refine ⟨.pure _, law11_awake, ?_⟩
    try simp -implicitDefEqProofs only [go_sem, ↓reduceIte, Nat.reduceAdd, Nat.reduceSub, Nat.reduceMul, Nat.reduceEqDiff, Nat.reduceLeDiff, Int.reduceNeg, reduceCtorEq, Int.reduceToNat, Nat.reduceDiv, Nat.reduceMod]
    refine hK _ ?_; clear hK K
    refine AW.ret ?_
    simp -implicitDefEqProofs only [go_sem, ↓reduceIte, Nat.reduceAdd, Nat.reduceSub, Nat.reduceMul, Nat.reduceEqDiff, Nat.reduceLeDiff, Int.reduceNeg, reduceCtorEq, Int.reduceToNat, Nat.reduceDiv, Nat.reduceMod]
  have b1 : ((dT a 101 : Int) != 1) = false := by simp; omega
  by_cases db : dT b 101 = 1
  case neg =>
    have b2 : ((dT b 101 : Int) != 1) = true := by simp; omega
    refine AW.rT (by rfl) fun K hK => ?_
    simp -implicitDefEqProofs only [go_sem, ↓reduceIte, Nat.reduceAdd, Nat.reduceSub, Nat.reduceMul, Nat.reduceEqDiff, Nat.reduceLeDiff, Int.reduceNeg, reduceCtorEq, Int.reduceToNat, Nat.reduceDiv, Nat.reduceMod]
    refine ⟨.pure _, SA, ?_⟩
    try simp -implicitDefEqProofs only [go_sem, ↓reduceIte, Nat.reduceAdd, Nat.reduceSub, Nat.reduceMul, Nat.reduceEqDiff, Nat.reduceLeDiff, Int.reduceNeg, reduceCtorEq, Int.reduceToNat, Nat.reduceDiv, Nat.reduceMod]
    refine ⟨.pure _, SB, ?_⟩
    try simp -implicitDefEqProofs only [go_sem, ↓reduceIte, Nat.reduceAdd, Nat.reduceSub, Nat.reduceMul, Nat.reduceEqDiff, Nat.reduceLeDiff, Int.reduceNeg, reduceCtorEq, Int.reduceToNat, Nat.reduceDiv, Nat.reduceMod]
    refine ⟨.pure _, DA, ?_⟩
    try simp -implicitDefEqProofs only [go_sem, ↓reduceIte, Nat.reduceAdd, Nat.reduceSub, Nat.reduceMul, Nat.reduceEqDiff, Nat.reduceLeDiff, Int.reduceNeg, reduceCtorEq, Int.reduceToNat, Nat.reduceDiv, Nat.reduceMod, b1]
    refine ⟨.pure _, DB, ?_⟩
    try simp -implicitDefEqProofs only [go_sem, ↓reduceIte, Nat.reduceAdd, Nat.reduceSub, Nat.reduceMul, Nat.reduceEqDiff, Nat.reduceLeDiff, Int.reduceNeg, reduceCtorEq, Int.reduceToNat, Nat.reduceDiv, Nat.reduceMod, b2]
    refine hK _ ?_; clear hK K
    refine AW.cond _ (by simp -implicitDefEqProofs only [go_sem, ↓reduceIte, Nat.reduceAdd, Nat.reduceSub, Nat.reduceMul, Nat.reduceEqDiff, Nat.reduceLeDiff, Int.reduceNeg, reduceCtorEq, Int.reduceToNat, Nat.reduceDiv, Nat.reduceMod]; rfl) (fun hc => ?_) (fun hc => ?_)
    rotate_left
    · simp at hc
    refine AW.rT (by rfl) fun K hK => ?_
    simp -implicitDefEqProofs only [go_sem, ↓reduceIte, Nat.reduceAdd, Nat.reduceSub, Nat.reduceMul, Nat.reduceEqDiff, Nat.reduceLeDiff, Int.reduceNeg, reduceCtorEq, Int.reduceToNat, Nat.reduceDiv, Nat.reduceMod]
    refine ⟨.pure _, law11_awake, ?_⟩
    try simp -implicitDefEqProofs only [go_sem, ↓reduceIte, Nat.reduceAdd, Nat.reduceSub, Nat.reduceMul, Nat.reduceEqDiff, Nat.reduceLeDiff, Int.reduceNeg, reduceCtorEq, Int.reduceToNat, Nat.reduceDiv, Nat.reduceMod]
    refine hK _ ?_; clear hK K
    refine AW.ret ?_
    simp -implicitDefEqProofs only [go_sem, ↓reduceIte, Nat.reduceAdd, Nat.reduceSub, Nat.reduceMul, Nat.reduceEqDiff, Nat.reduceLeDiff, Int.reduceNeg, reduceCtorEq, Int.reduceToNat, Nat.reduceDiv, Nat.reduceMod]
  have b2 : ((dT b 101 : Int) != 1) = false := by simp; omega
  by_cases ra : a.rest = []
  case neg =>
    have b3 : ((a.rest.length : Int) > 0) = True := by
      have := List.length_pos_iff.2 ra
      simp; omega
    refine AW.rT (by rfl) fun K hK => ?_
    simp -implicitDefEqProofs only [go_sem, ↓reduceIte, Nat.reduceAdd, Nat.reduceSub, Nat.reduceMul, Nat.reduceEqDiff, Nat.reduceLeDiff, Int.reduceNeg, reduceCtorEq, Int.reduceToNat, Nat.reduceDiv, Nat.reduceMod]
    refine ⟨.pure _, SA, ?_⟩
    try simp -implicitDefEqProofs only [go_sem, ↓reduceIte, Nat.reduceAdd, Nat.reduceSub, Nat.reduceMul, Nat.reduceEqDiff, Nat.reduceLeDiff, Int.reduceNeg, reduceCtorEq, Int.reduceToNat, Nat.reduceDiv, Nat.reduceMod]
    refine ⟨.pure _, SB, ?_⟩
    try simp -implicitDefEqProofs only [go_sem, ↓reduceIte, Nat.reduceAdd, Nat.reduceSub, Nat.reduceMul, Nat.reduceEqDiff, Nat.reduceLeDiff, Int.reduceNeg, reduceCtorEq, Int.reduceToNat, Nat.reduceDiv, Nat.reduceMod]
    refine ⟨.pure _, DA, ?_⟩
    try simp -implicitDefEqProofs only [go_sem, ↓reduceIte, Nat.reduceAdd, Nat.reduceSub, Nat.reduceMul, Nat.reduceEqDiff, Nat.reduceLeDiff, Int.reduceNeg, reduceCtorEq, Int.reduceToNat, Nat.reduceDiv, Nat.reduceMod, b1]
    refine ⟨.pure _, DB, ?_⟩
    try simp -implicitDefEqProofs only [go_sem, ↓reduceIte, Nat.reduceAdd, Nat.reduceSub, Nat.reduceMul, Nat.reduceEqDiff, Nat.reduceLeDiff, Int.reduceNeg, reduceCtorEq, Int.reduceToNat, Nat.reduceDiv, Nat.reduceMod, b2, List.length_map, b3]
    refine hK _ ?_; clear hK K
    refine AW.cond _ (by simp -implicitDefEqProofs only [go_sem, ↓reduceIte, Nat.reduceAdd, Nat.reduceSub, Nat.reduceMul, Nat.reduceEqDiff, Nat.reduceLeDiff, Int.reduceNeg, reduceCtorEq, Int.reduceToNat, Nat.reduceDiv, Nat.reduceMod]; rfl) (fun hc => ?_) (fun hc => ?_)
    rotate_left
    · simp at hc
    refine AW.rT (by rfl) fun K hK => ?_
    simp -implicitDefEqProofs only [go_sem, ↓reduceIte, Nat.reduceAdd, Nat.reduceSub, Nat.reduceMul, Nat.reduceEqDiff, Nat.reduceLeDiff, Int.reduceNeg, reduceCtorEq, Int.reduceToNat, Nat.reduceDiv, Nat.reduceMod]
    refine ⟨.pure _, law11_awake, ?_⟩
    try simp -implicitDefEqProofs only [go_sem, ↓reduceIte, Nat.reduceAdd, Nat.reduceSub, Nat.reduceMul, Nat.reduceEqDiff, Nat.reduceLeDiff, Int.reduceNeg, reduceCtorEq, Int.reduceToNat, Nat.reduceDiv, Nat.reduceMod]
    refine hK _ ?_; clear hK K
    refine AW.ret ?_
    simp -implicitDefEqProofs only [go_sem, ↓reduceIte, Nat.reduceAdd, Nat.reduceSub, Nat.reduceMul, Nat.reduceEqDiff, Nat.reduceLeDiff, Int.reduceNeg, reduceCtorEq, Int.reduceToNat, Nat.reduceDiv, Nat.reduceMod]
  have b3 : ((a.rest.length : Int) > 0) = False := by simp [ra]
  by_cases rb : b.rest = []
  case neg =>
    have b4 : ((b.rest.length : Int) > 0) = True := by
      have := List.length_pos_iff.2 rb
      simp; omega
    refine AW.rT (by rfl) fun K hK => ?_
    simp -implicitDefEqProofs only [go_sem, ↓reduceIte, Nat.reduceAdd, Nat.reduceSub, Nat.reduceMul, Nat.reduceEqDiff, Nat.reduceLeDiff, Int.reduceNeg, reduceCtorEq, Int.reduceToNat, Nat.reduceDiv, Nat.reduceMod]
    refine ⟨.pure _, SA, ?_⟩
    try simp -implicitDefEqProofs only [go_sem, ↓reduceIte, Nat.reduceAdd, Nat.reduceSub, Nat.reduceMul, Nat.reduceEqDiff, Nat.reduceLeDiff, Int.reduceNeg, reduceCtorEq, Int.reduceToNat, Nat.reduceDiv, Nat.reduceMod]
    refine ⟨.pure _, SB, ?_⟩
    try simp -implicitDefEqProofs only [go_sem, ↓reduceIte, Nat.reduceAdd, Nat.reduceSub, Nat.reduceMul, Nat.reduceEqDiff, Nat.reduceLeDiff, Int.reduceNeg, reduceCtorEq, Int.reduceToNat, Nat.reduceDiv, Nat.reduceMod]
    refine ⟨.pure _, DA, ?_⟩
    try simp -implicitDefEqProofs only [go_sem, ↓reduceIte, Nat.reduceAdd, Nat.reduceSub, Nat.reduceMul, Nat.reduceEqDiff, Nat.reduceLeDiff, Int.reduceNeg, reduceCtorEq, Int.reduceToNat, Nat.reduceDiv, Nat.reduceMod, b1]
    refine ⟨.pure _, DB, ?_⟩
    try simp -implicitDefEqProofs only [go_sem, ↓reduceIte, Nat.reduceAdd, Nat.reduceSub, Nat.reduceMul, Nat.reduceEqDiff, Nat.reduceLeDiff, Int.reduceNeg, reduceCtorEq, Int.reduceToNat, Nat.reduceDiv, Nat.reduceMod, b2, List.length_map, b3, b4]
    refine hK _ ?_; clear hK K
    refine AW.cond _ (by simp -implicitDefEqProofs only [go_sem, ↓reduceIte, Nat.reduceAdd, Nat.reduceSub, Nat.reduceMul, Nat.reduceEqDiff, Nat.reduceLeDiff, Int.reduceNeg, reduceCtorEq, Int.reduceToNat, Nat.reduceDiv, Nat.reduceMod]; rfl) (fun hc => ?_) (fun hc => ?_)
    rotate_left
    · simp at hc
    refine AW.rT (by rfl) fun K hK => ?_
    simp -implicitDefEqProofs only [go_sem, ↓reduceIte, Nat.reduceAdd, Nat.reduceSub, Nat.reduceMul, Nat.reduceEqDiff, Nat.reduceLeDiff, Int.reduceNeg, reduceCtorEq, Int.reduceToNat, Nat.reduceDiv, Nat.reduceMod]
    refine ⟨.pure _, law11_awake, ?_⟩
    try simp -implicitDefEqProofs only [go_sem, ↓reduceIte, Nat.reduceAdd, Nat.reduceSub, Nat.reduceMul, Nat.reduceEqDiff, Nat.reduceLeDiff, Int.reduceNeg, reduceCtorEq, Int.reduceToNat, Nat.reduceDiv, Nat.reduceMod]
    refine hK _ ?_; clear hK K
    refine AW.ret ?_
    simp -implicitDefEqProofs only [go_sem, ↓reduceIte, Nat.reduceAdd, Nat.reduceSub, Nat.reduceMul, Nat.reduceEqDiff, Nat.reduceLeDiff, Int.reduceNeg, reduceCtorEq, Int.reduceToNat, Nat.reduceDiv, Nat.reduceMod]
  have b4 : ((b.rest.length : Int) > 0) = False := by simp [rb]
  have TA := law00_Tree a la
  have TB := law00_Tree b lb
  have EA := enc_Encode a la
  have EB := enc_Encode b lb
  have S1 := ref09_Same a b la
  rw [encTr_eq] at TA TB EA EB
  rw [encTr_eq, encTr_eq] at S1
  refine AW.rT (by rfl) fun K hK => ?_
  simp -implicitDefEqProofs only [go_sem, ↓reduceIte, Nat.reduceAdd, Nat.reduceSub, Nat.reduceMul, Nat.reduceEqDiff, Nat.reduceLeDiff, Int.reduceNeg, reduceCtorEq, Int.reduceToNat, Nat.reduceDiv, Nat.reduceMod]
  refine ⟨.pure _, SA, ?_⟩
  try simp -implicitDefEqProofs only [go_sem, ↓reduceIte, Nat.reduceAdd, Nat.reduceSub, Nat.reduceMul, Nat.reduceEqDiff, Nat.reduceLeDiff, Int.reduceNeg, reduceCtorEq, Int.reduceToNat, Nat.reduceDiv, Nat.reduceMod]
  refine ⟨.pure _, SB, ?_⟩
  try simp -implicitDefEqProofs only [go_sem, ↓reduceIte, Nat.reduceAdd, Nat.reduceSub, Nat.reduceMul, Nat.reduceEqDiff, Nat.reduceLeDiff, Int.reduceNeg, reduceCtorEq, Int.reduceToNat, Nat.reduceDiv, Nat.reduceMod]
  refine ⟨.pure _, DA, ?_⟩
  try simp -implicitDefEqProofs only [go_sem, ↓reduceIte, Nat.reduceAdd, Nat.reduceSub, Nat.reduceMul, Nat.reduceEqDiff, Nat.reduceLeDiff, Int.reduceNeg, reduceCtorEq, Int.reduceToNat, Nat.reduceDiv, Nat.reduceMod, b1]
  refine ⟨.pure _, DB, ?_⟩
  try simp -implicitDefEqProofs only [go_sem, ↓reduceIte, Nat.reduceAdd, Nat.reduceSub, Nat.reduceMul, Nat.reduceEqDiff, Nat.reduceLeDiff, Int.reduceNeg, reduceCtorEq, Int.reduceToNat, Nat.reduceDiv, Nat.reduceMod, b2, List.length_map, b3, b4]
  refine hK _ ?_; clear hK K
  refine AW.cond _ (by simp -implicitDefEqProofs only [go_sem, ↓reduceIte, Nat.reduceAdd, Nat.reduceSub, Nat.reduceMul, Nat.reduceEqDiff, Nat.reduceLeDiff, Int.reduceNeg, reduceCtorEq, Int.reduceToNat, Nat.reduceDiv, Nat.reduceMod]; rfl) (fun hc => ?_) (fun hc => ?_)
  · simp at hc
  refine AW.skip ?_
  simp only [andThen, inBlk, reduceCtorEq, ↓reduceIte, if_t, if_f]
  refine AW.rT (by rfl) fun K hK => ?_
  simp -implicitDefEqProofs only [go_sem, ↓reduceIte, Nat.reduceAdd, Nat.reduceSub, Nat.reduceMul, Nat.reduceEqDiff, Nat.reduceLeDiff, Int.reduceNeg, reduceCtorEq, Int.reduceToNat, Nat.reduceDiv, Nat.reduceMod]
  refine ⟨.pure _, TA, ?_⟩
  try simp -implicitDefEqProofs only [go_sem, ↓reduceIte, Nat.reduceAdd, Nat.reduceSub, Nat.reduceMul, Nat.reduceEqDiff, Nat.reduceLeDiff, Int.reduceNeg, reduceCtorEq, Int.reduceToNat, Nat.reduceDiv, Nat.reduceMod]
  refine ⟨.pure _, EA, ?_⟩
  try simp -implicitDefEqProofs only [go_sem, ↓reduceIte, Nat.reduceAdd, Nat.reduceSub, Nat.reduceMul, Nat.reduceEqDiff, Nat.reduceLeDiff, Int.reduceNeg, reduceCtorEq, Int.reduceToNat, Nat.reduceDiv, Nat.reduceMod]
  refine hK _ ?_; clear hK K
  refine AW.rT (by rfl) fun K hK => ?_
  simp -implicitDefEqProofs only [go_sem, ↓reduceIte, Nat.reduceAdd, Nat.reduceSub, Nat.reduceMul, Nat.reduceEqDiff, Nat.reduceLeDiff, Int.reduceNeg, reduceCtorEq, Int.reduceToNat, Nat.reduceDiv, Nat.reduceMod]
  refine ⟨.pure _, TB, ?_⟩
  try simp -implicitDefEqProofs only [go_sem, ↓reduceIte, Nat.reduceAdd, Nat.reduceSub, Nat.reduceMul, Nat.reduceEqDiff, Nat.reduceLeDiff, Int.reduceNeg, reduceCtorEq, Int.reduceToNat, Nat.reduceDiv, Nat.reduceMod]
  refine ⟨.pure _, EB, ?_⟩
  try simp -implicitDefEqProofs only [go_sem, ↓reduceIte, Nat.reduceAdd, Nat.reduceSub, Nat.reduceMul, Nat.reduceEqDiff, Nat.reduceLeDiff, Int.reduceNeg, reduceCtorEq, Int.reduceToNat, Nat.reduceDiv, Nat.reduceMod]
  refine hK _ ?_; clear hK K
  refine AW.seq ?_
  by_cases ea : (encA a).2 = 0
  case neg =>
    have c1 : ((encA a).2 != 0) = true := by simp [ea]
    refine AW.rT (by rfl) fun K hK => ?_
    simp -implicitDefEqProofs only [go_sem, ↓reduceIte, Nat.reduceAdd, Nat.reduceSub, Nat.reduceMul, Nat.reduceEqDiff, Nat.reduceLeDiff, Int.reduceNeg, reduceCtorEq, Int.reduceToNat, Nat.reduceDiv, Nat.reduceMod, c1]
    refine hK _ ?_; clear hK K
    refine AW.cond _ (by simp -implicitDefEqProofs only [go_sem, ↓reduceIte, Nat.reduceAdd, Nat.reduceSub, Nat.reduceMul, Nat.reduceEqDiff, Nat.reduceLeDiff, Int.reduceNeg, reduceCtorEq, Int.reduceToNat, Nat.reduceDiv, Nat.reduceMod]; rfl) (fun hc => ?_) (fun hc => ?_)
    rotate_left
    · simp at hc
    refine AW.rT (by rfl) fun K hK => ?_
    simp -implicitDefEqProofs only [go_sem, ↓reduceIte, Nat.reduceAdd, Nat.reduceSub, Nat.reduceMul, Nat.reduceEqDiff, Nat.reduceLeDiff, Int.reduceNeg, reduceCtorEq, Int.reduceToNat, Nat.reduceDiv, Nat.reduceMod]
    refine ⟨.pure _, law11_awake, ?_⟩
    try simp -implicitDefEqProofs only [go_sem, ↓reduceIte, Nat.reduceAdd, Nat.reduceSub, Nat.reduceMul, Nat.reduceEqDiff, Nat.reduceLeDiff, Int.reduceNeg, reduceCtorEq, Int.reduceToNat, Nat.reduceDiv, Nat.reduceMod]
    refine hK _ ?_; clear hK K
    refine AW.ret ?_
    simp -implicitDefEqProofs only [go_sem, ↓reduceIte, Nat.reduceAdd, Nat.reduceSub, Nat.reduceMul, Nat.reduceEqDiff, Nat.reduceLeDiff, Int.reduceNeg, reduceCtorEq, Int.reduceToNat, Nat.reduceDiv, Nat.reduceMod]
  have c1 : ((encA a).2 != 0) = false := by simp [ea]
  by_cases eb : (encA b).2 = 0
  case neg =>
    have c2 : ((encA b).2 != 0) = true := by simp [eb]
    refine AW.rT (by rfl) fun K hK => ?_
    simp -implicitDefEqProofs only [go_sem, ↓reduceIte, Nat.reduceAdd, Nat.reduceSub, Nat.reduceMul, Nat.reduceEqDiff, Nat.reduceLeDiff, Int.reduceNeg, reduceCtorEq, Int.reduceToNat, Nat.reduceDiv, Nat.reduceMod, c1, c2]
    refine hK _ ?_; clear hK K
    refine AW.cond _ (by simp -implicitDefEqProofs only [go_sem, ↓reduceIte, Nat.reduceAdd, Nat.reduceSub, Nat.reduceMul, Nat.reduceEqDiff, Nat.reduceLeDiff, Int.reduceNeg, reduceCtorEq, Int.reduceToNat, Nat.reduceDiv, Nat.reduceMod]; rfl) (fun hc => ?_) (fun hc => ?_)
    rotate_left
    · simp at hc
    refine AW.rT (by rfl) fun K hK => ?_
    simp -implicitDefEqProofs only [go_sem, ↓reduceIte, Nat.reduceAdd, Nat.reduceSub, Nat.reduceMul, Nat.reduceEqDiff, Nat.reduceLeDiff, Int.reduceNeg, reduceCtorEq, Int.reduceToNat, Nat.reduceDiv, Nat.reduceMod]
    refine ⟨.pure _, law11_awake, ?_⟩
    try simp -implicitDefEqProofs only [go_sem, ↓reduceIte, Nat.reduceAdd, Nat.reduceSub, Nat.reduceMul, Nat.reduceEqDiff, Nat.reduceLeDiff, Int.reduceNeg, reduceCtorEq, Int.reduceToNat, Nat.reduceDiv, Nat.reduceMod]
    refine hK _ ?_; clear hK K
    refine AW.ret ?_
    simp -implicitDefEqProofs only [go_sem, ↓reduceIte, Nat.reduceAdd, Nat.reduceSub, Nat.reduceMul, Nat.reduceEqDiff, Nat.reduceLeDiff, Int.reduceNeg, reduceCtorEq, Int.reduceToNat, Nat.reduceDiv, Nat.reduceMod]
  have c2 : ((encA b).2 != 0) = false := by simp [eb]
  have FF := flat_same ha hb da db ra rb ea eb
  have x1 : bytesOf (liftE ((encA a).1.map encB)) = some (encA a).1 := bytesOf_lift _
  have x2 : bytesOf (liftE ((encA b).1.map encB)) = some (encA b).1 := bytesOf_lift _
  refine AW.rT (by rfl) fun K hK => ?_
  simp -implicitDefEqProofs only [go_sem, ↓reduceIte, Nat.reduceAdd, Nat.reduceSub, Nat.reduceMul, Nat.reduceEqDiff, Nat.reduceLeDiff, Int.reduceNeg, reduceCtorEq, Int.reduceToNat, Nat.reduceDiv, Nat.reduceMod, c1, c2]
  refine hK _ ?_; clear hK K
  refine AW.cond _ (by simp -implicitDefEqProofs only [go_sem, ↓reduceIte, Nat.reduceAdd, Nat.reduceSub, Nat.reduceMul, Nat.reduceEqDiff, Nat.reduceLeDiff, Int.reduceNeg, reduceCtorEq, Int.reduceToNat, Nat.reduceDiv, Nat.reduceMod]; rfl) (fun hc => ?_) (fun hc => ?_)
  · simp at hc
  refine AW.skip ?_
  simp only [andThen, inBlk, reduceCtorEq, ↓reduceIte, if_t, if_f]
  refine AW.dT mixed (by rfl) (by decide +kernel) fun K hK => ?_
  simp -implicitDefEqProofs only [go_sem, ↓reduceIte, Nat.reduceAdd, Nat.reduceSub, Nat.reduceMul, Nat.reduceEqDiff, Nat.reduceLeDiff, Int.reduceNeg, reduceCtorEq, Int.reduceToNat, Nat.reduceDiv, Nat.reduceMod, x1, x2, FF]
  refine ⟨.pure _, S1, ?_⟩
  try simp -implicitDefEqProofs only [go_sem, ↓reduceIte, Nat.reduceAdd, Nat.reduceSub, Nat.reduceMul, Nat.reduceEqDiff, Nat.reduceLeDiff, Int.reduceNeg, reduceCtorEq, Int.reduceToNat, Nat.reduceDiv, Nat.reduceMod]
  refine ⟨_, eqP_bool _ _, ?_⟩
  try simp -implicitDefEqProofs only [go_sem, ↓reduceIte, Nat.reduceAdd, Nat.reduceSub, Nat.reduceMul, Nat.reduceEqDiff, Nat.reduceLeDiff, Int.reduceNeg, reduceCtorEq, Int.reduceToNat, Nat.reduceDiv, Nat.reduceMod, beq_self_eq_true]
  refine ⟨.pure _, law11_awake, ?_⟩
  try simp -implicitDefEqProofs only [go_sem, ↓reduceIte, Nat.reduceAdd, Nat.reduceSub, Nat.reduceMul, Nat.reduceEqDiff, Nat.reduceLeDiff, Int.reduceNeg, reduceCtorEq, Int.reduceToNat, Nat.reduceDiv, Nat.reduceMod]
  refine ⟨heapOK_nil rfl, ?_⟩
  refine hK _ ?_; clear hK K
  refine AW.ret ?_
  simp -implicitDefEqProofs only [go_sem, ↓reduceIte, Nat.reduceAdd, Nat.reduceSub, Nat.reduceMul, Nat.reduceEqDiff, Nat.reduceLeDiff, Int.reduceNeg, reduceCtorEq, Int.reduceToNat, Nat.reduceDiv, Nat.reduceMod]
end Go.Aw
