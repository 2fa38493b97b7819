/- What the law LawProjectDrops leans on, joined (part 5). -/
import Derived.Test.YtpbangopjdlfcaaDoorZprojectDrops4
set_option linter.unusedSimpArgs false
set_option linter.unusedVariables false
namespace Go.Aw.T
open Go.Proofs
set_option linter.unusedSimpArgs false
set_option linter.unusedVariables false
theorem and62 (n : Int) : 0 ≤ andI .i64 n 4611686018427387903 ∧ andI .i64 n 4611686018427387903 ≤ 4611686018427387903 := by
 unfold andI
 have h : (BitVec.ofInt (IntKind.bits .i64) n &&& BitVec.ofInt (IntKind.bits .i64) 4611686018427387903).toNat ≤ 4611686018427387903 := by
  rw [BitVec.toNat_and]
  exact Nat.and_le_right
 generalize (BitVec.ofInt (IntKind.bits .i64) n &&& BitVec.ofInt (IntKind.bits .i64) 4611686018427387903).toNat = q at h
 rw [w64 (by omega) (by omega)]
 omega
def nextF (l : List Int) (a : Nat) : Int × Nat := if l = [] then (0, a) else (andI .i64 (l.getD (((a + 1) * 7 + (a + 1) / l.length) % l.length) 0) 4611686018427387903, a + 1)
theorem nextF_pos (l : List Int) (a : Nat) : 0 ≤ (nextF l a).1 ∧ (nextF l a).1 ≤ 4611686018427387903 ∧ (nextF l a).2 ≤ a + 1 ∧ a ≤ (nextF l a).2 := by
 unfold nextF
 split
 ·simp
 ·have := and62 (l.getD (((a + 1) * 7 + (a + 1) / l.length) % l.length) 0)
  refine ⟨this.1, this.2, by simp, by simp⟩
def grN : List UInt8 := [103, 114, 195, 182, 195, 159, 101]
def cutF (v : Int) : Nat := [0, 1, 2, 4, 6, 7].getD (v % 6).toNat 0
def leafF (k : Int) (v : Int) : Tr := if k = 1 then .mk 1 (v % 4294967296 - 2147483648) [] [] [] else if k = 2 then .mk 1 (v - 2305843009213693952) [] [] [] else if k = 3 then .mk 1 (v % 2) [] [] [] else if k = 6 then .mk 1 (v % 5) [] [] [] else .mk 2 0 (grN.take (cutF v)) [] []
def oneF (l : List Int) (sub : List UInt8 → Nat → Tr × Nat) (f : Fd) (a : Nat) : Tr × Nat := if 1 ≤ f.ty.kind ∧ f.ty.kind ≤ 6 then (leafF f.ty.kind (nextF l a).1, (nextF l a).2) else sub f.ty.name (nextF l a).2
def repF (l : List Int) (sub : List UInt8 → Nat → Tr × Nat) (f : Fd) (x : List Tr × Nat) : List Tr × Nat := (if f.label ≠ 1 ∨ zeroV (oneF l sub f x.2).1 = false then x.1 ++ [(oneF l sub f x.2).1] else x.1, (oneF l sub f x.2).2)
def itS {α : Type} (g : Nat → α → α) : Nat → α → α
 | 0, x => x
 | n + 1, x => g n (itS g n x)
def cntF (l : List Int) (f : Fd) (a : Nat) : Nat × Nat := if f.label = 3 then (1 + ((nextF l a).1 % 3).toNat, (nextF l a).2) else (1, a)
def treesF (l : List Int) (sub : List UInt8 → Nat → Tr × Nat) (f : Fd) (a : Nat) : List Tr × Nat := itS (fun _ => repF l sub f) (cntF l f a).1 ([], (cntF l f a).2)
def tagF (m : Ms) (l : List Int) (sub : List UInt8 → Nat → Tr × Nat) (ok : Bool) (n : Nat) (x : List (Int × List Tr) × Nat) : List (Int × List Tr) × Nat :=
 if 150 ≤ x.2 then x else if (fldOf m ((n : Int) + 1)).2 = false then x else
 if (nextF l x.2).1 % 3 = 0 then (x.1, (nextF l x.2).2) else if (fldOf m ((n : Int) + 1)).1.ty.kind = 7 ∧ ok = false then (x.1, (nextF l x.2).2) else
 if (treesF l sub (fldOf m ((n : Int) + 1)).1 (nextF l x.2).2).1 = [] then (x.1, (treesF l sub (fldOf m ((n : Int) + 1)).1 (nextF l x.2).2).2) else
 (x.1 ++ [((n : Int) + 1, (treesF l sub (fldOf m ((n : Int) + 1)).1 (nextF l x.2).2).1)], (treesF l sub (fldOf m ((n : Int) + 1)).1 (nextF l x.2).2).2)
def nowhere (_ : List UInt8) (a : Nat) : Tr × Nat := (.mk 3 0 [] [] [], a)
def fitF (S : Sc) (l : List Int) : Nat → List UInt8 → Nat → Tr × Nat
 | 0, k, a => (.mk 3 0 [] (itS (tagF (msOf S k).1 l nowhere false) 500 ([], a)).1 [], (itS (tagF (msOf S k).1 l nowhere false) 500 ([], a)).2)
 | d + 1, k, a => (.mk 3 0 [] (itS (tagF (msOf S k).1 l (fitF S l d) true) 500 ([], a)).1 [], (itS (tagF (msOf S k).1 l (fitF S l d) true) 500 ([], a)).2)
def subF (S : Sc) (l : List Int) : Nat → List UInt8 → Nat → Tr × Nat
 | 0 => nowhere
 | d + 1 => fitF S l d
theorem fitF_eq (S : Sc) (l : List Int) (d : Nat) (k : List UInt8) (a : Nat) : fitF S l d k a = (.mk 3 0 [] (itS (tagF (msOf S k).1 l (subF S l d) (d != 0)) 500 ([], a)).1 [], (itS (tagF (msOf S k).1 l (subF S l d) (d != 0)) 500 ([], a)).2) := by
 cases d <;> rfl
theorem tagF_end {m : Ms} {l : List Int} {sub : List UInt8 → Nat → Tr × Nat} {ok : Bool} {n : Nat} {x : List (Int × List Tr) × Nat} (h : 150 ≤ x.2) : tagF m l sub ok n x = x := by
 unfold tagF
 rw [if_pos h]
theorem itS_end {m : Ms} {l : List Int} {sub : List UInt8 → Nat → Tr × Nat} {ok : Bool} {x : List (Int × List Tr) × Nat} {i : Nat} (h : 150 ≤ (itS (tagF m l sub ok) i x).2) : ∀ j, itS (tagF m l sub ok) (i + j) x = itS (tagF m l sub ok) i x
 | 0 => rfl
 | j + 1 => by
  rw [← Nat.add_assoc, itS, itS_end h j, tagF_end h]
theorem rightE_snoc {g : Int} {l : List Tr} (hg : g ≤ 500) (h1 : 1 ≤ l.length) (h2 : l.length ≤ 64) (h3 : rightTs l (headK l) = true) : ∀ (es : List (Int × List Tr)) (last : Int), rightE es last = true → (∀ e ∈ es, e.1 < g) → last < g → rightE (es ++ [(g, l)]) last = true
 | [], last, _, _, hl => by
  rw [List.nil_append, rightE, if_neg (by omega), if_pos h3, rightE]
 | (q, r) :: es, last, hr, he, hl => by
  rw [rightE] at hr
  split at hr
  ·cases hr
  rename_i hq
  split at hr
  ·rename_i hq2
   rw [List.cons_append, rightE, if_neg hq, if_pos hq2]
   exact rightE_snoc hg h1 h2 h3 es q hr (fun e h => he e (List.mem_cons_of_mem _ h)) (he (q, r) (List.mem_cons_self))
  ·cases hr
theorem rightTs_all {k : Int} : ∀ {l : List Tr}, (∀ x ∈ l, x.kind = k ∧ rightT x = true) → rightTs l k = true
 | [], _ => by rw [rightTs]
 | x :: l, h => by
  have := h x (List.mem_cons_self)
  rw [rightTs, if_neg (by simp [this.1]), if_pos this.2]
  exact rightTs_all fun y hy => h y (List.mem_cons_of_mem _ hy)
theorem entV_snoc {S : Sc} {m : Ms} {g : Int} {l : List Tr} (h : entV S m [(g, l)] = 0) : ∀ (es : List (Int × List Tr)), entV S m es = 0 → entV S m (es ++ [(g, l)]) = 0
 | [], _ => h
 | (q, r) :: es, he => by
  rw [entV] at he
  rw [List.cons_append, entV]
  split at he
  ·cases he
  rename_i h1
  rw [if_neg h1]
  split at he
  ·cases he
  rename_i h2
  rw [if_neg h2]
  obtain ⟨e1, e2⟩ := orE_eq.1 he
  rw [e1, orE_0]
  exact entV_snoc h es e2
theorem oneL_all {S : Sc} {f : Fd} : ∀ {l : List Tr}, (∀ x ∈ l, oneV S f x = 0) → oneL S f l = 0
 | [], _ => by rw [oneL]
 | x :: l, h => by
  rw [oneL_cons, h x (List.mem_cons_self), orE_0]
  exact oneL_all fun y hy => h y (List.mem_cons_of_mem _ hy)
theorem dE_snoc {g : Int} {l : List Tr} {m : Nat} : ∀ (es : List (Int × List Tr)) (d : Nat), dE (es ++ [(g, l)]) m d = dTs l m (dE es m d)
 | [], d => by rw [List.nil_append, dE, dE, dE]
 | (q, r) :: es, d => by rw [List.cons_append, dE, dE, dE_snoc es]
theorem dTs_bound {b m : Nat} : ∀ {l : List Tr} {d : Nat}, (∀ x ∈ l, dT x m ≤ b) → d ≤ b → dTs l m d ≤ b
 | [], d, _, h => by rw [dTs]; exact h
 | x :: l, d, hl, h => by
  rw [dTs]
  have := hl x (List.mem_cons_self)
  exact dTs_bound (fun y hy => hl y (List.mem_cons_of_mem _ hy)) (by omega)
structure GoodF (S : Sc) (f : Fd) (d : Nat) (t : Tr) : Prop where
 one : oneV S f t = 0
 kind : t.kind = kdV f.ty
 right : rightT t = true
 deep : ∀ m, dT t m ≤ d
 lens : lensT t = true
 str : strT t = true
structure GoodE (S : Sc) (m : Ms) (d n : Nat) (es : List (Int × List Tr)) : Prop where
 right : rightE es 0 = true
 ent : entV S m es = 0
 tags : ∀ e ∈ es, e.1 ≤ n
 deep : ∀ q, dE es q 0 ≤ d
 lens : es.length ≤ n ∧ lensE es = true
 str : strE es = true
 some : ∀ e ∈ es, (fldOf m e.1).2 = true ∧ 1 ≤ e.2.length ∧ ∀ x ∈ e.2, GoodF S (fldOf m e.1).1 d x
structure GoodM (S : Sc) (m : Ms) (d : Nat) (t : Tr) : Prop where
 kind : t.kind = 3
 right : rightT t = true
 msg : msgV S m t = 0
 deep : ∀ q, dT t q ≤ d
 lens : lensT t = true
 str : strT t = true
 rest : t.rest = []
 some : ∀ e ∈ t.ents, (fldOf m e.1).2 = true ∧ 1 ≤ e.2.length ∧ ∀ x ∈ e.2, GoodF S (fldOf m e.1).1 (d - 1) x
theorem valS_cut (v : Int) : valS (grN.take (cutF v)) = true := by
 unfold cutF
 have h1 : (v % 6).toNat < 6 := by omega
 generalize (v % 6).toNat = q at h1
 match q, h1 with
 | 0, _ => decide +kernel
 | 1, _ => decide +kernel
 | 2, _ => decide +kernel
 | 3, _ => decide +kernel
 | 4, _ => decide +kernel
 | 5, _ => decide +kernel
theorem num_right {n : Int} : rightT (.mk 1 n [] [] []) = true := by rw [rightT]; rfl
theorem txt_right {s : List UInt8} : rightT (.mk 2 0 s [] []) = true := by rw [rightT]; rfl
theorem leaf_good {S : Sc} {f : Fd} {v : Int} (hv : 0 ≤ v) (hv2 : v ≤ 4611686018427387903) (h1 : 1 ≤ f.ty.kind) (h6 : f.ty.kind ≤ 6) (h : f.label = 1 → zeroV (leafF f.ty.kind v) = false) (d : Nat) : GoodF S f d (leafF f.ty.kind v) := by
 have h7 : ¬ f.ty.kind = 7 := by omega
 have hz : ¬ (f.label = 1 ∧ zeroV (leafF f.ty.kind v) = true) := by rintro ⟨a, b⟩; rw [h a] at b; cases b
 have num : ∀ n, kdV f.ty = 1 → numV f.ty n = true → leafF f.ty.kind v = .mk 1 n [] [] [] → GoodF S f d (leafF f.ty.kind v) := fun n h2 h3 h4 => by
  refine ⟨?_, ?_, ?_, fun m => ?_, ?_, ?_⟩
  ·unfold oneV
   rw [if_neg h7, if_neg hz, orE_0, orE_r, h4]
   unfold fitV
   rw [if_neg (by simp [Tr.kind, h2]), if_neg (by simp [Tr.n, h3]), if_neg]
   rintro ⟨a, _⟩
   unfold kdV at h2
   rw [if_neg (by omega), if_pos (by omega)] at h2
   cases h2
  ·rw [h4, h2]; rfl
  ·rw [h4]; exact num_right
  ·rw [h4, dT, if_pos (by omega)]; exact Nat.zero_le _
  ·rw [h4, lensT, lensE]; rfl
  ·rw [h4, strT, strE]; rfl
 have e1 : ∀ k : Int, f.ty.kind = k → leafF f.ty.kind v = leafF k v := fun k h => by rw [h]
 by_cases k1 : f.ty.kind = 1
 ·refine num (v % 4294967296 - 2147483648) (by unfold kdV; rw [if_pos (by omega)]) ?_ (by unfold leafF; rw [if_pos k1])
  unfold numV
  rw [if_pos k1]
  simp only [decide_eq_true_eq]
  omega
 by_cases k2 : f.ty.kind = 2
 ·refine num (v - 2305843009213693952) (by unfold kdV; rw [if_pos (by omega)]) ?_ (by unfold leafF; rw [if_neg k1, if_pos k2])
  unfold numV
  rw [if_neg k1, if_neg (by omega), if_neg (by omega)]
  simp [k2]
 by_cases k3 : f.ty.kind = 3
 ·refine num (v % 2) (by unfold kdV; rw [if_pos (by omega)]) ?_ (by unfold leafF; rw [if_neg k1, if_neg k2, if_pos k3])
  unfold numV
  rw [if_neg k1, if_pos k3]
  simp only [decide_eq_true_eq]
  omega
 by_cases k6 : f.ty.kind = 6
 ·refine num (v % 5) (by unfold kdV; rw [if_pos (by omega)]) ?_ (by unfold leafF; rw [if_neg k1, if_neg k2, if_neg k3, if_pos k6])
  unfold numV
  rw [if_neg k1, if_neg k3, if_pos k6]
  simp only [decide_eq_true_eq]
  omega
 have h4 : leafF f.ty.kind v = .mk 2 0 (grN.take (cutF v)) [] [] := by unfold leafF; rw [if_neg k1, if_neg k2, if_neg k3, if_neg k6]
 have hk : kdV f.ty = 2 := by unfold kdV; rw [if_neg (by omega), if_pos (by omega)]
 refine ⟨?_, ?_, ?_, fun m => ?_, ?_, ?_⟩
 ·unfold oneV
  rw [if_neg h7, if_neg hz, orE_0, orE_r, h4]
  unfold fitV
  rw [if_neg (by simp [Tr.kind, hk]), if_neg (by simp [Tr.kind]), if_neg]
  rintro ⟨_, a⟩
  simp only [Tr.s] at a
  rw [valS_cut] at a
  cases a
 ·rw [h4, hk]; rfl
 ·rw [h4]; exact txt_right
 ·rw [h4, dT, if_pos (by omega)]; exact Nat.zero_le _
 ·rw [h4, lensT, lensE]; rfl
 ·rw [h4, strT, strE]
  simp only [Bool.and_true, decide_eq_true_eq, List.length_take]
  have : grN.length = 7 := rfl
  omega
end Go.Aw.T
namespace Go.Aw.T
open Go.Proofs
set_option linter.unusedSimpArgs false
set_option linter.unusedVariables false
def FldsOK (S : Sc) (m : Ms) : Prop := ∀ g, (fldOf m g).2 = true → (1 ≤ (fldOf m g).1.ty.kind ∧ (fldOf m g).1.ty.kind ≤ 7) ∧ ((fldOf m g).1.ty.kind = 7 → (msOf S (fldOf m g).1.ty.name).2 = true)
def SubGood (S : Sc) (d : Nat) (sub : List UInt8 → Nat → Tr × Nat) : Prop := ∀ k a, (msOf S k).2 = true → GoodM S (msOf S k).1 d (sub k a).1
theorem one_good {S : Sc} {l : List Int} {sub : List UInt8 → Nat → Tr × Nat} {f : Fd} {d a : Nat} (h1 : 1 ≤ f.ty.kind) (h7 : f.ty.kind ≤ 7) (hm : f.ty.kind = 7 → (msOf S f.ty.name).2 = true ∧ SubGood S d sub) (hz : f.label = 1 → zeroV (oneF l sub f a).1 = false) : GoodF S f d (oneF l sub f a).1 := by
 have np := nextF_pos l a
 unfold oneF at hz ⊢
 by_cases h6 : f.ty.kind ≤ 6
 ·rw [if_pos ⟨h1, h6⟩] at hz ⊢
  exact leaf_good np.1 np.2.1 h1 h6 hz d
 ·have k7 : f.ty.kind = 7 := by omega
  obtain ⟨q1, q2⟩ := hm k7
  rw [if_neg (by omega)] at hz ⊢
  have g := q2 f.ty.name (nextF l a).2 q1
  have kv : kdV f.ty = 3 := (kdV_3 h1 h7).2 k7
  refine ⟨?_, by rw [g.kind, kv], g.right, g.deep, g.lens, g.str⟩
  have hz' : ¬ (f.label = 1 ∧ zeroV (sub f.ty.name (nextF l a).2).1 = true) := by
   rintro ⟨a', b⟩
   have := hz a'
   rw [this] at b
   cases b
  unfold oneV fitV
  rw [if_neg (by simp [g.kind, kv]), if_neg (by simp [g.kind]), if_neg (by omega), orE_0, if_pos k7, g.msg, orE_0, if_neg hz']
theorem reps_good {S : Sc} {l : List Int} {sub : List UInt8 → Nat → Tr × Nat} {f : Fd} {d : Nat} (h1 : 1 ≤ f.ty.kind) (h7 : f.ty.kind ≤ 7) (hm : f.ty.kind = 7 → (msOf S f.ty.name).2 = true ∧ SubGood S d sub) (a : Nat) :
  ∀ n, (∀ x ∈ (itS (fun _ => repF l sub f) n ([], a)).1, GoodF S f d x) ∧ (itS (fun _ => repF l sub f) n ([], a)).1.length ≤ n
 | 0 => by simp [itS]
 | n + 1 => by
  obtain ⟨g1, g2⟩ := reps_good h1 h7 hm a n
  rw [itS]
  generalize itS (fun _ => repF l sub f) n ([], a) = y at g1 g2
  unfold repF
  by_cases hz : f.label ≠ 1 ∨ zeroV (oneF l sub f y.2).1 = false
  ·rw [if_pos hz]
   refine ⟨fun x hx => ?_, by simp; omega⟩
   rcases List.mem_append.1 hx with hx | hx
   ·exact g1 x hx
   ·simp only [List.mem_singleton] at hx
    subst hx
    exact one_good h1 h7 hm fun hl => by
     rcases hz with q | q
     ·exact absurd hl q
     ·exact q
  ·rw [if_neg hz]
   exact ⟨g1, by simp only; omega⟩
theorem cntF_le (l : List Int) (f : Fd) (a : Nat) : 1 ≤ (cntF l f a).1 ∧ (cntF l f a).1 ≤ 3 ∧ (f.label ≠ 3 → (cntF l f a).1 = 1) ∧ (cntF l f a).2 ≤ a + 1 ∧ a ≤ (cntF l f a).2 := by
 have np := nextF_pos l a
 unfold cntF
 split
 ·rename_i h
  refine ⟨by simp only; omega, by simp only; omega, fun h' => absurd h h', np.2.2.1, np.2.2.2⟩
 ·exact ⟨by simp, by simp, fun _ => rfl, by simp, by simp⟩
theorem trees_good {S : Sc} {l : List Int} {sub : List UInt8 → Nat → Tr × Nat} {f : Fd} {d : Nat} (h1 : 1 ≤ f.ty.kind) (h7 : f.ty.kind ≤ 7) (hm : f.ty.kind = 7 → (msOf S f.ty.name).2 = true ∧ SubGood S d sub) (a : Nat) :
  (∀ x ∈ (treesF l sub f a).1, GoodF S f d x) ∧ (treesF l sub f a).1.length ≤ 3 ∧ (f.label ≠ 3 → (treesF l sub f a).1.length ≤ 1) := by
 have c := cntF_le l f a
 have r := reps_good (l := l) h1 h7 hm (cntF l f a).2 (cntF l f a).1
 unfold treesF
 exact ⟨r.1, by omega, fun h => by have := c.2.2.1 h; omega⟩
theorem GoodE.up {S : Sc} {m : Ms} {d n : Nat} {es : List (Int × List Tr)} (h : GoodE S m d n es) : GoodE S m d (n + 1) es :=
 ⟨h.right, h.ent, fun e he => by have := h.tags e he; omega, h.deep, ⟨by have := h.lens.1; omega, h.lens.2⟩, h.str, h.some⟩
theorem lensE_snoc {g : Int} {l : List Tr} (h1 : l.length ≤ 1000) (h2 : lensTs l = true) : ∀ {es : List (Int × List Tr)}, lensE es = true → lensE (es ++ [(g, l)]) = true
 | [], _ => by rw [List.nil_append, lensE, lensE, h2]; simp [h1]
 | (q, r) :: es, h => by
  rw [lensE, Bool.and_eq_true] at h
  rw [List.cons_append, lensE, h.1, lensE_snoc h1 h2 h.2]
  rfl
theorem lensTs_all : ∀ {l : List Tr}, (∀ x ∈ l, lensT x = true) → lensTs l = true
 | [], _ => by rw [lensTs]
 | x :: l, h => by
  rw [lensTs, h x (List.mem_cons_self), lensTs_all fun y hy => h y (List.mem_cons_of_mem _ hy)]
  rfl
theorem tag_good {S : Sc} {m : Ms} {l : List Int} {sub : List UInt8 → Nat → Tr × Nat} {ok : Bool} {d n : Nat} (FO : FldsOK S m) (hs : ok = true → SubGood S d sub) (hn : n + 1 ≤ 500) {x : List (Int × List Tr) × Nat} (G : GoodE S m d n x.1) : GoodE S m d (n + 1) (tagF m l sub ok n x).1 := by
 unfold tagF
 split
 ·exact G.up
 split
 ·exact G.up
 rename_i hf
 split
 ·exact G.up
 split
 ·exact G.up
 rename_i hk
 split
 ·exact G.up
 rename_i hne
 have hf' : (fldOf m ((n : Int) + 1)).2 = true := by simpa using hf
 obtain ⟨⟨k1, k7⟩, km⟩ := FO _ hf'
 obtain ⟨t1, t2, t3⟩ := trees_good (l := l) (sub := sub) (d := d) k1 k7 (fun h => ⟨km h, hs (by simp only [not_and, Bool.not_eq_false] at hk; exact hk h)⟩) (nextF l x.2).2
 generalize (treesF l sub (fldOf m ((n : Int) + 1)).1 (nextF l x.2).2).1 = ts at t1 t2 t3 hne
 have hl : 1 ≤ ts.length := by cases ts with
  | nil => exact absurd rfl hne
  | cons a b => simp
 have hrt : rightTs ts (headK ts) = true := by
  refine rightTs_all fun y hy => ⟨?_, (t1 y hy).right⟩
  rw [(t1 y hy).kind]
  cases ts with
  | nil => cases hy
  | cons a b => rw [headK, (t1 a (List.mem_cons_self)).kind]
 refine ⟨?_, ?_, ?_, ?_, ?_, ?_, ?_⟩
 ·exact rightE_snoc (by omega) hl (by omega) hrt x.1 0 G.right (fun e he => by have := G.tags e he; omega) (by omega)
 ·refine entV_snoc ?_ x.1 G.ent
  rw [entV, if_neg (by simp [hf']), if_neg (by rintro ⟨a, b⟩; have := t3 a; omega), oneL_all fun y hy => (t1 y hy).one, orE_0, entV]
 ·intro e he
  rcases List.mem_append.1 he with he | he
  ·have := G.tags e he; omega
  ·simp only [List.mem_singleton] at he
   subst he
   simp
 ·intro q
  show dE (x.1 ++ [((n : Int) + 1, ts)]) q 0 ≤ d
  rw [dE_snoc]
  exact dTs_bound (fun y hy => (t1 y hy).deep q) (G.deep q)
 ·exact ⟨by simp; exact G.lens.1, lensE_snoc (by omega) (lensTs_all fun y hy => (t1 y hy).lens) G.lens.2⟩
 ·refine strE_iff.2 fun e he => ?_
  rcases List.mem_append.1 he with he | he
  ·exact strE_iff.1 G.str e he
  ·simp only [List.mem_singleton] at he
   subst he
   exact strTs_iff.2 fun y hy => (t1 y hy).str
 ·intro e he
  rcases List.mem_append.1 he with he | he
  ·exact G.some e he
  ·simp only [List.mem_singleton] at he
   subst he
   exact ⟨hf', hl, t1⟩
theorem tags_good {S : Sc} {m : Ms} {l : List Int} {sub : List UInt8 → Nat → Tr × Nat} {ok : Bool} {d : Nat} (FO : FldsOK S m) (hs : ok = true → SubGood S d sub) (a : Nat) : ∀ n, n ≤ 500 → GoodE S m d n (itS (tagF m l sub ok) n ([], a)).1
 | 0, _ => by
  refine ⟨by rw [itS, rightE], by rw [itS, entV], by simp [itS], fun q => by rw [itS, dE]; omega, ⟨by simp [itS], by rw [itS, lensE]⟩, by rw [itS, strE], by simp [itS]⟩
 | n + 1, h => by
  rw [itS]
  exact tag_good FO hs h (tags_good FO hs a n (by omega))
theorem good_tree {S : Sc} {m : Ms} {d n : Nat} {es : List (Int × List Tr)} (G : GoodE S m d n es) (hn : n ≤ 500) : GoodM S m (d + 1) (.mk 3 0 [] es []) := by
 refine ⟨rfl, ?_, ?_, fun q => ?_, ?_, ?_, rfl, G.some⟩
 ·rw [rightT_mk]
  simp only [Tr.kind, Tr.n, Tr.s, Tr.ents, Tr.rest]
  rw [G.right]
  rfl
 ·rw [msgV_mk]
  simp only [Tr.ents, Tr.rest]
  rw [G.ent]
  rfl
 ·rw [dT]
  split
  ·omega
  ·have := G.deep (q - 1); omega
 ·rw [lensT, G.lens.2]
  have := G.lens.1
  simp; omega
 ·rw [strT, G.str]
  simp
theorem fit_good {S : Sc} (FO : ∀ k, (msOf S k).2 = true → FldsOK S (msOf S k).1) (l : List Int) : ∀ (d : Nat) (k : List UInt8) (a : Nat), (msOf S k).2 = true → GoodM S (msOf S k).1 (d + 1) (fitF S l d k a).1
 | 0, k, a, h => by
  rw [fitF]
  exact good_tree (tags_good (FO k h) (fun h => by cases h) a 500 (by omega)) (by omega)
 | d + 1, k, a, h => by
  rw [fitF]
  exact good_tree (tags_good (FO k h) (fun _ k a h => fit_good FO l d k a h) a 500 (by omega)) (by omega)
def SubAt (B : Nat) (sub : List UInt8 → Nat → Tr × Nat) : Prop := ∀ k a, (sub k a).2 ≤ max a B ∧ a ≤ (sub k a).2
theorem one_at {l : List Int} {sub : List UInt8 → Nat → Tr × Nat} {f : Fd} {B a : Nat} (h : SubAt B sub) : (oneF l sub f a).2 ≤ max (a + 1) B ∧ a ≤ (oneF l sub f a).2 := by
 have np := nextF_pos l a
 unfold oneF
 split
 ·simp only; omega
 ·have := h f.ty.name (nextF l a).2; omega
theorem reps_at {l : List Int} {sub : List UInt8 → Nat → Tr × Nat} {f : Fd} {B : Nat} (h : SubAt B sub) (x : List Tr × Nat) : ∀ n, (itS (fun _ => repF l sub f) n x).2 ≤ max x.2 B + n ∧ x.2 ≤ (itS (fun _ => repF l sub f) n x).2
 | 0 => by simp only [itS]; omega
 | n + 1 => by
  have g := reps_at h x n (l := l) (f := f)
  have o := one_at (l := l) (f := f) (a := (itS (fun _ => repF l sub f) n x).2) h
  rw [itS]
  unfold repF at g o ⊢
  simp only at g o ⊢
  omega
theorem trees_at {l : List Int} {sub : List UInt8 → Nat → Tr × Nat} {f : Fd} {B a : Nat} (h : SubAt B sub) : (treesF l sub f a).2 ≤ max (a + 1) B + 3 ∧ a ≤ (treesF l sub f a).2 := by
 have c := cntF_le l f a
 have r := reps_at (l := l) (f := f) h ([], (cntF l f a).2) (cntF l f a).1
 unfold treesF
 simp only at r
 omega
theorem tag_at {m : Ms} {l : List Int} {sub : List UInt8 → Nat → Tr × Nat} {ok : Bool} {B n : Nat} (h : SubAt B sub) (x : List (Int × List Tr) × Nat) : (tagF m l sub ok n x).2 ≤ max x.2 (max 151 B + 3) ∧ x.2 ≤ (tagF m l sub ok n x).2 := by
 have np := nextF_pos l x.2
 have t := trees_at (l := l) (f := (fldOf m ((n : Int) + 1)).1) (a := (nextF l x.2).2) h
 unfold tagF
 repeat' split
 all_goals first | omega | (simp only; omega)
theorem tags_at {m : Ms} {l : List Int} {sub : List UInt8 → Nat → Tr × Nat} {ok : Bool} {B : Nat} (h : SubAt B sub) (x : List (Int × List Tr) × Nat) : ∀ n, (itS (tagF m l sub ok) n x).2 ≤ max x.2 (max 151 B + 3) ∧ x.2 ≤ (itS (tagF m l sub ok) n x).2
 | 0 => by simp only [itS]; omega
 | n + 1 => by
  have g := tags_at h x n (m := m) (l := l) (ok := ok)
  have o := tag_at (m := m) (l := l) (ok := ok) (n := n) h (itS (tagF m l sub ok) n x)
  rw [itS]
  omega
theorem fit_at (S : Sc) (l : List Int) : ∀ d, SubAt (154 + 3 * d) (fitF S l d)
 | 0, k, a => by
  have := tags_at (m := (msOf S k).1) (l := l) (ok := false) (B := 0) (sub := nowhere) (fun k a => by simp [nowhere]) ([], a) 500
  rw [fitF]
  simp only at this ⊢
  omega
 | d + 1, k, a => by
  have := tags_at (m := (msOf S k).1) (l := l) (ok := true) (fit_at S l d) ([], a) 500
  rw [fitF]
  simp only at this ⊢
  omega
theorem sub_at (S : Sc) (l : List Int) (d : Nat) : SubAt (154 + 3 * d) (subF S l d) := by
 cases d with
 | zero => intro k a; simp [subF, nowhere]; omega
 | succ d => intro k a; have := fit_at S l d k a; rw [subF]; omega
end Go.Aw.T
namespace Go.Aw.T
open Go.Proofs
set_option linter.unusedSimpArgs false
set_option linter.unusedVariables false
end Go.Aw.T
namespace Go.Aw.T
open Go.Proofs
set_option linter.unusedSimpArgs false
set_option linter.unusedVariables false
end Go.Aw.T
namespace Go.Aw
open Go.Proofs Go.RowKit
set_option linter.unusedSimpArgs false
set_option linter.unusedVariables false
def rp1 (S : Sc) (i : Nat) : St := ⟨ofL [(1, .ptr 0 0 0), (3, .own 1), (4, .p (.int .i64 (i : Int)))], ofH [(0, .row 4 [cellsSc S]), (1, .row 1 (liftE (((S.msgs.take i).map Ms.name).map encS)))], 2⟩
def rp2 (S : Sc) (i : Nat) : St := ⟨ofL [(1, .ptr 0 0 0), (3, .own 1), (6, .p (.int .i64 (i : Int)))], ofH [(0, .row 4 [cellsSc S]), (1, .row 1 (liftE ((S.msgs.map Ms.name ++ (S.enums.take i).map En.name).map encS)))], 2⟩
def rp3 (S : Sc) (i : Nat) : St := ⟨ofL [(1, .ptr 0 0 0), (4, .own 1), (5, .p (.int .i64 (i : Int)))], ofH [(0, .row 4 [cellsSc S]), (1, .row 1 (liftE (((S.meths.take i).map Mt.name).map encS)))], 2⟩
set_option maxRecDepth 100000 in
set_option maxHeartbeats 8000000 in
theorem ref07_parts (S : Sc) (L : LensS S) : PFn Tryd.prog 58 [.agg (encSc S)] (.int .i64 (partsC S)) := by
 refine PFn.of Tryd.func58 rfl (by decide) Tryd.ntmps58 Tryd.results58 (Nat.le_of_ble_eq_true rfl) ?_
 simp only [argsT, encSc]
 have Lm := L.m
 have Le := L.e
 refine AW.rT (by rfl) fun K hK => ?_
 simp -implicitDefEqProofs only [go_sem, Nat.reduceAdd]
 refine hK _ ?_; clear hK K
 refine AW.rT (by rfl) fun K hK => ?_
 simp -implicitDefEqProofs only [go_sem, Nat.reduceAdd]
 refine hK _ ?_; clear hK K
 refine AW.seq ?_
 refine AW.rT (by rfl) fun K hK => ?_
 simp -implicitDefEqProofs only [go_sem, Nat.reduceAdd]
 refine hK _ ?_; clear hK K
 refine AW.block ?_
 refine AW.loop (rp1 S) (fun i => i ≤ S.msgs.length ∧ partsC S = msgsC S (fun ns => enumsC ns S.enums) ((S.msgs.take i).map Ms.name) (S.msgs.drop i)) (fun i => S.msgs.length - i) 0 ?_ ⟨by omega, by simp [partsC]⟩ fun i hi => ?_
 ·refine Ghost.trans (Ghost.nil (t := 3) (sz := 1) rfl) ?_
  simp only [rp1, cellsSc]
  refine Ghost.ent (fun l => if l = 0 then 0 else 4) ?_ ?_ ?_ <;> simp -implicitDefEqProofs only [go_sem, ↓reduceIte, Nat.reduceEqDiff, reduceCtorEq, List.take_zero, List.map_nil, liftE_nil, List.forall_mem_cons, List.not_mem_nil, false_implies, implies_true, and_self, List.all_cons, List.all_nil, Nat.reduceLT, labsInL, AV.labsIn]
  all_goals first | rfl | decide | skip
 obtain ⟨i1, i2⟩ := hi
 simp only [rp1, cellsSc]
 refine AW.seq ?_
 by_cases hil : i < S.msgs.length
 ·obtain ⟨m, hm⟩ : ∃ m, S.msgs[i]? = some m := ⟨_, List.getElem?_eq_getElem hil⟩
  have ⟨hm1, hm2, hm3⟩ := at_map' encMs hm
  have hm2' : (i : Int) < (S.msgs.length : Int) := by omega
  have hc1 : ((i : Int) < (S.msgs.length : Int)) = True := eq_true (by omega)
  have w1 : IntKind.wrap .i64 ((i : Int) + 1) = ((i + 1 : Nat) : Int) := by rw [w64] <;> omega
  rw [msgsC_at hm] at i2
  have hnx := take_map_next Ms.name hm
  have hNl : ((S.msgs.take i).map Ms.name).length ≤ 1000000 := by rw [List.length_map, List.length_take]; omega
  generalize hN : (S.msgs.take i).map Ms.name = N at *
  have FR := ref07_fresh N m.name (by omega) (L.msgs m (List.mem_of_getElem? hm)).1
  have CM := ref07_message S m L.m L.e (L.msgs m (List.mem_of_getElem? hm))
  simp only [encSc, encMs] at CM
  refine AW.rT (by rfl) fun K hK => ?_
  simp -implicitDefEqProofs only [go_sem, ↓reduceIte, Nat.reduceAdd, Nat.reduceEqDiff, hc1, List.length_map]
  refine hK _ ?_; clear hK K
  refine AW.cond _ (by simp -implicitDefEqProofs only [go_sem]; rfl) (fun hc => ?_) (fun hc => ?_)
  rotate_left
  ·simp at hc
  refine AW.skip ?_
  simp only [andThen]
  refine AW.seq ?_
  refine AW.block ?_
  refine AW.seq ?_
  cases ht : takesB N m.name with
  | false =>
   have hv : msgC S N m = 6 := by unfold msgC; rw [ht]; rfl
   rw [hv, if_neg (by decide)] at i2
   rw [ht] at FR
   refine AW.rT (by rfl) fun K hK => ?_
   simp -implicitDefEqProofs only [go_sem, ↓reduceIte, Nat.reduceAdd, Nat.reduceEqDiff, hm1, hm2', hm3, encMs, List.length_map]
   refine ⟨.peek _, ⟨FR, rfl⟩, ?_⟩
   try simp -implicitDefEqProofs only [go_sem, Nat.reduceAdd]
   refine hK _ ?_; clear hK K
   refine AW.cond _ (by simp -implicitDefEqProofs only [go_sem]; rfl) (fun hc => ?_) (fun hc => ?_)
   rotate_left
   ·simp at hc
   refine AW.rT (by rfl) fun K hK => ?_
   simp -implicitDefEqProofs only [go_sem, Nat.reduceAdd]
   refine hK _ ?_; clear hK K
   refine AW.ret ?_
   simp -implicitDefEqProofs only [go_sem, i2]
  | true =>
  have hv : msgC S N m = bodyC S m := by unfold msgC; rw [ht]; rfl
  rw [hv] at i2
  rw [ht] at FR
  refine AW.rT (by rfl) fun K hK => ?_
  simp -implicitDefEqProofs only [go_sem, ↓reduceIte, Nat.reduceAdd, Nat.reduceEqDiff, hm1, hm2', hm3, encMs, List.length_map]
  refine ⟨.peek _, ⟨FR, rfl⟩, ?_⟩
  try simp -implicitDefEqProofs only [go_sem, Nat.reduceAdd]
  refine hK _ ?_; clear hK K
  refine AW.cond _ (by simp -implicitDefEqProofs only [go_sem]; rfl) (fun hc => ?_) (fun hc => ?_)
  ·simp at hc
  refine AW.skip ?_
  simp only [andThen]
  refine AW.rT (by rfl) fun K hK => ?_
  simp -implicitDefEqProofs only [go_sem, ↓reduceIte, Nat.reduceAdd, Nat.reduceMul, Nat.reduceEqDiff, Nat.reduceLeDiff, reduceCtorEq, hm1, hm2', hm3, encMs, List.length_map]
  refine ⟨⟨by simp, by simp [oneAll, AV.one, PV.one], by simp⟩, by simp [liftE_length]; omega, ?_⟩
  refine hK _ ?_; clear hK K
  refine AW.dT mixed (by rfl) (by decide +kernel) fun K hK => ?_
  simp -implicitDefEqProofs only [go_sem, ↓reduceIte, Nat.reduceAdd, Nat.reduceEqDiff, Nat.reduceLeDiff, reduceCtorEq, hm1, hm2', hm3, encMs, List.length_map]
  refine ⟨.pure _, CM, ?_⟩
  try simp -implicitDefEqProofs only [go_sem, ↓reduceIte, Nat.reduceAdd]
  refine ⟨heapOK_nil rfl, ?_⟩
  refine hK _ ?_; clear hK K
  by_cases hz : bodyC S m = 0
  ·have bz : (bodyC S m != 0) = false := by simp [hz]
   rw [if_pos hz] at i2
   refine AW.rT (by rfl) fun K hK => ?_
   simp -implicitDefEqProofs only [go_sem, ↓reduceIte, Nat.reduceAdd, bz]
   refine hK _ ?_; clear hK K
   refine AW.cond _ (by simp -implicitDefEqProofs only [go_sem]; rfl) (fun hc => ?_) (fun hc => ?_)
   ·simp at hc
   refine AW.skip ?_
   simp only [andThen, inBlk]
   refine AW.rE (by rfl) fun K hK => ?_
   simp -implicitDefEqProofs only [go_sem, ↓reduceIte, Nat.reduceAdd, Nat.reduceEqDiff, w1]
   refine hK _ ?_; clear hK K
   refine ⟨i + 1, ⟨by omega, by rw [hnx]; exact i2⟩, by omega, ?_⟩
   rw [hnx]
   refine Ghost.ent (fun l => if l = 0 then 0 else 24) ?_ ?_ ?_ <;> simp -implicitDefEqProofs only [go_sem, ↓reduceIte, Nat.reduceEqDiff, reduceCtorEq, encS, List.map_append, liftE_append, liftE_cons, liftE_nil, List.forall_mem_cons, List.not_mem_nil, false_implies, implies_true, and_self, map_renL_lift, labsIn_lift, List.all_append, List.all_cons, List.all_nil, List.map_append, Nat.reduceLT, labsInL, AV.labsIn]
  ·have bz : (bodyC S m != 0) = true := by simp [hz]
   rw [if_neg hz] at i2
   refine AW.rT (by rfl) fun K hK => ?_
   simp -implicitDefEqProofs only [go_sem, ↓reduceIte, Nat.reduceAdd, bz]
   refine hK _ ?_; clear hK K
   refine AW.cond _ (by simp -implicitDefEqProofs only [go_sem]; rfl) (fun hc => ?_) (fun hc => ?_)
   rotate_left
   ·simp at hc
   refine AW.rT (by rfl) fun K hK => ?_
   simp -implicitDefEqProofs only [go_sem, ↓reduceIte, Nat.reduceAdd, Nat.reduceEqDiff]
   refine hK _ ?_; clear hK K
   refine AW.ret ?_
   simp -implicitDefEqProofs only [go_sem, i2]
 have hc1 : ((i : Int) < (S.msgs.length : Int)) = False := eq_false (by omega)
 have ea : S.msgs.take i = S.msgs := List.take_of_length_le (by omega)
 rw [List.drop_of_length_le (by omega), msgsC, ea] at i2
 rw [ea]
 clear ea hil
 refine AW.rT (by rfl) fun K hK => ?_
 simp -implicitDefEqProofs only [go_sem, ↓reduceIte, Nat.reduceAdd, Nat.reduceEqDiff, hc1, List.length_map]
 refine hK _ ?_; clear hK K
 refine AW.cond _ (by simp -implicitDefEqProofs only [go_sem]; rfl) (fun hc => ?_) (fun hc => ?_)
 ·simp at hc
 refine AW.exit ?_
 simp only [andThen, inBlk, ↓reduceIte]
 refine AW.seq ?_
 refine AW.rT (by rfl) fun K hK => ?_
 simp -implicitDefEqProofs only [go_sem, Nat.reduceAdd]
 refine hK _ ?_; clear hK K
 refine AW.block ?_
 refine AW.loop (rp2 S) (fun i => i ≤ S.enums.length ∧ partsC S = enumsC (S.msgs.map Ms.name ++ (S.enums.take i).map En.name) (S.enums.drop i)) (fun i => S.enums.length - i) 0 ?_ ⟨by omega, by simpa using i2⟩ fun j hj => ?_
 ·simp only [rp2, cellsSc]
  refine Ghost.sub ?_ ?_ <;> simp -implicitDefEqProofs only [go_sem, ↓reduceIte, Nat.reduceEqDiff, List.take_zero, List.map_nil, List.append_nil, List.forall_mem_cons, List.not_mem_nil, false_implies, implies_true, and_self, labsIn_lift, List.all_cons, List.all_nil, Nat.reduceLT, labsInL, AV.labsIn]
  all_goals first | rfl | decide | skip
 clear i2 i1 hc1
 obtain ⟨j1, j2⟩ := hj
 simp only [rp2, cellsSc]
 refine AW.seq ?_
 by_cases hjl : j < S.enums.length
 case neg =>
  have hc1 : ((j : Int) < (S.enums.length : Int)) = False := eq_false (by omega)
  rw [List.drop_of_length_le (by omega), enumsC] at j2
  refine AW.rT (by rfl) fun K hK => ?_
  simp -implicitDefEqProofs only [go_sem, ↓reduceIte, Nat.reduceAdd, Nat.reduceEqDiff, hc1, List.length_map]
  refine hK _ ?_; clear hK K
  refine AW.cond _ (by simp -implicitDefEqProofs only [go_sem]; rfl) (fun hc => ?_) (fun hc => ?_)
  ·simp at hc
  refine AW.exit ?_
  simp only [andThen, inBlk, ↓reduceIte]
  refine AW.rT (by rfl) fun K hK => ?_
  simp -implicitDefEqProofs only [go_sem, Nat.reduceAdd]
  refine hK _ ?_; clear hK K
  refine AW.ret ?_
  simp -implicitDefEqProofs only [go_sem, j2]
 obtain ⟨m, hm⟩ : ∃ m, S.enums[j]? = some m := ⟨_, List.getElem?_eq_getElem hjl⟩
 have ⟨hm1, hm2, hm3⟩ := at_map' encEn hm
 have hm2' : (j : Int) < (S.enums.length : Int) := by omega
 have hc1 : ((j : Int) < (S.enums.length : Int)) = True := eq_true (by omega)
 have w1 : IntKind.wrap .i64 ((j : Int) + 1) = ((j + 1 : Nat) : Int) := by rw [w64] <;> omega
 rw [enumsC_at hm] at j2
 have hnx : S.msgs.map Ms.name ++ (S.enums.take (j + 1)).map En.name = (S.msgs.map Ms.name ++ (S.enums.take j).map En.name) ++ [m.name] := by rw [take_map_next En.name hm, List.append_assoc]
 have hNl : (S.msgs.map Ms.name ++ (S.enums.take j).map En.name).length ≤ 2000000 := by simp; omega
 generalize hN : S.msgs.map Ms.name ++ (S.enums.take j).map En.name = N at *
 have FR := ref07_fresh N m.name (by omega) (L.enums m (List.mem_of_getElem? hm)).1
 have CM := ref07_enum m (L.enums m (List.mem_of_getElem? hm))
 simp only [encEn] at CM
 refine AW.rT (by rfl) fun K hK => ?_
 simp -implicitDefEqProofs only [go_sem, ↓reduceIte, Nat.reduceAdd, Nat.reduceEqDiff, hc1, List.length_map]
 refine hK _ ?_; clear hK K
 refine AW.cond _ (by simp -implicitDefEqProofs only [go_sem]; rfl) (fun hc => ?_) (fun hc => ?_)
 rotate_left
 ·simp at hc
 refine AW.skip ?_
 simp only [andThen]
 refine AW.seq ?_
 refine AW.block ?_
 refine AW.seq ?_
 cases ht : takesB N m.name with
 | false =>
  have hv : enumC N m = 6 := by unfold enumC; rw [ht]; rfl
  rw [hv, if_neg (by decide)] at j2
  rw [ht] at FR
  refine AW.rT (by rfl) fun K hK => ?_
  simp -implicitDefEqProofs only [go_sem, ↓reduceIte, Nat.reduceAdd, Nat.reduceEqDiff, hm1, hm2', hm3, encEn, List.length_map]
  refine ⟨.peek _, ⟨FR, rfl⟩, ?_⟩
  try simp -implicitDefEqProofs only [go_sem, Nat.reduceAdd]
  refine hK _ ?_; clear hK K
  refine AW.cond _ (by simp -implicitDefEqProofs only [go_sem]; rfl) (fun hc => ?_) (fun hc => ?_)
  rotate_left
  ·simp at hc
  refine AW.rT (by rfl) fun K hK => ?_
  simp -implicitDefEqProofs only [go_sem, Nat.reduceAdd]
  refine hK _ ?_; clear hK K
  refine AW.ret ?_
  simp -implicitDefEqProofs only [go_sem, j2]
 | true =>
 have hv : enumC N m = enumBody m := by unfold enumC; rw [ht]; rfl
 rw [hv] at j2
 rw [ht] at FR
 refine AW.rT (by rfl) fun K hK => ?_
 simp -implicitDefEqProofs only [go_sem, ↓reduceIte, Nat.reduceAdd, Nat.reduceEqDiff, hm1, hm2', hm3, encEn, List.length_map]
 refine ⟨.peek _, ⟨FR, rfl⟩, ?_⟩
 try simp -implicitDefEqProofs only [go_sem, Nat.reduceAdd]
 refine hK _ ?_; clear hK K
 refine AW.cond _ (by simp -implicitDefEqProofs only [go_sem]; rfl) (fun hc => ?_) (fun hc => ?_)
 ·simp at hc
 refine AW.skip ?_
 simp only [andThen]
 refine AW.rT (by rfl) fun K hK => ?_
 simp -implicitDefEqProofs only [go_sem, ↓reduceIte, Nat.reduceAdd, Nat.reduceMul, Nat.reduceEqDiff, Nat.reduceLeDiff, reduceCtorEq, hm1, hm2', hm3, encEn, List.length_map]
 refine ⟨⟨by simp, by simp [oneAll, AV.one, PV.one], by simp⟩, by simp [liftE_length]; omega, ?_⟩
 refine hK _ ?_; clear hK K
 refine AW.rT (by rfl) fun K hK => ?_
 simp -implicitDefEqProofs only [go_sem, ↓reduceIte, Nat.reduceAdd, Nat.reduceEqDiff, Nat.reduceLeDiff, reduceCtorEq, hm1, hm2', hm3, encEn, List.length_map]
 refine ⟨.pure _, CM, ?_⟩
 try simp -implicitDefEqProofs only [go_sem, Nat.reduceAdd]
 refine hK _ ?_; clear hK K
 by_cases hz : enumBody m = 0
 ·have bz : (enumBody m != 0) = false := by simp [hz]
  rw [if_pos hz] at j2
  refine AW.rT (by rfl) fun K hK => ?_
  simp -implicitDefEqProofs only [go_sem, ↓reduceIte, Nat.reduceAdd, bz]
  refine hK _ ?_; clear hK K
  refine AW.cond _ (by simp -implicitDefEqProofs only [go_sem]; rfl) (fun hc => ?_) (fun hc => ?_)
  ·simp at hc
  refine AW.skip ?_
  simp only [andThen, inBlk]
  refine AW.rE (by rfl) fun K hK => ?_
  simp -implicitDefEqProofs only [go_sem, ↓reduceIte, Nat.reduceAdd, Nat.reduceEqDiff, w1]
  refine hK _ ?_; clear hK K
  refine ⟨j + 1, ⟨by omega, by rw [hnx]; exact j2⟩, by omega, ?_⟩
  rw [hnx]
  refine Ghost.ent (fun l => if l = 0 then 0 else 24) ?_ ?_ ?_ <;> simp -implicitDefEqProofs only [go_sem, ↓reduceIte, Nat.reduceEqDiff, reduceCtorEq, encS, List.map_append, liftE_append, liftE_cons, liftE_nil, List.forall_mem_cons, List.not_mem_nil, false_implies, implies_true, and_self, map_renL_lift, labsIn_lift, List.all_append, List.all_cons, List.all_nil, List.map_append, Nat.reduceLT, labsInL, AV.labsIn]
 ·have bz : (enumBody m != 0) = true := by simp [hz]
  rw [if_neg hz] at j2
  refine AW.rT (by rfl) fun K hK => ?_
  simp -implicitDefEqProofs only [go_sem, ↓reduceIte, Nat.reduceAdd, bz]
  refine hK _ ?_; clear hK K
  refine AW.cond _ (by simp -implicitDefEqProofs only [go_sem]; rfl) (fun hc => ?_) (fun hc => ?_)
  rotate_left
  ·simp at hc
  refine AW.rT (by rfl) fun K hK => ?_
  simp -implicitDefEqProofs only [go_sem, ↓reduceIte, Nat.reduceAdd, Nat.reduceEqDiff]
  refine hK _ ?_; clear hK K
  refine AW.ret ?_
  simp -implicitDefEqProofs only [go_sem, j2]
set_option maxRecDepth 100000 in
set_option maxHeartbeats 8000000 in
theorem ref07_Check (S : Sc) (L : LensS S) : PFn Tryd.prog 20 [.agg (encSc S)] (.int .i64 (checkC S)) := by
 refine PFn.of Tryd.func20 rfl (by decide) Tryd.ntmps20 Tryd.results20 (Nat.le_of_ble_eq_true rfl) ?_
 simp only [argsT, encSc]
 have Lt := L.t
 refine AW.rT (by rfl) fun K hK => ?_
 simp -implicitDefEqProofs only [go_sem, Nat.reduceAdd]
 refine hK _ ?_; clear hK K
 refine AW.seq ?_
 refine AW.block ?_
 cases hn : nameB S.name with
 | false =>
  have e : checkC S = 6 := by unfold checkC; rw [hn]; rfl
  refine AW.rT (by rfl) fun K hK => ?_
  simp -implicitDefEqProofs only [go_sem, ↓reduceIte, Nat.reduceAdd, Nat.reduceEqDiff]
  refine ⟨.pure _, ref01_Name S.name L.name, ?_⟩
  try simp -implicitDefEqProofs only [go_sem, Nat.reduceAdd, hn]
  refine hK _ ?_; clear hK K
  refine AW.cond _ (by simp -implicitDefEqProofs only [go_sem]; rfl) (fun hc => ?_) (fun hc => ?_)
  rotate_left
  ·simp at hc
  refine AW.rT (by rfl) fun K hK => ?_
  simp -implicitDefEqProofs only [go_sem, Nat.reduceAdd]
  refine hK _ ?_; clear hK K
  refine AW.ret ?_
  simp -implicitDefEqProofs only [go_sem, e]
 | true =>
 have e0 : checkC S = if S.msgs.length = 0 then 12 else if S.msgs.length > 10 ∨ S.enums.length > 6 ∨ S.meths.length > 6 then 4 else if partsC S = 0 then methsC S [] S.meths else partsC S := by unfold checkC; rw [hn, if_pos rfl]
 refine AW.rT (by rfl) fun K hK => ?_
 simp -implicitDefEqProofs only [go_sem, ↓reduceIte, Nat.reduceAdd, Nat.reduceEqDiff]
 refine ⟨.pure _, ref01_Name S.name L.name, ?_⟩
 try simp -implicitDefEqProofs only [go_sem, Nat.reduceAdd, hn]
 refine hK _ ?_; clear hK K
 refine AW.cond _ (by simp -implicitDefEqProofs only [go_sem]; rfl) (fun hc => ?_) (fun hc => ?_)
 ·simp at hc
 by_cases c0 : S.msgs.length = 0
 ·have b0 : ((S.msgs.length : Int) == 0) = true := by rw [beq_iff_eq]; omega
  rw [if_pos c0] at e0
  refine AW.rT (by rfl) fun K hK => ?_
  simp -implicitDefEqProofs only [go_sem, ↓reduceIte, Nat.reduceAdd, Nat.reduceEqDiff, b0, List.length_map]
  refine hK _ ?_; clear hK K
  refine AW.cond _ (by simp -implicitDefEqProofs only [go_sem]; rfl) (fun hc => ?_) (fun hc => ?_)
  rotate_left
  ·simp at hc
  refine AW.rT (by rfl) fun K hK => ?_
  simp -implicitDefEqProofs only [go_sem, Nat.reduceAdd]
  refine hK _ ?_; clear hK K
  refine AW.ret ?_
  simp -implicitDefEqProofs only [go_sem, e0]
 rw [if_neg c0] at e0
 have b0 : ((S.msgs.length : Int) == 0) = false := beq_eq_false_iff_ne.2 (by omega)
 refine AW.rT (by rfl) fun K hK => ?_
 simp -implicitDefEqProofs only [go_sem, ↓reduceIte, Nat.reduceAdd, Nat.reduceEqDiff, b0, List.length_map]
 refine hK _ ?_; clear hK K
 refine AW.cond _ (by simp -implicitDefEqProofs only [go_sem]; rfl) (fun hc => ?_) (fun hc => ?_)
 ·simp at hc
 by_cases c1 : S.msgs.length > 10
 ·have b1 : ((S.msgs.length : Int) > 10) = True := eq_true (by omega)
  rw [if_pos (.inl c1)] at e0
  refine AW.rT (by rfl) fun K hK => ?_
  simp -implicitDefEqProofs only [go_sem, ↓reduceIte, Nat.reduceAdd, Nat.reduceEqDiff, b1, List.length_map]
  refine hK _ ?_; clear hK K
  refine AW.cond _ (by simp -implicitDefEqProofs only [go_sem]; rfl) (fun hc => ?_) (fun hc => ?_)
  rotate_left
  ·simp at hc
  refine AW.rT (by rfl) fun K hK => ?_
  simp -implicitDefEqProofs only [go_sem, Nat.reduceAdd]
  refine hK _ ?_; clear hK K
  refine AW.ret ?_
  simp -implicitDefEqProofs only [go_sem, e0]
 have b1 : ((S.msgs.length : Int) > 10) = False := eq_false (by omega)
 by_cases c2 : S.enums.length > 6
 ·have b2 : ((S.enums.length : Int) > 6) = True := eq_true (by omega)
  rw [if_pos (.inr (.inl c2))] at e0
  refine AW.rT (by rfl) fun K hK => ?_
  simp -implicitDefEqProofs only [go_sem, ↓reduceIte, Nat.reduceAdd, Nat.reduceEqDiff, b1, b2, List.length_map]
  refine hK _ ?_; clear hK K
  refine AW.cond _ (by simp -implicitDefEqProofs only [go_sem]; rfl) (fun hc => ?_) (fun hc => ?_)
  rotate_left
  ·simp at hc
  refine AW.rT (by rfl) fun K hK => ?_
  simp -implicitDefEqProofs only [go_sem, Nat.reduceAdd]
  refine hK _ ?_; clear hK K
  refine AW.ret ?_
  simp -implicitDefEqProofs only [go_sem, e0]
 have b2 : ((S.enums.length : Int) > 6) = False := eq_false (by omega)
 by_cases c3 : S.meths.length > 6
 ·have b3 : ((S.meths.length : Int) > 6) = True := eq_true (by omega)
  rw [if_pos (.inr (.inr c3))] at e0
  refine AW.rT (by rfl) fun K hK => ?_
  simp -implicitDefEqProofs only [go_sem, ↓reduceIte, Nat.reduceAdd, Nat.reduceEqDiff, b1, b2, b3, List.length_map]
  refine hK _ ?_; clear hK K
  refine AW.cond _ (by simp -implicitDefEqProofs only [go_sem]; rfl) (fun hc => ?_) (fun hc => ?_)
  rotate_left
  ·simp at hc
  refine AW.rT (by rfl) fun K hK => ?_
  simp -implicitDefEqProofs only [go_sem, Nat.reduceAdd]
  refine hK _ ?_; clear hK K
  refine AW.ret ?_
  simp -implicitDefEqProofs only [go_sem, e0]
 have b3 : ((S.meths.length : Int) > 6) = False := eq_false (by omega)
 rw [if_neg (by omega)] at e0
 refine AW.rT (by rfl) fun K hK => ?_
 simp -implicitDefEqProofs only [go_sem, ↓reduceIte, Nat.reduceAdd, Nat.reduceEqDiff, b1, b2, b3, List.length_map]
 refine hK _ ?_; clear hK K
 refine AW.cond _ (by simp -implicitDefEqProofs only [go_sem]; rfl) (fun hc => ?_) (fun hc => ?_)
 ·simp at hc
 refine AW.skip ?_
 simp only [andThen, inBlk]
 clear b1 b2 b3
 have PP := ref07_parts S L
 simp only [encSc] at PP
 refine AW.seq ?_
 refine AW.rT (by rfl) fun K hK => ?_
 simp -implicitDefEqProofs only [go_sem, ↓reduceIte, Nat.reduceAdd, Nat.reduceEqDiff, Nat.reduceLeDiff]
 refine ⟨.pure _, PP, ?_⟩
 try simp -implicitDefEqProofs only [go_sem, Nat.reduceAdd]
 refine hK _ ?_; clear hK K
 by_cases hz : partsC S = 0
 case neg =>
  have bz : (partsC S != 0) = true := by simp [hz]
  rw [if_neg hz] at e0
  refine AW.rT (by rfl) fun K hK => ?_
  simp -implicitDefEqProofs only [go_sem, ↓reduceIte, Nat.reduceAdd, bz]
  refine hK _ ?_; clear hK K
  refine AW.cond _ (by simp -implicitDefEqProofs only [go_sem]; rfl) (fun hc => ?_) (fun hc => ?_)
  rotate_left
  ·simp at hc
  refine AW.rT (by rfl) fun K hK => ?_
  simp -implicitDefEqProofs only [go_sem, ↓reduceIte, Nat.reduceAdd, Nat.reduceEqDiff]
  refine hK _ ?_; clear hK K
  refine AW.ret ?_
  simp -implicitDefEqProofs only [go_sem, e0]
 have bz : (partsC S != 0) = false := by simp [hz]
 rw [if_pos hz] at e0
 refine AW.rT (by rfl) fun K hK => ?_
 simp -implicitDefEqProofs only [go_sem, ↓reduceIte, Nat.reduceAdd, bz]
 refine hK _ ?_; clear hK K
 refine AW.cond _ (by simp -implicitDefEqProofs only [go_sem]; rfl) (fun hc => ?_) (fun hc => ?_)
 ·simp at hc
 refine AW.skip ?_
 simp only [andThen]
 refine AW.rT (by rfl) fun K hK => ?_
 simp -implicitDefEqProofs only [go_sem, Nat.reduceAdd]
 refine hK _ ?_; clear hK K
 refine AW.seq ?_
 refine AW.rT (by rfl) fun K hK => ?_
 simp -implicitDefEqProofs only [go_sem, Nat.reduceAdd]
 refine hK _ ?_; clear hK K
 refine AW.block ?_
 refine AW.loop (rp3 S) (fun i => i ≤ S.meths.length ∧ methsC S [] S.meths = methsC S ((S.meths.take i).map Mt.name) (S.meths.drop i)) (fun i => S.meths.length - i) 0 ?_ ⟨by omega, by simp⟩ fun k hk => ?_
 ·refine Ghost.trans (Ghost.nil (t := 4) (sz := 1) rfl) ?_
  simp only [rp3, cellsSc]
  refine Ghost.ent (fun l => if l = 0 then 0 else 36) ?_ ?_ ?_ <;> simp -implicitDefEqProofs only [go_sem, ↓reduceIte, Nat.reduceEqDiff, reduceCtorEq, List.take_zero, List.map_nil, liftE_nil, List.forall_mem_cons, List.not_mem_nil, false_implies, implies_true, and_self, List.all_cons, List.all_nil, Nat.reduceLT, labsInL, AV.labsIn]
  all_goals first | rfl | decide | skip
 obtain ⟨k1, k2⟩ := hk
 simp only [rp3, cellsSc]
 refine AW.seq ?_
 by_cases hkl : k < S.meths.length
 case neg =>
  have hc1 : ((k : Int) < (S.meths.length : Int)) = False := eq_false (by omega)
  rw [List.drop_of_length_le (by omega), methsC] at k2
  rw [k2] at e0
  refine AW.rT (by rfl) fun K hK => ?_
  simp -implicitDefEqProofs only [go_sem, ↓reduceIte, Nat.reduceAdd, Nat.reduceEqDiff, hc1, List.length_map]
  refine hK _ ?_; clear hK K
  refine AW.cond _ (by simp -implicitDefEqProofs only [go_sem]; rfl) (fun hc => ?_) (fun hc => ?_)
  ·simp at hc
  refine AW.exit ?_
  simp only [andThen, inBlk, ↓reduceIte]
  refine AW.rT (by rfl) fun K hK => ?_
  simp -implicitDefEqProofs only [go_sem, Nat.reduceAdd]
  refine hK _ ?_; clear hK K
  refine AW.ret ?_
  simp -implicitDefEqProofs only [go_sem, e0]
 obtain ⟨m, hm⟩ : ∃ m, S.meths[k]? = some m := ⟨_, List.getElem?_eq_getElem hkl⟩
 have ⟨hm1, hm2, hm3⟩ := at_map' encMt hm
 have hm2' : (k : Int) < (S.meths.length : Int) := by omega
 have hc1 : ((k : Int) < (S.meths.length : Int)) = True := eq_true (by omega)
 have w1 : IntKind.wrap .i64 ((k : Int) + 1) = ((k + 1 : Nat) : Int) := by rw [w64] <;> omega
 rw [methsC_at hm] at k2
 have hnx := take_map_next Mt.name hm
 have hNl : ((S.meths.take k).map Mt.name).length ≤ 1000000 := by rw [List.length_map, List.length_take]; omega
 generalize hN : (S.meths.take k).map Mt.name = N at *
 have FR := ref07_fresh N m.name (by omega) (L.meths m (List.mem_of_getElem? hm))
 have M1 := ref07_Message S m.inn L.m
 have M2 := ref07_Message S m.out L.m
 simp only [encSc, encMs] at M1 M2
 have h1 : hasM S m.inn = (firstP (fun x => x.name == m.inn) zMs S.msgs).2 := rfl
 have h2 : hasM S m.out = (firstP (fun x => x.name == m.out) zMs S.msgs).2 := rfl
 rw [← h1] at M1
 rw [← h2] at M2
 refine AW.rT (by rfl) fun K hK => ?_
 simp -implicitDefEqProofs only [go_sem, ↓reduceIte, Nat.reduceAdd, Nat.reduceEqDiff, hc1, List.length_map]
 refine hK _ ?_; clear hK K
 refine AW.cond _ (by simp -implicitDefEqProofs only [go_sem]; rfl) (fun hc => ?_) (fun hc => ?_)
 rotate_left
 ·simp at hc
 refine AW.skip ?_
 simp only [andThen]
 refine AW.seq ?_
 refine AW.block ?_
 refine AW.rT (by rfl) fun K hK => ?_
 simp -implicitDefEqProofs only [go_sem, ↓reduceIte, Nat.reduceAdd, Nat.reduceEqDiff, Nat.reduceLeDiff, hm1, hm2', hm3, encMt, List.length_map]
 refine hK _ ?_; clear hK K
 refine AW.seq ?_
 cases ht : takesB N m.name with
 | false =>
  rw [ht, if_neg (by simp)] at k2
  rw [k2] at e0
  rw [ht] at FR
  refine AW.rT (by rfl) fun K hK => ?_
  simp -implicitDefEqProofs only [go_sem, ↓reduceIte, Nat.reduceAdd, Nat.reduceEqDiff]
  refine ⟨.peek _, ⟨FR, rfl⟩, ?_⟩
  try simp -implicitDefEqProofs only [go_sem, Nat.reduceAdd]
  refine hK _ ?_; clear hK K
  refine AW.cond _ (by simp -implicitDefEqProofs only [go_sem]; rfl) (fun hc => ?_) (fun hc => ?_)
  rotate_left
  ·simp at hc
  refine AW.rT (by rfl) fun K hK => ?_
  simp -implicitDefEqProofs only [go_sem, Nat.reduceAdd]
  refine hK _ ?_; clear hK K
  refine AW.ret ?_
  simp -implicitDefEqProofs only [go_sem, e0]
 | true =>
 rw [ht, if_pos rfl] at k2
 rw [ht] at FR
 refine AW.rT (by rfl) fun K hK => ?_
 simp -implicitDefEqProofs only [go_sem, ↓reduceIte, Nat.reduceAdd, Nat.reduceEqDiff]
 refine ⟨.peek _, ⟨FR, rfl⟩, ?_⟩
 try simp -implicitDefEqProofs only [go_sem, Nat.reduceAdd]
 refine hK _ ?_; clear hK K
 refine AW.cond _ (by simp -implicitDefEqProofs only [go_sem]; rfl) (fun hc => ?_) (fun hc => ?_)
 ·simp at hc
 refine AW.skip ?_
 simp only [andThen]
 refine AW.rT (by rfl) fun K hK => ?_
 simp -implicitDefEqProofs only [go_sem, ↓reduceIte, Nat.reduceAdd, Nat.reduceMul, Nat.reduceEqDiff, Nat.reduceLeDiff, reduceCtorEq]
 refine ⟨⟨by simp, by simp [oneAll, AV.one, PV.one], by simp⟩, by simp [liftE_length]; omega, ?_⟩
 refine hK _ ?_; clear hK K
 refine AW.rT (by rfl) fun K hK => ?_
 simp -implicitDefEqProofs only [go_sem, ↓reduceIte, Nat.reduceAdd, Nat.reduceEqDiff, Nat.reduceLeDiff, reduceCtorEq]
 refine ⟨.pure _, M1, ?_⟩
 try simp -implicitDefEqProofs only [go_sem, ↓reduceIte, Nat.reduceAdd, Nat.reduceEqDiff, Nat.reduceLeDiff]
 refine hK _ ?_; clear hK K
 refine AW.rT (by rfl) fun K hK => ?_
 simp -implicitDefEqProofs only [go_sem, ↓reduceIte, Nat.reduceAdd, Nat.reduceEqDiff, Nat.reduceLeDiff, reduceCtorEq]
 refine ⟨.pure _, M2, ?_⟩
 try simp -implicitDefEqProofs only [go_sem, ↓reduceIte, Nat.reduceAdd, Nat.reduceEqDiff, Nat.reduceLeDiff]
 refine hK _ ?_; clear hK K
 cases hi : hasM S m.inn with
 | false =>
  rw [hi, Bool.false_and, if_neg (by simp)] at k2
  rw [k2] at e0
  refine AW.rT (by rfl) fun K hK => ?_
  simp -implicitDefEqProofs only [go_sem, ↓reduceIte, Nat.reduceAdd, Nat.reduceEqDiff]
  refine hK _ ?_; clear hK K
  refine AW.cond _ (by simp -implicitDefEqProofs only [go_sem]; rfl) (fun hc => ?_) (fun hc => ?_)
  rotate_left
  ·simp at hc
  refine AW.rT (by rfl) fun K hK => ?_
  simp -implicitDefEqProofs only [go_sem, Nat.reduceAdd]
  refine hK _ ?_; clear hK K
  refine AW.ret ?_
  simp -implicitDefEqProofs only [go_sem, e0]
 | true =>
 cases ho : hasM S m.out with
 | false =>
  rw [hi, ho, if_neg (by simp)] at k2
  rw [k2] at e0
  refine AW.rT (by rfl) fun K hK => ?_
  simp -implicitDefEqProofs only [go_sem, ↓reduceIte, Nat.reduceAdd, Nat.reduceEqDiff]
  refine hK _ ?_; clear hK K
  refine AW.cond _ (by simp -implicitDefEqProofs only [go_sem]; rfl) (fun hc => ?_) (fun hc => ?_)
  rotate_left
  ·simp at hc
  refine AW.rT (by rfl) fun K hK => ?_
  simp -implicitDefEqProofs only [go_sem, Nat.reduceAdd]
  refine hK _ ?_; clear hK K
  refine AW.ret ?_
  simp -implicitDefEqProofs only [go_sem, e0]
 | true =>
  rw [hi, ho, if_pos (by rfl)] at k2
  refine AW.rT (by rfl) fun K hK => ?_
  simp -implicitDefEqProofs only [go_sem, ↓reduceIte, Nat.reduceAdd, Nat.reduceEqDiff]
  refine hK _ ?_; clear hK K
  refine AW.cond _ (by simp -implicitDefEqProofs only [go_sem]; rfl) (fun hc => ?_) (fun hc => ?_)
  ·simp at hc
  refine AW.skip ?_
  simp only [andThen, inBlk]
  refine AW.rE (by rfl) fun K hK => ?_
  simp -implicitDefEqProofs only [go_sem, ↓reduceIte, Nat.reduceAdd, Nat.reduceEqDiff, w1]
  refine hK _ ?_; clear hK K
  refine ⟨k + 1, ⟨by omega, by rw [hnx]; exact k2⟩, by omega, ?_⟩
  rw [hnx]
  refine Ghost.ent (fun l => if l = 0 then 0 else 23) ?_ ?_ ?_ <;> simp -implicitDefEqProofs only [go_sem, ↓reduceIte, Nat.reduceEqDiff, reduceCtorEq, encS, List.map_append, liftE_append, liftE_cons, liftE_nil, List.forall_mem_cons, List.not_mem_nil, false_implies, implies_true, and_self, map_renL_lift, labsIn_lift, List.all_append, List.all_cons, List.all_nil, List.map_append, Nat.reduceLT, labsInL, AV.labsIn]
end Go.Aw
namespace Go.Aw.T
open Go.Proofs
set_option linter.unusedSimpArgs false
set_option linter.unusedVariables false
theorem ms_mem {S : Sc} {k : List UInt8} (h : (msOf S k).2 = true) : (msOf S k).1 ∈ S.msgs ∧ (msOf S k).1.name = k := by
 unfold msOf firstP at h ⊢
 split at h
 ·rename_i m hm
  exact ⟨List.mem_of_find?_eq_some hm, by simpa using List.find?_some hm⟩
 ·cases h
theorem fld_mem {m : Ms} {g : Int} (h : (fldOf m g).2 = true) : (fldOf m g).1 ∈ m.fields ∧ (fldOf m g).1.tag = g := by
 unfold fldOf firstP at h ⊢
 split at h
 ·rename_i m hm
  exact ⟨List.mem_of_find?_eq_some hm, by simpa using List.find?_some hm⟩
 ·cases h
theorem flds_ok {S : Sc} (R : RightS S) {m : Ms} (hm : m ∈ S.msgs) : FldsOK S m := by
 intro g hg
 obtain ⟨i, hi⟩ := List.getElem?_of_mem (fld_mem hg).1
 have := (R.fld m hm i _ hi).2.2.1
 unfold fieldB kindB at this
 rw [Bool.and_eq_true] at this
 have h2 := this.2
 split at h2
 ·exact ⟨by omega, fun h => by omega⟩
 split at h2
 ·exact ⟨by omega, fun _ => h2⟩
 ·simp only [Bool.and_eq_true, decide_eq_true_eq] at h2
  exact ⟨by omega, fun h => by omega⟩
theorem siz_right {S : Sc} (R : RightS S) : SizS S := ⟨by have := R.len; omega, fun m hm => by have := R.no m hm; omega⟩
theorem flds_all {S : Sc} (R : RightS S) (k : List UInt8) (h : (msOf S k).2 = true) : FldsOK S (msOf S k).1 := flds_ok R (ms_mem h).1
theorem ok_right {t : Tr} (h : okT t = true) : rightT t = true := by
 unfold okT at h
 rw [Bool.and_eq_true] at h
 exact h.2
end Go.Aw.T
namespace Go.Aw.T
open Go.Proofs
set_option linter.unusedSimpArgs false
set_option linter.unusedVariables false
end Go.Aw.T
namespace Go.Aw.T
open Go.Proofs
set_option linter.unusedSimpArgs false
set_option linter.unusedVariables false
end Go.Aw.T
namespace Go.Aw.T
open Go.Proofs
set_option linter.unusedSimpArgs false
set_option linter.unusedVariables false
def bareN (e : Int × List Tr) : Int × List Tr := (e.1, e.2.map bareT)
def bx (t : Tr) (i : Nat) : St := ⟨ofL [(1, .ptr 0 0 0), (2, .ptr 1 0 0), (3, .ptr 2 0 0), (4, .p (.int .i64 (i : Int)))],
 ofH [(0, .row 5 [cellsT t]), (1, .row 5 [[.p (.int .i64 0), .p (.int .i64 0), .p (.str []), .ex [], .ex []]]), (2, .row 5 [[.p (.int .i64 t.kind), .p (.int .i64 t.n), .p (.str t.s), .own 3, .ex []]]),
  (3, .row 2 (liftE (((t.ents.map bareN).take i).map encEn)))], 4⟩
def bz (t : Tr) (i : Nat) (e : Int × List Tr) : St := ⟨ofL [(1, .ptr 0 0 0), (2, .ptr 1 0 0), (3, .ptr 2 0 0), (4, .p (.int .i64 (i : Int))), (5, .ptr 4 0 0)],
 ofH [(0, .row 5 [cellsT t]), (1, .row 5 [[.p (.int .i64 0), .p (.int .i64 0), .p (.str []), .ex [], .ex []]]), (2, .row 5 [[.p (.int .i64 t.kind), .p (.int .i64 t.n), .p (.str t.s), .own 3, .ex []]]),
  (3, .row 2 (liftE (((t.ents.map bareN).take i).map encEn))), (4, .row 2 [[.p (.int .i64 e.1), .p (.slice ((e.2.map bareT).map encTr))]])], 5⟩
theorem map_at {α β : Type} {f : α → β} {l : List α} {i : Nat} {x : α} (h : l[i]? = some x) : (l.map f)[i]? = some (f x) := by rw [List.getElem?_map, h]; rfl
end Go.Aw.T
namespace Go.Aw.T
open Go.Proofs
set_option linter.unusedSimpArgs false
set_option linter.unusedVariables false
def cx (t : Tr) (i : Nat) (l : List (Nat × AV)) (h : List (Nat × Blk)) (n : Nat) : St := ⟨ofL ((1, .ptr 0 0 0) :: (2, .ptr 1 0 0) :: (3, .own 2) :: (11, .p (.slice (t.ents.map encEn))) :: (12, .p (.int .i64 (t.ents.length : Int))) :: (13, .p (.int .i64 (i : Int))) :: l),
 ofH ((0, .row 5 [[.p (.int .i64 t.kind), .p (.int .i64 t.n), .p (.str t.s), .p (.slice (t.ents.map encEn)), .ex []]]) :: (1, .row 5 [[.p (.int .i64 0), .p (.int .i64 0), .p (.str []), .ex [], .ex []]]) ::
  (2, .row 2 (liftE (((t.ents.map bareN).take i).map encEn))) :: h), n⟩
end Go.Aw.T
namespace Go.Aw.T
open Go.Proofs
set_option linter.unusedSimpArgs false
set_option linter.unusedVariables false
theorem lensE_iff : ∀ {es : List (Int × List Tr)}, lensE es = true ↔ ∀ e ∈ es, e.2.length ≤ 1000 ∧ lensTs e.2 = true
 | [] => by simp [lensE]
 | (g, l) :: es => by
  rw [lensE, Bool.and_eq_true, Bool.and_eq_true, decide_eq_true_eq, lensE_iff]
  simp
theorem same_self (t : Tr) : sameT t t = true := (sameT_iff t t).2 rfl
theorem same_of {a b : Tr} {f : FuncId} (h : PFn Tryd.prog f [.agg (encTr a), .agg (encTr b)] (.bool (sameT a b))) (e : a = b) : PFn Tryd.prog f [.agg (encTr a), .agg (encTr b)] (.bool true) := by
 rw [e] at h ⊢
 rwa [same_self] at h
end Go.Aw.T
namespace Go.Aw.T
theorem big_of {S : Sc} (G : GSc S) : bigS S := ⟨G.name, fun m hm => (G.msgs.2 m hm).name⟩
end Go.Aw.T
namespace Go.Aw.T
open Go.Proofs
set_option linter.unusedSimpArgs false
set_option linter.unusedVariables false
theorem bare_kind (t : Tr) : (bareT t).kind = t.kind ∧ (bareT t).n = t.n ∧ (bareT t).s = t.s ∧ (bareT t).rest = [] := by
 rw [bareT_mk]
 exact ⟨rfl, rfl, rfl, rfl⟩
theorem bare_ents (t : Tr) : (bareT t).ents = t.ents.map fun e => (e.1, e.2.map bareT) := by
 rw [bareT_mk]
 rfl
end Go.Aw.T
namespace Go.Aw.T
open Go.Proofs
set_option linter.unusedSimpArgs false
set_option linter.unusedVariables false
def clampV (n : Int) : Int := if n < -2147483648 then -2147483648 else if 2147483647 < n then 2147483647 else n
def pfit (y : Ty) (t : Tr) : Bool := if y.kind = 1 ∨ y.kind = 2 then decide (t.kind = 1) else if y.kind = 3 ∨ y.kind = 6 then decide (t.kind = 1) && numV y t.n else if y.kind = 4 then decide (t.kind = 2) && valS t.s else if y.kind = 5 then decide (t.kind = 2) else decide (t.kind = 3)
def selL {α : Type} (f : Fd) (l : List α) : List α := if f.label = 3 then l else l.drop (l.length - 1)
theorem selL_map {α β : Type} (f : Fd) (g : α → β) (l : List α) : selL f (l.map g) = (selL f l).map g := by
 unfold selL
 split
 ·rfl
 ·rw [List.map_drop, List.length_map]
def keepL (f : Fd) (l : List Tr) : Bool := f.label != 1 || !(l.head?.any zeroV)
mutual
def prM (S : Sc) (m : Ms) : Tr → Tr
 | .mk _ _ _ es _ => .mk 3 0 [] (prE S m es) []
def prE (S : Sc) (m : Ms) : List (Int × List Tr) → List (Int × List Tr)
 | [] => []
 | (g, l) :: es => if ((fldOf m g).2 && l.all (pfit (fldOf m g).1.ty) && keepL (fldOf m g).1 (selL (fldOf m g).1 (prL S (fldOf m g).1 l))) = true then (g, selL (fldOf m g).1 (prL S (fldOf m g).1 l)) :: prE S m es else prE S m es
def prL (S : Sc) (f : Fd) : List Tr → List Tr
 | [] => []
 | t :: l => (if f.ty.kind = 1 then .mk t.kind (clampV t.n) t.s t.ents t.rest else if f.ty.kind = 7 then prM S (msOf S f.ty.name).1 t else t) :: prL S f l
end
def pr1 (S : Sc) (f : Fd) (t : Tr) : Tr := if f.ty.kind = 1 then .mk t.kind (clampV t.n) t.s t.ents t.rest else if f.ty.kind = 7 then prM S (msOf S f.ty.name).1 t else t
theorem prL_map (S : Sc) (f : Fd) : ∀ l : List Tr, prL S f l = l.map (pr1 S f)
 | [] => by rw [prL]; rfl
 | t :: l => by rw [prL, prL_map S f l]; rfl
theorem prM_mk (S : Sc) (m : Ms) (t : Tr) : prM S m t = .mk 3 0 [] (prE S m t.ents) [] := by
 cases t
 rw [prM]
 rfl
def fieldP (S : Sc) (f : Fd) (l : List Tr) : List Tr × Bool := if l.all (pfit f.ty) = false then ([], false) else ((selL f l).map (pr1 S f), keepL f ((selL f l).map (pr1 S f)))
def entP (S : Sc) (m : Ms) (e : Int × List Tr) : List (Int × List Tr) := if (fldOf m e.1).2 = true ∧ (fieldP S (fldOf m e.1).1 e.2).2 = true then [(e.1, (fieldP S (fldOf m e.1).1 e.2).1)] else []
theorem prE_cons (S : Sc) (m : Ms) (e : Int × List Tr) (es : List (Int × List Tr)) : prE S m (e :: es) = entP S m e ++ prE S m es := by
 obtain ⟨g, l⟩ := e
 rw [prE]
 unfold entP fieldP
 simp only
 rw [prL_map, selL_map]
 cases h1 : (fldOf m g).2
 ·simp
 cases h2 : l.all (pfit (fldOf m g).1.ty)
 ·simp
 cases h3 : keepL (fldOf m g).1 ((selL (fldOf m g).1 l).map (pr1 S (fldOf m g).1))
 ·simp
 ·simp
theorem prE_flat (S : Sc) (m : Ms) : ∀ es : List (Int × List Tr), prE S m es = es.flatMap (entP S m)
 | [] => by rw [prE]; rfl
 | e :: es => by rw [prE_cons, prE_flat S m es]; rfl
theorem prE_take {S : Sc} {m : Ms} {es : List (Int × List Tr)} {i : Nat} {e : Int × List Tr} (h : es[i]? = some e) : prE S m (es.take (i + 1)) = prE S m (es.take i) ++ entP S m e := by
 rw [prE_flat, prE_flat, List.take_add_one, h, List.flatMap_append]
 simp
theorem entP_len (S : Sc) (m : Ms) (e : Int × List Tr) : (entP S m e).length ≤ 1 := by
 unfold entP
 split <;> simp
theorem prE_len (S : Sc) (m : Ms) (es : List (Int × List Tr)) : (prE S m es).length ≤ es.length := by
 induction es with
 | nil => simp [prE]
 | cons e es ih =>
  rw [prE_cons, List.length_append, List.length_cons]
  have := entP_len S m e
  omega
def zeroTr : Tr := .mk 0 0 [] [] []
def projP (S : Sc) (k : List UInt8) (t : Tr) : Tr × Bool := if (msOf S k).2 = false ∨ checkC S ≠ 0 ∨ t.kind ≠ 3 ∨ okT t = false then (zeroTr, false) else (prM S (msOf S k).1 t, true)
end Go.Aw.T
namespace Go.Aw.T
open Go.Proofs
set_option linter.unusedSimpArgs false
set_option linter.unusedVariables false
theorem project_Clamp (n : Int) : PFn Tryd.prog 46 [.int .i64 n] (.int .i64 (clampV n)) := by
 refine PFn.of Tryd.func46 rfl (by decide) Tryd.ntmps46 Tryd.results46 (Nat.le_of_ble_eq_true rfl) ?_
 simp only [argsT]
 refine AW.rT (by rfl) fun K hK => ?_
 simp -implicitDefEqProofs only [go_sem]
 refine hK _ ?_; clear hK K
 refine AW.rT (by rfl) fun K hK => ?_
 simp -implicitDefEqProofs only [go_sem, ↓reduceIte, Nat.reduceAdd, reduceCtorEq]
 try simp -implicitDefEqProofs only [go_sem, ↓reduceIte, Nat.reduceAdd, Nat.reduceMul, Nat.reduceEqDiff, Nat.reduceLeDiff, reduceCtorEq, Int.reduceToNat]
 refine hK _ ?_; clear hK K
 refine AW.ret ?_
 simp -implicitDefEqProofs only [go_sem]
 congr 1
 unfold clampV
 repeat' split
 all_goals omega
theorem pfit_12 {y : Ty} {t : Tr} (h : y.kind = 1 ∨ y.kind = 2) : pfit y t = decide (t.kind = 1) := by unfold pfit; rw [if_pos h]
theorem pfit_36 {y : Ty} {t : Tr} (h : y.kind = 3 ∨ y.kind = 6) : pfit y t = (decide (t.kind = 1) && numV y t.n) := by unfold pfit; rw [if_neg (by omega), if_pos h]
theorem pfit_4 {y : Ty} {t : Tr} (h : y.kind = 4) : pfit y t = (decide (t.kind = 2) && valS t.s) := by unfold pfit; rw [if_neg (by omega), if_neg (by omega), if_pos h]
theorem pfit_5 {y : Ty} {t : Tr} (h : y.kind = 5) : pfit y t = decide (t.kind = 2) := by unfold pfit; rw [if_neg (by omega), if_neg (by omega), if_neg (by omega), if_pos h]
theorem pfit_7 {y : Ty} {t : Tr} (h1 : y.kind ≠ 1) (h2 : y.kind ≠ 2) (h3 : y.kind ≠ 3) (h6 : y.kind ≠ 6) (h4 : y.kind ≠ 4) (h5 : y.kind ≠ 5) : pfit y t = decide (t.kind = 3) := by unfold pfit; rw [if_neg (by omega), if_neg (by omega), if_neg h4, if_neg h5]
theorem eqd (a b : Int) : (a == b) = decide (a = b) := by by_cases h : a = b <;> simp [h]
set_option maxRecDepth 100000 in
set_option maxHeartbeats 4000000 in
theorem project_fits (y : Ty) (t : Tr) (hs : t.s.length ≤ 1000000) : PFn Tryd.prog 135 [.agg (encTy y), .agg (encTr t)] (.bool (pfit y t)) := by
 have CN := valid_Number y t.n
 have CV : PFn Tryd.prog 131 [.str t.s] (.bool (valS t.s)) := runes_Valid t.s (by omega)
 simp only [encTy] at CN
 refine PFn.of Tryd.func135 rfl (by decide) Tryd.ntmps135 Tryd.results135 (Nat.le_of_ble_eq_true rfl) ?_
 simp only [argsT]
 refine AW.rT (by rfl) fun K hK => ?_
 simp -implicitDefEqProofs only [go_sem, ↓reduceIte, Nat.reduceAdd, Nat.reduceEqDiff, encTy, encTr_eq]
 refine hK _ ?_; clear hK K
 refine AW.seq ?_
 refine AW.rT (by rfl) fun K hK => ?_
 simp -implicitDefEqProofs only [go_sem, ↓reduceIte, Nat.reduceAdd, Nat.reduceEqDiff, reduceCtorEq]
 refine hK _ ?_; clear hK K
 refine AW.block ?_
 refine AW.seq ?_
 refine AW.block ?_
 refine AW.seq ?_
 refine AW.block ?_
 refine AW.seq ?_
 refine AW.block ?_
 refine AW.seq ?_
 refine AW.block ?_
 refine AW.block ?_
 refine AW.seq ?_
 refine AW.seq ?_
 by_cases k1 : y.kind = 1
 ·have e := eqb k1
  refine AW.rT (by rfl) fun K hK => ?_
  simp -implicitDefEqProofs only [go_sem, ↓reduceIte, Nat.reduceAdd, e]
  refine hK _ ?_; clear hK K
  refine AW.cond _ (by simp -implicitDefEqProofs only [go_sem]; rfl) (fun hc => ?_) (fun hc => ?_)
  rotate_left
  ·simp at hc
  refine AW.exit ?_
  simp only [andThen, inBlk, ↓reduceIte]
  refine AW.seq ?_
  have HH : pfit y t = (t.kind == 1) := by rw [pfit_12 (.inl k1), eqd]
  refine AW.rT (by rfl) fun K hK => ?_
  simp -implicitDefEqProofs only [go_sem, ↓reduceIte, Nat.reduceAdd, Nat.reduceEqDiff]
  refine hK _ ?_; clear hK K
  refine AW.ret ?_
  simp -implicitDefEqProofs only [go_sem, HH]
 have e1 := beqf k1
 refine AW.rT (by rfl) fun K hK => ?_
 simp -implicitDefEqProofs only [go_sem, ↓reduceIte, Nat.reduceAdd, e1]
 refine hK _ ?_; clear hK K
 refine AW.cond _ (by simp -implicitDefEqProofs only [go_sem]; rfl) (fun hc => ?_) (fun hc => ?_)
 ·simp at hc
 refine AW.skip ?_
 simp only [andThen]
 refine AW.seq ?_
 by_cases k2 : y.kind = 2
 ·have e := eqb k2
  refine AW.rT (by rfl) fun K hK => ?_
  simp -implicitDefEqProofs only [go_sem, ↓reduceIte, Nat.reduceAdd, Nat.reduceEqDiff, e]
  refine hK _ ?_; clear hK K
  refine AW.cond _ (by simp -implicitDefEqProofs only [go_sem]; rfl) (fun hc => ?_) (fun hc => ?_)
  rotate_left
  ·simp at hc
  refine AW.exit ?_
  simp only [andThen, inBlk, ↓reduceIte]
  refine AW.seq ?_
  have HH : pfit y t = (t.kind == 1) := by rw [pfit_12 (.inr k2), eqd]
  refine AW.rT (by rfl) fun K hK => ?_
  simp -implicitDefEqProofs only [go_sem, ↓reduceIte, Nat.reduceAdd, Nat.reduceEqDiff]
  refine hK _ ?_; clear hK K
  refine AW.ret ?_
  simp -implicitDefEqProofs only [go_sem, HH]
 have e2 := beqf k2
 refine AW.rT (by rfl) fun K hK => ?_
 simp -implicitDefEqProofs only [go_sem, ↓reduceIte, Nat.reduceAdd, Nat.reduceEqDiff, e2]
 refine hK _ ?_; clear hK K
 refine AW.cond _ (by simp -implicitDefEqProofs only [go_sem]; rfl) (fun hc => ?_) (fun hc => ?_)
 ·simp at hc
 refine AW.skip ?_
 simp only [andThen]
 refine AW.seq ?_
 refine AW.seq ?_
 by_cases k36 : y.kind = 3 ∨ y.kind = 6
 ·by_cases k3 : y.kind = 3
  ·have e := eqb k3
   refine AW.rT (by rfl) fun K hK => ?_
   simp -implicitDefEqProofs only [go_sem, ↓reduceIte, Nat.reduceAdd, Nat.reduceEqDiff, e]
   refine hK _ ?_; clear hK K
   refine AW.cond _ (by simp -implicitDefEqProofs only [go_sem]; rfl) (fun hc => ?_) (fun hc => ?_)
   rotate_left
   ·simp at hc
   refine AW.skip ?_
   simp only [andThen]
   refine AW.cond _ (by simp -implicitDefEqProofs only [go_sem]; rfl) (fun hc => ?_) (fun hc => ?_)
   rotate_left
   ·simp at hc
   refine AW.exit ?_
   simp only [andThen, inBlk, ↓reduceIte]
   refine AW.seq ?_
   by_cases t1 : t.kind = 1
   ·have q1 := eqb t1
    have HH : pfit y t = numV y t.n := by rw [pfit_36 k36]; simp [t1]
    generalize numV y t.n = nv at CN HH
    refine AW.rT (by rfl) fun K hK => ?_
    simp -implicitDefEqProofs only [go_sem, ↓reduceIte, Nat.reduceAdd, Nat.reduceEqDiff, Nat.reduceLeDiff, reduceCtorEq, q1]
    refine ⟨.pure _, CN, ?_⟩
    try simp -implicitDefEqProofs only [go_sem, ↓reduceIte, Nat.reduceAdd, Nat.reduceEqDiff]
    refine hK _ ?_; clear hK K
    refine AW.ret ?_
    simp -implicitDefEqProofs only [go_sem, HH]
   ·have q1 := beqf t1
    have HH : pfit y t = false := by rw [pfit_36 k36]; simp [t1]
    refine AW.rT (by rfl) fun K hK => ?_
    simp -implicitDefEqProofs only [go_sem, ↓reduceIte, Nat.reduceAdd, Nat.reduceEqDiff, q1]
    refine hK _ ?_; clear hK K
    refine AW.ret ?_
    simp -implicitDefEqProofs only [go_sem, HH]
  ·have e := beqf k3
   have e6 := eqb (show y.kind = 6 by omega)
   refine AW.rT (by rfl) fun K hK => ?_
   simp -implicitDefEqProofs only [go_sem, ↓reduceIte, Nat.reduceAdd, Nat.reduceEqDiff, e]
   refine hK _ ?_; clear hK K
   refine AW.cond _ (by simp -implicitDefEqProofs only [go_sem]; rfl) (fun hc => ?_) (fun hc => ?_)
   ·simp at hc
   refine AW.rE (by rfl) fun K hK => ?_
   simp -implicitDefEqProofs only [go_sem, ↓reduceIte, Nat.reduceAdd, Nat.reduceEqDiff, e6]
   refine hK _ ?_; clear hK K
   simp only [andThen]
   refine AW.cond _ (by simp -implicitDefEqProofs only [go_sem]; rfl) (fun hc => ?_) (fun hc => ?_)
   rotate_left
   ·simp at hc
   refine AW.exit ?_
   simp only [andThen, inBlk, ↓reduceIte]
   refine AW.seq ?_
   by_cases t1 : t.kind = 1
   ·have q1 := eqb t1
    have HH : pfit y t = numV y t.n := by rw [pfit_36 k36]; simp [t1]
    generalize numV y t.n = nv at CN HH
    refine AW.rT (by rfl) fun K hK => ?_
    simp -implicitDefEqProofs only [go_sem, ↓reduceIte, Nat.reduceAdd, Nat.reduceEqDiff, Nat.reduceLeDiff, reduceCtorEq, q1]
    refine ⟨.pure _, CN, ?_⟩
    try simp -implicitDefEqProofs only [go_sem, ↓reduceIte, Nat.reduceAdd, Nat.reduceEqDiff]
    refine hK _ ?_; clear hK K
    refine AW.ret ?_
    simp -implicitDefEqProofs only [go_sem, HH]
   ·have q1 := beqf t1
    have HH : pfit y t = false := by rw [pfit_36 k36]; simp [t1]
    refine AW.rT (by rfl) fun K hK => ?_
    simp -implicitDefEqProofs only [go_sem, ↓reduceIte, Nat.reduceAdd, Nat.reduceEqDiff, q1]
    refine hK _ ?_; clear hK K
    refine AW.ret ?_
    simp -implicitDefEqProofs only [go_sem, HH]
 have e3 := beqf (show y.kind ≠ 3 by omega)
 have e6 := beqf (show y.kind ≠ 6 by omega)
 refine AW.rT (by rfl) fun K hK => ?_
 simp -implicitDefEqProofs only [go_sem, ↓reduceIte, Nat.reduceAdd, Nat.reduceEqDiff, e3]
 refine hK _ ?_; clear hK K
 refine AW.cond _ (by simp -implicitDefEqProofs only [go_sem]; rfl) (fun hc => ?_) (fun hc => ?_)
 ·simp at hc
 refine AW.rE (by rfl) fun K hK => ?_
 simp -implicitDefEqProofs only [go_sem, ↓reduceIte, Nat.reduceAdd, Nat.reduceEqDiff, e6]
 refine hK _ ?_; clear hK K
 simp only [andThen]
 refine AW.cond _ (by simp -implicitDefEqProofs only [go_sem]; rfl) (fun hc => ?_) (fun hc => ?_)
 ·simp at hc
 refine AW.skip ?_
 simp only [andThen]
 refine AW.seq ?_
 by_cases k4 : y.kind = 4
 ·have e := eqb k4
  refine AW.rT (by rfl) fun K hK => ?_
  simp -implicitDefEqProofs only [go_sem, ↓reduceIte, Nat.reduceAdd, Nat.reduceEqDiff, e]
  refine hK _ ?_; clear hK K
  refine AW.cond _ (by simp -implicitDefEqProofs only [go_sem]; rfl) (fun hc => ?_) (fun hc => ?_)
  rotate_left
  ·simp at hc
  refine AW.exit ?_
  simp only [andThen, inBlk, ↓reduceIte]
  refine AW.seq ?_
  by_cases t1 : t.kind = 2
  ·have q1 := eqb t1
   have HH : pfit y t = valS t.s := by rw [pfit_4 k4]; simp [t1]
   generalize valS t.s = nv at CV HH
   refine AW.rT (by rfl) fun K hK => ?_
   simp -implicitDefEqProofs only [go_sem, ↓reduceIte, Nat.reduceAdd, Nat.reduceEqDiff, q1]
   refine ⟨.pure _, CV, ?_⟩
   try simp -implicitDefEqProofs only [go_sem, ↓reduceIte, Nat.reduceAdd, Nat.reduceEqDiff]
   refine hK _ ?_; clear hK K
   refine AW.ret ?_
   simp -implicitDefEqProofs only [go_sem, HH]
  ·have q1 := beqf t1
   have HH : pfit y t = false := by rw [pfit_4 k4]; simp [t1]
   refine AW.rT (by rfl) fun K hK => ?_
   simp -implicitDefEqProofs only [go_sem, ↓reduceIte, Nat.reduceAdd, Nat.reduceEqDiff, q1]
   refine hK _ ?_; clear hK K
   refine AW.ret ?_
   simp -implicitDefEqProofs only [go_sem, HH]
 have e4 := beqf k4
 refine AW.rT (by rfl) fun K hK => ?_
 simp -implicitDefEqProofs only [go_sem, ↓reduceIte, Nat.reduceAdd, Nat.reduceEqDiff, e4]
 refine hK _ ?_; clear hK K
 refine AW.cond _ (by simp -implicitDefEqProofs only [go_sem]; rfl) (fun hc => ?_) (fun hc => ?_)
 ·simp at hc
 refine AW.skip ?_
 simp only [andThen]
 by_cases k5 : y.kind = 5
 ·have e := eqb k5
  refine AW.rT (by rfl) fun K hK => ?_
  simp -implicitDefEqProofs only [go_sem, ↓reduceIte, Nat.reduceAdd, Nat.reduceEqDiff, e]
  refine hK _ ?_; clear hK K
  refine AW.cond _ (by simp -implicitDefEqProofs only [go_sem]; rfl) (fun hc => ?_) (fun hc => ?_)
  rotate_left
  ·simp at hc
  refine AW.exit ?_
  simp only [andThen, inBlk, ↓reduceIte]
  refine AW.seq ?_
  have HH : pfit y t = (t.kind == 2) := by rw [pfit_5 k5, eqd]
  refine AW.rT (by rfl) fun K hK => ?_
  simp -implicitDefEqProofs only [go_sem, ↓reduceIte, Nat.reduceAdd, Nat.reduceEqDiff]
  refine hK _ ?_; clear hK K
  refine AW.ret ?_
  simp -implicitDefEqProofs only [go_sem, HH]
 have e5 := beqf k5
 refine AW.rT (by rfl) fun K hK => ?_
 simp -implicitDefEqProofs only [go_sem, ↓reduceIte, Nat.reduceAdd, Nat.reduceEqDiff, e5]
 refine hK _ ?_; clear hK K
 refine AW.cond _ (by simp -implicitDefEqProofs only [go_sem]; rfl) (fun hc => ?_) (fun hc => ?_)
 ·simp at hc
 refine AW.skip ?_
 simp only [andThen]
 refine AW.exit ?_
 simp only [andThen, inBlk, reduceCtorEq, ↓reduceIte]
 have HH : pfit y t = (t.kind == 3) := by rw [pfit_7 k1 k2 (by omega) (by omega) k4 k5, eqd]
 refine AW.rT (by rfl) fun K hK => ?_
 simp -implicitDefEqProofs only [go_sem, ↓reduceIte, Nat.reduceAdd, Nat.reduceEqDiff]
 refine hK _ ?_; clear hK K
 refine AW.ret ?_
 simp -implicitDefEqProofs only [go_sem, HH]
theorem law13_awake : PFn Tryd.prog 43 [] (.bool true) := by
 have C1 := project_Clamp 1099511627776
 have C2 := project_Clamp (-1099511627776)
 have C3 := project_Clamp 5
 rw [show clampV 1099511627776 = 2147483647 from rfl] at C1
 rw [show clampV (-1099511627776) = -2147483648 from rfl] at C2
 rw [show clampV 5 = 5 from rfl] at C3
 refine PFn.of Tryd.func43 rfl (by decide) Tryd.ntmps43 Tryd.results43 (Nat.le_of_ble_eq_true rfl) ?_
 simp only [argsT]
 have q1 : ((2147483647 : Int) == 2147483647) = true := rfl
 have q2 : ((-2147483648 : Int) == -2147483648) = true := rfl
 have q3 : ((5 : Int) == 5) = true := rfl
 refine AW.rT (by rfl) fun K hK => ?_
 simp -implicitDefEqProofs only [go_sem]
 refine hK _ ?_; clear hK K
 refine AW.rT (by rfl) fun K hK => ?_
 simp -implicitDefEqProofs only [go_sem]
 refine ⟨.pure _, C1, ?_⟩
 try simp -implicitDefEqProofs only [go_sem, ↓reduceIte, Nat.reduceAdd, q1]
 refine ⟨.pure _, C2, ?_⟩
 try simp -implicitDefEqProofs only [go_sem, ↓reduceIte, Nat.reduceAdd, Nat.reduceEqDiff, q2]
 refine ⟨.pure _, C3, ?_⟩
 try simp -implicitDefEqProofs only [go_sem, ↓reduceIte, Nat.reduceAdd, Nat.reduceEqDiff, q3]
 refine hK _ ?_; clear hK K
 refine AW.ret ?_
 simp -implicitDefEqProofs only [go_sem]
end Go.Aw.T
namespace Go.Aw.T
open Go.Proofs
set_option linter.unusedSimpArgs false
set_option linter.unusedVariables false
def yc (S : Sc) (f : Fd) (L : List (Nat × AV)) (H : List (Nat × Blk)) (n : Nat) : St := ⟨ofL ((3, .ptr 0 0 0) :: (4, .ptr 1 0 0) :: L), ofH ((0, .row 4 [cellsSc S]) :: (1, .row 5 [cellsFd f]) :: H), n⟩
def ycA (l : List Tr) (i : Nat) : List (Nat × AV) := [(2, .p (.slice (l.map encTr))), (15, .p (.slice (l.map encTr))), (16, .p (.int .i64 (l.length : Int))), (17, .p (.int .i64 (i : Int)))]
def ycB (l : List Tr) (i : Nat) : List (Nat × AV) := [(10, .own 2), (35, .p (.slice (l.map encTr))), (36, .p (.int .i64 (l.length : Int))), (37, .p (.int .i64 (i : Int)))]
theorem selL_len {α : Type} (f : Fd) (l : List α) (h : 1 ≤ l.length) : 1 ≤ (selL f l).length ∧ (selL f l).length ≤ l.length := by
 unfold selL
 split
 ·omega
 ·rw [List.length_drop]; omega
theorem selL_mem {α : Type} {f : Fd} {l : List α} {x : α} (h : x ∈ selL f l) : x ∈ l := by
 unfold selL at h
 split at h
 ·exact h
 ·exact List.mem_of_mem_drop h
set_option maxRecDepth 100000 in
set_option maxHeartbeats 8000000 in
theorem project_field (S : Sc) (hS : SizS S) (f : Fd) (l : List Tr) (hne : 1 ≤ l.length) (hl : l.length ≤ 1000) (hs : ∀ x ∈ l, x.s.length ≤ 1000000) (IH : ∀ x ∈ l, ∀ m : Ms, m.fields.length ≤ 1000000 → PFn Tryd.prog 74 [.agg (encSc S), .agg (encMs m), .agg (encTr x)] (.agg (encTr (prM S m x)))) :
  PFn Tryd.prog 103 [.agg (encSc S), .agg (encFd f), .slice (l.map encTr)] (.tuple [.slice ((fieldP S f l).1.map encTr), .bool (fieldP S f l).2]) := by
 refine PFn.of Tryd.func103 rfl (by decide) Tryd.ntmps103 Tryd.results103 (Nat.le_of_ble_eq_true rfl) ?_
 simp only [argsT]
 refine AW.rT (by rfl) fun K hK => ?_
 simp -implicitDefEqProofs only [go_sem, ↓reduceIte, Nat.reduceAdd, Nat.reduceEqDiff, encSc, encFd]
 refine hK _ ?_; clear hK K
 refine AW.cut (fun _ : Unit => yc S f [(2, .p (.slice (l.map encTr)))] [] 2) (fun _ => l.all (pfit f.ty) = true) ?_ fun _ hall => ?_
 ·refine AW.rT (by rfl) fun K hK => ?_
  simp -implicitDefEqProofs only [go_sem, ↓reduceIte, Nat.reduceAdd, Nat.reduceEqDiff, reduceCtorEq, List.length_map]
  refine hK _ ?_; clear hK K
  refine AW.block ?_
  refine AW.loop (fun i : Nat => yc S f (ycA l i) [] 2) (fun i => i ≤ l.length ∧ (l.take i).all (pfit f.ty) = true) (fun i => l.length - i) 0 ?_ (by simp) fun i hi => ?_
  ·simp only [yc, ycA, cellsSc, cellsFd]
   refine Ghost.sub ?_ ?_ <;> simp -implicitDefEqProofs only [go_sem, ↓reduceIte, Nat.reduceEqDiff, reduceCtorEq, List.forall_mem_cons, List.not_mem_nil, false_implies, implies_true, and_self, List.all_cons, List.all_nil, Nat.reduceLT, labsInL, AV.labsIn]
   rfl
  obtain ⟨g1, g2⟩ := hi
  simp only [yc, ycA, cellsSc, cellsFd]
  by_cases hil : i < l.length
  case neg =>
   have hc1 : ((i : Int) < (l.length : Int)) = False := eq_false (by omega)
   rw [List.take_of_length_le (by omega)] at g2
   refine AW.rT (by rfl) fun K hK => ?_
   simp -implicitDefEqProofs only [go_sem, ↓reduceIte, Nat.reduceAdd, Nat.reduceEqDiff, hc1]
   refine hK _ ?_; clear hK K
   refine AW.seq ?_
   refine AW.cond _ (by simp -implicitDefEqProofs only [go_sem]; rfl) (fun hc => ?_) (fun hc => ?_)
   ·simp at hc
   refine AW.exit ?_
   simp only [andThen, inBlk, ↓reduceIte]
   refine ⟨(), g2, ?_⟩
   try simp only [yc, cellsSc, cellsFd]
   refine Ghost.sub ?_ ?_ <;> simp -implicitDefEqProofs only [go_sem, ↓reduceIte, Nat.reduceEqDiff, List.forall_mem_cons, List.not_mem_nil, false_implies, implies_true, and_self, List.all_cons, List.all_nil, Nat.reduceLT, labsInL, AV.labsIn]
   done
  obtain ⟨x, hx⟩ : ∃ x, l[i]? = some x := ⟨_, List.getElem?_eq_getElem hil⟩
  have ⟨hx1, hx2, hx3⟩ := at_map' encTr hx
  have hc1 : ((i : Int) < (l.length : Int)) = True := eq_true (by omega)
  have CP := project_fits f.ty x (hs x (List.mem_of_getElem? hx))
  simp only [encTy, encTr_eq] at CP
  have w1 : IntKind.wrap .i64 ((i : Int) + 1) = ((i + 1 : Nat) : Int) := by rw [w64] <;> omega
  refine AW.rT (by rfl) fun K hK => ?_
  simp -implicitDefEqProofs only [go_sem, ↓reduceIte, Nat.reduceAdd, Nat.reduceEqDiff, hc1]
  refine hK _ ?_; clear hK K
  refine AW.seq ?_
  refine AW.cond _ (by simp -implicitDefEqProofs only [go_sem]; rfl) (fun hc => ?_) (fun hc => ?_)
  rotate_left
  ·simp at hc
  refine AW.skip ?_
  simp only [andThen]
  refine AW.seq ?_
  refine AW.block ?_
  refine AW.rT (by rfl) fun K hK => ?_
  simp -implicitDefEqProofs only [go_sem, ↓reduceIte, Nat.reduceAdd, Nat.reduceEqDiff, Nat.reduceLeDiff, hx1, hx3, hc1, encTr_eq, List.length_map]
  refine hK _ ?_; clear hK K
  cases hp : pfit f.ty x with
  | false =>
   rw [hp] at CP
   have HH : fieldP S f l = ([], false) := by unfold fieldP; rw [if_pos (all_not hx hp)]
   refine AW.rT (by rfl) fun K hK => ?_
   simp -implicitDefEqProofs only [go_sem, ↓reduceIte, Nat.reduceAdd, Nat.reduceEqDiff, Nat.reduceLeDiff]
   refine ⟨.pure _, CP, ?_⟩
   try simp -implicitDefEqProofs only [go_sem, Nat.reduceAdd]
   refine hK _ ?_; clear hK K
   refine AW.cond _ (by simp -implicitDefEqProofs only [go_sem]; rfl) (fun hc => ?_) (fun hc => ?_)
   rotate_left
   ·simp at hc
   refine AW.rT (by rfl) fun K hK => ?_
   simp -implicitDefEqProofs only [go_sem, Nat.reduceAdd]
   refine hK _ ?_; clear hK K
   refine AW.ret ?_
   simp -implicitDefEqProofs only [go_sem, ↓reduceIte, Nat.reduceEqDiff, HH, List.map_nil]
  | true =>
   rw [hp] at CP
   refine AW.rT (by rfl) fun K hK => ?_
   simp -implicitDefEqProofs only [go_sem, ↓reduceIte, Nat.reduceAdd, Nat.reduceEqDiff, Nat.reduceLeDiff]
   refine ⟨.pure _, CP, ?_⟩
   try simp -implicitDefEqProofs only [go_sem, Nat.reduceAdd]
   refine hK _ ?_; clear hK K
   refine AW.cond _ (by simp -implicitDefEqProofs only [go_sem]; rfl) (fun hc => ?_) (fun hc => ?_)
   ·simp at hc
   refine AW.skip ?_
   simp only [andThen, inBlk]
   refine AW.rE (by rfl) fun K hK => ?_
   simp -implicitDefEqProofs only [go_sem, ↓reduceIte, Nat.reduceAdd, Nat.reduceEqDiff, w1]
   refine hK _ ?_; clear hK K
   refine ⟨i + 1, ⟨by omega, all_next hx g2 hp⟩, by omega, ?_⟩
   show Ghost _ _ (yc S f (ycA l (i + 1)) [] 2)
   simp only [yc, ycA, cellsSc, cellsFd]
   refine Ghost.sub ?_ ?_ <;> simp -implicitDefEqProofs only [go_sem, ↓reduceIte, Nat.reduceEqDiff, reduceCtorEq, List.forall_mem_cons, List.not_mem_nil, false_implies, implies_true, and_self, List.all_cons, List.all_nil, Nat.reduceLT, labsInL, AV.labsIn]
   done
 have FP : fieldP S f l = ((selL f l).map (pr1 S f), keepL f ((selL f l).map (pr1 S f))) := by unfold fieldP; rw [if_neg (by simp [hall])]
 have sl := selL_len f l hne
 have smem := fun x => selL_mem (f := f) (l := l) (x := x)
 refine AW.cut (fun _ : Unit => yc S f [(2, .p (.slice ((selL f l).map encTr)))] [] 2) (fun _ => True) ?_ fun _ _ => ?_
 ·simp only [yc, cellsSc, cellsFd]
  by_cases hb : f.label = 3
  ·have b3 : (f.label != 3) = false := by simp [hb]
   have e : selL f l = l := by unfold selL; rw [if_pos hb]
   rw [e]
   refine AW.rT (by rfl) fun K hK => ?_
   simp -implicitDefEqProofs only [go_sem, ↓reduceIte, Nat.reduceAdd, b3]
   refine hK _ ?_; clear hK K
   refine AW.cond _ (by simp -implicitDefEqProofs only [go_sem]; rfl) (fun hc => ?_) (fun hc => ?_)
   ·simp at hc
   refine AW.skip ?_
   simp only [andThen]
   refine ⟨(), trivial, ?_⟩
   try simp only [yc, cellsSc, cellsFd]
   refine Ghost.sub ?_ ?_ <;> simp -implicitDefEqProofs only [go_sem, ↓reduceIte, Nat.reduceEqDiff, List.forall_mem_cons, List.not_mem_nil, false_implies, implies_true, and_self, List.all_cons, List.all_nil, Nat.reduceLT, labsInL, AV.labsIn]
   done
  ·have b3 : (f.label != 3) = true := by simpa using hb
   have e : selL f l = l.drop (l.length - 1) := by unfold selL; rw [if_neg hb]
   have ws : IntKind.wrap .i64 ((l.length : Int) - 1) = ((l.length - 1 : Nat) : Int) := by rw [w64] <;> omega
   rw [e]
   refine AW.rT (by rfl) fun K hK => ?_
   simp -implicitDefEqProofs only [go_sem, ↓reduceIte, Nat.reduceAdd, b3]
   refine hK _ ?_; clear hK K
   refine AW.cond _ (by simp -implicitDefEqProofs only [go_sem]; rfl) (fun hc => ?_) (fun hc => ?_)
   rotate_left
   ·simp at hc
   refine AW.rE (by rfl) fun K hK => ?_
   simp -implicitDefEqProofs only [go_sem, ↓reduceIte, Nat.reduceAdd, Nat.reduceEqDiff, ws, List.length_map]
   refine ⟨fun y hy => by
    obtain ⟨x, _, rfl⟩ := List.mem_map.1 hy
    rw [encTr_eq]
    rfl, by simp, ⟨by omega, by omega, by omega⟩, ?_⟩
   refine hK _ ?_; clear hK K
   simp only [andThen]
   refine ⟨(), trivial, ?_⟩
   try simp only [yc, cellsSc, cellsFd]
   have tk : List.take l.length (l.map encTr) = l.map encTr := List.take_of_length_le (by simp)
   refine Ghost.sub ?_ ?_ <;> simp -implicitDefEqProofs only [go_sem, ↓reduceIte, Nat.reduceEqDiff, List.map_drop, tk, List.forall_mem_cons, List.not_mem_nil, false_implies, implies_true, and_self, List.all_cons, List.all_nil, Nat.reduceLT, labsInL, AV.labsIn]
   done
 have smap : (selL f l).map encTr = (selL f l).map encTr := rfl
 generalize selL f l = q at *
 obtain ⟨sl1, sl2⟩ := sl
 simp only [yc, cellsSc, cellsFd]
 refine AW.rT (by rfl) fun K hK => ?_
 simp -implicitDefEqProofs only [go_sem, Nat.reduceAdd]
 refine hK _ ?_; clear hK K
 refine AW.seq ?_
 refine AW.rT (by rfl) fun K hK => ?_
 simp -implicitDefEqProofs only [go_sem, ↓reduceIte, Nat.reduceAdd, Nat.reduceEqDiff, List.length_map]
 refine hK _ ?_; clear hK K
 refine AW.block ?_
 refine AW.loop (fun i : Nat => yc S f (ycB q i) [(2, .row 5 (liftE (((q.map (pr1 S f)).take i).map encTr)))] 3) (fun i => i ≤ q.length) (fun i => q.length - i) 0 ?_ (by simp) fun i hi => ?_
 ·refine Ghost.trans (Ghost.nil (t := 10) (sz := 5) rfl) ?_
  simp only [yc, ycB, cellsSc, cellsFd]
  refine Ghost.ent (fun l => if l = 2 then 6 else l) ?_ ?_ ?_ <;> simp -implicitDefEqProofs only [go_sem, ↓reduceIte, Nat.reduceEqDiff, reduceCtorEq, List.take_zero, List.map_nil, liftE_nil, List.forall_mem_cons, List.not_mem_nil, false_implies, implies_true, and_self, List.all_cons, List.all_nil, Nat.reduceLT, labsInL, AV.labsIn]
  all_goals first | rfl | skip
 simp only [yc, ycB, cellsSc, cellsFd]
 by_cases hil : i < q.length
 case neg =>
  have hc1 : ((i : Int) < (q.length : Int)) = False := eq_false (by omega)
  have hi' : i = q.length := by omega
  rw [hi', List.take_of_length_le (by simp)]
  have hpl : ((q.map (pr1 S f)).length : Int) = (q.length : Int) := by simp
  have hpl' : 1 ≤ (q.map (pr1 S f)).length := by simpa using sl1
  generalize q.map (pr1 S f) = ps at *
  obtain ⟨x0, hx0⟩ : ∃ x, ps[0]? = some x := ⟨_, List.getElem?_eq_getElem (by omega)⟩
  have ⟨hy1, hy2, hy3⟩ := at_map' encTr hx0
  have hz0 : ((0 : Int) ≤ 0) = True := by simp
  have hz : ((0 : Int) < (ps.length : Int)) = True := eq_true (by omega)
  have hh : ps.head?.any zeroV = zeroV x0 := by
   cases hq : ps with
   | nil => rw [hq] at hx0; simp at hx0
   | cons y l => rw [hq] at hx0; simp at hx0; subst hx0; rfl
  have CZ := valid_Zero x0
  rw [encTr_eq] at CZ
  refine AW.rT (by rfl) fun K hK => ?_
  simp -implicitDefEqProofs only [go_sem, ↓reduceIte, Nat.reduceAdd, Nat.reduceEqDiff]
  refine hK _ ?_; clear hK K
  refine AW.seq ?_
  refine AW.cond _ (by simp -implicitDefEqProofs only [go_sem]; rfl) (fun hc => ?_) (fun hc => ?_)
  ·simp at hc
  refine AW.exit ?_
  simp only [andThen, inBlk, ↓reduceIte]
  refine AW.ghost (s' := yc S f [(10, .p (.slice (ps.map encTr)))] [] 2) (Ghost.trans (Ghost.freeze (lb := 2) (ps := ps.map encTr) rfl (unlift_liftE _)) ?_) ?_
  ·simp only [yc, cellsSc, cellsFd]
   refine Ghost.sub ?_ ?_ <;> simp -implicitDefEqProofs only [go_sem, ↓reduceIte, Nat.reduceEqDiff, reduceCtorEq, thaw, thaw1, Option.map_some, List.map_cons, List.map_nil, List.forall_mem_cons, List.not_mem_nil, false_implies, implies_true, and_self, List.all_cons, List.all_nil, Nat.reduceLT, labsInL, AV.labsIn]
   done
  simp only [yc, cellsSc, cellsFd]
  by_cases hb : f.label = 1
  ·have b1 : (f.label != 1) = false := by simp [hb]
   have HH : fieldP S f l = (ps, !zeroV x0) := by rw [FP]; unfold keepL; rw [b1, hh, Bool.false_or]
   cases hzv : zeroV x0 with
   | true =>
    rw [hzv] at CZ HH
    refine AW.rT (by rfl) fun K hK => ?_
    simp -implicitDefEqProofs only [go_sem, ↓reduceIte, Nat.reduceAdd, Nat.reduceEqDiff, Nat.reduceLeDiff, Int.reduceToNat, b1, hy3, hz0, hz, encTr_eq, List.length_map]
    refine ⟨.pure _, CZ, ?_⟩
    try simp -implicitDefEqProofs only [go_sem, ↓reduceIte, Nat.reduceAdd, Nat.reduceEqDiff]
    refine hK _ ?_; clear hK K
    refine AW.ret ?_
    simp -implicitDefEqProofs only [go_sem, ↓reduceIte, Nat.reduceEqDiff, HH, Bool.not_true]
    done
   | false =>
    rw [hzv] at CZ HH
    refine AW.rT (by rfl) fun K hK => ?_
    simp -implicitDefEqProofs only [go_sem, ↓reduceIte, Nat.reduceAdd, Nat.reduceEqDiff, Nat.reduceLeDiff, Int.reduceToNat, b1, hy3, hz0, hz, encTr_eq, List.length_map]
    refine ⟨.pure _, CZ, ?_⟩
    try simp -implicitDefEqProofs only [go_sem, ↓reduceIte, Nat.reduceAdd, Nat.reduceEqDiff]
    refine hK _ ?_; clear hK K
    refine AW.ret ?_
    simp -implicitDefEqProofs only [go_sem, ↓reduceIte, Nat.reduceEqDiff, HH, Bool.not_false]
    done
  ·have b1 : (f.label != 1) = true := by simpa using hb
   have HH : fieldP S f l = (ps, true) := by rw [FP]; unfold keepL; rw [b1, Bool.true_or]
   refine AW.rT (by rfl) fun K hK => ?_
   simp -implicitDefEqProofs only [go_sem, ↓reduceIte, Nat.reduceAdd, Nat.reduceEqDiff, b1]
   refine hK _ ?_; clear hK K
   refine AW.ret ?_
   simp -implicitDefEqProofs only [go_sem, ↓reduceIte, Nat.reduceEqDiff, HH]
   done
 obtain ⟨x, hx⟩ : ∃ x, q[i]? = some x := ⟨_, List.getElem?_eq_getElem hil⟩
 have ⟨hx1, hx2, hx3⟩ := at_map' encTr hx
 have hc1 : ((i : Int) < (q.length : Int)) = True := eq_true (by omega)
 have xm := smem x (List.mem_of_getElem? hx)
 have w1 : IntKind.wrap .i64 ((i : Int) + 1) = ((i + 1 : Nat) : Int) := by rw [w64] <;> omega
 have e7 : liftE (((q.map (pr1 S f)).take i).map encTr) ++ [[AV.p (.int .i64 (pr1 S f x).kind), .p (.int .i64 (pr1 S f x).n), .p (.str (pr1 S f x).s), .p (.slice ((pr1 S f x).ents.map encEn)), .p (.slice ((pr1 S f x).rest.map encRaw))]] = liftE (((q.map (pr1 S f)).take (i + 1)).map encTr) := by
  rw [List.take_add_one, map_at hx]
  simp [liftE, encTr_eq]
 have rlen : (liftE (((q.map (pr1 S f)).take i).map encTr)).length ≤ i := by rw [liftE_length, List.length_map, List.length_take]; omega
 generalize ((q.map (pr1 S f)).take i).map encTr = Qs at *
 refine AW.rT (by rfl) fun K hK => ?_
 simp -implicitDefEqProofs only [go_sem, ↓reduceIte, Nat.reduceAdd, Nat.reduceEqDiff, hc1]
 refine hK _ ?_; clear hK K
 refine AW.seq ?_
 refine AW.cond _ (by simp -implicitDefEqProofs only [go_sem]; rfl) (fun hc => ?_) (fun hc => ?_)
 rotate_left
 ·simp at hc
 refine AW.skip ?_
 simp only [andThen]
 refine AW.seq ?_
 refine AW.block ?_
 refine AW.rT (by rfl) fun K hK => ?_
 simp -implicitDefEqProofs only [go_sem, ↓reduceIte, Nat.reduceAdd, Nat.reduceEqDiff, Nat.reduceLeDiff, hx1, hx3, hc1, encTr_eq, List.length_map]
 refine hK _ ?_; clear hK K
 refine AW.cut (fun _ : Unit => yc S f (ycB q i ++ [(12, .ptr 3 0 0)]) [(2, .row 5 (liftE Qs)), (3, .row 5 [cellsT (pr1 S f x)])] 4) (fun _ => True) ?_ fun _ _ => ?_
 ·refine AW.rT (by rfl) fun K hK => ?_
  simp -implicitDefEqProofs only [go_sem, ↓reduceIte, Nat.reduceAdd, Nat.reduceEqDiff]
  refine hK _ ?_; clear hK K
  refine AW.block ?_
  by_cases k1 : f.ty.kind = 1
  ·have e1 := eqb k1
   have PR : cellsT (pr1 S f x) = [.p (.int .i64 x.kind), .p (.int .i64 (clampV x.n)), .p (.str x.s), .p (.slice (x.ents.map encEn)), .p (.slice (x.rest.map encRaw))] := by unfold pr1; rw [if_pos k1]; rfl
   have CC := project_Clamp x.n
   rw [PR]
   refine AW.rT (by rfl) fun K hK => ?_
   simp -implicitDefEqProofs only [go_sem, ↓reduceIte, Nat.reduceAdd, e1]
   refine hK _ ?_; clear hK K
   refine AW.cond _ (by simp -implicitDefEqProofs only [go_sem]; rfl) (fun hc => ?_) (fun hc => ?_)
   rotate_left
   ·simp at hc
   refine AW.rE (by rfl) fun K hK => ?_
   simp -implicitDefEqProofs only [go_sem, ↓reduceIte, Nat.reduceAdd, Nat.reduceEqDiff]
   refine ⟨.pure _, CC, ?_⟩
   try simp -implicitDefEqProofs only [go_sem, ↓reduceIte, Nat.reduceAdd, Nat.reduceEqDiff, Nat.reduceLeDiff]
   refine hK _ ?_; clear hK K
   simp only [andThen, inBlk]
   refine ⟨(), trivial, ?_⟩
   simp only [yc, ycB, cellsSc, cellsFd, List.cons_append, List.nil_append]
   refine Ghost.ent (fun l => if l = 3 then 6 else l) ?_ ?_ ?_ <;> simp -implicitDefEqProofs only [go_sem, ↓reduceIte, Nat.reduceEqDiff, reduceCtorEq, List.forall_mem_cons, List.not_mem_nil, false_implies, implies_true, and_self, map_renL_lift, labsIn_lift, List.all_cons, List.all_nil, Nat.reduceLT, labsInL, AV.labsIn]
   all_goals first | rfl | skip
  have e1 := beqf k1
  by_cases k7 : f.ty.kind = 7
  ·have e7' := eqb k7
   have CM : PFn Tryd.prog 62 [.agg (encSc S), .str f.ty.name] (.tuple [.agg (encMs (msOf S f.ty.name).1), .bool (msOf S f.ty.name).2]) := check_Message S f.ty.name hS.msgs
   have CI := IH x xm (msOf S f.ty.name).1 (siz_of hS _)
   have PR : pr1 S f x = prM S (msOf S f.ty.name).1 x := by unfold pr1; rw [if_neg k1, if_pos k7]
   rw [PR]
   generalize prM S (msOf S f.ty.name).1 x = z at CI
   simp only [encSc, encMs, encTr_eq] at CM CI
   refine AW.rT (by rfl) fun K hK => ?_
   simp -implicitDefEqProofs only [go_sem, ↓reduceIte, Nat.reduceAdd, e1]
   refine hK _ ?_; clear hK K
   refine AW.cond _ (by simp -implicitDefEqProofs only [go_sem]; rfl) (fun hc => ?_) (fun hc => ?_)
   ·simp at hc
   refine AW.rT (by rfl) fun K hK => ?_
   simp -implicitDefEqProofs only [go_sem, ↓reduceIte, Nat.reduceAdd, Nat.reduceEqDiff, e7']
   refine hK _ ?_; clear hK K
   refine AW.cond _ (by simp -implicitDefEqProofs only [go_sem]; rfl) (fun hc => ?_) (fun hc => ?_)
   rotate_left
   ·simp at hc
   refine AW.rT (by rfl) fun K hK => ?_
   simp -implicitDefEqProofs only [go_sem, ↓reduceIte, Nat.reduceAdd, Nat.reduceEqDiff, Nat.reduceLeDiff, reduceCtorEq]
   refine ⟨.pure _, CM, ?_⟩
   try simp -implicitDefEqProofs only [go_sem, ↓reduceIte, Nat.reduceAdd, Nat.reduceEqDiff, Nat.reduceLeDiff]
   refine hK _ ?_; clear hK K
   refine AW.rE (by rfl) fun K hK => ?_
   simp -implicitDefEqProofs only [go_sem, ↓reduceIte, Nat.reduceAdd, Nat.reduceEqDiff, Nat.reduceLeDiff, reduceCtorEq]
   refine ⟨.pure _, CI, ?_⟩
   try simp -implicitDefEqProofs only [go_sem, ↓reduceIte, Nat.reduceAdd, Nat.reduceEqDiff, Nat.reduceLeDiff]
   refine hK _ ?_; clear hK K
   simp only [andThen, inBlk]
   refine ⟨(), trivial, ?_⟩
   simp only [yc, ycB, cellsSc, cellsFd, cellsT, List.cons_append, List.nil_append]
   refine Ghost.ent (fun l => if l = 3 then 6 else l) ?_ ?_ ?_ <;> simp -implicitDefEqProofs only [go_sem, ↓reduceIte, Nat.reduceEqDiff, reduceCtorEq, List.forall_mem_cons, List.not_mem_nil, false_implies, implies_true, and_self, map_renL_lift, labsIn_lift, List.all_cons, List.all_nil, Nat.reduceLT, labsInL, AV.labsIn]
   all_goals first | rfl | skip
  ·have e7' := beqf k7
   have PR : pr1 S f x = x := by unfold pr1; rw [if_neg k1, if_neg k7]
   rw [PR]
   refine AW.rT (by rfl) fun K hK => ?_
   simp -implicitDefEqProofs only [go_sem, ↓reduceIte, Nat.reduceAdd, e1]
   refine hK _ ?_; clear hK K
   refine AW.cond _ (by simp -implicitDefEqProofs only [go_sem]; rfl) (fun hc => ?_) (fun hc => ?_)
   ·simp at hc
   refine AW.rT (by rfl) fun K hK => ?_
   simp -implicitDefEqProofs only [go_sem, ↓reduceIte, Nat.reduceAdd, Nat.reduceEqDiff, e7']
   refine hK _ ?_; clear hK K
   refine AW.cond _ (by simp -implicitDefEqProofs only [go_sem]; rfl) (fun hc => ?_) (fun hc => ?_)
   ·simp at hc
   refine AW.skip ?_
   simp only [andThen, inBlk]
   refine ⟨(), trivial, ?_⟩
   simp only [yc, ycB, cellsSc, cellsFd, cellsT, List.cons_append, List.nil_append]
   refine Ghost.ent (fun l => if l = 3 then 6 else l) ?_ ?_ ?_ <;> simp -implicitDefEqProofs only [go_sem, ↓reduceIte, Nat.reduceEqDiff, reduceCtorEq, List.forall_mem_cons, List.not_mem_nil, false_implies, implies_true, and_self, map_renL_lift, labsIn_lift, List.all_cons, List.all_nil, Nat.reduceLT, labsInL, AV.labsIn]
   all_goals first | rfl | skip
 generalize pr1 S f x = z at *
 simp only [yc, ycB, cellsSc, cellsFd, cellsT, List.cons_append, List.nil_append]
 refine AW.rE (by rfl) fun K hK => ?_
 simp -implicitDefEqProofs only [go_sem, ↓reduceIte, Nat.reduceAdd, Nat.reduceMul, Nat.reduceEqDiff, Nat.reduceLeDiff, reduceCtorEq]
 refine ⟨⟨by simp, by simp [oneAll, AV.one, PV.one], by simp⟩, by omega, ?_⟩
 try simp -implicitDefEqProofs only [go_sem, ↓reduceIte, Nat.reduceAdd, Nat.reduceMul, Nat.reduceEqDiff, Nat.reduceLeDiff, reduceCtorEq, Int.reduceToNat]
 refine hK _ ?_; clear hK K
 simp only [andThen, inBlk]
 refine AW.rE (by rfl) fun K hK => ?_
 simp -implicitDefEqProofs only [go_sem, ↓reduceIte, Nat.reduceAdd, Nat.reduceEqDiff, w1]
 refine hK _ ?_; clear hK K
 refine ⟨i + 1, by omega, by omega, ?_⟩
 show Ghost _ _ (yc S f (ycB q (i + 1)) [(2, .row 5 (liftE (((q.map (pr1 S f)).take (i + 1)).map encTr)))] 3)
 simp only [yc, ycB, cellsSc, cellsFd]
 rw [← e7]
 refine Ghost.ent (fun l => if l = 2 then 7 else l) ?_ ?_ ?_ <;> simp -implicitDefEqProofs only [go_sem, ↓reduceIte, Nat.reduceEqDiff, reduceCtorEq, List.forall_mem_cons, List.not_mem_nil, false_implies, implies_true, and_self, map_renL_lift, labsIn_lift, List.all_append, List.all_cons, List.all_nil, List.map_append, Nat.reduceLT, labsInL, AV.labsIn]
 all_goals first | rfl | skip
end Go.Aw.T
namespace Go.Aw
open Go.RowKit
variable {P : Program}
theorem seq_part {w0 : World} {X I0 : Nat → Prop} {nt : Fm} {ops : Array Oper} {Q : Exit → Act → World → Prop} {K : (Nat → Option AV) → (Nat → Option Blk) → Nat → Prop} (hd : ops.toList.all (dstOK nt) = true) (tx : TabX w0 X I0) {r' : List Oper} :
  ∀ (r : List Oper) (i nx : Nat) (T : Nat → Option AV) (H : Nat → Option Blk) (σ : Lab) (I : Nat → Prop) (a : Act) (w : World), ops.toList.drop i = r ++ r' → Match nt w0 X I0 σ I T H a w → (∀ l, nx ≤ l → σ l = none) → seqW P ops.toList nx r T H K →
   (∀ T H n σ I a w, Match nt w0 X I0 σ I T H a w → (∀ l, n ≤ l → σ l = none) → K T H n → wpOps P ops Q (List.range' (i + r.length) r'.length) a w) → wpOps P ops Q (List.range' i (r ++ r').length) a w := by
 intro r
 induction r with
 | nil => intro i nx T H σ I a w _ m hn hk hK; exact hK T H nx σ I a w m hn hk
 | cons o r ih =>
  intro i nx T H σ I a w hr m hn hk hK
  have hi : ops[i]? = some o := by
   rw [← Array.getElem?_toList, show i = i + 0 from rfl, ← List.getElem?_drop, hr]; rfl
  have hdr : ops.toList.drop (i + 1) = r ++ r' := by rw [← List.drop_drop, hr]; rfl
  have hdo : dstOK nt o = true := List.all_eq_true.1 hd o (List.mem_of_getElem? (by rw [Array.getElem?_toList]; exact hi))
  have hK' : ∀ T H n σ I a w, Match nt w0 X I0 σ I T H a w → (∀ l, n ≤ l → σ l = none) → K T H n → wpOps P ops Q (List.range' (i + 1 + r.length) r'.length) a w := by
   intro T H n σ I a w h1 h2 h3
   have := hK T H n σ I a w h1 h2 h3
   rwa [List.length_cons, show i + (r.length + 1) = i + 1 + r.length by omega] at this
  rw [List.cons_append, List.length_cons, List.range'_succ]
  simp only [wpOps, hi]
  simp only [seqW] at hk
  have run : (opW P nx o.op T H fun e => seqW P ops.toList (nx + 1) r (putT T o.dst e.val) (putH H e.upd) K) → o.wp P a w (wpOps P ops Q (List.range' (i + 1) (r ++ r').length)) Q := by
   intro hop
   refine snd_op (w0 := w0) (X := X) (I0 := I0) ⟨m.heap, m.tmps, hn nx (Nat.le_refl _), tx⟩ hop _ _ fun e v w' σ' I' hk' out => ?_
   refine ih (i + 1) (nx + 1) _ _ σ' I' _ w' hdr (m.put hdo out.heap out.ext out.imm out.same out.val) (fun l hl => ?_) hk' hK'
   rw [out.lab l (by omega)]
   exact hn l (by omega)
  have skip : seqW P ops.toList (nx + 1) r (putT T o.dst (some (.p (.cst undef)))) H K → wpOps P ops Q (List.range' (i + 1) (r ++ r').length) (a.put o.dst undef) w := by
   intro hk'
   exact ih (i + 1) (nx + 1) _ _ σ I _ w hdr (m.put hdo m.heap (fun _ _ h => h) (fun _ h => h) (fun _ _ => rfl) (fun y hy => by injection hy with hy; subst hy; exact .p (.cst undef))) (fun l hl => hn l (by omega)) hk' hK'
  unfold guardS at hk
  cases hg : o.guard with
  | none =>
   rw [hg] at hk
   have : Region.wanted o (yielded ops a.tmps) = true := by simp [Region.wanted, hg]
   rw [if_pos this]
   exact .inl (run hk)
  | some jw =>
   obtain ⟨j, want⟩ := jw
   rw [hg] at hk
   simp only at hk
   split at hk
   ·rename_i b hb
    obtain ⟨d, hd1, hd2⟩ := Option.bind_eq_some_iff.1 hb
    rw [Array.getElem?_toList] at hd1
    obtain ⟨u, hu, hru⟩ := m.tmps d _ hd2
    have hy : yielded ops a.tmps j = some b := by
     cases hru with
     | p h => cases h; simp [yielded, hd1, hu]
    have hw : Region.wanted o (yielded ops a.tmps) = (b == want) := by
     simp only [Region.wanted, hg, hy]
     cases b <;> cases want <;> rfl
    split at hk
    ·rename_i hbw
     rw [hw, if_pos (by simp [hbw])]
     exact .inl (run hk)
    ·rename_i hbw
     rw [hw, if_neg (by simp [hbw])]
     exact skip hk
   ·rename_i x hb
    obtain ⟨d, hd1, hd2⟩ := Option.bind_eq_some_iff.1 hb
    rw [Array.getElem?_toList] at hd1
    obtain ⟨u, hu, hru⟩ := m.tmps d _ hd2
    have hy : yielded ops a.tmps j = none := by
     cases hru with
     | p h =>
      cases h
      simp only [yielded, hd1, Option.bind_some, hu]
      have := hk.1
      cases x <;> first | rfl | exact this.elim
    have hw : Region.wanted o (yielded ops a.tmps) = false := by
     simp only [Region.wanted, hg, hy]
     cases want <;> rfl
    rw [hw, if_neg (by simp)]
    exact skip hk.2
   ·exact hk.elim
end Go.Aw
namespace Go.Aw
open Go.RowKit
variable {P : Program}
def SeqR (P : Program) (nt : Fm) (ops : Array Oper) (i : Nat) (s : St) (K : St → Prop) : Prop :=
 ∀ w0 X I0 a w (Q : Exit → Act → World → Prop), TabX w0 X I0 → Matches nt w0 X I0 s a w → (∀ s' a' w', Matches nt w0 X I0 s' a' w' → K s' → Q .normal a' w') → wpOps P ops Q (List.range' i (ops.size - i)) a w
theorem SeqR.ghost {nt : Fm} {ops : Array Oper} {i : Nat} {s s' : St} {K : St → Prop} (g : Ghost nt s s') (h : SeqR P nt ops i s' K) : SeqR P nt ops i s K :=
 fun w0 X I0 a w Q tx m hQ => h w0 X I0 a w Q tx (g w0 X I0 a w m) hQ
theorem SeqR.last {nt : Fm} {ops : Array Oper} {i : Nat} {s : St} {K : St → Prop} (hi : ops.size = i) (h : K s) : SeqR P nt ops i s K := by
 intro w0 X I0 a w Q tx m hQ
 subst hi
 rw [Nat.sub_self]
 exact hQ s a w m h
theorem SeqR.ev {nt : Fm} {ops : Array Oper} {i : Nat} {s : St} {K : St → Prop} (k : Nat) (hd : ops.toList.all (dstOK nt) = true) (hk : i + k ≤ ops.size) (h : seqO P ops.toList s.nx ((ops.toList.drop i).take k) s.T s.H fun T H n => SeqR P nt ops (i + k) ⟨T, H, n⟩ K) : SeqR P nt ops i s K := by
 intro w0 X I0 a w Q tx ⟨σ, I, hn, m⟩ hQ
 rw [seqO_eq] at h
 have hl : ops.toList.length = ops.size := Array.length_toList
 have main := seq_part (P := P) (w0 := w0) (X := X) (I0 := I0) (r' := ops.toList.drop (i + k)) (Q := Q) hd tx ((ops.toList.drop i).take k) i s.nx s.T s.H σ I a w (by rw [← List.drop_drop, List.take_append_drop]) m hn h
  (fun T H n σ I a w m hn hq => by
   have := hq w0 X I0 a w Q tx ⟨σ, I, hn, m⟩ hQ
   rw [List.length_take, List.length_drop, Nat.min_eq_left (by omega), List.length_drop, hl]
   exact this)
 rw [← List.drop_drop, List.take_append_drop, List.length_drop, hl] at main
 exact main
def CallD (P : Program) (nt : Fm) (o : Oper) (s : St) (K : St → Prop) : Prop :=
 ∀ w0 X I0 a w (next : Act → World → Prop) (Q : Exit → Act → World → Prop), TabX w0 X I0 → Matches nt w0 X I0 s a w → (∀ s' a' w', Matches nt w0 X I0 s' a' w' → K s' → next a' w') → o.wp P a w next Q
theorem SeqR.op {nt : Fm} {ops : Array Oper} {i : Nat} {s : St} {K : St → Prop} {o : Oper} (ho : ops[i]? = some o) (hg : o.guard = none) (h : CallD P nt o s fun s' => SeqR P nt ops (i + 1) s' K) : SeqR P nt ops i s K := by
 intro w0 X I0 a w Q tx m hQ
 have hi : i < ops.size := (Array.getElem?_eq_some_iff.1 ho).1
 rw [show ops.size - i = (ops.size - (i + 1)) + 1 by omega, List.range'_succ]
 simp only [wpOps, ho]
 have : Region.wanted o (yielded ops a.tmps) = true := by simp [Region.wanted, hg]
 rw [if_pos this]
 exact .inl (h w0 X I0 a w _ Q tx m fun s' a' w' m' k => k w0 X I0 a' w' Q tx m' hQ)
theorem AW.rR {nt : Fm} {id : Nat} {ops : Array Oper} {y : Code} {s : St} {Q : Exit → St → Prop} (h : SeqR P nt ops 0 s fun s' => AW P nt y s' Q) : AW P nt (.seq (.region id ops false) y) s Q := by
 refine AW.seq ?_
 intro w0 X I0 a w tx m
 refine wp_region ?_
 have := h w0 X I0 a w (fun e a' w' => ∃ s', Matches nt w0 X I0 s' a' w' ∧ andThen (fun s' => AW P nt y s' Q) Q e s') tx m fun s' a' w' m' k => ⟨s', m', k⟩
 rw [List.range_eq_range']
 simpa using this
mutual
def AV.labsBy (p : Nat → Bool) : AV → Bool
 | .p _ | .ex _ | .vw _ _ => true
 | .own l | .cut l _ _ | .ptr l _ _ | .map l | .it l => p l
 | .agg cs | .tuple cs | .fn _ cs => labsByL p cs
 | .iface _ x => x.labsBy p
def labsByL (p : Nat → Bool) : List AV → Bool
 | [] => true
 | x :: l => x.labsBy p && labsByL p l
end
theorem labsByL_mem {p : Nat → Bool} {l : List AV} (h : labsByL p l = true) {x : AV} (hx : x ∈ l) : x.labsBy p = true := by
 induction l with
 | nil => cases hx
 | cons y l ih =>
  rw [labsByL, Bool.and_eq_true] at h
  rcases List.mem_cons.1 hx with rfl | hx
  ·exact h.1
  ·exact ih h.2 hx
def Blk.labsBy (p : Nat → Bool) : Blk → Bool
 | .row _ es => es.all (labsByL p)
 | .map es => es.all fun e => e.2.labsBy p
 | .iter _ _ => true
theorem repA_by {σ σ' : Lab} {w : World} {I : Nat → Prop} {ρ : Nat → Nat} {p : Nat → Bool} (hp : ∀ l, p l = true → ∀ s, σ l = some s → σ' (ρ l) = some s) {u : Value} {x : AV} (h : repA σ w I u x) : x.labsBy p = true → repA σ' w I u (x.ren ρ) := by
 induction h with
 | p h => intro _; exact .p h
 | ex hn h => intro _; exact .ex hn h
 | vw hn hm hc h => intro _; exact .vw hn hm hc h
 | ownE h => intro q; exact .ownE (hp _ q _ h)
 | own h => intro q; exact .own (hp _ q _ h)
 | cut h hm hc => intro q; exact .cut (hp _ q _ h) hm hc
 | ptr h => intro q; exact .ptr (hp _ q _ h)
 | map h => intro q; exact .map (hp _ q _ h)
 | it h => intro q; exact .it (hp _ q _ h)
 | agg hs hr ih =>
  intro q
  refine .agg (by rw [renL_length]; exact hs) fun j u y h1 h2 => ?_
  rw [renL_get, Option.map_eq_some_iff] at h2
  obtain ⟨z, hz, rfl⟩ := h2
  exact ih j u z h1 hz (labsByL_mem q (List.mem_of_getElem? hz))
 | tuple hs hr ih =>
  intro q
  refine .tuple (by rw [renL_length]; exact hs) fun j u y h1 h2 => ?_
  rw [renL_get, Option.map_eq_some_iff] at h2
  obtain ⟨z, hz, rfl⟩ := h2
  exact ih j u z h1 hz (labsByL_mem q (List.mem_of_getElem? hz))
 | iface t h ih => intro q; exact .iface t (ih q)
 | fn f hs hr ih =>
  intro q
  refine .fn f (by rw [renL_length]; exact hs) fun j u y h1 h2 => ?_
  rw [renL_get, Option.map_eq_some_iff] at h2
  obtain ⟨z, hz, rfl⟩ := h2
  exact ih j u z h1 hz (labsByL_mem q (List.mem_of_getElem? hz))
theorem repB_by {σ σ' : Lab} {w : World} {I : Nat → Prop} {ρ : Nat → Nat} {p : Nat → Bool} (hp : ∀ l, p l = true → ∀ s, σ l = some s → σ' (ρ l) = some s) {l : Nat} {b : Blk} (hl : p l = true) (h : repB σ w I l b) (hb : b.labsBy p = true) : repB σ' w I (ρ l) (b.ren ρ) := by
 cases h with
 | emp h => exact .emp (hp _ hl _ h)
 | row h hg hcur hc hs ho hr =>
  rename_i g c sz cur et es
  refine .row (by rw [List.length_map]; exact hp _ hl _ h) hg hcur (by rw [List.length_map]; exact hc) (fun e he => ?_) (fun e he x hx => ?_) fun i e j x q1 q2 => ?_
  ·obtain ⟨e', he', rfl⟩ := List.mem_map.1 he
   rw [renL_length]
   exact hs e' he'
  ·obtain ⟨e', he', rfl⟩ := List.mem_map.1 he
   obtain ⟨j, hj⟩ := List.getElem?_of_mem hx
   rw [renL_get, Option.map_eq_some_iff] at hj
   obtain ⟨x', hx', rfl⟩ := hj
   rw [AV.one_ren]
   exact ho e' he' x' (List.mem_of_getElem? hx')
  ·rw [List.getElem?_map, Option.map_eq_some_iff] at q1
   obtain ⟨e', he', rfl⟩ := q1
   rw [renL_get, Option.map_eq_some_iff] at q2
   obtain ⟨x', hx', rfl⟩ := q2
   obtain ⟨u, hu, hru⟩ := hr i e' j x' he' hx'
   exact ⟨u, hu, repA_by hp hru (labsByL_mem (List.all_eq_true.1 hb e' (List.mem_of_getElem? he')) (List.mem_of_getElem? hx'))⟩
 | map h hg hn hr =>
  rename_i g k ms es
  refine .map (hp _ hl _ h) hg (by rw [List.length_map]; exact hn) fun i m e q1 q2 => ?_
  rw [List.getElem?_map, Option.map_eq_some_iff] at q2
  obtain ⟨e', he', rfl⟩ := q2
  obtain ⟨r1, r2⟩ := hr i m e' q1 he'
  exact ⟨r1, repA_by hp r2 (List.all_eq_true.1 hb e' (List.mem_of_getElem? he'))⟩
 | iter h hg => exact .iter (hp _ hl _ h) hg
def DFn (P : Program) (f : FuncId) (args : List AV) (h : List (Nat × Blk)) (n : Nat) (rt : List Nat) (r : AV) (h' : List (Nat × Blk)) (m : Nat) : Prop :=
 enters P f = true ∧ ∀ (w : World) (I : Nat → Prop) (σ : Lab) (vals : Array Value), vals.size = args.length → (∀ l, n ≤ l → σ l = none) → (∀ (j : Nat) u x, vals[j]? = some u → args[j]? = some x → repA σ w I u x) →
  HOK σ w I (ofH h) w (lentX σ (ofH h)) I → tabOK w I →
  Calls P f vals w fun e w' => ∃ v σ' I', e = .returned v ∧ HOK σ' w' I' (ofH h') w (lentX σ (ofH h)) I ∧ repA σ' w' I' v r ∧ (∀ l ∈ rt, σ' l = σ l) ∧ (∀ l, n + m ≤ l → σ' l = none)
def avT : List AV → Nat → Nat → Option AV
 | [], _ => fun _ => none
 | x :: l, i => upd (avT l (i + 1)) i (some x)
theorem avT_at : ∀ (l : List AV) (i j : Nat), avT l i j = if j < i then none else l[j - i]? := by
 intro l
 induction l with
 | nil => intro i j; simp [avT]
 | cons a l ih =>
  intro i j
  rw [avT]
  by_cases h : j = i
  ·subst h; rw [upd_same, if_neg (by omega), Nat.sub_self]; rfl
  ·rw [upd_ne _ _ h, ih]
   by_cases h2 : j < i
   ·rw [if_pos (by omega), if_pos h2]
   ·rw [if_neg (by omega), if_neg h2, show j - i = (j - (i + 1)) + 1 by omega, List.getElem?_cons_succ]
def resD (P : Program) (s : St) : List ResultVar → List AV → Prop
 | [], [] => True
 | .tmp t :: r, x :: l => s.T t = some x ∧ resD P s r l
 | .cell t ty :: r, x :: l => loadW P ty (s.T t) s.H (fun e => e = ⟨some x, []⟩) ∧ resD P s r l
 | _, _ => False
def oneOrA : List AV → AV
 | [x] => x
 | l => .tuple l
def rootOK (s : St) (args : List AV) (h h' : List (Nat × Blk)) (pins : List Nat) (ρ : Nat → Nat) (l : Nat) : Prop :=
 (∃ j i off sz es es', j ∈ pins ∧ args[j]? = some (.ptr l i off) ∧ s.T j = some (.ptr (ρ l) i off) ∧ ofH h l = some (.row sz es) ∧ ofH h' l = some (.row sz es') ∧ es'.length = es.length ∧ 0 < sz) ∨
 (∃ j es, j ∈ pins ∧ args[j]? = some (.map l) ∧ s.T j = some (.map (ρ l)) ∧ ofH h l = some (.map es)) ∨
 (∃ (j k : Nat) (cs cs' : List AV) (sz : Nat) (es es' : List (List AV)), j ∈ pins ∧ args[j]? = some (.agg cs) ∧ cs[k]? = some (AV.own l) ∧ s.T j = some (.agg cs') ∧ cs'[k]? = some (AV.own (ρ l)) ∧ ofH h l = some (.row sz es) ∧ ofH h' l = some (.row sz es') ∧ es ≠ [] ∧ es' ≠ [])
def EndD (P : Program) (rs : Array ResultVar) (args : List AV) (h : List (Nat × Blk)) (n : Nat) (rt : List Nat) (r : AV) (h' : List (Nat × Blk)) (m : Nat) (pins : List Nat) : Exit → St → Prop
 | .normal, s | .ret, s => ∃ (ρ : Nat → Nat) (l : List AV), resD P s rs.toList l ∧ oneOrA l = r.ren ρ ∧ r.labsIn (n + m) = true ∧ (∀ x ∈ h', s.H (ρ x.1) = some (x.2.ren ρ) ∧ x.1 < n + m ∧ x.2.labsIn (n + m) = true) ∧
   (∀ x ∈ h', ∀ y ∈ h', ρ x.1 = ρ y.1 → x.1 = y.1) ∧ ∀ l ∈ rt, l < n ∧ rootOK s args h h' pins ρ l
 | _, _ => False
theorem slot_kept {σ0 σ1 : Lab} {w0 w1 : World} {I0 I1 : Nat → Prop} {v : Value} {l l1 i off sz : Nat} {es es1 : List (List AV)} (h0 : repA σ0 w0 I0 v (.ptr l i off)) (h1 : repA σ1 w1 I1 v (.ptr l1 i off)) (b0 : repB σ0 w0 I0 l (.row sz es)) (b1 : repB σ1 w1 I1 l1 (.row sz es1))
  (hl : es1.length = es.length) (hz : 0 < sz) (hfr : ∀ (b : Nat) (cur : Array Value) (et : TypeId) (p : Nat × Nat), w0.heap[b]? = some (Obj.cells cur et p) → ∃ (cur' : Array Value) (et' : TypeId) (p' : Nat × Nat), w1.heap[b]? = some (Obj.cells cur' et' p') ∧ cur'.size = cur.size) : σ1 l1 = σ0 l := by
 cases h0 with
 | ptr s0 =>
  rename_i g n c sz0
  generalize hxe : Value.pointer (some ⟨g, i * sz0 + off, none⟩) = xv at h1
  cases h1 with
  | ptr s1 =>
   rename_i g1 n1 c1 sz1
   injection hxe with hxe
   injection hxe with hxe
   injection hxe with hg _ _
   subst hg
   obtain ⟨cur0, et0, p0, e0, f0⟩ := cells_slot b0 s0
   obtain ⟨cur1, et1, p1, e1, f1⟩ := cells_slot b1 s1
   obtain ⟨cur2, et2, p2, e2, f2⟩ := hfr g cur0 et0 p0 e0
   rw [e1] at e2
   injection e2 with e2
   injection e2 with e2
   subst e2
   have n0 : n = es.length ∧ sz0 = sz := by
    cases b0 with
    | emp h => rw [s0] at h; cases h
    | row h => rw [s0] at h; injection h with h; injection h with _ h2 _ h4; exact ⟨h2, h4⟩
   have n1' : n1 = es1.length ∧ sz1 = sz := by
    cases b1 with
    | emp h => rw [s1] at h; cases h
    | row h => rw [s1] at h; injection h with h; injection h with _ h2 _ h4; exact ⟨h2, h4⟩
   obtain ⟨rfl, rfl⟩ := n0
   obtain ⟨rfl, rfl⟩ := n1'
   have hc : c1 = c := Nat.eq_of_mul_eq_mul_right hz (by rw [← f1, f2, f0])
   rw [s0, s1, hc, hl]
theorem own_kept {σ0 σ1 : Lab} {w0 w1 : World} {I0 I1 : Nat → Prop} {v : Value} {l l1 sz : Nat} {es es1 : List (List AV)} (h0 : repA σ0 w0 I0 v (.own l)) (h1 : repA σ1 w1 I1 v (.own l1)) (b0 : repB σ0 w0 I0 l (.row sz es)) (b1 : repB σ1 w1 I1 l1 (.row sz es1))
  (hz : es ≠ []) (hz1 : es1 ≠ []) : σ1 l1 = σ0 l := by
 cases b0 with
 | emp h => exact absurd rfl hz
 | row s0 =>
  cases b1 with
  | emp h => exact absurd rfl hz1
  | row s1 =>
   cases h0 with
   | ownE q => rw [s0] at q; cases q
   | own q0 =>
    rw [s0] at q0
    injection q0 with q0
    injection q0 with a1 a2 a3 a4
    subst a1 a2 a3 a4
    generalize hxe : Value.slice _ _ _ = xv at h1
    cases h1 with
    | ownE q => rw [s1] at q; cases q
    | own q1 =>
     rw [s1] at q1
     injection q1 with q1
     injection q1 with c1 c2 c3 c4
     subst c1 c2 c3 c4
     injection hxe with e1 e2 e3
     injection e1 with e1
     injection e1 with e1 _ _
     rw [s0, s1, e1, e2, e3]
theorem aggA {σ : Lab} {w : World} {I : Nat → Prop} {v : Value} {cs : List AV} (h : repA σ w I v (.agg cs)) : ∃ vs : Array Value, v = .agg vs ∧ vs.size = cs.length ∧ ∀ (j : Nat) u p, vs[j]? = some u → cs[j]? = some p → repA σ w I u p := by
 cases h with
 | agg h hr => exact ⟨_, rfl, h, hr⟩
theorem resD_run {nt : Fm} {w0 : World} {X I0 : Nat → Prop} {σ : Lab} {I : Nat → Prop} {s : St} {a : Act} {w : World} (tx : TabX w0 X I0) (m : Match nt w0 X I0 σ I s.T s.H a w) (hlab : σ s.nx = none) (f : ResultVar → Sem Value) (hf : ∀ t, f (.tmp t) = pure (a.tmps.getD t undef)) (hf' : ∀ t ty, f (.cell t ty) = (do loadVar ty (← asAddr (a.tmps.getD t undef)))) : ∀ (rs : List ResultVar) (l : List AV), resD P s rs l →
  ∃ vs : List Value, (rs.mapM f).run P w = .ok vs w ∧ vs.length = l.length ∧ ∀ (j : Nat) u x, vs[j]? = some u → l[j]? = some x → repA σ w I u x := by
 intro rs
 induction rs with
 | nil =>
  intro l h
  cases l with
  | nil => exact ⟨[], rfl, rfl, fun j u p h _ => by simp at h⟩
  | cons x l => simp [resD] at h
 | cons r rs ih =>
  intro l h
  cases l with
  | nil => cases r <;> simp [resD] at h
  | cons x l =>
   cases r with
   | cell t ty =>
    obtain ⟨hx, hl⟩ := h
    obtain ⟨ad, v, y, q1, q2, q3, q4⟩ := load_run (P := P) (lab := s.nx) (t := ty) (x := .tmp t) (k := fun e => e = ⟨some x, []⟩) ⟨m.heap, m.tmps, hlab, tx⟩ hx
    simp only [Eff.mk.injEq, Option.some.injEq, and_true] at q4
    subst q4
    obtain ⟨vs, h1, h2, h3⟩ := ih l hl
    refine ⟨v :: vs, ?_, by simp [h2], fun j u p r1 r2 => ?_⟩
    ·have q1' : a.tmps.getD t undef = .pointer (some ad) := q1
     rw [List.mapM_cons, hf', q1']
     simp [asAddr, q2, h1]
    ·rcases j with _ | j
     ·simp at r1 r2; subst r1 r2; exact q3
     ·exact h3 j u p (by simpa using r1) (by simpa using r2)
   | tmp t =>
    obtain ⟨hx, hl⟩ := h
    obtain ⟨u, hu, hru⟩ := m.tmps t x hx
    obtain ⟨vs, h1, h2, h3⟩ := ih l hl
    refine ⟨u :: vs, ?_, by simp [h2], fun j u' p r1 r2 => ?_⟩
    ·rw [List.mapM_cons, hf]
     have : a.tmps.getD t undef = u := by simp [Array.getD_eq_getD_getElem?, hu]
     rw [this]
     simp [h1]
    ·rcases j with _ | j
     ·simp at r1 r2; subst r1 r2; exact hru
     ·exact h3 j u' p (by simpa using r1) (by simpa using r2)
end Go.Aw
namespace Go.Aw
open Go.RowKit
variable {P : Program}
theorem DFn.of {f : FuncId} {fn : Func} {c : Code} {args : List AV} {h : List (Nat × Blk)} {n : Nat} {rt : List Nat} {r : AV} {h' : List (Nat × Blk)} {m : Nat} (pins : List Nat) (hf : P.funcs[f]? = some fn) (hb : fn.body = some c) (hn : fn.name ≠ "runtime.NumGoroutine") {nt : Nat} (hnt : fn.ntmps = nt) {rs : Array ResultVar} (hrs : fn.results = rs) (hnt' : args.length ≤ nt)
  (hpins : ∀ i ∈ pins, i < args.length) (hw : ∀ val : Nat → Value, AW P ⟨nt, pins, val⟩ c ⟨avT args 0, ofH h, n⟩ (EndD P rs args h n rt r h' m pins)) : DFn P f args h n rt r h' m := by
 subst hnt hrs
 refine ⟨by simp [enters, hf, hb, hn], fun w I σ vals hs hσ hr hH ht => ?_⟩
 have tx : TabX w (lentX σ (ofH h)) I := ⟨ht, fun g hg => (hH.imm g hg).1, fun g ⟨l, s, q1, q2, q3⟩ => (hH.mine l g s q1 q2 q3).1⟩
 refine calls_of_wp hf hb ?_
 have at_ : ∀ i, i < vals.size → (vals ++ Array.replicate (fn.ntmps - vals.size) undef)[i]? = vals[i]? := fun i hi => by rw [Array.getElem?_append_left hi]
 have mt : Matches ⟨fn.ntmps, pins, fun i => vals.getD i undef⟩ w (lentX σ (ofH h)) I ⟨avT args 0, ofH h, n⟩ { tmps := vals ++ Array.replicate (fn.ntmps - vals.size) undef, defers := [] } w := by
  refine ⟨σ, I, hσ, rfl, (by simp; omega), fun i hi => ?_, hH, fun i x hx => ?_⟩
  ·have hlt := hpins i hi
   rw [← hs] at hlt
   simp only
   rw [at_ i hlt, Array.getD_eq_getD_getElem?, Array.getElem?_eq_getElem hlt]
   rfl
  ·simp only at hx
   rw [avT_at, if_neg (by omega), Nat.sub_zero] at hx
   have hi : i < vals.size := by rw [hs]; exact (List.getElem?_eq_some_iff.1 hx).1
   exact ⟨vals[i], by rw [at_ i hi, Array.getElem?_eq_getElem hi], hr i _ x (Array.getElem?_eq_getElem hi) hx⟩
 refine wp_mono (hw _ w _ I _ w tx mt) ?_
 rintro e a' w' ⟨s', ⟨σ', I', hn', m'⟩, q⟩
 have fin : EndD P fn.results args h n rt r h' m pins .ret s' → a'.defers = [] ∧ ∃ v, (results fn a'.tmps).run P w' = .ok v w' ∧
   ∃ v' σ'' I'', Ending.returned v = .returned v' ∧ HOK σ'' w' I'' (ofH h') w (lentX σ (ofH h)) I ∧ repA σ'' w' I'' v' r ∧ (∀ l ∈ rt, σ'' l = σ l) ∧ (∀ l, n + m ≤ l → σ'' l = none) := by
  rintro ⟨ρ, l, q1, q2, q3, q4, q5, q6⟩
  obtain ⟨vs, h1, h2, h3⟩ := resD_run (P := P) tx m' (hn' _ (Nat.le_refl _)) (resF a'.tmps) (fun t => rfl) (fun t ty => rfl) fn.results.toList l q1
  have hrun : (results fn a'.tmps).run P w' = .ok (if h : vs.length = 1 then vs[0] else .tuple vs.toArray) w' := by
   rw [results_eq, show fn.results = fn.results.toList.toArray by simp, List.mapM_toArray]
   simp only [Sem.run_bind, Sem.run_map, h1, Result.andThen_ok, Sem.run_pure, List.size_toArray, List.getElem_toArray]
  have hat : ∀ l b, ofH h' l = some b → s'.H (ρ l) = some (b.ren ρ) ∧ l < n + m ∧ b.labsIn (n + m) = true := fun l b hl => q4 (l, b) (ofH_mem hl)
  have hv : repA σ' w' I' (if h : vs.length = 1 then vs[0] else .tuple vs.toArray) (oneOrA l) := by
   by_cases h4 : vs.length = 1
   ·rw [dif_pos h4]
    obtain ⟨p, rfl⟩ : ∃ p, l = [p] := List.length_eq_one_iff.1 (by omega)
    exact h3 0 _ p (List.getElem?_eq_getElem (by omega)) rfl
   ·rw [dif_neg h4]
    have : oneOrA l = .tuple l := by
     unfold oneOrA
     split
     ·exact absurd h2 h4
     ·rfl
    rw [this]
    exact .tuple (by simpa using h2) (fun j u p q1 q2 => h3 j u p (by simpa using q1) q2)
  refine ⟨m'.defers, _, hrun, _, relab ρ (n + m) σ', I', rfl, ⟨fun l b hl => ?_, fun l l' g s1 s2 n1 n2 e1 e2 g1 g2 => ?_, fun l g s1 n1 e1 g1 => ?_, m'.heap.imm, m'.heap.sub, m'.heap.fr⟩, repA_ren hv r q2 q3, fun l hl => ?_, fun l hl => ?_⟩
  ·obtain ⟨p1, p2, p3⟩ := hat l b hl
   exact repB_ren p2 (m'.heap.rows _ _ p1) p3
  ·obtain ⟨b1, hb1⟩ := Option.ne_none_iff_exists'.1 n1
   obtain ⟨b2, hb2⟩ := Option.ne_none_iff_exists'.1 n2
   obtain ⟨p1, p2, p3⟩ := hat l b1 hb1
   obtain ⟨p1', p2', p3'⟩ := hat l' b2 hb2
   unfold relab at e1 e2
   rw [if_pos p2] at e1
   rw [if_pos p2'] at e2
   have := m'.heap.inj (ρ l) (ρ l') g s1 s2 (by rw [p1]; simp) (by rw [p1']; simp) e1 e2 g1 g2
   exact q5 (l, b1) (ofH_mem hb1) (l', b2) (ofH_mem hb2) this
  ·obtain ⟨b1, hb1⟩ := Option.ne_none_iff_exists'.1 n1
   obtain ⟨p1, p2, p3⟩ := hat l b1 hb1
   unfold relab at e1
   rw [if_pos p2] at e1
   exact m'.heap.mine (ρ l) g s1 (by rw [p1]; simp) e1 g1
  ·obtain ⟨hln, hroot⟩ := q6 l hl
   unfold relab
   rw [if_pos (by omega)]
   have pin : ∀ j, j ∈ pins → ∀ x, s'.T j = some x → ∃ u, vals[j]? = some u ∧ repA σ' w' I' u x := fun j hj x hx => by
    have hp := m'.pins j hj
    obtain ⟨u, hu, hru⟩ := m'.tmps j x hx
    rw [hp] at hu
    have hlt : j < vals.size := by rw [hs]; exact hpins j hj
    simp only [Option.some.injEq] at hu
    rw [Array.getD_eq_getD_getElem?, Array.getElem?_eq_getElem hlt] at hu
    simp only [Option.getD_some] at hu
    subst hu
    exact ⟨_, Array.getElem?_eq_getElem hlt, hru⟩
   rcases hroot with ⟨j, i, off, sz, es, es', r1, r2, r3, r4, r5, r6, r7⟩ | ⟨j, es, r1, r2, r3, r4⟩ | ⟨j, k, cs, cs', sz, es, es', r1, r2, r3, r4, r5, r6, r7, r8, r9⟩
   ·obtain ⟨u, hu, hru⟩ := pin j r1 _ r3
    obtain ⟨p1, p2, p3⟩ := hat l _ r5
    have hu0 := hr j u _ hu r2
    have b0 := hH.rows l _ r4
    have b1 := m'.heap.rows _ _ p1
    exact slot_kept hu0 hru b0 b1 (by rw [List.length_map]; exact r6) r7 m'.heap.fr.shape
   ·obtain ⟨u, hu, hru⟩ := pin j r1 _ r3
    have hu0 := hr j u _ hu r2
    cases hu0 with
    | map s0 =>
     cases hru with
     | map s1 => rw [s0, s1]
   ·obtain ⟨u, hu, hru⟩ := pin j r1 _ r4
    obtain ⟨p1, p2, p3⟩ := hat l _ r7
    have hu0 := hr j u _ hu r2
    have b0 := hH.rows l _ r6
    have b1 := m'.heap.rows _ _ p1
    obtain ⟨vs, rfl, z1, z2⟩ := aggA hu0
    obtain ⟨vs', e', z3, z4⟩ := aggA hru
    injection e' with e'
    subst e'
    have hk : k < vs.size := by rw [z1]; exact (List.getElem?_eq_some_iff.1 r3).1
    have y0 := z2 k _ _ (Array.getElem?_eq_getElem hk) r3
    have y1 := z4 k _ _ (Array.getElem?_eq_getElem hk) r5
    exact own_kept y0 y1 b0 b1 r8 (by simpa using r9)
  ·unfold relab
   rw [if_neg (by omega)]
 cases e with
 | normal => exact fin q
 | ret => exact fin q
 | exit _ => exact q.elim
 | goto _ => exact q.elim
 | panic _ => exact q.elim
 | outgrown => exact q.elim
def argD (T : Nat → Option AV) (ρ : Nat → Nat) : List Operand → List AV → Prop
 | [], [] => True
 | x :: xs, .p p :: ys => (match ev T x with | some v => pureA v = some p | none => False) ∧ argD T ρ xs ys
 | x :: xs, y :: ys => ev T x = some (y.ren ρ) ∧ argD T ρ xs ys
 | _, _ => False
theorem argD_spec {T : Nat → Option AV} {ρ : Nat → Nat} : ∀ {xs : List Operand} {ys : List AV}, argD T ρ xs ys → xs.length = ys.length ∧ ∀ (j : Nat) x y, xs[j]? = some x → ys[j]? = some y → (∃ p v, y = .p p ∧ ev T x = some v ∧ pureA v = some p) ∨ ev T x = some (y.ren ρ) := by
 intro xs
 induction xs with
 | nil =>
  intro ys h
  cases ys with
  | nil => exact ⟨rfl, fun j x y h => by simp at h⟩
  | cons y ys => simp [argD] at h
 | cons x xs ih =>
  intro ys h
  cases ys with
  | nil => simp [argD] at h
  | cons y ys =>
   have main : argD T ρ xs ys → ((∃ p v, y = .p p ∧ ev T x = some v ∧ pureA v = some p) ∨ ev T x = some (y.ren ρ)) → (x :: xs).length = (y :: ys).length ∧ ∀ (j : Nat) x' y', (x :: xs)[j]? = some x' → (y :: ys)[j]? = some y' → (∃ p v, y' = .p p ∧ ev T x' = some v ∧ pureA v = some p) ∨ ev T x' = some (y'.ren ρ) := by
    intro h1 h2
    obtain ⟨q1, q2⟩ := ih h1
    refine ⟨by simp [q1], fun j x' y' e1 e2 => ?_⟩
    cases j with
    | zero => simp at e1 e2; subst e1 e2; exact h2
    | succ j => exact q2 j x' y' (by simpa using e1) (by simpa using e2)
   cases y with
   | p p =>
    simp only [argD] at h
    obtain ⟨h1, h2⟩ := h
    split at h1
    ·rename_i v hv
     exact main h2 (.inl ⟨p, v, rfl, hv, h1⟩)
    ·exact h1.elim
   | _ => exact main h.2 (.inr h.1)
def lift2 (ρ : Nat → Nat) (n nx : Nat) (l : Nat) : Nat := if l < n then ρ l else nx + (l - n)
def goneU (ρ : Nat → Nat) (h : List (Nat × Blk)) : List (Nat × Option Blk) := h.map fun x => (ρ x.1, none)
def newU (ρ : Nat → Nat) (h : List (Nat × Blk)) : List (Nat × Option Blk) := h.map fun x => (ρ x.1, some (x.2.ren ρ))
theorem putH_gone (ρ : Nat → Nat) (l : Nat) : ∀ (h : List (Nat × Blk)) (H : Nat → Option Blk), (putH H (goneU ρ h) l = H l ∧ ∀ x ∈ h, ρ x.1 ≠ l) ∨ (putH H (goneU ρ h) l = none ∧ ∃ x ∈ h, ρ x.1 = l)
 | [], H => .inl ⟨rfl, fun x hx => by cases hx⟩
 | x :: h, H => by
  have e : putH H (goneU ρ (x :: h)) = putH (upd H (ρ x.1) none) (goneU ρ h) := rfl
  rw [e]
  rcases putH_gone ρ l h (upd H (ρ x.1) none) with ⟨h1, h2⟩ | ⟨h1, y, hy, h2⟩
  ·by_cases hl : ρ x.1 = l
   ·right
    refine ⟨?_, x, List.mem_cons_self, hl⟩
    rw [h1, hl, upd_same]
   ·left
    refine ⟨by rw [h1, upd_ne _ _ (fun h => hl h.symm)], fun y hy => ?_⟩
    rcases List.mem_cons.1 hy with rfl | hy
    ·exact hl
    ·exact h2 y hy
  ·exact .inr ⟨h1, y, List.mem_cons_of_mem _ hy, h2⟩
theorem putH_new (ρ : Nat → Nat) (l : Nat) : ∀ (h : List (Nat × Blk)) (H : Nat → Option Blk), (putH H (newU ρ h) l = H l ∧ ∀ x ∈ h, ρ x.1 ≠ l) ∨ (∃ x ∈ h, ρ x.1 = l ∧ putH H (newU ρ h) l = some (x.2.ren ρ))
 | [], H => .inl ⟨rfl, fun x hx => by cases hx⟩
 | x :: h, H => by
  have e : putH H (newU ρ (x :: h)) = putH (upd H (ρ x.1) (some (x.2.ren ρ))) (newU ρ h) := rfl
  rw [e]
  rcases putH_new ρ l h (upd H (ρ x.1) (some (x.2.ren ρ))) with ⟨h1, h2⟩ | ⟨y, hy, h1, h2⟩
  ·by_cases hl : ρ x.1 = l
   ·right
    refine ⟨x, List.mem_cons_self, hl, ?_⟩
    rw [h1, ← hl, upd_same]
   ·left
    refine ⟨by rw [h1, upd_ne _ _ (fun h => hl h.symm)], fun y hy => ?_⟩
    rcases List.mem_cons.1 hy with rfl | hy
    ·exact hl
    ·exact h2 y hy
  ·exact .inr ⟨y, List.mem_cons_of_mem _ hy, h1, h2⟩
def distinct : List Nat → Bool
 | [] => true
 | x :: l => !l.contains x && distinct l
theorem ofH_of_mem : ∀ {h : List (Nat × Blk)} {x : Nat × Blk}, distinct (h.map (·.1)) = true → x ∈ h → ofH h x.1 = some x.2
 | [], _, _, h => by cases h
 | y :: h, x, hd, hx => by
  simp only [List.map_cons, distinct, Bool.and_eq_true, Bool.not_eq_true'] at hd
  obtain ⟨a, b⟩ := y
  rcases List.mem_cons.1 hx with rfl | hx'
  ·simp [ofH]
  ·have : x.1 ≠ a := by
    intro e
    have : (h.map (·.1)).contains a = true := by
     rw [List.contains_iff_mem]
     exact List.mem_map.2 ⟨x, hx', e⟩
    rw [this] at hd
    cases hd.1
   simp only [ofH, if_neg this]
   exact ofH_of_mem hd.2 hx'
structure FitD (s : St) (xs : List Operand) (args : List AV) (h : List (Nat × Blk)) (n : Nat) (rt : List Nat) (r : AV) (h' : List (Nat × Blk)) (ρ : Nat → Nat) : Prop where
 opd : argD s.T ρ xs args
 labs : args.all (fun y => y.labsIn n) = true
 here : ∀ x ∈ h, s.H (ρ x.1) = some (x.2.ren ρ) ∧ x.1 < n ∧ x.2.labsIn n = true
 inj : distinct (h.map fun x => ρ x.1) = true
 dist : distinct (h.map (·.1)) = true
 dist' : distinct (h'.map (·.1)) = true
 roots : rt.all (fun l => (h.map (·.1)).contains l) = true
 res : r.labsBy (fun l => rt.contains l || decide (n ≤ l)) = true
 mem : h'.all (fun x => (rt.contains x.1 || decide (n ≤ x.1)) && x.2.labsBy (fun l => rt.contains l || decide (n ≤ l))) = true
theorem distinct_inj {ρ : Nat → Nat} : ∀ {h : List (Nat × Blk)}, distinct (h.map fun x => ρ x.1) = true → ∀ x ∈ h, ∀ y ∈ h, ρ x.1 = ρ y.1 → x = y
 | [], _, x, hx, _, _, _ => by cases hx
 | z :: h, hd, x, hx, y, hy, e => by
  simp only [List.map_cons, distinct, Bool.and_eq_true, Bool.not_eq_true'] at hd
  have no : ∀ v ∈ h, ρ v.1 ≠ ρ z.1 := fun v hv e => by
   have : (h.map fun x => ρ x.1).contains (ρ z.1) = true := by
    rw [List.contains_iff_mem]
    exact List.mem_map.2 ⟨v, hv, e⟩
   rw [this] at hd
   cases hd.1
  rcases List.mem_cons.1 hx with hx' | hx'
  ·rcases List.mem_cons.1 hy with hy' | hy'
   ·rw [hx', hy']
   ·rw [hx'] at e
    exact absurd e.symm (no y hy')
  ·rcases List.mem_cons.1 hy with hy' | hy'
   ·rw [hy'] at e
    exact absurd e (no x hx')
   ·exact distinct_inj hd.2 x hx' y hy' e
theorem callD_fn {nt : Fm} {s : St} {K : St → Prop} {o : Oper} {f : FuncId} {xs : Array Operand} {ts : Array TypeId} {args : List AV} {h : List (Nat × Blk)} {n : Nat} {rt : List Nat} {r : AV} {h' : List (Nat × Blk)} {m : Nat} (ρ : Nat → Nat)
  (ho : o.op = .call { callee := .value (.func f), args := xs, argTypes := ts }) (hd : dstOK nt o = true) (D : DFn P f args h n rt r h' m) (F : FitD s xs.toList args h n rt r h' ρ)
  (hk : K ⟨putT s.T o.dst (some (r.ren (lift2 ρ n s.nx))), putH (putH s.H (goneU ρ h)) (newU (lift2 ρ n s.nx) h'), s.nx + m⟩) : CallD P nt o s K := by
 obtain ⟨hen, hp⟩ := D
 intro w0 X I0 a w next Q tx ⟨σ, I, hn, mm⟩ hnext
 have IN : In σ w I s.T s.H w0 X I0 a s.nx := ⟨mm.heap, mm.tmps, hn _ (Nat.le_refl _), tx⟩
 have hrun : (execOp a.eval o).run P w = .ok (.enter f (xs.map a.eval)) w := by
  have he : a.eval (.func f) = .func (.func f) #[] #[] := rfl
  simp only [execOp, ho, resolve, he, Deferred.ofValue, Sem.run_bind, Sem.run_pure, Result.andThen_ok, invoke, Array.append_empty, Array.empty_append, run_enter hen]
 obtain ⟨p1, p2⟩ := argD_spec F.opd
 have here : ∀ l b, ofH h l = some b → s.H (ρ l) = some (b.ren ρ) ∧ l < n ∧ b.labsIn n = true := fun l b hl => F.here (l, b) (ofH_mem hl)
 have inj : ∀ l l' b b', ofH h l = some b → ofH h l' = some b' → ρ l = ρ l' → l = l' := fun l l' b b' h1 h2 e => by
  have := distinct_inj F.inj (l, b) (ofH_mem h1) (l', b') (ofH_mem h2) e
  injection this
 generalize hσc : relab ρ n σ = σc
 have σat : ∀ l, l < n → σc l = σ (ρ l) := fun l hl => by rw [← hσc]; unfold relab; rw [if_pos hl]
 have σno : ∀ l, n ≤ l → σc l = none := fun l hl => by rw [← hσc]; unfold relab; rw [if_neg (by omega)]
 have Xof : ∀ g, lentX σc (ofH h) g → ∃ l b sl, ofH h l = some b ∧ s.H (ρ l) = some (b.ren ρ) ∧ σ (ρ l) = some sl ∧ sl.block = some g := fun g ⟨l, sl, q1, q2, q3⟩ => by
  obtain ⟨b, hb⟩ := Option.ne_none_iff_exists'.1 q1
  obtain ⟨r1, r2, _⟩ := here l b hb
  exact ⟨l, b, sl, hb, r1, by rw [← σat l r2]; exact q2, q3⟩
 have hH : HOK σc w I (ofH h) w (lentX σc (ofH h)) I := by
  refine ⟨fun l b hl => ?_, fun l l' g s1 s2 n1 n2 e1 e2 g1 g2 => ?_, fun l g s1 n1 e1 g1 => ?_, fun g hg => ⟨(mm.heap.imm g hg).1, .inl hg⟩, fun _ h => h, Fr.refl _ _⟩
  ·obtain ⟨r1, r2, r3⟩ := here l b hl
   rw [← hσc]
   exact repB_ren r2 (mm.heap.rows _ _ r1) r3
  ·obtain ⟨b1, hb1⟩ := Option.ne_none_iff_exists'.1 n1
   obtain ⟨b2, hb2⟩ := Option.ne_none_iff_exists'.1 n2
   obtain ⟨r1, r2, _⟩ := here l b1 hb1
   obtain ⟨r1', r2', _⟩ := here l' b2 hb2
   rw [σat l r2] at e1
   rw [σat l' r2'] at e2
   exact inj l l' b1 b2 hb1 hb2 (mm.heap.inj _ _ g s1 s2 (by rw [r1]; simp) (by rw [r1']; simp) e1 e2 g1 g2)
  ·obtain ⟨b1, hb1⟩ := Option.ne_none_iff_exists'.1 n1
   obtain ⟨r1, r2, _⟩ := here l b1 hb1
   refine ⟨?_, .inl ⟨l, s1, n1, e1, g1⟩⟩
   rw [σat l r2] at e1
   exact (mm.heap.mine _ g s1 (by rw [r1]; simp) e1 g1).1
 have hargs := hp w I σc (xs.map a.eval) (by simpa using p1) σno (fun j u y q1 q2 => by
  rw [Array.getElem?_map, Option.map_eq_some_iff] at q1
  obtain ⟨x, hx, rfl⟩ := q1
  have hlab : y.labsIn n = true := List.all_eq_true.1 F.labs y (List.mem_of_getElem? q2)
  rcases p2 j x y (by simpa using hx) q2 with ⟨p, v, rfl, hv, hpv⟩ | hv
  ·exact .p (rep_pureA (IN.ev hv) hpv)
  ·rw [← hσc]
   exact repA_ren (IN.ev hv) y rfl hlab) hH IN.tabs
 unfold Oper.wp
 rw [hrun, Oper.upon_enter]
 refine hargs.mono fun e w' he => ?_
 obtain ⟨v, σ', I', rfl, hh, hrv, hroot, hnew⟩ := he
 -- the caller's labels behind the call
 obtain ⟨σ2, hσ2⟩ : ∃ σ2 : Lab, ∀ l, σ2 l = if l < s.nx then σ l else σ' (n + (l - s.nx)) := ⟨fun l => if l < s.nx then σ l else σ' (n + (l - s.nx)), fun _ => rfl⟩
 have old : ∀ l sl, σ l = some sl → σ2 l = some sl := fun l sl hl => by
  rw [hσ2]
  rcases Nat.lt_or_ge l s.nx with q | q
  ·rw [if_pos q]; exact hl
  ·rw [hn l q] at hl; cases hl
 have new : ∀ l, (rt.contains l || decide (n ≤ l)) = true → ∀ sl, σ' l = some sl → σ2 (lift2 ρ n s.nx l) = some sl := fun l hl sl hs => by
  unfold lift2
  rcases Nat.lt_or_ge l n with q | q
  ·rw [if_pos q]
   have hm : l ∈ rt := by
    rcases Bool.or_eq_true_iff.1 hl with hl | hl
    ·exact List.contains_iff_mem.1 hl
    ·simp at hl; omega
   rw [hroot l hm, σat l q] at hs
   exact old _ _ hs
  ·rw [if_neg (by omega), hσ2, if_neg (by omega), show n + (s.nx + (l - n) - s.nx) = l by omega]
   exact hs
 have blk : ∀ l g sl, s.H l ≠ none → σ l = some sl → sl.block = some g → g < w.heap.size := fun l g sl hn hs hg => by
  obtain ⟨b, hb⟩ := Option.ne_none_iff_exists'.1 hn
  obtain ⟨s', hs', hlt⟩ := (mm.heap.rows l b hb).block
  rw [hs] at hs'; injection hs' with hs'; subst hs'
  exact hlt g hg
 have Xmine : ∀ g, lentX σc (ofH h) g → ¬ I g ∧ (X g ∨ w0.heap.size ≤ g) ∧ g < w.heap.size := fun g hg => by
  obtain ⟨l, b, sl, q1, q2, q3, q4⟩ := Xof g hg
  obtain ⟨m1, m2⟩ := mm.heap.mine _ g sl (by rw [q2]; simp) q3 q4
  exact ⟨m1, m2, blk _ g sl (by rw [q2]; simp) q3 q4⟩
 have same : ∀ b, I b → w'.heap[b]? = w.heap[b]? := fun b hb => hh.fr.block b (mm.heap.imm b hb).1 fun hx => (Xmine b hx).1 hb
 have hI : ∀ g, I g → I' g := hh.sub
 have fresh : ∀ g, I' g → I g ∨ lentX σc (ofH h) g ∨ w.heap.size ≤ g := fun g hg => (hh.imm g hg).2
 have frame : ∀ l b, s.H l = some b → (∀ x ∈ h, ρ x.1 ≠ l) → ∀ g sl, σ l = some sl → sl.block = some g → ¬ lentX σc (ofH h) g := fun l b hl hno g sl hs hg hx => by
  obtain ⟨l2, b2, sl2, q1, q2, q3, q4⟩ := Xof g hx
  exact hno (l2, b2) (ofH_mem q1) (mm.heap.inj _ _ g sl2 sl (by rw [q2]; simp) (by rw [hl]; simp) q3 hs q4 hg)
 -- what stands where
 have cls : ∀ l b, putH (putH s.H (goneU ρ h)) (newU (lift2 ρ n s.nx) h') l = some b → (∃ x ∈ h', lift2 ρ n s.nx x.1 = l ∧ b = x.2.ren (lift2 ρ n s.nx)) ∨ (s.H l = some b ∧ (∀ x ∈ h, ρ x.1 ≠ l)) := fun l b hl => by
  rcases putH_new (lift2 ρ n s.nx) l h' (putH s.H (goneU ρ h)) with ⟨e1, e2⟩ | ⟨x, hx, e1, e2⟩
  ·rw [e1] at hl
   rcases putH_gone ρ l h s.H with ⟨e3, e4⟩ | ⟨e3, _⟩
   ·rw [e3] at hl; exact .inr ⟨hl, e4⟩
   ·rw [e3] at hl; cases hl
  ·rw [e2] at hl
   injection hl with hl
   exact .inl ⟨x, hx, e1, hl.symm⟩
 have mem' : ∀ x ∈ h', (rt.contains x.1 || decide (n ≤ x.1)) = true ∧ x.2.labsBy (fun l => rt.contains l || decide (n ≤ l)) = true := fun x hx => by
  have := List.all_eq_true.1 F.mem x hx
  rwa [Bool.and_eq_true] at this
 have inv : ∀ l, (rt.contains l || decide (n ≤ l)) = true → ∀ sl, σ2 (lift2 ρ n s.nx l) = some sl → σ' l = some sl := fun l hl sl hs => by
  unfold lift2 at hs
  rcases Nat.lt_or_ge l n with q | q
  ·rw [if_pos q] at hs
   have hm : l ∈ rt := by
    rcases Bool.or_eq_true_iff.1 hl with hl | hl
    ·exact List.contains_iff_mem.1 hl
    ·simp at hl; omega
   rw [hroot l hm, σat l q]
   have hc := List.contains_iff_mem.1 (List.all_eq_true.1 F.roots l hm)
   obtain ⟨x, hx, hxl⟩ := List.mem_map.1 hc
   obtain ⟨r1, r2, _⟩ := F.here x hx
   have hlt : ρ l < s.nx := by
    rcases Nat.lt_or_ge (ρ l) s.nx with z | z
    ·exact z
    ·obtain ⟨sl', hsl', _⟩ := (mm.heap.rows _ _ r1).block
     rw [hxl, hn _ z] at hsl'; cases hsl'
   rw [hσ2, if_pos hlt] at hs
   exact hs
  ·rw [if_neg (by omega), hσ2, if_neg (by omega), show n + (s.nx + (l - n) - s.nx) = l by omega] at hs
   exact hs
 have OK : HOK σ2 w' I' (putH (putH s.H (goneU ρ h)) (newU (lift2 ρ n s.nx) h')) w0 X I0 := by
  have rowN : ∀ x ∈ h', repB σ' w' I' x.1 x.2 := fun x hx => hh.rows x.1 x.2 (ofH_of_mem F.dist' hx)
  have neN : ∀ x ∈ h', ofH h' x.1 ≠ none := fun x hx => by rw [ofH_of_mem F.dist' hx]; simp
  have slotF : ∀ l b sl, s.H l = some b → σ2 l = some sl → σ l = some sl := fun l b sl hl hs => by
   obtain ⟨sl', hsl', _⟩ := (mm.heap.rows l b hl).block
   rw [old l sl' hsl'] at hs
   rw [hsl']; exact hs
  refine ⟨fun l b hl => ?_, fun l1 l2 g s1 s2 n1 n2 e1 e2 g1 g2 => ?_, fun l g sl n1 e1 g1 => ?_, fun g hg => ?_, fun g hg => hh.sub g (mm.heap.sub g hg), ⟨hh.fr.os.trans mm.heap.fr.os, hh.fr.tape.trans mm.heap.fr.tape, hh.fr.output.trans mm.heap.fr.output, Nat.le_trans mm.heap.fr.size hh.fr.size, fun b hb hx => ?_, mm.heap.fr.step fun b cur et p hb hc => hh.fr.shape b cur et p hc⟩⟩
  ·rcases cls l b hl with ⟨x, hx, rfl, rfl⟩ | ⟨hl', hno⟩
   ·exact repB_by new (mem' x hx).1 (rowN x hx) (mem' x hx).2
   ·obtain ⟨sl, hsl, hlt⟩ := (mm.heap.rows l b hl').block
    refine (mm.heap.rows l b hl').mono old hI same fun g s' q1 q2 => ?_
    rw [hsl] at q1; injection q1 with q1; subst q1
    exact hh.fr.block g (hlt g q2) (frame l b hl' hno g _ hsl q2)
  ·obtain ⟨b1, hb1⟩ := Option.ne_none_iff_exists'.1 n1
   obtain ⟨b2, hb2⟩ := Option.ne_none_iff_exists'.1 n2
   rcases cls l1 b1 hb1 with ⟨x, hx, rfl, rfl⟩ | ⟨h1, no1⟩
   ·have f1 := inv x.1 (mem' x hx).1 s1 e1
    rcases cls l2 b2 hb2 with ⟨y, hy, rfl, rfl⟩ | ⟨h2, no2⟩
    ·have f2 := inv y.1 (mem' y hy).1 s2 e2
     rw [hh.inj x.1 y.1 g s1 s2 (neN x hx) (neN y hy) f1 f2 g1 g2]
    ·exfalso
     have f2 := slotF l2 b2 s2 h2 e2
     rcases (hh.mine x.1 g s1 (neN x hx) f1 g1).2 with q | q
     ·exact frame l2 b2 h2 no2 g s2 f2 g2 q
     ·have := blk l2 g s2 (by rw [h2]; simp) f2 g2; omega
   ·have f1 := slotF l1 b1 s1 h1 e1
    rcases cls l2 b2 hb2 with ⟨y, hy, rfl, rfl⟩ | ⟨h2, no2⟩
    ·exfalso
     have f2 := inv y.1 (mem' y hy).1 s2 e2
     rcases (hh.mine y.1 g s2 (neN y hy) f2 g2).2 with q | q
     ·exact frame l1 b1 h1 no1 g s1 f1 g1 q
     ·have := blk l1 g s1 (by rw [h1]; simp) f1 g1; omega
    ·exact mm.heap.inj l1 l2 g s1 s2 (by rw [h1]; simp) (by rw [h2]; simp) f1 (slotF l2 b2 s2 h2 e2) g1 g2
  ·obtain ⟨b1, hb1⟩ := Option.ne_none_iff_exists'.1 n1
   rcases cls l b1 hb1 with ⟨x, hx, rfl, rfl⟩ | ⟨h1, no1⟩
   ·have f1 := inv x.1 (mem' x hx).1 sl e1
    obtain ⟨m1, m2⟩ := hh.mine x.1 g sl (neN x hx) f1 g1
    refine ⟨m1, ?_⟩
    rcases m2 with q | q
    ·exact (Xmine g q).2.1
    ·exact .inr (Nat.le_trans mm.heap.fr.size q)
   ·have f1 := slotF l b1 sl h1 e1
    obtain ⟨m1, m2⟩ := mm.heap.mine l g sl (by rw [h1]; simp) f1 g1
    refine ⟨fun hg => ?_, m2⟩
    rcases fresh g hg with q | q | q
    ·exact m1 q
    ·exact frame l b1 h1 no1 g sl f1 g1 q
    ·have := blk l g sl (by rw [h1]; simp) f1 g1; omega
  ·refine ⟨(hh.imm g hg).1, ?_⟩
   rcases fresh g hg with q | q | q
   ·exact (mm.heap.imm g q).2
   ·exact .inr (Xmine g q).2.1
   ·exact .inr (.inr (Nat.le_trans mm.heap.fr.size q))
  ·rw [hh.fr.block b (by have := mm.heap.fr.size; omega) fun hx' => ?_]
   ·exact mm.heap.fr.block b hb hx
   ·rcases (Xmine b hx').2.1 with q | q
    ·exact hx q
    ·omega
 refine hnext ⟨putT s.T o.dst (some (r.ren (lift2 ρ n s.nx))), _, s.nx + m⟩ _ w' ⟨σ2, I', fun l hl => ?_, mm.put hd OK old hI same fun y hy => by injection hy with hy; subst hy; exact repA_by new hrv F.res⟩ hk
 simp only at hl
 rw [hσ2, if_neg (by omega)]
 exact hnew _ (by omega)
end Go.Aw
namespace Go.Aw
open Go.Proofs Go.RowKit
set_option linter.unusedSimpArgs false
set_option linter.unusedVariables false
theorem SeqR.call {P : Program} {nt : Fm} {s : St} {ops : Array Oper} {i : Nat} {K : St → Prop} {d : Tmp} {f : FuncId} {xs : Array Operand} {ts : Array TypeId} {ty : TypeId} {ps : String} {af : Array Edge} {args : List AV} {h : List (Nat × Blk)} {n : Nat} {rt : List Nat} {r : AV} {h' : List (Nat × Blk)} {m : Nat} (ρ : Nat → Nat)
  (ho : ops[i]? = some ⟨some d, .call { callee := .value (.func f), args := xs, argTypes := ts }, ty, ps, af, none⟩) (hd : dstOK nt ⟨some d, .call { callee := .value (.func f), args := xs, argTypes := ts }, ty, ps, af, none⟩ = true) (D : DFn P f args h n rt r h' m) (F : FitD s xs.toList args h n rt r h' ρ)
  (hk : SeqR P nt ops (i + 1) ⟨upd s.T d (some (r.ren (lift2 ρ n s.nx))), putH (putH s.H (goneU ρ h)) (newU (lift2 ρ n s.nx) h'), s.nx + m⟩ K) : SeqR P nt ops i s K :=
 SeqR.op ho rfl (callD_fn ρ rfl hd D F hk)
theorem labsBy_lift {p : Nat → Bool} {sz : Nat} {es : List (List PV)} : (Blk.row sz (liftE es)).labsBy p = true := by
 have : ∀ l : List PV, labsByL p (l.map AV.p) = true := fun l => by
  induction l with
  | nil => rfl
  | cons a l ih => rw [List.map_cons, labsByL, ih]; rfl
 simp only [Blk.labsBy, liftE, List.all_map, List.all_eq_true]
 intro e _
 exact this e
theorem setL {α : Type} (f : α → List PV) (l : List α) (n : Nat) (a : α) : (liftE (l.map f)).set n ((f a).map AV.p) = liftE ((l.set n a).map f) := by
 unfold liftE
 rw [List.map_set, List.map_set]
end Go.Aw
namespace Go.Aw
open Go.RowKit
variable {P : Program}
end Go.Aw
namespace Go.Aw
open Go.RowKit
variable {P : Program}
end Go.Aw
namespace Go.Aw
open Go.RowKit
variable {P : Program}
theorem callD_sig {nt : Fm} {s : St} {o : Oper} {c : Operand} {f : FuncId} {xs : Array Operand} {ts : Array TypeId} {args : List AV} {h : List (Nat × Blk)} {n : Nat} {rt : List Nat} {r : AV} {h' : List (Nat × Blk)} {m : Nat} (ρ : Nat → Nat)
  (ho : o.op = .call { callee := .value c, args := xs, argTypes := ts }) (hcf : fnOf (ev s.T c) = some f) (hd : dstOK nt o = true) (D : DFn P f args h n rt r h' m) (F : FitD s xs.toList args h n rt r h' ρ)
  {w0 : World} {X I0 : Nat → Prop} {a : Act} {w : World} {next : Act → World → Prop} {Q : Exit → Act → World → Prop} {σ : Lab} {I : Nat → Prop} (tx : TabX w0 X I0) (hn : ∀ l, s.nx ≤ l → σ l = none) (mm : Match nt w0 X I0 σ I s.T s.H a w)
  (hnext : ∀ σ' I' a' w', (∀ l, l < s.nx → σ' l = σ l) → (∀ l, s.nx + m ≤ l → σ' l = none) → Match nt w0 X I0 σ' I' (putT s.T o.dst (some (r.ren (lift2 ρ n s.nx)))) (putH (putH s.H (goneU ρ h)) (newU (lift2 ρ n s.nx) h')) a' w' → next a' w') : o.wp P a w next Q := by
 obtain ⟨hen, hp⟩ := D
 have IN : In σ w I s.T s.H w0 X I0 a s.nx := ⟨mm.heap, mm.tmps, hn _ (Nat.le_refl _), tx⟩
 have hrun : (execOp a.eval o).run P w = .ok (.enter f (xs.map a.eval)) w := by
  have he : a.eval c = .func (.func f) #[] #[] := by
   cases hev : ev s.T c with
   | none => rw [hev] at hcf; simp [fnOf] at hcf
   | some x => rw [hev] at hcf; exact fnOf_spec hcf (IN.ev hev)
  simp only [execOp, ho, resolve, he, Deferred.ofValue, Sem.run_bind, Sem.run_pure, Result.andThen_ok, invoke, Array.append_empty, Array.empty_append, run_enter hen]
 obtain ⟨p1, p2⟩ := argD_spec F.opd
 have here : ∀ l b, ofH h l = some b → s.H (ρ l) = some (b.ren ρ) ∧ l < n ∧ b.labsIn n = true := fun l b hl => F.here (l, b) (ofH_mem hl)
 have inj : ∀ l l' b b', ofH h l = some b → ofH h l' = some b' → ρ l = ρ l' → l = l' := fun l l' b b' h1 h2 e => by
  have := distinct_inj F.inj (l, b) (ofH_mem h1) (l', b') (ofH_mem h2) e
  injection this
 generalize hσc : relab ρ n σ = σc
 have σat : ∀ l, l < n → σc l = σ (ρ l) := fun l hl => by rw [← hσc]; unfold relab; rw [if_pos hl]
 have σno : ∀ l, n ≤ l → σc l = none := fun l hl => by rw [← hσc]; unfold relab; rw [if_neg (by omega)]
 have Xof : ∀ g, lentX σc (ofH h) g → ∃ l b sl, ofH h l = some b ∧ s.H (ρ l) = some (b.ren ρ) ∧ σ (ρ l) = some sl ∧ sl.block = some g := fun g ⟨l, sl, q1, q2, q3⟩ => by
  obtain ⟨b, hb⟩ := Option.ne_none_iff_exists'.1 q1
  obtain ⟨r1, r2, _⟩ := here l b hb
  exact ⟨l, b, sl, hb, r1, by rw [← σat l r2]; exact q2, q3⟩
 have hH : HOK σc w I (ofH h) w (lentX σc (ofH h)) I := by
  refine ⟨fun l b hl => ?_, fun l l' g s1 s2 n1 n2 e1 e2 g1 g2 => ?_, fun l g s1 n1 e1 g1 => ?_, fun g hg => ⟨(mm.heap.imm g hg).1, .inl hg⟩, fun _ h => h, Fr.refl _ _⟩
  ·obtain ⟨r1, r2, r3⟩ := here l b hl
   rw [← hσc]
   exact repB_ren r2 (mm.heap.rows _ _ r1) r3
  ·obtain ⟨b1, hb1⟩ := Option.ne_none_iff_exists'.1 n1
   obtain ⟨b2, hb2⟩ := Option.ne_none_iff_exists'.1 n2
   obtain ⟨r1, r2, _⟩ := here l b1 hb1
   obtain ⟨r1', r2', _⟩ := here l' b2 hb2
   rw [σat l r2] at e1
   rw [σat l' r2'] at e2
   exact inj l l' b1 b2 hb1 hb2 (mm.heap.inj _ _ g s1 s2 (by rw [r1]; simp) (by rw [r1']; simp) e1 e2 g1 g2)
  ·obtain ⟨b1, hb1⟩ := Option.ne_none_iff_exists'.1 n1
   obtain ⟨r1, r2, _⟩ := here l b1 hb1
   refine ⟨?_, .inl ⟨l, s1, n1, e1, g1⟩⟩
   rw [σat l r2] at e1
   exact (mm.heap.mine _ g s1 (by rw [r1]; simp) e1 g1).1
 have hargs := hp w I σc (xs.map a.eval) (by simpa using p1) σno (fun j u y q1 q2 => by
  rw [Array.getElem?_map, Option.map_eq_some_iff] at q1
  obtain ⟨x, hx, rfl⟩ := q1
  have hlab : y.labsIn n = true := List.all_eq_true.1 F.labs y (List.mem_of_getElem? q2)
  rcases p2 j x y (by simpa using hx) q2 with ⟨p, v, rfl, hv, hpv⟩ | hv
  ·exact .p (rep_pureA (IN.ev hv) hpv)
  ·rw [← hσc]
   exact repA_ren (IN.ev hv) y rfl hlab) hH IN.tabs
 unfold Oper.wp
 rw [hrun, Oper.upon_enter]
 refine hargs.mono fun e w' he => ?_
 obtain ⟨v, σ', I', rfl, hh, hrv, hroot, hnew⟩ := he
 -- the caller's labels behind the call
 obtain ⟨σ2, hσ2⟩ : ∃ σ2 : Lab, ∀ l, σ2 l = if l < s.nx then σ l else σ' (n + (l - s.nx)) := ⟨fun l => if l < s.nx then σ l else σ' (n + (l - s.nx)), fun _ => rfl⟩
 have old : ∀ l sl, σ l = some sl → σ2 l = some sl := fun l sl hl => by
  rw [hσ2]
  rcases Nat.lt_or_ge l s.nx with q | q
  ·rw [if_pos q]; exact hl
  ·rw [hn l q] at hl; cases hl
 have new : ∀ l, (rt.contains l || decide (n ≤ l)) = true → ∀ sl, σ' l = some sl → σ2 (lift2 ρ n s.nx l) = some sl := fun l hl sl hs => by
  unfold lift2
  rcases Nat.lt_or_ge l n with q | q
  ·rw [if_pos q]
   have hm : l ∈ rt := by
    rcases Bool.or_eq_true_iff.1 hl with hl | hl
    ·exact List.contains_iff_mem.1 hl
    ·simp at hl; omega
   rw [hroot l hm, σat l q] at hs
   exact old _ _ hs
  ·rw [if_neg (by omega), hσ2, if_neg (by omega), show n + (s.nx + (l - n) - s.nx) = l by omega]
   exact hs
 have blk : ∀ l g sl, s.H l ≠ none → σ l = some sl → sl.block = some g → g < w.heap.size := fun l g sl hn hs hg => by
  obtain ⟨b, hb⟩ := Option.ne_none_iff_exists'.1 hn
  obtain ⟨s', hs', hlt⟩ := (mm.heap.rows l b hb).block
  rw [hs] at hs'; injection hs' with hs'; subst hs'
  exact hlt g hg
 have Xmine : ∀ g, lentX σc (ofH h) g → ¬ I g ∧ (X g ∨ w0.heap.size ≤ g) ∧ g < w.heap.size := fun g hg => by
  obtain ⟨l, b, sl, q1, q2, q3, q4⟩ := Xof g hg
  obtain ⟨m1, m2⟩ := mm.heap.mine _ g sl (by rw [q2]; simp) q3 q4
  exact ⟨m1, m2, blk _ g sl (by rw [q2]; simp) q3 q4⟩
 have same : ∀ b, I b → w'.heap[b]? = w.heap[b]? := fun b hb => hh.fr.block b (mm.heap.imm b hb).1 fun hx => (Xmine b hx).1 hb
 have hI : ∀ g, I g → I' g := hh.sub
 have fresh : ∀ g, I' g → I g ∨ lentX σc (ofH h) g ∨ w.heap.size ≤ g := fun g hg => (hh.imm g hg).2
 have frame : ∀ l b, s.H l = some b → (∀ x ∈ h, ρ x.1 ≠ l) → ∀ g sl, σ l = some sl → sl.block = some g → ¬ lentX σc (ofH h) g := fun l b hl hno g sl hs hg hx => by
  obtain ⟨l2, b2, sl2, q1, q2, q3, q4⟩ := Xof g hx
  exact hno (l2, b2) (ofH_mem q1) (mm.heap.inj _ _ g sl2 sl (by rw [q2]; simp) (by rw [hl]; simp) q3 hs q4 hg)
 -- what stands where
 have cls : ∀ l b, putH (putH s.H (goneU ρ h)) (newU (lift2 ρ n s.nx) h') l = some b → (∃ x ∈ h', lift2 ρ n s.nx x.1 = l ∧ b = x.2.ren (lift2 ρ n s.nx)) ∨ (s.H l = some b ∧ (∀ x ∈ h, ρ x.1 ≠ l)) := fun l b hl => by
  rcases putH_new (lift2 ρ n s.nx) l h' (putH s.H (goneU ρ h)) with ⟨e1, e2⟩ | ⟨x, hx, e1, e2⟩
  ·rw [e1] at hl
   rcases putH_gone ρ l h s.H with ⟨e3, e4⟩ | ⟨e3, _⟩
   ·rw [e3] at hl; exact .inr ⟨hl, e4⟩
   ·rw [e3] at hl; cases hl
  ·rw [e2] at hl
   injection hl with hl
   exact .inl ⟨x, hx, e1, hl.symm⟩
 have mem' : ∀ x ∈ h', (rt.contains x.1 || decide (n ≤ x.1)) = true ∧ x.2.labsBy (fun l => rt.contains l || decide (n ≤ l)) = true := fun x hx => by
  have := List.all_eq_true.1 F.mem x hx
  rwa [Bool.and_eq_true] at this
 have inv : ∀ l, (rt.contains l || decide (n ≤ l)) = true → ∀ sl, σ2 (lift2 ρ n s.nx l) = some sl → σ' l = some sl := fun l hl sl hs => by
  unfold lift2 at hs
  rcases Nat.lt_or_ge l n with q | q
  ·rw [if_pos q] at hs
   have hm : l ∈ rt := by
    rcases Bool.or_eq_true_iff.1 hl with hl | hl
    ·exact List.contains_iff_mem.1 hl
    ·simp at hl; omega
   rw [hroot l hm, σat l q]
   have hc := List.contains_iff_mem.1 (List.all_eq_true.1 F.roots l hm)
   obtain ⟨x, hx, hxl⟩ := List.mem_map.1 hc
   obtain ⟨r1, r2, _⟩ := F.here x hx
   have hlt : ρ l < s.nx := by
    rcases Nat.lt_or_ge (ρ l) s.nx with z | z
    ·exact z
    ·obtain ⟨sl', hsl', _⟩ := (mm.heap.rows _ _ r1).block
     rw [hxl, hn _ z] at hsl'; cases hsl'
   rw [hσ2, if_pos hlt] at hs
   exact hs
  ·rw [if_neg (by omega), hσ2, if_neg (by omega), show n + (s.nx + (l - n) - s.nx) = l by omega] at hs
   exact hs
 have OK : HOK σ2 w' I' (putH (putH s.H (goneU ρ h)) (newU (lift2 ρ n s.nx) h')) w0 X I0 := by
  have rowN : ∀ x ∈ h', repB σ' w' I' x.1 x.2 := fun x hx => hh.rows x.1 x.2 (ofH_of_mem F.dist' hx)
  have neN : ∀ x ∈ h', ofH h' x.1 ≠ none := fun x hx => by rw [ofH_of_mem F.dist' hx]; simp
  have slotF : ∀ l b sl, s.H l = some b → σ2 l = some sl → σ l = some sl := fun l b sl hl hs => by
   obtain ⟨sl', hsl', _⟩ := (mm.heap.rows l b hl).block
   rw [old l sl' hsl'] at hs
   rw [hsl']; exact hs
  refine ⟨fun l b hl => ?_, fun l1 l2 g s1 s2 n1 n2 e1 e2 g1 g2 => ?_, fun l g sl n1 e1 g1 => ?_, fun g hg => ?_, fun g hg => hh.sub g (mm.heap.sub g hg), ⟨hh.fr.os.trans mm.heap.fr.os, hh.fr.tape.trans mm.heap.fr.tape, hh.fr.output.trans mm.heap.fr.output, Nat.le_trans mm.heap.fr.size hh.fr.size, fun b hb hx => ?_, mm.heap.fr.step fun b cur et p hb hc => hh.fr.shape b cur et p hc⟩⟩
  ·rcases cls l b hl with ⟨x, hx, rfl, rfl⟩ | ⟨hl', hno⟩
   ·exact repB_by new (mem' x hx).1 (rowN x hx) (mem' x hx).2
   ·obtain ⟨sl, hsl, hlt⟩ := (mm.heap.rows l b hl').block
    refine (mm.heap.rows l b hl').mono old hI same fun g s' q1 q2 => ?_
    rw [hsl] at q1; injection q1 with q1; subst q1
    exact hh.fr.block g (hlt g q2) (frame l b hl' hno g _ hsl q2)
  ·obtain ⟨b1, hb1⟩ := Option.ne_none_iff_exists'.1 n1
   obtain ⟨b2, hb2⟩ := Option.ne_none_iff_exists'.1 n2
   rcases cls l1 b1 hb1 with ⟨x, hx, rfl, rfl⟩ | ⟨h1, no1⟩
   ·have f1 := inv x.1 (mem' x hx).1 s1 e1
    rcases cls l2 b2 hb2 with ⟨y, hy, rfl, rfl⟩ | ⟨h2, no2⟩
    ·have f2 := inv y.1 (mem' y hy).1 s2 e2
     rw [hh.inj x.1 y.1 g s1 s2 (neN x hx) (neN y hy) f1 f2 g1 g2]
    ·exfalso
     have f2 := slotF l2 b2 s2 h2 e2
     rcases (hh.mine x.1 g s1 (neN x hx) f1 g1).2 with q | q
     ·exact frame l2 b2 h2 no2 g s2 f2 g2 q
     ·have := blk l2 g s2 (by rw [h2]; simp) f2 g2; omega
   ·have f1 := slotF l1 b1 s1 h1 e1
    rcases cls l2 b2 hb2 with ⟨y, hy, rfl, rfl⟩ | ⟨h2, no2⟩
    ·exfalso
     have f2 := inv y.1 (mem' y hy).1 s2 e2
     rcases (hh.mine y.1 g s2 (neN y hy) f2 g2).2 with q | q
     ·exact frame l1 b1 h1 no1 g s1 f1 g1 q
     ·have := blk l1 g s1 (by rw [h1]; simp) f1 g1; omega
    ·exact mm.heap.inj l1 l2 g s1 s2 (by rw [h1]; simp) (by rw [h2]; simp) f1 (slotF l2 b2 s2 h2 e2) g1 g2
  ·obtain ⟨b1, hb1⟩ := Option.ne_none_iff_exists'.1 n1
   rcases cls l b1 hb1 with ⟨x, hx, rfl, rfl⟩ | ⟨h1, no1⟩
   ·have f1 := inv x.1 (mem' x hx).1 sl e1
    obtain ⟨m1, m2⟩ := hh.mine x.1 g sl (neN x hx) f1 g1
    refine ⟨m1, ?_⟩
    rcases m2 with q | q
    ·exact (Xmine g q).2.1
    ·exact .inr (Nat.le_trans mm.heap.fr.size q)
   ·have f1 := slotF l b1 sl h1 e1
    obtain ⟨m1, m2⟩ := mm.heap.mine l g sl (by rw [h1]; simp) f1 g1
    refine ⟨fun hg => ?_, m2⟩
    rcases fresh g hg with q | q | q
    ·exact m1 q
    ·exact frame l b1 h1 no1 g sl f1 g1 q
    ·have := blk l g sl (by rw [h1]; simp) f1 g1; omega
  ·refine ⟨(hh.imm g hg).1, ?_⟩
   rcases fresh g hg with q | q | q
   ·exact (mm.heap.imm g q).2
   ·exact .inr (Xmine g q).2.1
   ·exact .inr (.inr (Nat.le_trans mm.heap.fr.size q))
  ·rw [hh.fr.block b (by have := mm.heap.fr.size; omega) fun hx' => ?_]
   ·exact mm.heap.fr.block b hb hx
   ·rcases (Xmine b hx').2.1 with q | q
    ·exact hx q
    ·omega
 refine hnext σ2 I' _ w' (fun l hl => by rw [hσ2, if_pos hl]) (fun l hl => ?_) (mm.put hd OK old hI same fun y hy => by injection hy with hy; subst hy; exact repA_by new hrv F.res)
 rw [hσ2, if_neg (by omega)]
 exact hnew _ (by omega)
theorem argD_pure {T : Nat → Option AV} {ρ : Nat → Nat} : ∀ {xs : List Operand} {l : List PV}, xs.map (ev T) = l.map (fun p => some (.p p)) → argD T ρ xs (l.map AV.p)
 | [], [], _ => trivial
 | [], _ :: _, h => by cases h
 | _ :: _, [], h => by cases h
 | x :: xs, p :: l, h => by
  rw [List.map_cons, List.map_cons] at h
  injection h with h1 h2
  rw [List.map_cons]
  refine ⟨?_, argD_pure h2⟩
  rw [h1]
  rfl
section
variable {nt : Fm} {ops : Array Oper} {L : List (Oper × Rec)} {nx dc ex : Nat} {T0 : Nat → Option AV} {H0 : Nat → Option Blk} {w0 : World} {X I0 : Nat → Prop}
def Inv2 (nt : Fm) (ops : Array Oper) (L : List (Oper × Rec)) (nx dc ex : Nat) (T0 : Nat → Option AV) (H0 : Nat → Option Blk) (w0 : World) (X I0 : Nat → Prop) (D : Nat → Bool) (a : Act) (w : World) : Prop :=
 ∃ σ I, Match nt w0 X I0 σ I (foldT D L 0 T0) (foldH D L 0 H0) a w ∧ ∀ l s, nx ≤ l → σ l = some s → (∃ j, l = nx + j ∧ j < ops.size ∧ D j = true) ∨ (nx + ops.size ≤ l ∧ l < nx + ops.size + ex ∧ D dc = true)
def DeepOK (P : Program) (N ex : Nat) (o : Oper) (r : Rec) (T : Nat → Option AV) : Prop :=
 o.guard = none ∧ ∃ (f : FuncId) (xs : Array Operand) (ts : Array TypeId) (l : List PV) (rr : AV) (h' : List (Nat × Blk)), o.op = .call { callee := .value (.func f), args := xs, argTypes := ts } ∧ xs.toList.map (ev T) = l.map (fun p => some (.p p)) ∧ DFn P f (l.map AV.p) [] 0 [] rr h' ex ∧ distinct (h'.map (·.1)) = true ∧
  rr.labsBy (fun l => ([] : List Nat).contains l || decide (0 ≤ l)) = true ∧ h'.all (fun x => (([] : List Nat).contains x.1 || decide (0 ≤ x.1)) && x.2.labsBy (fun l => ([] : List Nat).contains l || decide (0 ≤ l))) = true ∧
  r.eff = some ⟨some (rr.ren (lift2 (fun k => k) 0 N)), newU (lift2 (fun k => k) 0 N) h'⟩ ∧ r.reads = []
structure Sound2 (P : Program) (nt : Fm) (ops : Array Oper) (L : List (Oper × Rec)) (nx dc ex : Nat) (T0 : Nat → Option AV) (H0 : Nat → Option Blk) : Prop where
 dst : ops.toList.all (dstOK nt) = true
 len : L.length = ops.size
 opers : ∀ (i : Nat) o r, L[i]? = some (o, r) → ops[i]? = some o
 static : staticOK ops.toList = true
 heap : ∀ i j o r o' r', i < j → L[i]? = some (o, r) → L[j]? = some (o', r') → (∀ l, l ∈ r.writes → l ∉ eReads false o'.op r'.reads ∧ l ∉ r'.writes) ∧ (∀ l, l ∈ r'.writes → l ∉ eReads false o.op r.reads) ∨ ahead ops.toList ops.toList.length i j = true
 chain : ∀ i o r, i ≠ dc → L[i]? = some (o, r) → StepOK P ops.toList (nx + i) o r (foldT (fun j => decide (j < i)) L 0 T0) (foldH (fun j => decide (j < i)) L 0 H0)
 deep : ∀ o r, L[dc]? = some (o, r) → DeepOK P (nx + ops.size) ex o r (foldT (fun j => decide (j < dc)) L 0 T0)
theorem Sound2.step (S : Sound2 P nt ops L nx dc ex T0 H0) (tx : TabX w0 X I0) {D : Nat → Bool} {i : Nat} {K : Act → World → Prop} {Q : Exit → Act → World → Prop} {a : Act} {w : World}
  (hcl : ∀ j o e, ops.toList[j]? = some o → D j = true → e ∈ o.after.toList → Region.binds .any e = true → D e.on = true) (hi : i < ops.size) (hDi : D i = false)
  (hdep : ∀ o, ops.toList[i]? = some o → ∀ e ∈ o.after.toList, Region.binds .any e = true → D e.on = true)
  (inv : Inv2 nt ops L nx dc ex T0 H0 w0 X I0 D a w) (hK : ∀ a w, Inv2 nt ops L nx dc ex T0 H0 w0 X I0 (fun j => D j || j == i) a w → K a w) : wpOp P ops Q i K a w := by
 obtain ⟨σ, I, m, hσ⟩ := inv
 obtain ⟨x, hx⟩ : ∃ x, L[i]? = some x := ⟨_, List.getElem?_eq_getElem (by rw [S.len]; exact hi)⟩
 obtain ⟨o, r⟩ := x
 have ho := S.opers i o r hx
 have ho' : ops.toList[i]? = some o := by rw [Array.getElem?_toList]; exact ho
 have hdo : dstOK nt o = true := List.all_eq_true.1 S.dst o (List.mem_of_getElem? ho')
 have hstat := S.static
 simp only [staticOK, Bool.and_eq_true] at hstat
 have hDlab : D i = false → σ (nx + i) = none := by
  intro _
  cases hs : σ (nx + i) with
  | none => rfl
  | some s =>
   rcases hσ _ s (Nat.le_add_right _ _) hs with ⟨j, hj, _, hDj⟩ | ⟨h5, _, _⟩
   ·have : j = i := by omega
    subst this
    rw [hDi] at hDj
    cases hDj
   ·omega
 -- operations that may change places with this one
 have before : ∀ j, ahead ops.toList ops.toList.length j i = true → D j = true := fun j h => ahead_dep hcl ho' (hdep o ho') _ j h
 have after : ∀ j, ahead ops.toList ops.toList.length i j = true → D j = false := fun j h => by
  cases hj : D j with
  | false => rfl
  | true =>
   have := ahead_done hcl _ i j h hj
   rw [hDi] at this
   cases this
 have hlt : ∀ {j : Nat} {y : Oper × Rec}, L[j]? = some y → j < ops.toList.length := fun h => by
  have := (List.getElem?_eq_some_iff.1 h).1
  rw [Array.length_toList, ← S.len]
  exact this
 have apartT : ∀ j o' r', j ≠ i → L[j]? = some (o', r') → (∀ d, o'.dst = some d → d ∉ o.looksAt ops ∧ o.dst ≠ some d) ∨ (j < i ∧ D j = true) ∨ (i < j ∧ D j = false) := by
  intro j o' r' hne hj
  have hoj : ops.toList[j]? = some o' := by rw [Array.getElem?_toList]; exact S.opers j o' r' hj
  have e : ops.toList.toArray = ops := by simp
  rcases Nat.lt_or_gt_of_ne hne with q | q
  ·rcases pairs_spec hstat.2 q (hlt hx) with h | h
   ·left
    simp only [tmpsApart, hoj, ho', e] at h
    obtain ⟨h1, h2, _⟩ := Oper.apart_spec h
    exact fun d hd => ⟨h1 d hd, h2 d hd⟩
   ·exact .inr (.inl ⟨q, before j h⟩)
  ·rcases pairs_spec hstat.2 q (hlt hj) with h | h
   ·left
    simp only [tmpsApart, hoj, ho', e] at h
    obtain ⟨h1, h2, h3⟩ := Oper.apart_spec h
    exact fun d hd => ⟨h3 d hd, fun h => h2 d h hd⟩
   ·exact .inr (.inr ⟨q, after j h⟩)
 have apartH : ∀ j o' r', j ≠ i → L[j]? = some (o', r') → (∀ l, l ∈ r'.writes → l ∉ eReads false o.op r.reads ∧ l ∉ r.writes) ∨ (j < i ∧ D j = true) ∨ (i < j ∧ D j = false) := by
  intro j o' r' hne hj
  rcases Nat.lt_or_gt_of_ne hne with q | q
  ·rcases S.heap j i o' r' o r q hj hx with ⟨h1, h2⟩ | h
   ·exact .inl h1
   ·exact .inr (.inl ⟨q, before j h⟩)
  ·rcases S.heap i j o r o' r' q hx hj with ⟨h1, h2⟩ | h
   ·exact .inl fun l hl => ⟨h2 l hl, fun h => (h1 l h).2 hl⟩
   ·exact .inr (.inr ⟨q, after j h⟩)
 -- what it looks at is what it looks at in the text's order
 have sameT : ∀ t, t ∈ o.looksAt ops → foldT D L 0 T0 t = foldT (fun j => decide (j < i)) L 0 T0 t := by
  intro t ht
  refine foldT_eq L 0 _ _ rfl fun j y hj hy => ?_
  obtain ⟨o', r'⟩ := y
  rw [Nat.zero_add]
  by_cases hne : j = i
  ·subst hne; rw [hDi]; simp
  ·rcases apartT j o' r' hne hj with h | ⟨h1, h2⟩ | ⟨h1, h2⟩
   ·exact absurd ht (h t hy).1
   ·rw [h2]; simp [h1]
   ·rw [h2]; simp; omega
 have sameH : ∀ l, l ∈ eReads false o.op r.reads → foldH D L 0 H0 l = foldH (fun j => decide (j < i)) L 0 H0 l := by
  intro t ht
  refine foldH_eq L 0 _ _ rfl fun j y hj hy => ?_
  obtain ⟨o', r'⟩ := y
  rw [Nat.zero_add]
  by_cases hne : j = i
  ·subst hne; rw [hDi]; simp
  ·rcases apartH j o' r' hne hj with h | ⟨h1, h2⟩ | ⟨h1, h2⟩
   ·exact absurd ht (h t hy).1
   ·rw [h2]; simp [h1]
   ·rw [h2]; simp; omega
 have evSame : ∀ y ∈ o.op.operands.toList, ev (foldT D L 0 T0) y = ev (foldT (fun j => decide (j < i)) L 0 T0) y := by
  intro y hy
  cases y with
  | tmp t => exact sameT t (List.mem_append_left _ (List.mem_filterMap.2 ⟨.tmp t, hy, rfl⟩))
  | _ => rfl
 have guardSame : guardIs ops.toList o (foldT D L 0 T0) = guardIs ops.toList o (foldT (fun j => decide (j < i)) L 0 T0) := by
  unfold guardIs
  cases hg : o.guard with
  | none => rfl
  | some jw =>
   obtain ⟨j, want⟩ := jw
   simp only
   cases hd : (ops.toList[j]?).bind (·.dst) with
   | none => rfl
   | some d =>
    simp only [Option.bind_some]
    rw [sameT d (List.mem_append_right _ (by simp only [hg]; rw [Array.getElem?_toList] at hd; simp [hd]))]
 -- the state behind it
 have newT : putT (foldT D L 0 T0) o.dst r.val = foldT (fun j => D j || j == i) L 0 T0 := by
  funext t
  by_cases ht : o.dst = some t
  ·have e1 : putT (foldT D L 0 T0) o.dst r.val t = r.val := by simp only [ht, putT, upd_same]
   rw [e1]
   refine (foldT_at L 0 T0 i o r hx ht (by simp) fun j y hij hj hy => ?_).symm
   obtain ⟨o', r'⟩ := y
   rw [Nat.zero_add]
   rcases apartT j o' r' (by omega) hj with h | ⟨h1, h2⟩ | ⟨h1, h2⟩
   ·exact absurd ht (h t hy).2
   ·omega
   ·rw [h2]; simp; omega
  ·rw [putT_ne ht]
   refine foldT_eq L 0 _ _ rfl fun j y hj hy => ?_
   rw [Nat.zero_add]
   have : j ≠ i := by
    rintro rfl
    rw [hx] at hj
    injection hj with hj
    subst hj
    exact ht hy
   simp [this]
 have newH : putH (foldH D L 0 H0) r.upds = foldH (fun j => D j || j == i) L 0 H0 := by
  funext t
  by_cases ht : t ∈ r.writes
  ·rw [putH_in _ _ (fun _ => none) ht]
   refine (foldH_at L 0 H0 i o r hx ht (by simp) fun j y hij hj hy => ?_).symm
   obtain ⟨o', r'⟩ := y
   rw [Nat.zero_add]
   rcases apartH j o' r' (by omega) hj with h | ⟨h1, h2⟩ | ⟨h1, h2⟩
   ·exact absurd ht (h t hy).2
   ·omega
   ·rw [h2]; simp; omega
  ·rw [putH_out _ _ ht]
   refine foldH_eq L 0 _ _ rfl fun j y hj hy => ?_
   rw [Nat.zero_add]
   have : j ≠ i := by
    rintro rfl
    rw [hx] at hj
    injection hj with hj
    subst hj
    exact ht hy
   simp [this]
 have hwant : ∀ b, guardIs ops.toList o (foldT D L 0 T0) = some b → Region.wanted o (yielded ops a.tmps) = b := by
  intro b hb
  unfold guardIs at hb
  cases hg : o.guard with
  | none =>
   rw [hg] at hb
   injection hb with hb
   simp [Region.wanted, hg, hb]
  | some jw =>
   obtain ⟨j, want⟩ := jw
   rw [hg] at hb
   simp only at hb
   split at hb
   ·rename_i b' hb'
    injection hb with hb
    obtain ⟨d, hd1, hd2⟩ := Option.bind_eq_some_iff.1 hb'
    rw [Array.getElem?_toList] at hd1
    obtain ⟨u, hu, hru⟩ := m.tmps d _ hd2
    have hy : yielded ops a.tmps j = some b' := by
     cases hru with
     | p h => cases h; simp [yielded, hd1, hu]
    simp only [Region.wanted, hg, hy, ← hb]
    cases b' <;> cases want <;> rfl
   ·cases hb
 unfold wpOp
 rw [ho]
 simp only
 by_cases hic : i = dc
 ·subst hic
  obtain ⟨hg, f, xs, ts, l, rr, h', hop, hxs, hD, hdis, hres, hmem, hre, hrr⟩ := S.deep o r hx
  rw [if_pos (hwant true (by unfold guardIs; rw [hg]))]
  left
  have hxc : xs.toList.map (ev (foldT D L 0 T0)) = l.map fun p => some (.p p) := by
   rw [← hxs]
   refine List.map_congr_left fun y hy => evSame y ?_
   rw [hop]
   simp only [Op.operands, Call.operands]
   simp [hy]
  have hlab : ∀ l', nx + ops.size ≤ l' → σ l' = none := fun l' hl' => by
   cases hs : σ l' with
   | none => rfl
   | some s =>
    rcases hσ l' s (by omega) hs with ⟨j, h1, h0, _⟩ | ⟨_, _, h2⟩
    ·omega
    ·rw [hDi] at h2; cases h2
  refine callD_sig (s := ⟨foldT D L 0 T0, foldH D L 0 H0, nx + ops.size⟩) (fun k => k) hop rfl hdo hD ⟨argD_pure hxc, by simp [AV.labsIn], (fun x hx => by cases hx), rfl, rfl, hdis, rfl, hres, hmem⟩ tx hlab m fun σ' I' a' w' hlo hhi m' => hK _ _ ⟨σ', I', ?_, fun l' s hl hs => ?_⟩
  ·have e1 : r.val = some (rr.ren (lift2 (fun k => k) 0 (nx + ops.size))) := by simp [Rec.val, hre]
   have e2 : r.upds = newU (lift2 (fun k => k) 0 (nx + ops.size)) h' := by simp [Rec.upds, hre]
   rw [← newT, ← newH, e1, e2]
   exact m'
  ·rcases Nat.lt_or_ge l' (nx + ops.size) with q | q
   ·rw [hlo l' q] at hs
    rcases hσ l' s hl hs with ⟨j, h1, h0, h2⟩ | ⟨h1, _, _⟩
    ·exact .inl ⟨j, h1, h0, by simp [h2]⟩
    ·omega
   ·rcases Nat.lt_or_ge l' (nx + ops.size + ex) with q2 | q2
    ·exact .inr ⟨q, q2, by simp⟩
    ·rw [hhi l' q2] at hs; cases hs
 have hst := S.chain i o r hic hx
 unfold StepOK at hst
 cases he : r.eff with
 | some e =>
  rw [he] at hst
  obtain ⟨hg, hop, hr⟩ := hst
  rw [if_pos (hwant true (guardSame.trans hg))]
  have hop' : opW P (nx + i) o.op (foldT D L 0 T0) (foldH D L 0 H0) fun e' => e' = e := by
   rw [loc_op evSame (fun l hl => sameH l (by simp only [eReads, Bool.false_and, Bool.false_eq_true, if_false]; rw [hr]; exact hl))]
   exact hop
  left
  refine snd_op (w0 := w0) (X := X) (I0 := I0) ⟨m.heap, m.tmps, hDlab hDi, tx⟩ hop' _ _ fun e' v w' σ' I' hk out => hK _ _ ?_
  subst hk
  refine ⟨σ', I', ?_, fun l s hl hs => ?_⟩
  ·have := m.put hdo out.heap out.ext out.imm out.same out.val
   have e1 : r.val = e'.val := by simp [Rec.val, he]
   have e2 : r.upds = e'.upd := by simp [Rec.upds, he]
   rw [← newT, ← newH, e1, e2]
   exact this
  ·by_cases hll : l = nx + i
   ·exact .inl ⟨i, hll, hi, by simp⟩
   ·rw [out.lab l hll] at hs
    rcases hσ l s hl hs with ⟨j, h1, h0, h2⟩ | ⟨h1, h0, h2⟩
    ·exact .inl ⟨j, h1, h0, by simp [h2]⟩
    ·exact .inr ⟨h1, h0, by simp [h2]⟩
 | none =>
  rw [he] at hst
  rw [if_neg (by rw [hwant false (guardSame.trans hst)]; simp)]
  refine hK _ _ ⟨σ, I, ?_, fun l s hl hs => ?_⟩
  ·have := m.put (v := undef) (x := none) hdo m.heap (fun _ _ h => h) (fun _ h => h) (fun _ _ => rfl) (fun y hy => by cases hy)
   have e1 : r.val = none := by simp [Rec.val, he]
   have e2 : r.upds = [] := by simp [Rec.upds, he]
   rw [← newT, ← newH, e1, e2]
   exact this
  ·rcases hσ l s hl hs with ⟨j, h1, h0, h2⟩ | ⟨h1, h0, h2⟩
   ·exact .inl ⟨j, h1, h0, by simp [h2]⟩
   ·exact .inr ⟨h1, h0, by simp [h2]⟩
theorem Sound2.any (S : Sound2 P nt ops L nx dc ex T0 H0) (tx : TabX w0 X I0) {Q : Exit → Act → World → Prop} (hQ : ∀ a w, Inv2 nt ops L nx dc ex T0 H0 w0 X I0 (fun j => decide (j < ops.size)) a w → Q .normal a w) :
  ∀ (fuel : Nat) (listed : Array Bool) (a : Act) (w : World), listed.size = ops.size → (open_ ops.size listed).length ≤ fuel →
   (∀ j o e, ops.toList[j]? = some o → listed.getD j false = true → e ∈ o.after.toList → Region.binds .any e = true → listed.getD e.on false = true) →
   Inv2 nt ops L nx dc ex T0 H0 w0 X I0 (fun j => listed.getD j false) a w → wpAny P .any ops Q fuel listed a w := by
 have getD_ne : ∀ (listed : Array Bool) (i : Nat), listed.size = ops.size → i < ops.size → listed.getD i true = listed.getD i false := by
  intro listed i hs hi
  have : i < listed.size := by omega
  simp [Array.getD, this]
 have full : ∀ (listed : Array Bool), listed.size = ops.size → Region.ready .any ops listed = [] → ∀ i, i < ops.size → listed.getD i false = true := by
  intro listed hs hr i
  induction i using Nat.strongRecOn with
  | _ i ih =>
   intro hi
   cases hd : listed.getD i false with
   | true => rfl
   | false =>
    exfalso
    have : i ∈ Region.ready .any ops listed := by
     unfold Region.ready
     refine List.mem_filter.2 ⟨List.mem_range.2 hi, ?_⟩
     rw [getD_ne listed i hs hi, hd, Array.getElem?_eq_getElem hi]
     simp only [Bool.not_false, Bool.true_and, Option.map_some, Option.getD_some]
     rw [Array.all_eq_true_iff_forall_mem]
     intro e he
     cases hb : Region.binds .any e with
     | false => rfl
     | true =>
      simp only [Bool.not_true, Bool.false_or]
      have hst := S.static
      simp only [staticOK, Bool.and_eq_true] at hst
      have h1 := List.all_eq_true.1 hst.1 i (List.mem_range.2 (by simpa using hi))
      rw [Array.getElem?_toList, Array.getElem?_eq_getElem hi] at h1
      simp only at h1
      have h2 := List.all_eq_true.1 h1 e (by simpa using he)
      rw [hb] at h2
      simp only [Bool.not_true, Bool.false_or, decide_eq_true_eq] at h2
      exact ih e.on h2 (by omega)
    rw [hr] at this
    cases this
 have done : ∀ (listed : Array Bool) a w, listed.size = ops.size → Region.ready .any ops listed = [] → Inv2 nt ops L nx dc ex T0 H0 w0 X I0 (fun j => listed.getD j false) a w → Q .normal a w := by
  intro listed a w hs hr inv
  refine hQ a w ?_
  have : (fun j => listed.getD j false) = fun j => decide (j < ops.size) := by
   funext j
   by_cases hj : j < ops.size
   ·rw [full listed hs hr j hj]; simp [hj]
   ·have : ¬ j < listed.size := by omega
    simp [Array.getD, this, hj]
  rw [this] at inv
  exact inv
 intro fuel
 induction fuel with
 | zero =>
  intro listed a w hs hf hcl inv
  have hr : Region.ready .any ops listed = [] := by
   cases h : Region.ready .any ops listed with
   | nil => rfl
   | cons i l =>
    exfalso
    obtain ⟨h1, h2, _⟩ := ready_mem (show i ∈ Region.ready .any ops listed by rw [h]; simp)
    have : i ∈ open_ ops.size listed := List.mem_filter.2 ⟨List.mem_range.2 h1, by rw [h2]; rfl⟩
    have := List.length_pos_of_mem this
    omega
  exact ⟨hr, done listed a w hs hr inv⟩
 | succ fuel ih =>
  intro listed a w hs hf hcl inv
  refine ⟨fun hr => done listed a w hs hr inv, fun i hi => ?_⟩
  obtain ⟨h1, h2, h3⟩ := ready_mem hi
  have hD : (fun j => (listed.setIfInBounds i true).getD j false) = fun j => listed.getD j false || j == i := by
   funext j
   by_cases hj : j = i
   ·subst hj
    have : j < listed.size := by omega
    simp [Array.getD, this]
   ·by_cases hjs : j < listed.size
    ·have e1 : (j == i) = false := by simpa using hj
     have e2 : ¬ i = j := fun h => hj h.symm
     simp [Array.getD, hjs, e1, e2]
    ·have e1 : (j == i) = false := by simpa using hj
     simp [Array.getD, hjs, e1]
  refine S.step tx (D := fun j => listed.getD j false) hcl h1 (by rw [← getD_ne listed i hs h1]; exact h2) h3 inv fun a w inv' => ?_
  ·refine ih _ a w (by simpa using hs) ?_ (fun j o e ho hj he hb => ?_) (by rw [hD]; exact inv')
   ·have hmem : i ∈ open_ ops.size listed := List.mem_filter.2 ⟨List.mem_range.2 h1, by rw [h2]; rfl⟩
    have hsub : open_ ops.size (listed.setIfInBounds i true) = (open_ ops.size listed).filter fun j => j != i := by
     unfold open_
     rw [List.filter_filter]
     apply List.filter_congr
     intro j hj
     have hj' := List.mem_range.1 hj
     rw [getD_ne _ j (by simpa using hs) hj', getD_ne _ j hs hj']
     have := congrFun hD j
     rw [this]
     cases listed.getD j false <;> cases hji : j == i <;> simp [bne, hji]
    rw [hsub]
    have : ((open_ ops.size listed).filter fun j => j != i).length < (open_ ops.size listed).length := by
     rw [List.length_filter_lt_length_iff_exists]
     exact ⟨i, hmem, by simp⟩
    omega
   ·have hh := congrFun hD
    rw [hh] at hj ⊢
    simp only [Bool.or_eq_true, beq_iff_eq] at hj ⊢
    rcases hj with hj | hj
    ·exact .inl (hcl j o e ho hj he hb)
    ·subst hj
     exact .inl (h3 o ho e he hb)
end
end Go.Aw
namespace Go.Aw
open Go.RowKit
variable {P : Program}
end Go.Aw
namespace Go.Aw.T
open Go.Proofs Go.RowKit
set_option linter.unusedSimpArgs false
set_option linter.unusedVariables false
set_option maxRecDepth 100000 in
set_option maxHeartbeats 4000000 in
theorem law00_next (l : List Int) (a : Nat) (ha : a ≤ 1000) (hl : l.length ≤ 200) : LFn Tryd.prog 90 [.v (.slice (l.map encI)), .ptr 0 0 1 [[.int .i64 (a : Int)]]] [none, some (.row 1 [[.int .i64 ((nextF l a).2 : Int)]])] (.int .i64 (nextF l a).1) := by
 refine LFn.of Tryd.func90 rfl (by decide) Tryd.ntmps90 Tryd.results90 (Nat.le_of_ble_eq_true rfl) rfl fun val => ?_
 simp only [laT, laH, laPins, LA.av, List.length_cons, List.length_nil]
 refine AW.rT (by rfl) fun K hK => ?_
 simp -implicitDefEqProofs only [go_sem, Nat.reduceAdd, liftE_cons, liftE_nil, List.map_cons, List.map_nil]
 refine hK _ ?_; clear hK K
 refine AW.seq ?_
 by_cases h0 : l = []
 ·subst h0
  have b0 : (((([] : List (List PV)).length : Nat) : Int) == 0) = true := rfl
  refine AW.rT (by rfl) fun K hK => ?_
  simp -implicitDefEqProofs only [go_sem, ↓reduceIte, Nat.reduceAdd, reduceCtorEq, List.map_nil]
  refine hK _ ?_; clear hK K
  refine AW.cond _ (by simp -implicitDefEqProofs only [go_sem]; rfl) (fun hc => ?_) (fun hc => ?_)
  rotate_left
  ·simp at hc
  refine AW.rT (by rfl) fun K hK => ?_
  simp -implicitDefEqProofs only [go_sem, Nat.reduceAdd]
  refine hK _ ?_; clear hK K
  refine AW.ret (show _ ∧ ((∃ l, _ ∧ _) ∧ (_ ∧ _ ∧ _) ∧ True) from ⟨?_, ⟨1, ?_, ?_⟩, ⟨rfl, by decide, rfl⟩, trivial⟩) <;> simp -implicitDefEqProofs only [go_sem, ↓reduceIte, Nat.reduceEqDiff, liftE_cons, liftE_nil, List.map_cons, List.map_nil, nextF]
 have hn : 0 < l.length := List.length_pos_iff.2 h0
 have b0 : ((l.length : Int) == 0) = false := beqf (by omega)
 have NF : nextF l a = (andI .i64 (l.getD (((a + 1) * 7 + (a + 1) / l.length) % l.length) 0) 4611686018427387903, a + 1) := by unfold nextF; rw [if_neg h0]
 have W1 : IntKind.wrap .i64 ((a : Int) + 1) = ((a + 1 : Nat) : Int) := by rw [w64] <;> omega
 refine AW.rT (by rfl) fun K hK => ?_
 simp -implicitDefEqProofs only [go_sem, ↓reduceIte, Nat.reduceAdd, reduceCtorEq, List.length_map, b0]
 refine hK _ ?_; clear hK K
 refine AW.cond _ (by simp -implicitDefEqProofs only [go_sem]; rfl) (fun hc => ?_) (fun hc => ?_)
 ·simp at hc
 refine AW.skip ?_
 simp only [andThen]
 refine AW.rT (by rfl) fun K hK => ?_
 simp -implicitDefEqProofs only [go_sem, ↓reduceIte, Nat.reduceAdd, Nat.reduceEqDiff, Nat.reduceLeDiff, W1, List.set_cons_zero]
 refine hK _ ?_; clear hK K
 have hz : ((l.length : Int) = 0) = False := eq_false (by omega)
 have hd : (((a + 1 : Nat) : Int)).tdiv (l.length : Int) = (((a + 1) / l.length : Nat) : Int) := (Int.ofNat_tdiv _ _).symm
 have hdl : (a + 1) / l.length ≤ a + 1 := Nat.div_le_self _ _
 have wm : IntKind.wrap .i64 (((a + 1 : Nat) : Int) * 7) = (((a + 1) * 7 : Nat) : Int) := by rw [w64] <;> omega
 generalize (a + 1) / l.length = d at hd hdl NF
 have wd : IntKind.wrap .i64 ((d : Nat) : Int) = ((d : Nat) : Int) := by rw [w64] <;> omega
 have ws : IntKind.wrap .i64 ((((a + 1) * 7 : Nat) : Int) + ((d : Nat) : Int)) = (((a + 1) * 7 + d : Nat) : Int) := by rw [w64] <;> omega
 have CP := Go.Aw.law00_Place (((a + 1) * 7 + d : Nat) : Int) (l.length : Int) (by omega) (by omega) (by omega) (by omega)
 rw [show (((a + 1) * 7 + d : Nat) : Int) % (l.length : Int) = ((((a + 1) * 7 + d) % l.length : Nat) : Int) from (Int.natCast_emod _ _).symm] at CP
 have hq : ((a + 1) * 7 + d) % l.length < l.length := Nat.mod_lt _ hn
 obtain ⟨x, hx⟩ : ∃ x, l[((a + 1) * 7 + d) % l.length]? = some x := ⟨_, List.getElem?_eq_getElem hq⟩
 have hxd : l.getD (((a + 1) * 7 + d) % l.length) 0 = x := by rw [List.getD_eq_getElem?_getD, hx]; rfl
 rw [hxd] at NF
 generalize ((a + 1) * 7 + d) % l.length = q at CP hq hx
 have ⟨hx1, hx2, hx3⟩ := at_map' encI hx
 have hq1 : ((q : Int) < (l.length : Int)) = True := eq_true (by omega)
 refine AW.dT mixed (by rfl) (by decide +kernel) fun K hK => ?_
 simp -implicitDefEqProofs only [go_sem, ↓reduceIte, Nat.reduceAdd, Nat.reduceEqDiff, reduceCtorEq, List.length_map, hz, hd, wd, wm, ws]
 refine ⟨.pure _, CP, ?_⟩
 try simp -implicitDefEqProofs only [go_sem, ↓reduceIte, Nat.reduceAdd, Nat.reduceEqDiff, hx1, hq1, hx3, encI, List.length_map]
 refine ⟨heapOK_nil rfl, ?_⟩
 refine hK _ ?_; clear hK K
 refine AW.ret (show _ ∧ ((∃ l, _ ∧ _) ∧ (_ ∧ _ ∧ _) ∧ True) from ⟨?_, ⟨1, ?_, ?_⟩, ⟨rfl, by decide, rfl⟩, trivial⟩) <;> simp -implicitDefEqProofs only [go_sem, ↓reduceIte, Nat.reduceEqDiff, liftE_cons, liftE_nil, List.map_cons, List.map_nil, NF]
end Go.Aw.T
namespace Go.Aw.T
open Go.Proofs Go.RowKit
set_option linter.unusedSimpArgs false
set_option linter.unusedVariables false
def atH (a : Nat) : List (Nat × Blk) := [(0, .row 1 [[.p (.int .i64 (a : Int))]])]
def FitOK (S : Sc) (l : List Int) (d : Nat) : Prop := ∀ (k : List UInt8) (a : Nat), a ≤ 900 → (msOf S k).2 = true → DFn Tryd.prog 60 [.p (.agg (encSc S)), .p (.str k), .p (.slice (l.map encI)), .ptr 0 0 0, .p (.int .i64 ((5 - d : Nat) : Int))] (atH a) 1 [0] (.p (.agg (encTr (fitF S l d k a).1))) (atH (fitF S l d k a).2) 0
theorem at_root {s : St} {args : List AV} {a b : Nat} (h : args[3]? = some (.ptr 0 0 0)) (hs : s.T 3 = some (.ptr 0 0 0)) : ∀ l ∈ ([0] : List Nat), l < 1 ∧ rootOK s args (atH a) (atH b) [3] (fun k => k) l := by
 intro k hk
 simp only [List.mem_singleton] at hk
 subst hk
 exact ⟨by decide, .inl ⟨3, 0, 0, 1, _, _, by simp, h, hs, rfl, rfl, rfl, by decide⟩⟩
theorem Ghost.exH {nt : Fm} {s : St} {l i j sz : Nat} {es : List (List AV)} {e : List AV} {ps : List (List PV)} (hl : s.H l = some (.row sz es)) (hi : es[i]? = some e) (hj : e[j]? = some (.ex ps)) : Ghost nt s ⟨s.T, upd s.H l (some (.row sz (es.set i (e.set j (.p (.slice ps)))))), s.nx⟩ :=
 Ghost.weakH hl hi hj rfl fun _ _ _ _ h => by
  cases h with
  | ex _ h => exact .p h
def ve1 (t : Tr) (b : Nat) : St := ⟨ofL [(3, .ptr 0 0 0), (10, .ptr 3 0 0)], ofH [(0, .row 1 [[.p (.int .i64 (b : Int))]]), (3, .row 5 [cellsT t])], 4⟩
theorem one_end {args : List AV} {t : Tr} {a b : Nat} (h : args[3]? = some (.ptr 0 0 0)) : EndD Tryd.prog #[ResultVar.cell 10 39] args (atH a) 1 [0] (.p (.agg (encTr t))) (atH b) 0 [3] .ret (ve1 t b) := by
 refine ⟨fun k => k, [.p (.agg (encTr t))], ⟨?_, trivial⟩, rfl, rfl, ?_, ?_, ?_⟩
 ·simp only [ve1, cellsT, encTr_eq]
  simp -implicitDefEqProofs only [go_sem, ↓reduceIte, Nat.reduceAdd, Nat.reduceEqDiff, Nat.reduceLeDiff, reduceCtorEq]
  done
 ·simp only [atH, ve1]
  simp -implicitDefEqProofs only [go_sem, ↓reduceIte, List.forall_mem_cons, List.not_mem_nil, false_implies, implies_true]
  first | done | decide
 ·simp [atH]
 ·exact at_root h rfl
def vr0 (S : Sc) (f : Fd) (l : List Int) (d : Nat) (v : Int) (a : Nat) : St := ⟨ofL [(2, .p (.slice (l.map encI))), (3, .ptr 0 0 0), (4, .p (.int .i64 ((5 - d : Nat) : Int))), (5, .ptr 1 0 0), (6, .ptr 2 0 0), (10, .ptr 3 0 0), (11, .p (.int .i64 v))],
 ofH [(0, .row 1 [[.p (.int .i64 (a : Int))]]), (1, .row 4 [cellsSc S]), (2, .row 5 [cellsFd f]), (3, .row 5 [[.p (.int .i64 0), .p (.int .i64 0), .p (.str []), .ex [], .ex []]])], 4⟩
def vr9 (S : Sc) (f : Fd) (l : List Int) (d : Nat) (v : Int) (a : Nat) (b : Bool) : St := ⟨ofL [(2, .p (.slice (l.map encI))), (3, .ptr 0 0 0), (4, .p (.int .i64 ((5 - d : Nat) : Int))), (5, .ptr 1 0 0), (6, .ptr 2 0 0), (10, .ptr 3 0 0), (11, .p (.int .i64 v)), (39, .p (.bool b))],
 ofH [(0, .row 1 [[.p (.int .i64 (a : Int))]]), (1, .row 4 [cellsSc S]), (2, .row 5 [cellsFd f]), (3, .row 5 [[.p (.int .i64 0), .p (.int .i64 0), .p (.str []), .ex [], .ex []]])], 4⟩
set_option maxRecDepth 100000 in
set_option maxHeartbeats 8000000 in
theorem law00_one (S : Sc) (l : List Int) (hl : l.length ≤ 200) (f : Fd) (d a : Nat) (ha : a ≤ 890) (h1 : 1 ≤ f.ty.kind) (h7 : f.ty.kind ≤ 7) (hd : f.ty.kind = 7 → ∃ e, d = e + 1 ∧ d ≤ 4 ∧ FitOK S l e ∧ (msOf S f.ty.name).2 = true) :
  DFn Tryd.prog 91 [.p (.agg (encSc S)), .p (.agg (encFd f)), .p (.slice (l.map encI)), .ptr 0 0 0, .p (.int .i64 ((5 - d : Nat) : Int))] (atH a) 1 [0] (.p (.agg (encTr (oneF l (subF S l d) f a).1))) (atH (oneF l (subF S l d) f a).2) 0 := by
 have np := nextF_pos l a
 have CN := law00_next l a (by omega) hl
 refine DFn.of [3] Tryd.func91 rfl (by decide) Tryd.ntmps91 Tryd.results91 (Nat.le_of_ble_eq_true rfl) (by simp) fun val => ?_
 simp only [avT, atH]
 refine AW.rT (by rfl) fun K hK => ?_
 simp -implicitDefEqProofs only [go_sem, ↓reduceIte, Nat.reduceAdd, Nat.reduceEqDiff, encSc, encFd]
 refine hK _ ?_; clear hK K
 refine AW.rT (by rfl) fun K hK => ?_
 simp -implicitDefEqProofs only [go_sem, ↓reduceIte, Nat.reduceAdd, Nat.reduceEqDiff, reduceCtorEq]
 refine ⟨.lend [none, some 0] [.v (.slice (l.map encI)), .ptr 0 0 1 [[.int .i64 (a : Int)]]] [none, some (.row 1 [[.int .i64 ((nextF l a).2 : Int)]])] (.int .i64 (nextF l a).1), ⟨CN, rfl, ?_⟩, ?_⟩
 ·simp -implicitDefEqProofs only [go_sem, ↓reduceIte, Nat.reduceEqDiff, reduceCtorEq, liftE_cons, liftE_nil, List.map_cons, List.map_nil, and_self]
 simp -implicitDefEqProofs only [go_sem, Nat.reduceAdd, liftE_cons, liftE_nil, List.map_cons, List.map_nil]
 refine hK _ ?_; clear hK K
 refine AW.ghost (s' := vr0 S f l d (nextF l a).1 (nextF l a).2) ?_ ?_
 ·simp only [vr0, cellsSc, cellsFd]
  refine Ghost.sub ?_ ?_ <;> simp -implicitDefEqProofs only [go_sem, ↓reduceIte, Nat.reduceEqDiff, reduceCtorEq, List.forall_mem_cons, List.not_mem_nil, false_implies, implies_true, and_self, List.all_cons, List.all_nil, Nat.reduceLT, labsInL, AV.labsIn]
  done
 have OF : ∀ (h6 : f.ty.kind ≤ 6), oneF l (subF S l d) f a = (leafF f.ty.kind (nextF l a).1, (nextF l a).2) := fun h6 => by unfold oneF; rw [if_pos ⟨h1, h6⟩]
 have O7 : ∀ (h6 : f.ty.kind = 7), oneF l (subF S l d) f a = subF S l d f.ty.name (nextF l a).2 := fun h6 => by unfold oneF; rw [if_neg (by omega)]
 generalize (nextF l a).1 = v at np OF
 generalize (nextF l a).2 = b at np OF O7
 obtain ⟨np1, np2, np3, np4⟩ := np
 simp only [vr0, cellsSc, cellsFd]
 refine AW.seq ?_
 refine AW.rT (by rfl) fun K hK => ?_
 simp -implicitDefEqProofs only [go_sem, ↓reduceIte, Nat.reduceAdd, Nat.reduceEqDiff, reduceCtorEq]
 refine hK _ ?_; clear hK K
 refine AW.block ?_
 by_cases k1 : f.ty.kind = 1
 ·have e1 := eqb k1
  have HH : oneF l (subF S l d) f a = (.mk 1 (v % 4294967296 - 2147483648) [] [] [], b) := by rw [OF (by omega)]; unfold leafF; rw [if_pos k1]
  have rm : v.tmod 4294967296 = v % 4294967296 := Int.tmod_eq_emod_of_nonneg np1
  have hz : ((4294967296 : Int) = 0) = False := by simp
  have wq : IntKind.wrap .i64 (v % 4294967296) = v % 4294967296 := by rw [w64] <;> omega
  have wr : IntKind.wrap .i64 (v % 4294967296 - 2147483648) = v % 4294967296 - 2147483648 := by rw [w64] <;> omega
  refine AW.rT (by rfl) fun K hK => ?_
  simp -implicitDefEqProofs only [go_sem, ↓reduceIte, Nat.reduceAdd, e1]
  refine hK _ ?_; clear hK K
  refine AW.cond _ (by simp -implicitDefEqProofs only [go_sem]; rfl) (fun hc => ?_) (fun hc => ?_)
  rotate_left
  ·simp at hc
  refine AW.rT (by rfl) fun K hK => ?_
  simp -implicitDefEqProofs only [go_sem, ↓reduceIte, Nat.reduceAdd, Nat.reduceEqDiff, Nat.reduceLeDiff, reduceCtorEq, rm, hz, wr, List.set_cons_zero]
  refine hK _ ?_; clear hK K
  rw [HH]
  refine AW.ghost (s' := ve1 (.mk 1 (v % 4294967296 - 2147483648) [] [] []) b) (Ghost.trans (Ghost.exH (l := 3) (i := 0) (j := 3) rfl rfl rfl) (Ghost.trans (Ghost.exH (l := 3) (i := 0) (j := 4) rfl rfl rfl) ?_)) ?_
  ·simp only [ve1, cellsT, Tr.kind, Tr.n, Tr.s, Tr.ents, Tr.rest, List.map_nil]
   refine Ghost.sub ?_ ?_ <;> simp -implicitDefEqProofs only [go_sem, ↓reduceIte, Nat.reduceEqDiff, reduceCtorEq, List.set_cons_zero, List.set_cons_succ, List.forall_mem_cons, List.not_mem_nil, false_implies, implies_true, and_self, List.all_cons, List.all_nil, Nat.reduceLT, labsInL, AV.labsIn]
   done
  exact AW.ret (one_end rfl)
 have e1 := beqf k1
 refine AW.rT (by rfl) fun K hK => ?_
 simp -implicitDefEqProofs only [go_sem, ↓reduceIte, Nat.reduceAdd, e1]
 refine hK _ ?_; clear hK K
 refine AW.cond _ (by simp -implicitDefEqProofs only [go_sem]; rfl) (fun hc => ?_) (fun hc => ?_)
 ·simp at hc
 by_cases k2 : f.ty.kind = 2
 ·have e1 := eqb k2
  have HH : oneF l (subF S l d) f a = (.mk 1 (v - 2305843009213693952) [] [] [], b) := by rw [OF (by omega)]; unfold leafF; rw [if_neg k1, if_pos k2]
  have wr : IntKind.wrap .i64 (v - 2305843009213693952) = v - 2305843009213693952 := by rw [w64] <;> omega
  refine AW.rT (by rfl) fun K hK => ?_
  simp -implicitDefEqProofs only [go_sem, ↓reduceIte, Nat.reduceAdd, Nat.reduceEqDiff, e1]
  refine hK _ ?_; clear hK K
  refine AW.cond _ (by simp -implicitDefEqProofs only [go_sem]; rfl) (fun hc => ?_) (fun hc => ?_)
  rotate_left
  ·simp at hc
  refine AW.rT (by rfl) fun K hK => ?_
  simp -implicitDefEqProofs only [go_sem, ↓reduceIte, Nat.reduceAdd, Nat.reduceEqDiff, Nat.reduceLeDiff, reduceCtorEq, wr, List.set_cons_zero]
  refine hK _ ?_; clear hK K
  rw [HH]
  refine AW.ghost (s' := ve1 (.mk 1 (v - 2305843009213693952) [] [] []) b) (Ghost.trans (Ghost.exH (l := 3) (i := 0) (j := 3) rfl rfl rfl) (Ghost.trans (Ghost.exH (l := 3) (i := 0) (j := 4) rfl rfl rfl) ?_)) ?_
  ·simp only [ve1, cellsT, Tr.kind, Tr.n, Tr.s, Tr.ents, Tr.rest, List.map_nil]
   refine Ghost.sub ?_ ?_ <;> simp -implicitDefEqProofs only [go_sem, ↓reduceIte, Nat.reduceEqDiff, reduceCtorEq, List.set_cons_zero, List.set_cons_succ, List.forall_mem_cons, List.not_mem_nil, false_implies, implies_true, and_self, List.all_cons, List.all_nil, Nat.reduceLT, labsInL, AV.labsIn]
   done
  exact AW.ret (one_end rfl)
 have e2 := beqf k2
 refine AW.rT (by rfl) fun K hK => ?_
 simp -implicitDefEqProofs only [go_sem, ↓reduceIte, Nat.reduceAdd, Nat.reduceEqDiff, e2]
 refine hK _ ?_; clear hK K
 refine AW.cond _ (by simp -implicitDefEqProofs only [go_sem]; rfl) (fun hc => ?_) (fun hc => ?_)
 ·simp at hc
 by_cases k3 : f.ty.kind = 3
 ·have e1 := eqb k3
  have HH : oneF l (subF S l d) f a = (.mk 1 (v % 2) [] [] [], b) := by rw [OF (by omega)]; unfold leafF; rw [if_neg k1, if_neg k2, if_pos k3]
  have rm : v.tmod 2 = v % 2 := Int.tmod_eq_emod_of_nonneg np1
  have hz : ((2 : Int) = 0) = False := by simp
  have wr : IntKind.wrap .i64 (v % 2) = v % 2 := by rw [w64] <;> omega
  refine AW.rT (by rfl) fun K hK => ?_
  simp -implicitDefEqProofs only [go_sem, ↓reduceIte, Nat.reduceAdd, Nat.reduceEqDiff, e1]
  refine hK _ ?_; clear hK K
  refine AW.cond _ (by simp -implicitDefEqProofs only [go_sem]; rfl) (fun hc => ?_) (fun hc => ?_)
  rotate_left
  ·simp at hc
  refine AW.rT (by rfl) fun K hK => ?_
  simp -implicitDefEqProofs only [go_sem, ↓reduceIte, Nat.reduceAdd, Nat.reduceEqDiff, Nat.reduceLeDiff, reduceCtorEq, rm, hz, List.set_cons_zero]
  refine hK _ ?_; clear hK K
  rw [HH]
  refine AW.ghost (s' := ve1 (.mk 1 (v % 2) [] [] []) b) (Ghost.trans (Ghost.exH (l := 3) (i := 0) (j := 3) rfl rfl rfl) (Ghost.trans (Ghost.exH (l := 3) (i := 0) (j := 4) rfl rfl rfl) ?_)) ?_
  ·simp only [ve1, cellsT, Tr.kind, Tr.n, Tr.s, Tr.ents, Tr.rest, List.map_nil]
   refine Ghost.sub ?_ ?_ <;> simp -implicitDefEqProofs only [go_sem, ↓reduceIte, Nat.reduceEqDiff, reduceCtorEq, List.set_cons_zero, List.set_cons_succ, List.forall_mem_cons, List.not_mem_nil, false_implies, implies_true, and_self, List.all_cons, List.all_nil, Nat.reduceLT, labsInL, AV.labsIn]
   done
  exact AW.ret (one_end rfl)
 have e3 := beqf k3
 refine AW.rT (by rfl) fun K hK => ?_
 simp -implicitDefEqProofs only [go_sem, ↓reduceIte, Nat.reduceAdd, Nat.reduceEqDiff, e3]
 refine hK _ ?_; clear hK K
 refine AW.cond _ (by simp -implicitDefEqProofs only [go_sem]; rfl) (fun hc => ?_) (fun hc => ?_)
 ·simp at hc
 by_cases k6 : f.ty.kind = 6
 ·have e1 := eqb k6
  have HH : oneF l (subF S l d) f a = (.mk 1 (v % 5) [] [] [], b) := by rw [OF (by omega)]; unfold leafF; rw [if_neg k1, if_neg k2, if_neg k3, if_pos k6]
  have rm : v.tmod 5 = v % 5 := Int.tmod_eq_emod_of_nonneg np1
  have hz : ((5 : Int) = 0) = False := by simp
  have wr : IntKind.wrap .i64 (v % 5) = v % 5 := by rw [w64] <;> omega
  refine AW.rT (by rfl) fun K hK => ?_
  simp -implicitDefEqProofs only [go_sem, ↓reduceIte, Nat.reduceAdd, Nat.reduceEqDiff, e1]
  refine hK _ ?_; clear hK K
  refine AW.cond _ (by simp -implicitDefEqProofs only [go_sem]; rfl) (fun hc => ?_) (fun hc => ?_)
  rotate_left
  ·simp at hc
  refine AW.rT (by rfl) fun K hK => ?_
  simp -implicitDefEqProofs only [go_sem, ↓reduceIte, Nat.reduceAdd, Nat.reduceEqDiff, Nat.reduceLeDiff, reduceCtorEq, rm, hz, List.set_cons_zero]
  refine hK _ ?_; clear hK K
  rw [HH]
  refine AW.ghost (s' := ve1 (.mk 1 (v % 5) [] [] []) b) (Ghost.trans (Ghost.exH (l := 3) (i := 0) (j := 3) rfl rfl rfl) (Ghost.trans (Ghost.exH (l := 3) (i := 0) (j := 4) rfl rfl rfl) ?_)) ?_
  ·simp only [ve1, cellsT, Tr.kind, Tr.n, Tr.s, Tr.ents, Tr.rest, List.map_nil]
   refine Ghost.sub ?_ ?_ <;> simp -implicitDefEqProofs only [go_sem, ↓reduceIte, Nat.reduceEqDiff, reduceCtorEq, List.set_cons_zero, List.set_cons_succ, List.forall_mem_cons, List.not_mem_nil, false_implies, implies_true, and_self, List.all_cons, List.all_nil, Nat.reduceLT, labsInL, AV.labsIn]
   done
  exact AW.ret (one_end rfl)
 have e6 := beqf k6
 refine AW.rT (by rfl) fun K hK => ?_
 simp -implicitDefEqProofs only [go_sem, ↓reduceIte, Nat.reduceAdd, Nat.reduceEqDiff, e6]
 refine hK _ ?_; clear hK K
 refine AW.cond _ (by simp -implicitDefEqProofs only [go_sem]; rfl) (fun hc => ?_) (fun hc => ?_)
 ·simp at hc
 have kt : ∀ (c : Nat), v % 6 = (c : Int) → leafF f.ty.kind v = .mk 2 0 (grN.take ([0, 1, 2, 4, 6, 7].getD c 0)) [] [] := fun c hcv => by
  unfold leafF cutF
  rw [if_neg k1, if_neg k2, if_neg k3, if_neg k6, hcv]
  rfl
 refine AW.cut (fun b' : Bool => vr9 S f l d v b b') (fun b' => b' = decide (f.ty.kind ≠ 7)) ?_ fun b' hb' => ?_
 ·by_cases k7 : f.ty.kind = 7
  ·have e4 := beqf (show f.ty.kind ≠ 4 by omega)
   have e5 := beqf (show f.ty.kind ≠ 5 by omega)
   refine AW.rT (by rfl) fun K hK => ?_
   simp -implicitDefEqProofs only [go_sem, ↓reduceIte, Nat.reduceAdd, Nat.reduceEqDiff, e4]
   refine hK _ ?_; clear hK K
   refine AW.cond _ (by simp -implicitDefEqProofs only [go_sem]; rfl) (fun hc => ?_) (fun hc => ?_)
   ·simp at hc
   refine AW.rE (by rfl) fun K hK => ?_
   simp -implicitDefEqProofs only [go_sem, ↓reduceIte, Nat.reduceAdd, Nat.reduceEqDiff, e5]
   refine hK _ ?_; clear hK K
   simp only [andThen]
   refine ⟨false, by simp [k7], ?_⟩
   simp only [vr9, cellsSc, cellsFd]
   refine Ghost.sub ?_ ?_ <;> simp -implicitDefEqProofs only [go_sem, ↓reduceIte, Nat.reduceEqDiff, reduceCtorEq, List.forall_mem_cons, List.not_mem_nil, false_implies, implies_true, and_self, List.all_cons, List.all_nil, Nat.reduceLT, labsInL, AV.labsIn]
   done
  by_cases k4 : f.ty.kind = 4
  ·have e4 := eqb k4
   refine AW.rT (by rfl) fun K hK => ?_
   simp -implicitDefEqProofs only [go_sem, ↓reduceIte, Nat.reduceAdd, Nat.reduceEqDiff, e4]
   refine hK _ ?_; clear hK K
   refine AW.cond _ (by simp -implicitDefEqProofs only [go_sem]; rfl) (fun hc => ?_) (fun hc => ?_)
   rotate_left
   ·simp at hc
   refine AW.skip ?_
   simp only [andThen]
   refine ⟨true, by simp [k7], ?_⟩
   simp only [vr9, cellsSc, cellsFd]
   refine Ghost.sub ?_ ?_ <;> simp -implicitDefEqProofs only [go_sem, ↓reduceIte, Nat.reduceEqDiff, reduceCtorEq, List.forall_mem_cons, List.not_mem_nil, false_implies, implies_true, and_self, List.all_cons, List.all_nil, Nat.reduceLT, labsInL, AV.labsIn]
   done
  ·have e4 := beqf k4
   have e5 := eqb (show f.ty.kind = 5 by omega)
   refine AW.rT (by rfl) fun K hK => ?_
   simp -implicitDefEqProofs only [go_sem, ↓reduceIte, Nat.reduceAdd, Nat.reduceEqDiff, e4]
   refine hK _ ?_; clear hK K
   refine AW.cond _ (by simp -implicitDefEqProofs only [go_sem]; rfl) (fun hc => ?_) (fun hc => ?_)
   ·simp at hc
   refine AW.rE (by rfl) fun K hK => ?_
   simp -implicitDefEqProofs only [go_sem, ↓reduceIte, Nat.reduceAdd, Nat.reduceEqDiff, e5]
   refine hK _ ?_; clear hK K
   simp only [andThen]
   refine ⟨true, by simp [k7], ?_⟩
   simp only [vr9, cellsSc, cellsFd]
   refine Ghost.sub ?_ ?_ <;> simp -implicitDefEqProofs only [go_sem, ↓reduceIte, Nat.reduceEqDiff, reduceCtorEq, List.forall_mem_cons, List.not_mem_nil, false_implies, implies_true, and_self, List.all_cons, List.all_nil, Nat.reduceLT, labsInL, AV.labsIn]
   done
 simp only [vr9, cellsSc, cellsFd]
 by_cases k7 : f.ty.kind = 7
 ·have hb : b' = false := by rw [hb']; simp [k7]
  subst hb
  obtain ⟨q, rfl, hd4, FT, hM⟩ := hd k7
  have CT := FT f.ty.name b (by omega) hM
  have OO : oneF l (subF S l (q + 1)) f a = fitF S l q f.ty.name b := by rw [O7 k7]; rfl
  rw [OO]
  have wa : IntKind.wrap .i64 (((5 - (q + 1) : Nat) : Int) + 1) = ((5 - q : Nat) : Int) := by rw [w64] <;> omega
  refine AW.cond _ (by simp -implicitDefEqProofs only [go_sem, ↓reduceIte, Nat.reduceEqDiff]; rfl) (fun hc => ?_) (fun hc => ?_)
  ·simp at hc
  refine AW.skip ?_
  simp only [andThen, inBlk]
  refine AW.rR (SeqR.ev 8 (by rfl) (by decide) ?_)
  simp -implicitDefEqProofs only [go_sem, ↓reduceIte, Nat.reduceAdd, Nat.reduceEqDiff, Nat.reduceLeDiff, reduceCtorEq, wa]
  generalize (fitF S l q f.ty.name b).1 = tr at CT
  generalize (fitF S l q f.ty.name b).2 = b2 at CT
  rw [encTr_eq tr] at CT
  refine SeqR.call (fun k => k) rfl rfl CT ⟨?_, rfl, ?_, rfl, rfl, rfl, rfl, rfl, rfl⟩ ?_
  ·simp -implicitDefEqProofs only [go_sem, ↓reduceIte, Nat.reduceEqDiff, argD, encSc]
  ·simp only [atH]
   simp -implicitDefEqProofs only [go_sem, ↓reduceIte, List.forall_mem_cons, List.not_mem_nil, false_implies, implies_true]
   first | done | decide
  simp only [atH, AV.ren]
  refine SeqR.ev 1 (by rfl) (by decide) ?_
  simp -implicitDefEqProofs only [go_sem, ↓reduceIte, Nat.reduceAdd, Nat.reduceEqDiff, Nat.reduceLeDiff, reduceCtorEq, lift2, goneU, newU, List.map_cons, List.map_nil, putH, Nat.reduceLT]
  refine SeqR.last rfl ?_
  refine AW.ghost (s' := ve1 tr b2) ?_ (AW.ret (one_end rfl))
  simp only [ve1, cellsT]
  refine Ghost.sub ?_ ?_ <;> simp -implicitDefEqProofs only [go_sem, ↓reduceIte, Nat.reduceEqDiff, reduceCtorEq, List.forall_mem_cons, List.not_mem_nil, false_implies, implies_true, and_self, List.all_cons, List.all_nil, Nat.reduceLT, labsInL, AV.labsIn]
  done
 have hb : b' = true := by rw [hb']; simp [k7]
 subst hb
 have rm : v.tmod 6 = v % 6 := Int.tmod_eq_emod_of_nonneg np1
 have hz : ((6 : Int) = 0) = False := by simp
 refine AW.cond _ (by simp -implicitDefEqProofs only [go_sem, ↓reduceIte, Nat.reduceEqDiff]; rfl) (fun hc => ?_) (fun hc => ?_)
 rotate_left
 ·simp at hc
 rw [OF (by omega)]
 have h6 : v % 6 = 0 ∨ v % 6 = 1 ∨ v % 6 = 2 ∨ v % 6 = 3 ∨ v % 6 = 4 ∨ v % 6 = 5 := by omega
 rcases h6 with w0 | w0 | w0 | w0 | w0 | w0
 ·rw [kt 0 w0]
  rw [w0] at rm
  have wq : IntKind.wrap .i64 0 = 0 := by decide
  refine AW.rT (by rfl) fun K hK => ?_
  simp -implicitDefEqProofs only [go_sem, ↓reduceIte, Nat.reduceAdd, Nat.reduceMul, Nat.reduceEqDiff, Nat.reduceLeDiff, reduceCtorEq, Int.reduceToNat, rm, hz]
  refine ⟨by decide, by decide, ?_⟩
  refine hK _ ?_; clear hK K
  refine AW.ghost (s' := ve1 (.mk 2 0 (grN.take ([0, 1, 2, 4, 6, 7].getD 0 0)) [] []) b) (Ghost.trans (Ghost.exH (l := 3) (i := 0) (j := 3) rfl rfl rfl) (Ghost.trans (Ghost.exH (l := 3) (i := 0) (j := 4) rfl rfl rfl) ?_)) ?_
  ·simp only [ve1, cellsT, Tr.kind, Tr.n, Tr.s, Tr.ents, Tr.rest, List.map_nil]
   refine Ghost.sub ?_ ?_ <;> simp -implicitDefEqProofs only [go_sem, ↓reduceIte, Nat.reduceEqDiff, reduceCtorEq, List.set_cons_zero, List.set_cons_succ, List.forall_mem_cons, List.not_mem_nil, false_implies, implies_true, and_self, List.all_cons, List.all_nil, Nat.reduceLT, labsInL, AV.labsIn]
   all_goals first | rfl | skip
  exact AW.ret (one_end rfl)
 ·rw [kt 1 w0]
  rw [w0] at rm
  have wq : IntKind.wrap .i64 1 = 1 := by decide
  refine AW.rT (by rfl) fun K hK => ?_
  simp -implicitDefEqProofs only [go_sem, ↓reduceIte, Nat.reduceAdd, Nat.reduceMul, Nat.reduceEqDiff, Nat.reduceLeDiff, reduceCtorEq, Int.reduceToNat, rm, hz]
  refine ⟨by decide, by decide, ?_⟩
  refine hK _ ?_; clear hK K
  refine AW.ghost (s' := ve1 (.mk 2 0 (grN.take ([0, 1, 2, 4, 6, 7].getD 1 0)) [] []) b) (Ghost.trans (Ghost.exH (l := 3) (i := 0) (j := 3) rfl rfl rfl) (Ghost.trans (Ghost.exH (l := 3) (i := 0) (j := 4) rfl rfl rfl) ?_)) ?_
  ·simp only [ve1, cellsT, Tr.kind, Tr.n, Tr.s, Tr.ents, Tr.rest, List.map_nil]
   refine Ghost.sub ?_ ?_ <;> simp -implicitDefEqProofs only [go_sem, ↓reduceIte, Nat.reduceEqDiff, reduceCtorEq, List.set_cons_zero, List.set_cons_succ, List.forall_mem_cons, List.not_mem_nil, false_implies, implies_true, and_self, List.all_cons, List.all_nil, Nat.reduceLT, labsInL, AV.labsIn]
   all_goals first | rfl | skip
  exact AW.ret (one_end rfl)
 ·rw [kt 2 w0]
  rw [w0] at rm
  have wq : IntKind.wrap .i64 2 = 2 := by decide
  refine AW.rT (by rfl) fun K hK => ?_
  simp -implicitDefEqProofs only [go_sem, ↓reduceIte, Nat.reduceAdd, Nat.reduceMul, Nat.reduceEqDiff, Nat.reduceLeDiff, reduceCtorEq, Int.reduceToNat, rm, hz]
  refine ⟨by decide, by decide, ?_⟩
  refine hK _ ?_; clear hK K
  refine AW.ghost (s' := ve1 (.mk 2 0 (grN.take ([0, 1, 2, 4, 6, 7].getD 2 0)) [] []) b) (Ghost.trans (Ghost.exH (l := 3) (i := 0) (j := 3) rfl rfl rfl) (Ghost.trans (Ghost.exH (l := 3) (i := 0) (j := 4) rfl rfl rfl) ?_)) ?_
  ·simp only [ve1, cellsT, Tr.kind, Tr.n, Tr.s, Tr.ents, Tr.rest, List.map_nil]
   refine Ghost.sub ?_ ?_ <;> simp -implicitDefEqProofs only [go_sem, ↓reduceIte, Nat.reduceEqDiff, reduceCtorEq, List.set_cons_zero, List.set_cons_succ, List.forall_mem_cons, List.not_mem_nil, false_implies, implies_true, and_self, List.all_cons, List.all_nil, Nat.reduceLT, labsInL, AV.labsIn]
   all_goals first | rfl | skip
  exact AW.ret (one_end rfl)
 ·rw [kt 3 w0]
  rw [w0] at rm
  have wq : IntKind.wrap .i64 3 = 3 := by decide
  refine AW.rT (by rfl) fun K hK => ?_
  simp -implicitDefEqProofs only [go_sem, ↓reduceIte, Nat.reduceAdd, Nat.reduceMul, Nat.reduceEqDiff, Nat.reduceLeDiff, reduceCtorEq, Int.reduceToNat, rm, hz]
  refine ⟨by decide, by decide, ?_⟩
  refine hK _ ?_; clear hK K
  refine AW.ghost (s' := ve1 (.mk 2 0 (grN.take ([0, 1, 2, 4, 6, 7].getD 3 0)) [] []) b) (Ghost.trans (Ghost.exH (l := 3) (i := 0) (j := 3) rfl rfl rfl) (Ghost.trans (Ghost.exH (l := 3) (i := 0) (j := 4) rfl rfl rfl) ?_)) ?_
  ·simp only [ve1, cellsT, Tr.kind, Tr.n, Tr.s, Tr.ents, Tr.rest, List.map_nil]
   refine Ghost.sub ?_ ?_ <;> simp -implicitDefEqProofs only [go_sem, ↓reduceIte, Nat.reduceEqDiff, reduceCtorEq, List.set_cons_zero, List.set_cons_succ, List.forall_mem_cons, List.not_mem_nil, false_implies, implies_true, and_self, List.all_cons, List.all_nil, Nat.reduceLT, labsInL, AV.labsIn]
   all_goals first | rfl | skip
  exact AW.ret (one_end rfl)
 ·rw [kt 4 w0]
  rw [w0] at rm
  have wq : IntKind.wrap .i64 4 = 4 := by decide
  refine AW.rT (by rfl) fun K hK => ?_
  simp -implicitDefEqProofs only [go_sem, ↓reduceIte, Nat.reduceAdd, Nat.reduceMul, Nat.reduceEqDiff, Nat.reduceLeDiff, reduceCtorEq, Int.reduceToNat, rm, hz]
  refine ⟨by decide, by decide, ?_⟩
  refine hK _ ?_; clear hK K
  refine AW.ghost (s' := ve1 (.mk 2 0 (grN.take ([0, 1, 2, 4, 6, 7].getD 4 0)) [] []) b) (Ghost.trans (Ghost.exH (l := 3) (i := 0) (j := 3) rfl rfl rfl) (Ghost.trans (Ghost.exH (l := 3) (i := 0) (j := 4) rfl rfl rfl) ?_)) ?_
  ·simp only [ve1, cellsT, Tr.kind, Tr.n, Tr.s, Tr.ents, Tr.rest, List.map_nil]
   refine Ghost.sub ?_ ?_ <;> simp -implicitDefEqProofs only [go_sem, ↓reduceIte, Nat.reduceEqDiff, reduceCtorEq, List.set_cons_zero, List.set_cons_succ, List.forall_mem_cons, List.not_mem_nil, false_implies, implies_true, and_self, List.all_cons, List.all_nil, Nat.reduceLT, labsInL, AV.labsIn]
   all_goals first | rfl | skip
  exact AW.ret (one_end rfl)
 ·rw [kt 5 w0]
  rw [w0] at rm
  have wq : IntKind.wrap .i64 5 = 5 := by decide
  refine AW.rT (by rfl) fun K hK => ?_
  simp -implicitDefEqProofs only [go_sem, ↓reduceIte, Nat.reduceAdd, Nat.reduceMul, Nat.reduceEqDiff, Nat.reduceLeDiff, reduceCtorEq, Int.reduceToNat, rm, hz]
  refine ⟨by decide, by decide, ?_⟩
  refine hK _ ?_; clear hK K
  refine AW.ghost (s' := ve1 (.mk 2 0 (grN.take ([0, 1, 2, 4, 6, 7].getD 5 0)) [] []) b) (Ghost.trans (Ghost.exH (l := 3) (i := 0) (j := 3) rfl rfl rfl) (Ghost.trans (Ghost.exH (l := 3) (i := 0) (j := 4) rfl rfl rfl) ?_)) ?_
  ·simp only [ve1, cellsT, Tr.kind, Tr.n, Tr.s, Tr.ents, Tr.rest, List.map_nil]
   refine Ghost.sub ?_ ?_ <;> simp -implicitDefEqProofs only [go_sem, ↓reduceIte, Nat.reduceEqDiff, reduceCtorEq, List.set_cons_zero, List.set_cons_succ, List.forall_mem_cons, List.not_mem_nil, false_implies, implies_true, and_self, List.all_cons, List.all_nil, Nat.reduceLT, labsInL, AV.labsIn]
   all_goals first | rfl | skip
  exact AW.ret (one_end rfl)
end Go.Aw.T
namespace Go.Aw.T
open Go.Proofs
set_option linter.unusedSimpArgs false
set_option linter.unusedVariables false
def yd (S : Sc) (m : Ms) (t : Tr) (i : Nat) (L : List (Nat × AV)) (H : List (Nat × Blk)) (n : Nat) : St :=
 ⟨ofL ((3, .ptr 0 0 0) :: (4, .ptr 1 0 0) :: (6, .ptr 2 0 0) :: (7, .ptr 3 0 0) :: (16, .p (.slice (t.ents.map encEn))) :: (17, .p (.int .i64 (t.ents.length : Int))) :: (18, .p (.int .i64 (i : Int))) :: L),
 ofH ((0, .row 4 [cellsSc S]) :: (1, .row 3 [cellsMs m]) :: (2, .row 5 [[.p (.int .i64 0), .p (.int .i64 0), .p (.str []), .ex [], .ex []]]) :: (3, .row 5 [[.p (.int .i64 3), .p (.int .i64 0), .p (.str []), .own 4, .ex []]]) :: (4, .row 2 (liftE ((prE S m (t.ents.take i)).map encEn))) :: H), n⟩
def yw (es : List (Int × List Tr)) : St := ⟨ofL [(6, .ptr 2 0 0), (7, .ptr 3 0 0)], ofH [(2, .row 5 [[.p (.int .i64 0), .p (.int .i64 0), .p (.str []), .ex [], .ex []]]), (3, .row 5 [[.p (.int .i64 3), .p (.int .i64 0), .p (.str []), .p (.slice (es.map encEn)), .p (.slice [])]])], 4⟩
set_option maxRecDepth 100000 in
set_option maxHeartbeats 8000000 in
theorem project_message (S : Sc) (hS : SizS S) : ∀ (t : Tr) (m : Ms), m.fields.length ≤ 1000000 → lensT t = true → strT t = true → rightT t = true → PFn Tryd.prog 74 [.agg (encSc S), .agg (encMs m), .agg (encTr t)] (.agg (encTr (prM S m t))) := by
 intro t
 induction h : SizeOf.sizeOf t using Nat.strongRecOn generalizing t with
 | _ sz ih =>
 subst h
 intro m hm hlt hst hrt
 obtain ⟨la1, la2, la3⟩ := lensT_mk hlt
 obtain ⟨st1, st2⟩ := strT_mk hst
 have rE := right_ent hrt
 have CF : ∀ k, PFn Tryd.prog 67 [.agg (encMs m), .int .i64 k] (.tuple [.agg (encFd (fldOf m k).1), .bool (fldOf m k).2]) := fun k => check_Field m k hm
 have plen := fun i => prE_len S m (t.ents.take i)
 refine PFn.of Tryd.func74 rfl (by decide) Tryd.ntmps74 Tryd.results74 (Nat.le_of_ble_eq_true rfl) ?_
 simp only [argsT]
 simp only [encMs, encFd] at CF
 refine AW.rT (by rfl) fun K hK => ?_
 simp -implicitDefEqProofs only [go_sem, ↓reduceIte, Nat.reduceAdd, Nat.reduceEqDiff, reduceCtorEq, encTr_eq, encSc, encMs]
 refine hK _ ?_; clear hK K
 refine AW.rT (by rfl) fun K hK => ?_
 simp -implicitDefEqProofs only [go_sem, ↓reduceIte, Nat.reduceAdd, Nat.reduceEqDiff, Nat.reduceLeDiff]
 refine hK _ ?_; clear hK K
 refine AW.seq ?_
 refine AW.rT (by rfl) fun K hK => ?_
 simp -implicitDefEqProofs only [go_sem, ↓reduceIte, Nat.reduceAdd, Nat.reduceEqDiff, List.length_map]
 refine hK _ ?_; clear hK K
 refine AW.block ?_
 refine AW.loop (fun i : Nat => yd S m t i [] [] 5) (fun i => i ≤ t.ents.length) (fun i => t.ents.length - i) 0 ?_ (by simp) fun i hi => ?_
 ·refine Ghost.trans (Ghost.nilH (l := 5) (i := 0) (j := 3) (sz' := 2) rfl rfl rfl) ?_
  simp only [yd, cellsSc, cellsMs, List.take_zero, prE]
  refine Ghost.ent (fun l => if l = 2 then 3 else if l = 3 then 5 else if l = 4 then 11 else l) ?_ ?_ ?_ <;> simp -implicitDefEqProofs only [go_sem, ↓reduceIte, Nat.reduceEqDiff, reduceCtorEq, List.map_nil, liftE_nil, List.set_cons_zero, List.set_cons_succ, List.forall_mem_cons, List.not_mem_nil, false_implies, implies_true, and_self, List.all_cons, List.all_nil, Nat.reduceLT, labsInL, AV.labsIn]
  all_goals first | rfl | skip
 simp only [yd, cellsSc, cellsMs]
 by_cases hil : i < t.ents.length
 case neg =>
  have hc1 : ((i : Int) < (t.ents.length : Int)) = False := eq_false (by omega)
  rw [List.take_of_length_le (by omega)]
  refine AW.rT (by rfl) fun K hK => ?_
  simp -implicitDefEqProofs only [go_sem, ↓reduceIte, Nat.reduceAdd, Nat.reduceEqDiff, hc1]
  refine hK _ ?_; clear hK K
  refine AW.seq ?_
  refine AW.cond _ (by simp -implicitDefEqProofs only [go_sem]; rfl) (fun hc => ?_) (fun hc => ?_)
  ·simp at hc
  refine AW.exit ?_
  simp only [andThen, inBlk, ↓reduceIte]
  refine AW.ghost (s' := yw (prE S m t.ents)) (Ghost.trans (Ghost.freeze (lb := 4) (ps := (prE S m t.ents).map encEn) rfl (unlift_liftE _)) (Ghost.trans (Ghost.exH (l := 3) (i := 0) (j := 4) rfl rfl rfl) ?_)) ?_
  ·simp only [yw]
   refine Ghost.sub ?_ ?_ <;> simp -implicitDefEqProofs only [go_sem, ↓reduceIte, Nat.reduceEqDiff, reduceCtorEq, thaw, thaw1, Option.map_some, List.map_cons, List.map_nil, List.set_cons_zero, List.set_cons_succ, List.forall_mem_cons, List.not_mem_nil, false_implies, implies_true, and_self, List.all_cons, List.all_nil, Nat.reduceLT, labsInL, AV.labsIn]
   done
  have pm : encTr (prM S m t) = [.int .i64 3, .int .i64 0, .str [], .slice ((prE S m t.ents).map encEn), .slice []] := by rw [prM_mk, encTr_eq]; rfl
  simp only [yw]
  refine AW.rT (by rfl) fun K hK => ?_
  simp -implicitDefEqProofs only [go_sem, ↓reduceIte, Nat.reduceAdd, Nat.reduceEqDiff, Nat.reduceLeDiff]
  refine hK _ ?_; clear hK K
  refine AW.ret ?_
  simp -implicitDefEqProofs only [go_sem, ↓reduceIte, Nat.reduceAdd, Nat.reduceEqDiff, Nat.reduceLeDiff, pm]
  done
 obtain ⟨e, he⟩ : ∃ e, t.ents[i]? = some e := ⟨_, List.getElem?_eq_getElem hil⟩
 have ⟨he1, he2, he3⟩ := at_map' encEn he
 have ⟨le1, le2⟩ := lensE_at la3 he
 have hem := List.mem_of_getElem? he
 have ⟨re1, re2⟩ := rE e hem
 have hc1 : ((i : Int) < (t.ents.length : Int)) = True := eq_true (by omega)
 have C1 := CF e.1
 have w1 : IntKind.wrap .i64 ((i : Int) + 1) = ((i + 1 : Nat) : Int) := by rw [w64] <;> omega
 have PT := prE_take (S := S) (m := m) he
 have EP : entP S m e = if (fldOf m e.1).2 = true ∧ (fieldP S (fldOf m e.1).1 e.2).2 = true then [(e.1, (fieldP S (fldOf m e.1).1 e.2).1)] else [] := rfl
 rcases hfo : fldOf m e.1 with ⟨f, b⟩
 rw [hfo] at C1 EP
 simp only at C1 EP
 refine AW.rT (by rfl) fun K hK => ?_
 simp -implicitDefEqProofs only [go_sem, ↓reduceIte, Nat.reduceAdd, Nat.reduceEqDiff, hc1]
 refine hK _ ?_; clear hK K
 refine AW.seq ?_
 refine AW.cond _ (by simp -implicitDefEqProofs only [go_sem]; rfl) (fun hc => ?_) (fun hc => ?_)
 rotate_left
 ·simp at hc
 refine AW.skip ?_
 simp only [andThen]
 refine AW.seq ?_
 refine AW.block ?_
 refine AW.rT (by rfl) fun K hK => ?_
 simp -implicitDefEqProofs only [go_sem, ↓reduceIte, Nat.reduceAdd, Nat.reduceEqDiff, Nat.reduceLeDiff, he1, he3, hc1, encEn, List.length_map]
 refine hK _ ?_; clear hK K
 refine AW.rT (by rfl) fun K hK => ?_
 simp -implicitDefEqProofs only [go_sem, ↓reduceIte, Nat.reduceAdd, Nat.reduceEqDiff, Nat.reduceLeDiff]
 refine ⟨.pure _, C1, ?_⟩
 try simp -implicitDefEqProofs only [go_sem, ↓reduceIte, Nat.reduceAdd, Nat.reduceEqDiff, Nat.reduceLeDiff]
 refine hK _ ?_; clear hK K
 refine AW.seq ?_
 cases b with
 | false =>
  rw [if_neg (by simp)] at EP
  rw [EP, List.append_nil] at PT
  refine AW.rT (by rfl) fun K hK => ?_
  simp -implicitDefEqProofs only [go_sem, Nat.reduceAdd]
  refine hK _ ?_; clear hK K
  refine AW.cond _ (by simp -implicitDefEqProofs only [go_sem]; rfl) (fun hc => ?_) (fun hc => ?_)
  rotate_left
  ·simp at hc
  refine AW.exit ?_
  simp only [andThen, inBlk, ↓reduceIte]
  refine AW.rE (by rfl) fun K hK => ?_
  simp -implicitDefEqProofs only [go_sem, ↓reduceIte, Nat.reduceAdd, Nat.reduceEqDiff, w1]
  refine hK _ ?_; clear hK K
  refine ⟨i + 1, by omega, by omega, ?_⟩
  show Ghost _ _ (yd S m t (i + 1) [] [] 5)
  simp only [yd, cellsSc, cellsMs]
  rw [PT]
  refine Ghost.sub ?_ ?_ <;> simp -implicitDefEqProofs only [go_sem, ↓reduceIte, Nat.reduceEqDiff, reduceCtorEq, List.forall_mem_cons, List.not_mem_nil, false_implies, implies_true, and_self, labsIn_lift, List.all_cons, List.all_nil, Nat.reduceLT, labsInL, AV.labsIn]
  done
 | true =>
 have CP := project_field S hS f e.2 re1 le1 (fun x hx => (strT_mk (st2 e hem x hx)).1) (fun x hx m' hm' => by
  obtain ⟨j, hj⟩ := List.getElem?_of_mem hx
  exact ih _ (size_ent he hj) x rfl m' hm' (lensTs_at le2 hj) (st2 e hem x hx) (re2 x hx))
 simp only [encSc, encFd] at CP
 refine AW.rT (by rfl) fun K hK => ?_
 simp -implicitDefEqProofs only [go_sem, Nat.reduceAdd]
 refine hK _ ?_; clear hK K
 refine AW.cond _ (by simp -implicitDefEqProofs only [go_sem]; rfl) (fun hc => ?_) (fun hc => ?_)
 ·simp at hc
 refine AW.skip ?_
 simp only [andThen]
 rcases hfp : fieldP S f e.2 with ⟨ps, ok⟩
 rw [hfp] at CP EP
 simp only at CP EP
 refine AW.rT (by rfl) fun K hK => ?_
 simp -implicitDefEqProofs only [go_sem, ↓reduceIte, Nat.reduceAdd, Nat.reduceEqDiff, Nat.reduceLeDiff, reduceCtorEq]
 refine ⟨.pure _, CP, ?_⟩
 try simp -implicitDefEqProofs only [go_sem, ↓reduceIte, Nat.reduceAdd, Nat.reduceEqDiff]
 refine hK _ ?_; clear hK K
 refine AW.rT (by rfl) fun K hK => ?_
 simp -implicitDefEqProofs only [go_sem, Nat.reduceAdd]
 refine hK _ ?_; clear hK K
 cases ok with
 | false =>
  rw [if_neg (by simp)] at EP
  rw [EP, List.append_nil] at PT
  refine AW.cond _ (by simp -implicitDefEqProofs only [go_sem]; rfl) (fun hc => ?_) (fun hc => ?_)
  ·simp at hc
  refine AW.skip ?_
  simp only [andThen, inBlk]
  refine AW.rE (by rfl) fun K hK => ?_
  simp -implicitDefEqProofs only [go_sem, ↓reduceIte, Nat.reduceAdd, Nat.reduceEqDiff, w1]
  refine hK _ ?_; clear hK K
  refine ⟨i + 1, by omega, by omega, ?_⟩
  show Ghost _ _ (yd S m t (i + 1) [] [] 5)
  simp only [yd, cellsSc, cellsMs]
  rw [PT]
  refine Ghost.sub ?_ ?_ <;> simp -implicitDefEqProofs only [go_sem, ↓reduceIte, Nat.reduceEqDiff, reduceCtorEq, List.forall_mem_cons, List.not_mem_nil, false_implies, implies_true, and_self, labsIn_lift, List.all_cons, List.all_nil, Nat.reduceLT, labsInL, AV.labsIn]
  done
 | true =>
  rw [if_pos (by simp)] at EP
  rw [EP] at PT
  have pl := plen i
  rw [List.length_take] at pl
  have e8 : liftE ((prE S m (t.ents.take i)).map encEn) ++ [[AV.p (.int .i64 e.1), .p (.slice (ps.map encTr))]] = liftE ((prE S m (t.ents.take (i + 1))).map encEn) := by
   rw [PT]
   simp [liftE, encEn]
  refine AW.cond _ (by simp -implicitDefEqProofs only [go_sem]; rfl) (fun hc => ?_) (fun hc => ?_)
  rotate_left
  ·simp at hc
  refine AW.rE (by rfl) fun K hK => ?_
  simp -implicitDefEqProofs only [go_sem, ↓reduceIte, Nat.reduceAdd, Nat.reduceMul, Nat.reduceEqDiff, Nat.reduceLeDiff, reduceCtorEq]
  refine ⟨⟨by simp, by simp [oneAll, AV.one, PV.one], by simp⟩, by simp [liftE_length]; omega, ?_⟩
  try simp -implicitDefEqProofs only [go_sem, ↓reduceIte, Nat.reduceAdd, Nat.reduceMul, Nat.reduceEqDiff, Nat.reduceLeDiff, reduceCtorEq, Int.reduceToNat]
  refine hK _ ?_; clear hK K
  simp only [andThen, inBlk]
  refine AW.rE (by rfl) fun K hK => ?_
  simp -implicitDefEqProofs only [go_sem, ↓reduceIte, Nat.reduceAdd, Nat.reduceEqDiff, w1]
  refine hK _ ?_; clear hK K
  refine ⟨i + 1, by omega, by omega, ?_⟩
  show Ghost _ _ (yd S m t (i + 1) [] [] 5)
  simp only [yd, cellsSc, cellsMs]
  rw [← e8]
  refine Ghost.ent (fun l => if l = 4 then 40 else l) ?_ ?_ ?_ <;> simp -implicitDefEqProofs only [go_sem, ↓reduceIte, Nat.reduceEqDiff, reduceCtorEq, List.forall_mem_cons, List.not_mem_nil, false_implies, implies_true, and_self, map_renL_lift, labsIn_lift, List.all_append, List.all_cons, List.all_nil, List.map_append, Nat.reduceLT, labsInL, AV.labsIn]
  all_goals first | rfl | skip
set_option maxRecDepth 100000 in
set_option maxHeartbeats 4000000 in
theorem project_Project (S : Sc) (k : List UInt8) (t : Tr) (L : LensS S) (hlt : lensT t = true) (hst : strT t = true) : PFn Tryd.prog 44 [.agg (encSc S), .str k, .agg (encTr t)] (.tuple [.agg (encTr (projP S k t).1), .bool (projP S k t).2]) := by
 have C1 := check_Check S L
 have C2 : PFn Tryd.prog 62 [.agg (encSc S), .str k] (.tuple [.agg (encMs (msOf S k).1), .bool (msOf S k).2]) := check_Message S k L.m
 have C3 := value_Check t hlt
 have C4 := fun h0 : checkC S = 0 => fun hr : rightT t = true => project_message S (siz_right (right_of h0)) t (msOf S k).1 (siz_of (siz_right (right_of h0)) k) hlt hst hr
 have PP : projP S k t = if (msOf S k).2 = false ∨ checkC S ≠ 0 ∨ t.kind ≠ 3 ∨ okT t = false then (zeroTr, false) else (prM S (msOf S k).1 t, true) := rfl
 have zz : encTr zeroTr = [.int .i64 0, .int .i64 0, .str [], .slice [], .slice []] := by rw [encTr_eq]; rfl
 rcases hmo : msOf S k with ⟨m, b⟩
 rw [hmo] at C2 C4 PP
 simp only [encSc, encMs, encTr_eq t] at C1 C2 C3 C4 PP
 refine PFn.of Tryd.func44 rfl (by decide) Tryd.ntmps44 Tryd.results44 (Nat.le_of_ble_eq_true rfl) ?_
 simp only [argsT]
 refine AW.rT (by rfl) fun K hK => ?_
 simp -implicitDefEqProofs only [go_sem, ↓reduceIte, Nat.reduceAdd, Nat.reduceEqDiff, reduceCtorEq, encSc, encTr_eq]
 refine hK _ ?_; clear hK K
 refine AW.rT (by rfl) fun K hK => ?_
 simp -implicitDefEqProofs only [go_sem, ↓reduceIte, Nat.reduceAdd, Nat.reduceEqDiff, Nat.reduceLeDiff, reduceCtorEq]
 refine ⟨.pure _, C2, ?_⟩
 try simp -implicitDefEqProofs only [go_sem, ↓reduceIte, Nat.reduceAdd, Nat.reduceEqDiff, Nat.reduceLeDiff]
 refine hK _ ?_; clear hK K
 refine AW.seq ?_
 cases b with
 | false =>
  have HH : projP S k t = (zeroTr, false) := by rw [PP, if_pos (.inl rfl)]
  refine AW.rT (by rfl) fun K hK => ?_
  simp -implicitDefEqProofs only [go_sem, ↓reduceIte, Nat.reduceAdd, Nat.reduceEqDiff]
  refine hK _ ?_; clear hK K
  refine AW.cond _ (by simp -implicitDefEqProofs only [go_sem]; rfl) (fun hc => ?_) (fun hc => ?_)
  rotate_left
  ·simp at hc
  refine AW.rT (by rfl) fun K hK => ?_
  simp -implicitDefEqProofs only [go_sem, ↓reduceIte, Nat.reduceAdd, Nat.reduceEqDiff, Nat.reduceLeDiff]
  refine hK _ ?_; clear hK K
  rw [HH]
  refine AW.ret ?_
  simp -implicitDefEqProofs only [go_sem, ↓reduceIte, Nat.reduceAdd, Nat.reduceEqDiff, Nat.reduceLeDiff, zz]
  done
 | true =>
 by_cases h0 : checkC S = 0
 case neg =>
  have b0 : (checkC S != 0) = true := by simpa using h0
  have HH : projP S k t = (zeroTr, false) := by rw [PP, if_pos (.inr (.inl h0))]
  refine AW.rT (by rfl) fun K hK => ?_
  simp -implicitDefEqProofs only [go_sem, ↓reduceIte, Nat.reduceAdd, Nat.reduceEqDiff, Nat.reduceLeDiff, reduceCtorEq]
  refine ⟨.pure _, C1, ?_⟩
  try simp -implicitDefEqProofs only [go_sem, ↓reduceIte, Nat.reduceAdd, Nat.reduceEqDiff, b0]
  refine hK _ ?_; clear hK K
  refine AW.cond _ (by simp -implicitDefEqProofs only [go_sem]; rfl) (fun hc => ?_) (fun hc => ?_)
  rotate_left
  ·simp at hc
  refine AW.rT (by rfl) fun K hK => ?_
  simp -implicitDefEqProofs only [go_sem, ↓reduceIte, Nat.reduceAdd, Nat.reduceEqDiff, Nat.reduceLeDiff]
  refine hK _ ?_; clear hK K
  rw [HH]
  refine AW.ret ?_
  simp -implicitDefEqProofs only [go_sem, ↓reduceIte, Nat.reduceAdd, Nat.reduceEqDiff, Nat.reduceLeDiff, zz]
  done
 have b0 : (checkC S != 0) = false := by simp [h0]
 have C4 := C4 h0
 by_cases h3 : t.kind = 3
 case neg =>
  have b3 : (t.kind != 3) = true := by simpa using h3
  have HH : projP S k t = (zeroTr, false) := by rw [PP, if_pos (.inr (.inr (.inl h3)))]
  refine AW.rT (by rfl) fun K hK => ?_
  simp -implicitDefEqProofs only [go_sem, ↓reduceIte, Nat.reduceAdd, Nat.reduceEqDiff, Nat.reduceLeDiff, reduceCtorEq]
  refine ⟨.pure _, C1, ?_⟩
  try simp -implicitDefEqProofs only [go_sem, ↓reduceIte, Nat.reduceAdd, Nat.reduceEqDiff, b0, b3]
  refine hK _ ?_; clear hK K
  refine AW.cond _ (by simp -implicitDefEqProofs only [go_sem]; rfl) (fun hc => ?_) (fun hc => ?_)
  rotate_left
  ·simp at hc
  refine AW.rT (by rfl) fun K hK => ?_
  simp -implicitDefEqProofs only [go_sem, ↓reduceIte, Nat.reduceAdd, Nat.reduceEqDiff, Nat.reduceLeDiff]
  refine hK _ ?_; clear hK K
  rw [HH]
  refine AW.ret ?_
  simp -implicitDefEqProofs only [go_sem, ↓reduceIte, Nat.reduceAdd, Nat.reduceEqDiff, Nat.reduceLeDiff, zz]
  done
 have b3 : (t.kind != 3) = false := by simp [h3]
 cases ho : okT t with
 | false =>
  rw [ho] at C3
  have HH : projP S k t = (zeroTr, false) := by rw [PP, if_pos (.inr (.inr (.inr ho)))]
  refine AW.rT (by rfl) fun K hK => ?_
  simp -implicitDefEqProofs only [go_sem, ↓reduceIte, Nat.reduceAdd, Nat.reduceEqDiff, Nat.reduceLeDiff, reduceCtorEq]
  refine ⟨.pure _, C1, ?_⟩
  try simp -implicitDefEqProofs only [go_sem, ↓reduceIte, Nat.reduceAdd, Nat.reduceEqDiff, Nat.reduceLeDiff, b0, b3]
  refine ⟨.pure _, C3, ?_⟩
  try simp -implicitDefEqProofs only [go_sem, ↓reduceIte, Nat.reduceAdd, Nat.reduceEqDiff]
  refine hK _ ?_; clear hK K
  refine AW.cond _ (by simp -implicitDefEqProofs only [go_sem]; rfl) (fun hc => ?_) (fun hc => ?_)
  rotate_left
  ·simp at hc
  refine AW.rT (by rfl) fun K hK => ?_
  simp -implicitDefEqProofs only [go_sem, ↓reduceIte, Nat.reduceAdd, Nat.reduceEqDiff, Nat.reduceLeDiff]
  refine hK _ ?_; clear hK K
  rw [HH]
  refine AW.ret ?_
  simp -implicitDefEqProofs only [go_sem, ↓reduceIte, Nat.reduceAdd, Nat.reduceEqDiff, Nat.reduceLeDiff, zz]
  done
 | true =>
  rw [ho] at C3
  have HH : projP S k t = (prM S m t, true) := by rw [PP, if_neg (by simp [h0, h3, ho])]
  have C5 := C4 (ok_right ho)
  rw [HH]
  generalize prM S m t = z at C5
  rw [encTr_eq z] at C5 ⊢
  refine AW.rT (by rfl) fun K hK => ?_
  simp -implicitDefEqProofs only [go_sem, ↓reduceIte, Nat.reduceAdd, Nat.reduceEqDiff, Nat.reduceLeDiff, reduceCtorEq]
  refine ⟨.pure _, C1, ?_⟩
  try simp -implicitDefEqProofs only [go_sem, ↓reduceIte, Nat.reduceAdd, Nat.reduceEqDiff, Nat.reduceLeDiff, b0, b3]
  refine ⟨.pure _, C3, ?_⟩
  try simp -implicitDefEqProofs only [go_sem, ↓reduceIte, Nat.reduceAdd, Nat.reduceEqDiff]
  refine hK _ ?_; clear hK K
  refine AW.cond _ (by simp -implicitDefEqProofs only [go_sem]; rfl) (fun hc => ?_) (fun hc => ?_)
  ·simp at hc
  refine AW.skip ?_
  simp only [andThen]
  refine AW.rT (by rfl) fun K hK => ?_
  simp -implicitDefEqProofs only [go_sem, ↓reduceIte, Nat.reduceAdd, Nat.reduceEqDiff, Nat.reduceLeDiff, reduceCtorEq]
  refine ⟨.pure _, C5, ?_⟩
  try simp -implicitDefEqProofs only [go_sem, ↓reduceIte, Nat.reduceAdd, Nat.reduceEqDiff, Nat.reduceLeDiff]
  refine hK _ ?_; clear hK K
  refine AW.ret ?_
  simp -implicitDefEqProofs only [go_sem, ↓reduceIte, Nat.reduceAdd, Nat.reduceEqDiff, Nat.reduceLeDiff]
  done
end Go.Aw.T
namespace Go.Aw.T
open Go.Proofs Go.RowKit
set_option linter.unusedSimpArgs false
set_option linter.unusedVariables false
def fb (S : Sc) (m : Ms) (l : List Int) (d : Nat) (tag : Nat) (es : List (Int × List Tr)) (b : Nat) (L : List (Nat × AV)) (H : List (Nat × Blk)) (n : Nat) : St :=
 ⟨ofL ((2, .p (.slice (l.map encI))) :: (3, .ptr 0 0 0) :: (4, .p (.int .i64 ((5 - d : Nat) : Int))) :: (5, .ptr 1 0 0) :: (10, .ptr 2 0 0) :: (11, .ptr 3 0 0) :: (12, .ptr 4 0 0) :: (14, .p (.int .i64 (tag : Int))) :: L),
 ofH ((0, .row 1 [[.p (.int .i64 (b : Int))]]) :: (1, .row 4 [cellsSc S]) :: (2, .row 5 [[.p (.int .i64 0), .p (.int .i64 0), .p (.str []), .ex [], .ex []]]) :: (3, .row 5 [[.p (.int .i64 3), .p (.int .i64 0), .p (.str []), .own 5, .ex []]]) :: (4, .row 3 [cellsMs m]) :: (5, .row 2 (liftE (es.map encEn))) :: H), n⟩
def fe (t : Tr) (b : Nat) : St := ⟨ofL [(3, .ptr 0 0 0), (10, .ptr 2 0 0), (11, .ptr 3 0 0)], ofH [(0, .row 1 [[.p (.int .i64 (b : Int))]]), (2, .row 5 [[.p (.int .i64 0), .p (.int .i64 0), .p (.str []), .ex [], .ex []]]), (3, .row 5 [cellsT t])], 4⟩
def fc (es : List (Int × List Tr)) (b : Nat) : St := ⟨ofL [(3, .ptr 0 0 0), (10, .ptr 2 0 0), (11, .ptr 3 0 0)], ofH [(0, .row 1 [[.p (.int .i64 (b : Int))]]), (2, .row 5 [[.p (.int .i64 0), .p (.int .i64 0), .p (.str []), .ex [], .ex []]]), (3, .row 5 [[.p (.int .i64 3), .p (.int .i64 0), .p (.str []), .own 5, .ex []]]), (5, .row 2 (liftE (es.map encEn)))], 6⟩
theorem tags_len {m : Ms} {l : List Int} {sub : List UInt8 → Nat → Tr × Nat} {ok : Bool} {a : Nat} : ∀ n, (itS (tagF m l sub ok) n ([], a)).1.length ≤ n
 | 0 => by simp [itS]
 | n + 1 => by
  have g := tags_len (m := m) (l := l) (sub := sub) (ok := ok) (a := a) n
  rw [itS]
  generalize itS (tagF m l sub ok) n ([], a) = x at g
  unfold tagF
  repeat' split
  all_goals (try simp only [List.length_append, List.length_cons, List.length_nil]); omega
def fz (t : Tr) (b : Nat) : St := ⟨ofL [(3, .ptr 0 0 0), (10, .ptr 2 0 0)], ofH [(0, .row 1 [[.p (.int .i64 (b : Int))]]), (2, .row 5 [cellsT t])], 4⟩
theorem fit_end {args : List AV} {t : Tr} {a b : Nat} (h : args[3]? = some (.ptr 0 0 0)) : EndD Tryd.prog #[ResultVar.cell 10 39] args (atH a) 1 [0] (.p (.agg (encTr t))) (atH b) 0 [3] .ret (fz t b) := by
 refine ⟨fun k => k, [.p (.agg (encTr t))], ⟨?_, trivial⟩, rfl, rfl, ?_, ?_, ?_⟩
 ·simp only [fz, cellsT, encTr_eq]
  simp -implicitDefEqProofs only [go_sem, ↓reduceIte, Nat.reduceAdd, Nat.reduceEqDiff, Nat.reduceLeDiff, reduceCtorEq]
  done
 ·simp only [atH, fz]
  simp -implicitDefEqProofs only [go_sem, ↓reduceIte, List.forall_mem_cons, List.not_mem_nil, false_implies, implies_true]
  first | done | decide
 ·simp [atH]
 ·exact at_root h rfl
set_option maxRecDepth 100000 in
set_option maxHeartbeats 8000000 in
theorem law00_fit (S : Sc) (hS : SizS S) (FO : ∀ k, (msOf S k).2 = true → FldsOK S (msOf S k).1) (l : List Int) (hl : l.length ≤ 200) : ∀ d, d ≤ 4 → FitOK S l d := by
 intro d
 induction d using Nat.strongRecOn with
 | _ d ih =>
 intro hd k a ha hk
 have hm := siz_of hS k
 have hF := FO k hk
 have C2 : PFn Tryd.prog 55 [.agg (encSc S), .str k] (.tuple [.agg (encMs (msOf S k).1), .bool (msOf S k).2]) := ref07_Message S k hS.msgs
 rw [fitF_eq]
 generalize (msOf S k).1 = m at C2 hm hF
 generalize (msOf S k).2 = mb at C2
 have CF : ∀ g, PFn Tryd.prog 27 [.agg (encMs m), .int .i64 g] (.tuple [.agg (encFd (fldOf m g).1), .bool (fldOf m g).2]) := fun g => ref07_Field m g hm
 simp only [encSc, encMs] at C2
 simp only [encMs, encFd] at CF
 have hok : (d != 0) = decide (d ≠ 0) := by cases d <;> rfl
 generalize hsub : subF S l d = sub
 generalize hokd : (d != 0) = ok
 have TL := fun n => tags_len (m := m) (l := l) (sub := sub) (ok := ok) (a := a) n
 refine DFn.of [3] Tryd.func60 rfl (by decide) Tryd.ntmps60 Tryd.results60 (Nat.le_of_ble_eq_true rfl) (by simp) fun val => ?_
 simp only [avT, atH]
 refine AW.rT (by rfl) fun K hK => ?_
 simp -implicitDefEqProofs only [go_sem, Nat.reduceAdd, encSc]
 refine hK _ ?_; clear hK K
 refine AW.rT (by rfl) fun K hK => ?_
 simp -implicitDefEqProofs only [go_sem, ↓reduceIte, Nat.reduceAdd, Nat.reduceEqDiff, Nat.reduceLeDiff]
 refine hK _ ?_; clear hK K
 refine AW.rT (by rfl) fun K hK => ?_
 simp -implicitDefEqProofs only [go_sem, ↓reduceIte, Nat.reduceAdd, Nat.reduceEqDiff, Nat.reduceLeDiff]
 refine ⟨.pure _, C2, ?_⟩
 try simp -implicitDefEqProofs only [go_sem, ↓reduceIte, Nat.reduceAdd, Nat.reduceEqDiff, Nat.reduceLeDiff]
 refine hK _ ?_; clear hK K
 refine AW.cut (fun _ : Unit => fc (itS (tagF m l sub ok) 500 ([], a)).1 (itS (tagF m l sub ok) 500 ([], a)).2) (fun _ => True) ?_ fun _ _ => ?_
 rotate_left
 ·generalize itS (tagF m l sub ok) 500 ([], a) = x
  obtain ⟨es, b⟩ := x
  refine AW.ghost (s' := fe (.mk 3 0 [] es []) b) (Ghost.trans (Ghost.freeze (lb := 5) (ps := es.map encEn) rfl (unlift_liftE _)) (Ghost.trans (Ghost.exH (l := 3) (i := 0) (j := 4) rfl rfl rfl) ?_)) ?_
  ·simp only [fc, fe, cellsT, Tr.kind, Tr.n, Tr.s, Tr.ents, Tr.rest, List.map_nil]
   refine Ghost.sub ?_ ?_ <;> simp -implicitDefEqProofs only [go_sem, ↓reduceIte, Nat.reduceEqDiff, reduceCtorEq, thaw, thaw1, Option.map_some, List.map_cons, List.map_nil, List.set_cons_zero, List.set_cons_succ, List.forall_mem_cons, List.not_mem_nil, false_implies, implies_true, and_self, List.all_cons, List.all_nil, Nat.reduceLT, labsInL, AV.labsIn]
   done
  generalize Tr.mk 3 0 [] es [] = tr
  simp only [fe, cellsT]
  refine AW.rT (by rfl) fun K hK => ?_
  simp -implicitDefEqProofs only [go_sem, ↓reduceIte, Nat.reduceAdd, Nat.reduceEqDiff, Nat.reduceLeDiff, reduceCtorEq, List.set_cons_zero]
  refine hK _ ?_; clear hK K
  refine AW.ghost (s' := fz tr b) ?_ (AW.ret (fit_end rfl))
  simp only [fz, cellsT]
  refine Ghost.sub ?_ ?_ <;> simp -implicitDefEqProofs only [go_sem, ↓reduceIte, Nat.reduceEqDiff, reduceCtorEq, List.forall_mem_cons, List.not_mem_nil, false_implies, implies_true, and_self, List.all_cons, List.all_nil, Nat.reduceLT, labsInL, AV.labsIn]
  done
 refine AW.rT (by rfl) fun K hK => ?_
 simp -implicitDefEqProofs only [go_sem, Nat.reduceAdd]
 refine hK _ ?_; clear hK K
 refine AW.block ?_
 refine AW.loop (fun i : Nat => fb S m l d (i + 1) (itS (tagF m l sub ok) i ([], a)).1 (itS (tagF m l sub ok) i ([], a)).2 [] [] 6) (fun i => i ≤ 500) (fun i => 500 - i) 0 ?_ (by simp) fun i hi => ?_
 ·refine Ghost.trans (Ghost.nilH (l := 4) (i := 0) (j := 3) (sz' := 2) rfl rfl rfl) ?_
  simp only [fb, cellsSc, cellsMs, itS]
  refine Ghost.ent (fun l => if l = 3 then 4 else if l = 4 then 12 else if l = 5 then 16 else l) ?_ ?_ ?_ <;> simp -implicitDefEqProofs only [go_sem, ↓reduceIte, Nat.reduceEqDiff, reduceCtorEq, List.map_nil, liftE_nil, List.set_cons_zero, List.set_cons_succ, List.forall_mem_cons, List.not_mem_nil, false_implies, implies_true, and_self, List.all_cons, List.all_nil, Nat.reduceLT, labsInL, AV.labsIn]
  all_goals first | rfl | skip
 refine AW.seq ?_
 have TLi := TL i
 have E0 := fun h : 150 ≤ (itS (tagF m l sub ok) i ([], a)).2 => itS_end h (500 - i)
 rw [show i + (500 - i) = 500 by omega] at E0
 have NX : itS (tagF m l sub ok) (i + 1) ([], a) = tagF m l sub ok i (itS (tagF m l sub ok) i ([], a)) := rfl
 by_cases h5 : i < 500
 case neg =>
  have hi' : i = 500 := by omega
  subst hi'
  generalize itS (tagF m l sub ok) 500 ([], a) = x
  obtain ⟨es, b⟩ := x
  simp only [fb, cellsSc, cellsMs]
  have b1 : (((500 + 1 : Nat) : Int) ≤ 500) = False := eq_false (by decide)
  refine AW.rT (by rfl) fun K hK => ?_
  simp -implicitDefEqProofs only [go_sem, ↓reduceIte, Nat.reduceAdd, Nat.reduceEqDiff, b1]
  refine hK _ ?_; clear hK K
  refine AW.cond _ (by simp -implicitDefEqProofs only [go_sem]; rfl) (fun hc => ?_) (fun hc => ?_)
  ·simp at hc
  refine AW.exit ?_
  simp only [andThen, inBlk, ↓reduceIte]
  refine ⟨(), trivial, ?_⟩
  simp only [fc]
  refine Ghost.sub ?_ ?_ <;> simp -implicitDefEqProofs only [go_sem, ↓reduceIte, Nat.reduceEqDiff, reduceCtorEq, List.forall_mem_cons, List.not_mem_nil, false_implies, implies_true, and_self, labsIn_lift, List.all_cons, List.all_nil, Nat.reduceLT, labsInL, AV.labsIn]
  done
 have b1 : (((i + 1 : Nat) : Int) ≤ 500) = True := eq_true (by omega)
 by_cases h150 : 150 ≤ (itS (tagF m l sub ok) i ([], a)).2
 ·rw [E0 h150]
  generalize itS (tagF m l sub ok) i ([], a) = x at h150
  obtain ⟨es, b⟩ := x
  simp only at h150
  simp only [fb, cellsSc, cellsMs]
  have b2 : ((b : Int) < 150) = False := eq_false (by omega)
  refine AW.rT (by rfl) fun K hK => ?_
  simp -implicitDefEqProofs only [go_sem, ↓reduceIte, Nat.reduceAdd, Nat.reduceEqDiff, b1, b2]
  refine hK _ ?_; clear hK K
  refine AW.cond _ (by simp -implicitDefEqProofs only [go_sem]; rfl) (fun hc => ?_) (fun hc => ?_)
  ·simp at hc
  refine AW.exit ?_
  simp only [andThen, inBlk, ↓reduceIte]
  refine ⟨(), trivial, ?_⟩
  simp only [fc]
  refine Ghost.sub ?_ ?_ <;> simp -implicitDefEqProofs only [go_sem, ↓reduceIte, Nat.reduceEqDiff, reduceCtorEq, List.forall_mem_cons, List.not_mem_nil, false_implies, implies_true, and_self, labsIn_lift, List.all_cons, List.all_nil, Nat.reduceLT, labsInL, AV.labsIn]
  done
 have w1 : IntKind.wrap .i64 (((i + 1 : Nat) : Int) + 1) = ((i + 1 + 1 : Nat) : Int) := by rw [w64] <;> omega
 have nextI : ∀ s' : St, Ghost ⟨109, [3], val⟩ s' (fb S m l d (i + 1 + 1) (tagF m l sub ok i (itS (tagF m l sub ok) i ([], a))).1 (tagF m l sub ok i (itS (tagF m l sub ok) i ([], a))).2 [] [] 6) → ∃ y : Nat, y ≤ 500 ∧ 500 - y < 500 - i ∧ Ghost ⟨109, [3], val⟩ s' (fb S m l d (y + 1) (itS (tagF m l sub ok) y ([], a)).1 (itS (tagF m l sub ok) y ([], a)).2 [] [] 6) := fun s' g => ⟨i + 1, by omega, by omega, by rw [NX]; exact g⟩
 have TF : tagF m l sub ok i (itS (tagF m l sub ok) i ([], a)) = _ := rfl
 generalize itS (tagF m l sub ok) i ([], a) = x at *
 obtain ⟨es, b⟩ := x
 simp only at h150 TLi
 have b2 : ((b : Int) < 150) = True := eq_true (by omega)
 have C1 := CF ((i + 1 : Nat) : Int)
 have hF1 := hF ((i + 1 : Nat) : Int)
 have TF : tagF m l sub ok i (es, b) = if (fldOf m ((i + 1 : Nat) : Int)).2 = false then (es, b) else
  if (nextF l b).1 % 3 = 0 then (es, (nextF l b).2) else if (fldOf m ((i + 1 : Nat) : Int)).1.ty.kind = 7 ∧ ok = false then (es, (nextF l b).2) else
  if (treesF l sub (fldOf m ((i + 1 : Nat) : Int)).1 (nextF l b).2).1 = [] then (es, (treesF l sub (fldOf m ((i + 1 : Nat) : Int)).1 (nextF l b).2).2) else
  (es ++ [(((i + 1 : Nat) : Int), (treesF l sub (fldOf m ((i + 1 : Nat) : Int)).1 (nextF l b).2).1)], (treesF l sub (fldOf m ((i + 1 : Nat) : Int)).1 (nextF l b).2).2) := by
  unfold tagF
  rw [if_neg (by simpa using h150)]
  rfl
 rcases hfo : fldOf m ((i + 1 : Nat) : Int) with ⟨f, fok⟩
 rw [hfo] at C1 hF1 TF
 simp only at C1 hF1 TF
 simp only [fb, cellsSc, cellsMs]
 refine AW.rT (by rfl) fun K hK => ?_
 simp -implicitDefEqProofs only [go_sem, ↓reduceIte, Nat.reduceAdd, Nat.reduceEqDiff, b1, b2]
 refine hK _ ?_; clear hK K
 refine AW.cond _ (by simp -implicitDefEqProofs only [go_sem]; rfl) (fun hc => ?_) (fun hc => ?_)
 rotate_left
 ·simp at hc
 refine AW.skip ?_
 simp only [andThen]
 refine AW.seq ?_
 refine AW.block ?_
 refine AW.rT (by rfl) fun K hK => ?_
 simp -implicitDefEqProofs only [go_sem, ↓reduceIte, Nat.reduceAdd, Nat.reduceEqDiff, Nat.reduceLeDiff, reduceCtorEq]
 refine ⟨.pure _, C1, ?_⟩
 try simp -implicitDefEqProofs only [go_sem, ↓reduceIte, Nat.reduceAdd, Nat.reduceEqDiff, Nat.reduceLeDiff]
 refine hK _ ?_; clear hK K
 have np := nextF_pos l b
 have CN := law00_next l b (by omega) hl
 refine AW.cut (fun _ : Unit => fb S m l d (i + 1) es (nextF l b).2 [(15, .ptr 6 0 0)] [(6, .row 5 [cellsFd f])] 7) (fun _ => fok = true ∧ ¬ (nextF l b).1 % 3 = 0 ∧ ¬ (f.ty.kind = 7 ∧ ok = false)) ?_ fun _ hj => ?_
 ·cases fok with
  | false =>
   rw [if_pos rfl] at TF
   refine AW.rT (by rfl) fun K hK => ?_
   simp -implicitDefEqProofs only [go_sem, ↓reduceIte, Nat.reduceAdd, Nat.reduceEqDiff]
   refine hK _ ?_; clear hK K
   refine AW.cond _ (by simp -implicitDefEqProofs only [go_sem]; rfl) (fun hc => ?_) (fun hc => ?_)
   rotate_left
   ·simp at hc
   refine AW.exit ?_
   simp only [andThen, inBlk, ↓reduceIte]
   refine AW.rE (by rfl) fun K hK => ?_
   simp -implicitDefEqProofs only [go_sem, ↓reduceIte, Nat.reduceAdd, Nat.reduceEqDiff, w1]
   refine hK _ ?_; clear hK K
   refine nextI _ ?_
   rw [TF]
   simp only [fb, cellsSc, cellsMs]
   refine Ghost.sub ?_ ?_ <;> simp -implicitDefEqProofs only [go_sem, ↓reduceIte, Nat.reduceEqDiff, reduceCtorEq, List.forall_mem_cons, List.not_mem_nil, false_implies, implies_true, and_self, labsIn_lift, List.all_cons, List.all_nil, Nat.reduceLT, labsInL, AV.labsIn]
   done
  | true =>
  rw [if_neg (by simp)] at TF
  have rm : (nextF l b).1.tmod 3 = (nextF l b).1 % 3 := Int.tmod_eq_emod_of_nonneg np.1
  have hz : ((3 : Int) = 0) = False := by simp
  have wm : IntKind.wrap .i64 ((nextF l b).1 % 3) = (nextF l b).1 % 3 := by rw [w64] <;> omega
  generalize (nextF l b).1 = v at CN rm wm TF np
  generalize (nextF l b).2 = b' at CN TF np
  by_cases h3 : v % 3 = 0
  ·have b3 := eqb h3
   rw [if_pos h3] at TF
   refine AW.rT (by rfl) fun K hK => ?_
   simp -implicitDefEqProofs only [go_sem, ↓reduceIte, Nat.reduceAdd, Nat.reduceEqDiff, reduceCtorEq]
   refine ⟨.lend [none, some 0] [.v (.slice (l.map encI)), .ptr 0 0 1 [[.int .i64 (b : Int)]]] [none, some (.row 1 [[.int .i64 (b' : Int)]])] (.int .i64 v), ⟨CN, rfl, ?_⟩, ?_⟩
   ·simp -implicitDefEqProofs only [go_sem, ↓reduceIte, Nat.reduceEqDiff, reduceCtorEq, liftE_cons, liftE_nil, List.map_cons, List.map_nil, and_self]
   simp -implicitDefEqProofs only [go_sem, ↓reduceIte, Nat.reduceAdd, Nat.reduceEqDiff, liftE_cons, liftE_nil, List.map_cons, List.map_nil, rm, hz, b3]
   refine hK _ ?_; clear hK K
   refine AW.cond _ (by simp -implicitDefEqProofs only [go_sem]; rfl) (fun hc => ?_) (fun hc => ?_)
   rotate_left
   ·simp at hc
   refine AW.exit ?_
   simp only [andThen, inBlk, ↓reduceIte]
   refine AW.rE (by rfl) fun K hK => ?_
   simp -implicitDefEqProofs only [go_sem, ↓reduceIte, Nat.reduceAdd, Nat.reduceEqDiff, w1]
   refine hK _ ?_; clear hK K
   refine nextI _ ?_
   rw [TF]
   simp only [fb, cellsSc, cellsMs]
   refine Ghost.sub ?_ ?_ <;> simp -implicitDefEqProofs only [go_sem, ↓reduceIte, Nat.reduceEqDiff, reduceCtorEq, List.forall_mem_cons, List.not_mem_nil, false_implies, implies_true, and_self, labsIn_lift, List.all_cons, List.all_nil, Nat.reduceLT, labsInL, AV.labsIn]
   done
  have b3 := beqf h3
  rw [if_neg h3] at TF
  by_cases h7 : f.ty.kind = 7
  ·have b7 := eqb h7
   by_cases hd0 : d = 0
   ·have hok0 : ok = false := by rw [← hokd, hd0]; rfl
    have bd : (((5 - d : Nat) : Int) ≥ 5) = True := eq_true (by omega)
    rw [if_pos ⟨h7, hok0⟩] at TF
    refine AW.rT (by rfl) fun K hK => ?_
    simp -implicitDefEqProofs only [go_sem, ↓reduceIte, Nat.reduceAdd, Nat.reduceEqDiff, reduceCtorEq]
    refine ⟨.lend [none, some 0] [.v (.slice (l.map encI)), .ptr 0 0 1 [[.int .i64 (b : Int)]]] [none, some (.row 1 [[.int .i64 (b' : Int)]])] (.int .i64 v), ⟨CN, rfl, ?_⟩, ?_⟩
    ·simp -implicitDefEqProofs only [go_sem, ↓reduceIte, Nat.reduceEqDiff, reduceCtorEq, liftE_cons, liftE_nil, List.map_cons, List.map_nil, and_self]
    simp -implicitDefEqProofs only [go_sem, ↓reduceIte, Nat.reduceAdd, Nat.reduceEqDiff, reduceCtorEq, liftE_cons, liftE_nil, List.map_cons, List.map_nil, rm, hz, b3, b7, bd]
    refine hK _ ?_; clear hK K
    refine AW.cond _ (by simp -implicitDefEqProofs only [go_sem]; rfl) (fun hc => ?_) (fun hc => ?_)
    rotate_left
    ·simp at hc
    refine AW.exit ?_
    simp only [andThen, inBlk, ↓reduceIte]
    refine AW.rE (by rfl) fun K hK => ?_
    simp -implicitDefEqProofs only [go_sem, ↓reduceIte, Nat.reduceAdd, Nat.reduceEqDiff, w1]
    refine hK _ ?_; clear hK K
    refine nextI _ ?_
    rw [TF]
    simp only [fb, cellsSc, cellsMs]
    refine Ghost.sub ?_ ?_ <;> simp -implicitDefEqProofs only [go_sem, ↓reduceIte, Nat.reduceEqDiff, reduceCtorEq, List.forall_mem_cons, List.not_mem_nil, false_implies, implies_true, and_self, labsIn_lift, List.all_cons, List.all_nil, Nat.reduceLT, labsInL, AV.labsIn]
    done
   ·have hok0 : ok = true := by rw [← hokd]; simpa using hd0
    have bd : (((5 - d : Nat) : Int) ≥ 5) = False := eq_false (by omega)
    refine AW.rT (by rfl) fun K hK => ?_
    simp -implicitDefEqProofs only [go_sem, ↓reduceIte, Nat.reduceAdd, Nat.reduceEqDiff, reduceCtorEq]
    refine ⟨.lend [none, some 0] [.v (.slice (l.map encI)), .ptr 0 0 1 [[.int .i64 (b : Int)]]] [none, some (.row 1 [[.int .i64 (b' : Int)]])] (.int .i64 v), ⟨CN, rfl, ?_⟩, ?_⟩
    ·simp -implicitDefEqProofs only [go_sem, ↓reduceIte, Nat.reduceEqDiff, reduceCtorEq, liftE_cons, liftE_nil, List.map_cons, List.map_nil, and_self]
    simp -implicitDefEqProofs only [go_sem, ↓reduceIte, Nat.reduceAdd, Nat.reduceEqDiff, reduceCtorEq, liftE_cons, liftE_nil, List.map_cons, List.map_nil, rm, hz, b3, b7, bd]
    refine hK _ ?_; clear hK K
    refine AW.cond _ (by simp -implicitDefEqProofs only [go_sem]; rfl) (fun hc => ?_) (fun hc => ?_)
    ·simp at hc
    refine AW.skip ?_
    simp only [andThen]
    refine ⟨(), ⟨trivial, h3, by rintro ⟨_, q⟩; rw [hok0] at q; cases q⟩, ?_⟩
    simp only [fb, cellsSc, cellsMs, cellsFd]
    refine Ghost.ent (fun l => if l = 6 then 20 else l) ?_ ?_ ?_ <;> simp -implicitDefEqProofs only [go_sem, ↓reduceIte, Nat.reduceEqDiff, reduceCtorEq, List.forall_mem_cons, List.not_mem_nil, false_implies, implies_true, and_self, map_renL_lift, labsIn_lift, List.all_cons, List.all_nil, Nat.reduceLT, labsInL, AV.labsIn]
    all_goals first | rfl | skip
  ·have b7 := beqf h7
   refine AW.rT (by rfl) fun K hK => ?_
   simp -implicitDefEqProofs only [go_sem, ↓reduceIte, Nat.reduceAdd, Nat.reduceEqDiff, reduceCtorEq]
   refine ⟨.lend [none, some 0] [.v (.slice (l.map encI)), .ptr 0 0 1 [[.int .i64 (b : Int)]]] [none, some (.row 1 [[.int .i64 (b' : Int)]])] (.int .i64 v), ⟨CN, rfl, ?_⟩, ?_⟩
   ·simp -implicitDefEqProofs only [go_sem, ↓reduceIte, Nat.reduceEqDiff, reduceCtorEq, liftE_cons, liftE_nil, List.map_cons, List.map_nil, and_self]
   simp -implicitDefEqProofs only [go_sem, ↓reduceIte, Nat.reduceAdd, Nat.reduceEqDiff, reduceCtorEq, liftE_cons, liftE_nil, List.map_cons, List.map_nil, rm, hz, b3, b7]
   refine hK _ ?_; clear hK K
   refine AW.cond _ (by simp -implicitDefEqProofs only [go_sem]; rfl) (fun hc => ?_) (fun hc => ?_)
   ·simp at hc
   refine AW.skip ?_
   simp only [andThen]
   refine ⟨(), ⟨trivial, h3, fun q => h7 q.1⟩, ?_⟩
   simp only [fb, cellsSc, cellsMs, cellsFd]
   refine Ghost.ent (fun l => if l = 6 then 20 else l) ?_ ?_ ?_ <;> simp -implicitDefEqProofs only [go_sem, ↓reduceIte, Nat.reduceEqDiff, reduceCtorEq, List.forall_mem_cons, List.not_mem_nil, false_implies, implies_true, and_self, map_renL_lift, labsIn_lift, List.all_cons, List.all_nil, Nat.reduceLT, labsInL, AV.labsIn]
   all_goals first | rfl | skip
 obtain ⟨rfl, hj3, hj7⟩ := hj
 rw [if_neg (by simp), if_neg hj3, if_neg hj7] at TF
 obtain ⟨⟨k1, k7⟩, km⟩ := hF1 rfl
 generalize (nextF l b).2 = b' at TF np
 simp only [fb, cellsSc, cellsMs, cellsFd]
 refine AW.rT (by rfl) fun K hK => ?_
 simp -implicitDefEqProofs only [go_sem, Nat.reduceAdd]
 refine hK _ ?_; clear hK K
 refine AW.cut (fun _ : Unit => fb S m l d (i + 1) es (cntF l f b').2 [(15, .ptr 6 0 0), (17, .p (.int .i64 ((cntF l f b').1 : Int)))] [(6, .row 5 [cellsFd f])] 7) (fun _ => True) ?_ fun _ _ => ?_
 ·by_cases hb3 : f.label = 3
  ·have b3 := eqb hb3
   have np2 := nextF_pos l b'
   have CN2 := law00_next l b' (by omega) hl
   have e1 : cntF l f b' = (1 + ((nextF l b').1 % 3).toNat, (nextF l b').2) := by unfold cntF; rw [if_pos hb3]
   rw [e1]
   have rm : (nextF l b').1.tmod 3 = (nextF l b').1 % 3 := Int.tmod_eq_emod_of_nonneg np2.1
   have hz : ((3 : Int) = 0) = False := by simp
   have wm : IntKind.wrap .i64 ((nextF l b').1 % 3) = (nextF l b').1 % 3 := by rw [w64] <;> omega
   have wn : IntKind.wrap .i64 (1 + (nextF l b').1 % 3) = ((1 + ((nextF l b').1 % 3).toNat : Nat) : Int) := by rw [w64] <;> omega
   refine AW.rT (by rfl) fun K hK => ?_
   simp -implicitDefEqProofs only [go_sem, ↓reduceIte, Nat.reduceAdd, Nat.reduceEqDiff, reduceCtorEq, b3]
   refine hK _ ?_; clear hK K
   refine AW.cond _ (by simp -implicitDefEqProofs only [go_sem]; rfl) (fun hc => ?_) (fun hc => ?_)
   rotate_left
   ·simp at hc
   refine AW.rE (by rfl) fun K hK => ?_
   simp -implicitDefEqProofs only [go_sem, ↓reduceIte, Nat.reduceAdd, Nat.reduceEqDiff]
   refine ⟨.lend [none, some 0] [.v (.slice (l.map encI)), .ptr 0 0 1 [[.int .i64 (b' : Int)]]] [none, some (.row 1 [[.int .i64 ((nextF l b').2 : Int)]])] (.int .i64 (nextF l b').1), ⟨CN2, rfl, ?_⟩, ?_⟩
   ·simp -implicitDefEqProofs only [go_sem, ↓reduceIte, Nat.reduceEqDiff, liftE_cons, liftE_nil, List.map_cons, List.map_nil, and_self]
   simp -implicitDefEqProofs only [go_sem, ↓reduceIte, Nat.reduceAdd, liftE_cons, liftE_nil, List.map_cons, List.map_nil, rm, hz, wn]
   refine hK _ ?_; clear hK K
   simp only [andThen]
   refine ⟨(), trivial, ?_⟩
   simp only [fb, cellsSc, cellsMs, cellsFd]
   refine Ghost.sub ?_ ?_ <;> simp -implicitDefEqProofs only [go_sem, ↓reduceIte, Nat.reduceEqDiff, reduceCtorEq, List.forall_mem_cons, List.not_mem_nil, false_implies, implies_true, and_self, labsIn_lift, List.all_cons, List.all_nil, Nat.reduceLT, labsInL, AV.labsIn]
   done
  ·have b3 := beqf hb3
   have e1 : cntF l f b' = (1, b') := by unfold cntF; rw [if_neg hb3]
   rw [e1]
   refine AW.rT (by rfl) fun K hK => ?_
   simp -implicitDefEqProofs only [go_sem, ↓reduceIte, Nat.reduceAdd, Nat.reduceEqDiff, reduceCtorEq, b3]
   refine hK _ ?_; clear hK K
   refine AW.cond _ (by simp -implicitDefEqProofs only [go_sem]; rfl) (fun hc => ?_) (fun hc => ?_)
   ·simp at hc
   refine AW.skip ?_
   simp only [andThen]
   refine ⟨(), trivial, ?_⟩
   simp only [fb, cellsSc, cellsMs, cellsFd]
   refine Ghost.sub ?_ ?_ <;> simp -implicitDefEqProofs only [go_sem, ↓reduceIte, Nat.reduceEqDiff, reduceCtorEq, List.forall_mem_cons, List.not_mem_nil, false_implies, implies_true, and_self, labsIn_lift, List.all_cons, List.all_nil, Nat.reduceLT, labsInL, AV.labsIn]
   all_goals first | rfl | simp
 have cn := cntF_le l f b'
 have RG := reps_good (S := S) (l := l) (sub := sub) (f := f) (d := d)
 have RA := reps_at (l := l) (sub := sub) (f := f) (hsub ▸ sub_at S l d) ([], (cntF l f b').2)
 have TE : treesF l sub f b' = itS (fun _ => repF l sub f) (cntF l f b').1 ([], (cntF l f b').2) := rfl
 generalize (cntF l f b').1 = c at cn TE
 generalize (cntF l f b').2 = b3 at cn TE RA
 obtain ⟨cn1, cn2, cn3, cn4, cn5⟩ := cn
 simp only at RA
 simp only [fb, cellsSc, cellsMs, cellsFd]
 refine AW.rT (by rfl) fun K hK => ?_
 simp -implicitDefEqProofs only [go_sem, ↓reduceIte, Nat.reduceAdd, Nat.reduceEqDiff, Nat.reduceLeDiff]
 refine hK _ ?_; clear hK K
 refine AW.seq ?_
 refine AW.rT (by rfl) fun K hK => ?_
 simp -implicitDefEqProofs only [go_sem, Nat.reduceAdd]
 refine hK _ ?_; clear hK K
 refine AW.block ?_
 refine AW.loop (fun j : Nat => fb S m l d (i + 1) es (itS (fun _ => repF l sub f) j ([], b3)).2 [(15, .ptr 6 0 0), (17, .p (.int .i64 (c : Int))), (18, .ptr 7 0 0), (19, .p (.int .i64 (j : Int)))] [(6, .row 5 [cellsFd f]), (7, .row 2 [[.p (.int .i64 ((i + 1 : Nat) : Int)), .own 8]]), (8, .row 5 (liftE ((itS (fun _ => repF l sub f) j ([], b3)).1.map encTr)))] 9) (fun j => j ≤ c ∧ (itS (fun _ => repF l sub f) j ([], b3)).1.length ≤ j) (fun j => c - j) 0 ?_ (by simp [itS]) fun j hj => ?_
 ·refine Ghost.trans (Ghost.nilH (l := 9) (i := 0) (j := 1) (sz' := 5) rfl rfl rfl) ?_
  simp only [fb, cellsSc, cellsMs, cellsFd, itS]
  refine Ghost.ent (fun l => if l = 7 then 9 else if l = 8 then 12 else l) ?_ ?_ ?_ <;> simp -implicitDefEqProofs only [go_sem, ↓reduceIte, Nat.reduceEqDiff, reduceCtorEq, List.map_nil, liftE_nil, List.set_cons_zero, List.set_cons_succ, List.forall_mem_cons, List.not_mem_nil, false_implies, implies_true, and_self, map_renL_lift, labsIn_lift, List.all_cons, List.all_nil, Nat.reduceLT, labsInL, AV.labsIn]
  all_goals first | rfl | skip
 obtain ⟨hj1, hj2⟩ := hj
 have RAj := RA j
 have NJ : itS (fun _ => repF l sub f) (j + 1) ([], b3) = repF l sub f (itS (fun _ => repF l sub f) j ([], b3)) := rfl
 have wj : IntKind.wrap .i64 ((j : Int) + 1) = ((j + 1 : Nat) : Int) := by rw [w64] <;> omega
 refine AW.seq ?_
 by_cases hjc : j < c
 case neg =>
  have hj' : j = c := by omega
  subst hj'
  rw [← TE]
  rw [← TE] at hj2
  generalize treesF l sub f b' = y at hj2 TF
  obtain ⟨ts, bb⟩ := y
  simp only at hj2
  have hc2 : ((j : Int) < (j : Int)) = False := eq_false (by omega)
  simp only [fb, cellsSc, cellsMs, cellsFd]
  refine AW.rT (by rfl) fun K hK => ?_
  simp -implicitDefEqProofs only [go_sem, ↓reduceIte, Nat.reduceAdd, Nat.reduceEqDiff, hc2]
  refine hK _ ?_; clear hK K
  refine AW.cond _ (by simp -implicitDefEqProofs only [go_sem]; rfl) (fun hc => ?_) (fun hc => ?_)
  ·simp at hc
  refine AW.exit ?_
  simp only [andThen, inBlk, ↓reduceIte]
  refine AW.ghost (s' := fb S m l d (i + 1) es bb [(18, .ptr 7 0 0)] [(7, .row 2 [[.p (.int .i64 ((i + 1 : Nat) : Int)), .p (.slice (ts.map encTr))]])] 8) (Ghost.trans (Ghost.freeze (lb := 8) (ps := ts.map encTr) rfl (unlift_liftE _)) ?_) ?_
  ·simp only [fb, cellsSc, cellsMs]
   refine Ghost.sub ?_ ?_ <;> simp -implicitDefEqProofs only [go_sem, ↓reduceIte, Nat.reduceEqDiff, reduceCtorEq, thaw, thaw1, Option.map_some, List.map_cons, List.map_nil, thaw_lift, List.forall_mem_cons, List.not_mem_nil, false_implies, implies_true, and_self, labsIn_lift, List.all_cons, List.all_nil, Nat.reduceLT, labsInL, AV.labsIn]
   done
  simp only [fb, cellsSc, cellsMs]
  by_cases h0 : ts = []
  ·subst h0
   have g1 : ((((([] : List Tr).map encTr).length : Nat) : Int) > 0) = False := eq_false (by simp)
   rw [if_pos rfl] at TF
   refine AW.rT (by rfl) fun K hK => ?_
   simp -implicitDefEqProofs only [go_sem, ↓reduceIte, Nat.reduceAdd, Nat.reduceEqDiff, reduceCtorEq]
   refine hK _ ?_; clear hK K
   refine AW.cond _ (by simp -implicitDefEqProofs only [go_sem]; rfl) (fun hc => ?_) (fun hc => ?_)
   ·simp at hc
   refine AW.skip ?_
   simp only [andThen, inBlk]
   refine AW.rE (by rfl) fun K hK => ?_
   simp -implicitDefEqProofs only [go_sem, ↓reduceIte, Nat.reduceAdd, Nat.reduceEqDiff, w1]
   refine hK _ ?_; clear hK K
   refine nextI _ ?_
   rw [TF]
   simp only [fb, cellsSc, cellsMs]
   refine Ghost.sub ?_ ?_ <;> simp -implicitDefEqProofs only [go_sem, ↓reduceIte, Nat.reduceEqDiff, reduceCtorEq, List.forall_mem_cons, List.not_mem_nil, false_implies, implies_true, and_self, labsIn_lift, List.all_cons, List.all_nil, Nat.reduceLT, labsInL, AV.labsIn]
   done
  ·have hp := List.length_pos_iff.2 h0
   have g1 : ((ts.length : Int) > 0) = True := eq_true (by omega)
   rw [if_neg h0] at TF
   refine AW.rT (by rfl) fun K hK => ?_
   simp -implicitDefEqProofs only [go_sem, ↓reduceIte, Nat.reduceAdd, Nat.reduceEqDiff, reduceCtorEq, g1, List.length_map]
   refine hK _ ?_; clear hK K
   refine AW.cond _ (by simp -implicitDefEqProofs only [go_sem]; rfl) (fun hc => ?_) (fun hc => ?_)
   rotate_left
   ·simp at hc
   refine AW.rE (by rfl) fun K hK => ?_
   simp -implicitDefEqProofs only [go_sem, ↓reduceIte, Nat.reduceAdd, Nat.reduceMul, Nat.reduceEqDiff, Nat.reduceLeDiff, reduceCtorEq]
   refine ⟨⟨by simp, by simp [oneAll, AV.one, PV.one], by simp⟩, by simp [liftE_length]; omega, ?_⟩
   try simp -implicitDefEqProofs only [go_sem, ↓reduceIte, Nat.reduceAdd, Nat.reduceMul, Nat.reduceEqDiff, Nat.reduceLeDiff, reduceCtorEq, Int.reduceToNat]
   refine hK _ ?_; clear hK K
   simp only [andThen, inBlk]
   have e8 : liftE (es.map encEn) ++ [[AV.p (.int .i64 ((i + 1 : Nat) : Int)), .p (.slice (ts.map encTr))]] = liftE ((es ++ [(((i + 1 : Nat) : Int), ts)]).map encEn) := by
    simp [liftE, encEn]
   refine AW.rE (by rfl) fun K hK => ?_
   simp -implicitDefEqProofs only [go_sem, ↓reduceIte, Nat.reduceAdd, Nat.reduceEqDiff, w1]
   refine hK _ ?_; clear hK K
   refine nextI _ ?_
   rw [TF]
   simp only [fb, cellsSc, cellsMs]
   rw [← e8]
   refine Ghost.ent (fun l => if l = 5 then 16 else l) ?_ ?_ ?_ <;> simp -implicitDefEqProofs only [go_sem, ↓reduceIte, Nat.reduceEqDiff, reduceCtorEq, List.forall_mem_cons, List.not_mem_nil, false_implies, implies_true, and_self, map_renL_lift, labsIn_lift, List.all_append, List.all_cons, List.all_nil, List.map_append, Nat.reduceLT, labsInL, AV.labsIn]
   all_goals first | rfl | skip
 generalize itS (fun _ => repF l sub f) j ([], b3) = y at *
 obtain ⟨ts, bb⟩ := y
 simp only at hj2 RAj
 have hc2 : ((j : Int) < (c : Int)) = True := eq_true (by omega)
 have CO := law00_one S l hl f d bb (by omega) k1 k7 fun h => by
  have h0 : d ≠ 0 := fun q => hj7 ⟨h, by rw [← hokd, q]; rfl⟩
  exact ⟨d - 1, by omega, hd, ih (d - 1) (by omega) (by omega), km h⟩
 rw [hsub] at CO
 have RF : repF l sub f (ts, bb) = (if f.label ≠ 1 ∨ zeroV (oneF l sub f bb).1 = false then ts ++ [(oneF l sub f bb).1] else ts, (oneF l sub f bb).2) := rfl
 rw [RF] at NJ
 generalize oneF l sub f bb = z at CO NJ
 obtain ⟨tr, b4⟩ := z
 simp only at CO NJ
 have CZ := ref10_Zero tr
 rw [encTr_eq tr] at CO CZ
 simp only [fb, cellsSc, cellsMs, cellsFd]
 refine AW.rT (by rfl) fun K hK => ?_
 simp -implicitDefEqProofs only [go_sem, ↓reduceIte, Nat.reduceAdd, Nat.reduceEqDiff, hc2]
 refine hK _ ?_; clear hK K
 refine AW.cond _ (by simp -implicitDefEqProofs only [go_sem]; rfl) (fun hc => ?_) (fun hc => ?_)
 rotate_left
 ·simp at hc
 refine AW.skip ?_
 simp only [andThen]
 refine AW.seq ?_
 refine AW.block ?_
 refine AW.rR (SeqR.ev 5 (by rfl) (by decide) ?_)
 simp -implicitDefEqProofs only [go_sem, ↓reduceIte, Nat.reduceAdd, Nat.reduceEqDiff, Nat.reduceLeDiff, reduceCtorEq]
 refine SeqR.call (fun k => k) rfl rfl CO ⟨?_, rfl, ?_, rfl, rfl, rfl, rfl, rfl, rfl⟩ ?_
 ·simp -implicitDefEqProofs only [go_sem, ↓reduceIte, Nat.reduceEqDiff, argD, encSc, encFd]
 ·simp only [atH]
  simp -implicitDefEqProofs only [go_sem, ↓reduceIte, List.forall_mem_cons, List.not_mem_nil, false_implies, implies_true]
  first | done | decide
 simp only [atH, AV.ren]
 refine SeqR.ev 2 (by rfl) (by decide) ?_
 simp -implicitDefEqProofs only [go_sem, ↓reduceIte, Nat.reduceAdd, Nat.reduceEqDiff, Nat.reduceLeDiff, lift2, goneU, newU, List.map_cons, List.map_nil, putH, Nat.reduceLT]
 refine SeqR.last rfl ?_
 refine AW.ghost (s' := fb S m l d (i + 1) es b4 [(15, .ptr 6 0 0), (17, .p (.int .i64 (c : Int))), (18, .ptr 7 0 0), (19, .p (.int .i64 (j : Int))), (20, .ptr 9 0 0)] [(6, .row 5 [cellsFd f]), (7, .row 2 [[.p (.int .i64 ((i + 1 : Nat) : Int)), .own 8]]), (8, .row 5 (liftE (ts.map encTr))), (9, .row 5 [cellsT tr])] 10) ?_ ?_
 ·simp only [fb, cellsSc, cellsMs, cellsFd, cellsT]
  refine Ghost.ent (fun l => if l = 9 then 17 else l) ?_ ?_ ?_ <;> simp -implicitDefEqProofs only [go_sem, ↓reduceIte, Nat.reduceEqDiff, reduceCtorEq, List.forall_mem_cons, List.not_mem_nil, false_implies, implies_true, and_self, map_renL_lift, labsIn_lift, List.all_cons, List.all_nil, Nat.reduceLT, labsInL, AV.labsIn]
  all_goals first | rfl | skip
 simp only [fb, cellsSc, cellsMs, cellsFd, cellsT]
 have nextJ : ∀ (q : List Tr) (s' : St), itS (fun _ => repF l sub f) (j + 1) ([], b3) = (q, b4) → q.length ≤ j + 1 → Ghost ⟨109, [3], val⟩ s' (fb S m l d (i + 1) es b4 [(15, .ptr 6 0 0), (17, .p (.int .i64 (c : Int))), (18, .ptr 7 0 0), (19, .p (.int .i64 ((j + 1 : Nat) : Int)))] [(6, .row 5 [cellsFd f]), (7, .row 2 [[.p (.int .i64 ((i + 1 : Nat) : Int)), .own 8]]), (8, .row 5 (liftE (q.map encTr)))] 9) →
   ∃ y : Nat, (y ≤ c ∧ (itS (fun _ => repF l sub f) y ([], b3)).1.length ≤ y) ∧ c - y < c - j ∧ Ghost ⟨109, [3], val⟩ s' (fb S m l d (i + 1) es (itS (fun _ => repF l sub f) y ([], b3)).2 [(15, .ptr 6 0 0), (17, .p (.int .i64 (c : Int))), (18, .ptr 7 0 0), (19, .p (.int .i64 (y : Int)))] [(6, .row 5 [cellsFd f]), (7, .row 2 [[.p (.int .i64 ((i + 1 : Nat) : Int)), .own 8]]), (8, .row 5 (liftE ((itS (fun _ => repF l sub f) y ([], b3)).1.map encTr)))] 9) :=
  fun q s' e hq g => ⟨j + 1, ⟨by omega, by rw [e]; exact hq⟩, by omega, by rw [e]; exact g⟩
 have app : liftE (ts.map encTr) ++ [[AV.p (.int .i64 tr.kind), .p (.int .i64 tr.n), .p (.str tr.s), .p (.slice (tr.ents.map encEn)), .p (.slice (tr.rest.map encRaw))]] = liftE ((ts ++ [tr]).map encTr) := by
  simp [liftE, encTr_eq tr]
 by_cases hb1 : f.label = 1
 case neg =>
  have b1 : (f.label != 1) = true := by simpa using hb1
  rw [if_pos (.inl hb1)] at NJ
  refine AW.rT (by rfl) fun K hK => ?_
  simp -implicitDefEqProofs only [go_sem, ↓reduceIte, Nat.reduceAdd, Nat.reduceEqDiff, reduceCtorEq, b1]
  refine hK _ ?_; clear hK K
  refine AW.cond _ (by simp -implicitDefEqProofs only [go_sem]; rfl) (fun hc => ?_) (fun hc => ?_)
  rotate_left
  ·simp at hc
  refine AW.rE (by rfl) fun K hK => ?_
  simp -implicitDefEqProofs only [go_sem, ↓reduceIte, Nat.reduceAdd, Nat.reduceMul, Nat.reduceEqDiff, Nat.reduceLeDiff, reduceCtorEq]
  refine ⟨⟨by simp, by simp [oneAll, AV.one, PV.one], by simp⟩, by simp [liftE_length]; omega, ?_⟩
  try simp -implicitDefEqProofs only [go_sem, ↓reduceIte, Nat.reduceAdd, Nat.reduceMul, Nat.reduceEqDiff, Nat.reduceLeDiff, reduceCtorEq, Int.reduceToNat]
  refine hK _ ?_; clear hK K
  simp only [andThen, inBlk]
  refine AW.rE (by rfl) fun K hK => ?_
  simp -implicitDefEqProofs only [go_sem, ↓reduceIte, Nat.reduceAdd, Nat.reduceEqDiff, wj]
  refine hK _ ?_; clear hK K
  refine nextJ _ _ NJ (by simp; omega) ?_
  simp only [fb, cellsSc, cellsMs, cellsFd]
  rw [← app]
  refine Ghost.ent (fun l => if l = 8 then 22 else l) ?_ ?_ ?_ <;> simp -implicitDefEqProofs only [go_sem, ↓reduceIte, Nat.reduceEqDiff, reduceCtorEq, List.forall_mem_cons, List.not_mem_nil, false_implies, implies_true, and_self, map_renL_lift, labsIn_lift, List.all_append, List.all_cons, List.all_nil, List.map_append, Nat.reduceLT, labsInL, AV.labsIn]
  all_goals first | rfl | skip
 have b1 : (f.label != 1) = false := by simp [hb1]
 cases hz : zeroV tr with
 | false =>
  rw [hz] at CZ
  rw [if_pos (.inr hz)] at NJ
  refine AW.rT (by rfl) fun K hK => ?_
  simp -implicitDefEqProofs only [go_sem, ↓reduceIte, Nat.reduceAdd, Nat.reduceEqDiff, Nat.reduceLeDiff, reduceCtorEq, b1]
  refine ⟨.pure _, CZ, ?_⟩
  try simp -implicitDefEqProofs only [go_sem, ↓reduceIte, Nat.reduceAdd, Nat.reduceEqDiff]
  refine hK _ ?_; clear hK K
  refine AW.cond _ (by simp -implicitDefEqProofs only [go_sem]; rfl) (fun hc => ?_) (fun hc => ?_)
  rotate_left
  ·simp at hc
  refine AW.rE (by rfl) fun K hK => ?_
  simp -implicitDefEqProofs only [go_sem, ↓reduceIte, Nat.reduceAdd, Nat.reduceMul, Nat.reduceEqDiff, Nat.reduceLeDiff, reduceCtorEq]
  refine ⟨⟨by simp, by simp [oneAll, AV.one, PV.one], by simp⟩, by simp [liftE_length]; omega, ?_⟩
  try simp -implicitDefEqProofs only [go_sem, ↓reduceIte, Nat.reduceAdd, Nat.reduceMul, Nat.reduceEqDiff, Nat.reduceLeDiff, reduceCtorEq, Int.reduceToNat]
  refine hK _ ?_; clear hK K
  simp only [andThen, inBlk]
  refine AW.rE (by rfl) fun K hK => ?_
  simp -implicitDefEqProofs only [go_sem, ↓reduceIte, Nat.reduceAdd, Nat.reduceEqDiff, wj]
  refine hK _ ?_; clear hK K
  refine nextJ _ _ NJ (by simp; omega) ?_
  simp only [fb, cellsSc, cellsMs, cellsFd]
  rw [← app]
  refine Ghost.ent (fun l => if l = 8 then 22 else l) ?_ ?_ ?_ <;> simp -implicitDefEqProofs only [go_sem, ↓reduceIte, Nat.reduceEqDiff, reduceCtorEq, List.forall_mem_cons, List.not_mem_nil, false_implies, implies_true, and_self, map_renL_lift, labsIn_lift, List.all_append, List.all_cons, List.all_nil, List.map_append, Nat.reduceLT, labsInL, AV.labsIn]
  all_goals first | rfl | skip
 | true =>
  rw [hz] at CZ
  rw [if_neg (by rintro (q | q); exact q hb1; rw [hz] at q; cases q)] at NJ
  refine AW.rT (by rfl) fun K hK => ?_
  simp -implicitDefEqProofs only [go_sem, ↓reduceIte, Nat.reduceAdd, Nat.reduceEqDiff, Nat.reduceLeDiff, reduceCtorEq, b1]
  refine ⟨.pure _, CZ, ?_⟩
  try simp -implicitDefEqProofs only [go_sem, ↓reduceIte, Nat.reduceAdd, Nat.reduceEqDiff]
  refine hK _ ?_; clear hK K
  refine AW.cond _ (by simp -implicitDefEqProofs only [go_sem]; rfl) (fun hc => ?_) (fun hc => ?_)
  ·simp at hc
  refine AW.skip ?_
  simp only [andThen, inBlk]
  refine AW.rE (by rfl) fun K hK => ?_
  simp -implicitDefEqProofs only [go_sem, ↓reduceIte, Nat.reduceAdd, Nat.reduceEqDiff, wj]
  refine hK _ ?_; clear hK K
  refine nextJ _ _ NJ (by omega) ?_
  simp only [fb, cellsSc, cellsMs, cellsFd]
  refine Ghost.sub ?_ ?_ <;> simp -implicitDefEqProofs only [go_sem, ↓reduceIte, Nat.reduceEqDiff, reduceCtorEq, List.forall_mem_cons, List.not_mem_nil, false_implies, implies_true, and_self, labsIn_lift, List.all_cons, List.all_nil, Nat.reduceLT, labsInL, AV.labsIn]
  done
end Go.Aw.T
namespace Go.Aw.T
open Go.Proofs Go.RowKit
set_option linter.unusedSimpArgs false
set_option linter.unusedVariables false
def fitB (S : Sc) (k : List UInt8) (l : List Int) : Tr := (fitF S l 4 k 0).1
set_option maxRecDepth 100000 in
set_option maxHeartbeats 8000000 in
theorem law00_Fit (S : Sc) (hS : SizS S) (FO : ∀ k, (msOf S k).2 = true → FldsOK S (msOf S k).1) (l : List Int) (hl : l.length ≤ 200) (k : List UInt8) (hk : (msOf S k).2 = true) : PFn Tryd.prog 23 [.agg (encSc S), .str k, .slice (l.map encI)] (.agg (encTr (fitB S k l))) := by
 have CT := law00_fit S hS FO l hl 4 (by omega) k 0 (by omega) hk
 refine PFn.of Tryd.func23 rfl (by decide) Tryd.ntmps23 Tryd.results23 (Nat.le_of_ble_eq_true rfl) ?_
 unfold fitB
 generalize (fitF S l 4 k 0).1 = tr at CT
 generalize (fitF S l 4 k 0).2 = b at CT
 have e1 : ((5 - 4 : Nat) : Int) = 1 := rfl
 rw [e1, encTr_eq tr] at CT
 simp only [argsT]
 refine AW.rT (by rfl) fun K hK => ?_
 simp -implicitDefEqProofs only [go_sem, Nat.reduceAdd, encSc]
 refine hK _ ?_; clear hK K
 refine AW.rT (by rfl) fun K hK => ?_
 simp -implicitDefEqProofs only [go_sem, Nat.reduceAdd, Nat.reduceLeDiff]
 refine hK _ ?_; clear hK K
 refine AW.rR (SeqR.ev 3 (by rfl) (by decide) ?_)
 simp -implicitDefEqProofs only [go_sem, ↓reduceIte, Nat.reduceAdd, Nat.reduceEqDiff, Nat.reduceLeDiff, reduceCtorEq]
 refine SeqR.call (fun k => 2) rfl rfl CT ⟨?_, rfl, ?_, rfl, rfl, rfl, rfl, rfl, rfl⟩ ?_
 ·simp -implicitDefEqProofs only [go_sem, ↓reduceIte, Nat.reduceEqDiff, argD, encSc]
  done
 ·simp only [atH]
  simp -implicitDefEqProofs only [go_sem, List.forall_mem_cons, List.not_mem_nil, false_implies, implies_true]
  exact ⟨rfl, by decide⟩
 simp only [atH, AV.ren]
 refine SeqR.ev 1 (by rfl) (by decide) ?_
 simp -implicitDefEqProofs only [go_sem, ↓reduceIte, Nat.reduceAdd, Nat.reduceEqDiff, Nat.reduceLeDiff, lift2, goneU, newU, List.map_cons, List.map_nil, putH, Nat.reduceLT]
 refine SeqR.last rfl ?_
 refine AW.ret ?_
 simp -implicitDefEqProofs only [go_sem, ↓reduceIte, Nat.reduceAdd, Nat.reduceEqDiff, Nat.reduceLeDiff, encTr_eq]
 done
end Go.Aw.T
namespace Go.Aw.T
open Go.Proofs Go.RowKit
set_option linter.unusedSimpArgs false
set_option linter.unusedVariables false
structure FitT (S : Sc) (m : Ms) (t : Tr) : Prop where
 ms : msOf S m.name = (m, true)
 good : GoodM S m 5 t
 ok : okT t = true
 valid : validV S m.name t = 0
theorem fit_t {S : Sc} (h0 : checkC S = 0) {q : Nat} {m : Ms} (hq : S.msgs[q]? = some m) (l : List Int) : FitT S m (fitB S m.name l) := by
 have R := right_of h0
 have hm : msOf S m.name = (m, true) := (R.msg q m hq).1
 have G := fit_good (flds_all R) l 4 m.name 0 (by rw [hm])
 rw [hm] at G
 have ho : okT (fitB S m.name l) = true := by
  unfold okT
  have := G.deep 101
  rw [Bool.and_eq_true, decide_eq_true_eq]
  exact ⟨by unfold fitB; omega, G.right⟩
 refine ⟨hm, G, ho, ?_⟩
 unfold validV
 rw [if_neg (by simp [h0]), hm, if_neg (by simp), if_neg]
 ·exact G.msg
 ·rintro (a | a)
  ·exact a G.kind
  ·rw [ho] at a; cases a
end Go.Aw.T
namespace Go.Aw.T
open Go.Proofs
set_option linter.unusedSimpArgs false
set_option linter.unusedVariables false
end Go.Aw.T
namespace Go.Aw.T
open Go.Proofs
set_option linter.unusedSimpArgs false
set_option linter.unusedVariables false
theorem selL_in {α : Type} {f : Fd} {l : List α} {x : α} (h : x ∈ selL f l) : x ∈ l := by
 unfold selL at h
 split at h
 ·exact h
 ·exact List.mem_of_mem_drop h
end Go.Aw.T
namespace Go.Aw.T
open Go.Proofs
set_option linter.unusedSimpArgs false
set_option linter.unusedVariables false
theorem oneL_all' {S : Sc} {f : Fd} : ∀ {l : List Tr}, oneL S f l = 0 → ∀ x ∈ l, oneV S f x = 0
 | [], _, x, hx => by cases hx
 | a :: l, h, x, hx => by
  rw [oneL_cons] at h
  obtain ⟨h1, h2⟩ := orE_eq.1 h
  rcases List.mem_cons.1 hx with rfl | hx
  ·exact h1
  ·exact oneL_all' h2 x hx
theorem entV_all' {S : Sc} {m : Ms} : ∀ {es : List (Int × List Tr)}, entV S m es = 0 → ∀ e ∈ es, (fldOf m e.1).2 = true ∧ ((fldOf m e.1).1.label ≠ 3 → e.2.length ≤ 1) ∧ ∀ x ∈ e.2, oneV S (fldOf m e.1).1 x = 0
 | [], _, e, he => by cases he
 | (g, l) :: es, h, e, he => by
  rw [entV] at h
  split at h
  ·cases h
  rename_i h1
  split at h
  ·cases h
  rename_i h2
  obtain ⟨h3, h4⟩ := orE_eq.1 h
  rcases List.mem_cons.1 he with rfl | he
  ·refine ⟨by simpa using h1, fun a => ?_, oneL_all' h3⟩
   rcases Nat.lt_or_ge 1 l.length with q | q
   ·exact absurd ⟨a, q⟩ h2
   ·exact q
  ·exact entV_all' h4 e he
theorem of_fit {y : Ty} {t : Tr} (h : fitV y t = 0) : t.kind = kdV y ∧ (t.kind = 1 → numV y t.n = true) ∧ (y.kind = 4 → valS t.s = true) := by
 unfold fitV at h
 split at h
 ·cases h
 rename_i h1
 split at h
 ·cases h
 rename_i h2
 split at h
 ·cases h
 rename_i h3
 refine ⟨by simpa using h1, fun a => ?_, fun a => ?_⟩
 ·cases hq : numV y t.n
  ·exact absurd ⟨a, hq⟩ h2
  ·rfl
 ·cases hq : valS t.s
  ·exact absurd ⟨a, hq⟩ h3
  ·rfl
theorem prM_keeps (S : Sc) (FO : ∀ k, (msOf S k).2 = true → FldsOK S (msOf S k).1) : ∀ (t : Tr) (m : Ms), FldsOK S m → rightT t = true → t.kind = 3 → msgV S m t = 0 → bareT t = t → prM S m t = t := by
 intro t
 induction h : SizeOf.sizeOf t using Nat.strongRecOn generalizing t with
 | _ sz ih =>
 subst h
 intro m hF hr hk hm hb
 have rt := hr
 rw [rightT_mk, if_neg (by rw [hk]; decide), if_neg (by rw [hk]; decide), if_pos hk] at rt
 simp only [Bool.and_eq_true, decide_eq_true_eq] at rt
 have rE := right_ent hr
 rw [msgV_mk] at hm
 have hent := entV_all' (orE_eq.1 hm).1
 have hbe : ∀ e ∈ t.ents, ∀ x ∈ e.2, bareT x = x := fun e he x hx => by
  have hb' := congrArg Tr.ents hb
  rw [bare_ents] at hb'
  have key : ∀ l : List (Int × List Tr), l.map (fun e => (e.1, e.2.map bareT)) = l → ∀ e ∈ l, ∀ x ∈ e.2, bareT x = x := fun l => by
   induction l with
   | nil => intro _ e he; cases he
   | cons a l ihl =>
    intro h2 e he x hx
    rw [List.map_cons] at h2
    injection h2 with h3 h4
    rcases List.mem_cons.1 he with rfl | he
    ·have h5 := congrArg Prod.snd h3
     simp only at h5
     have : ∀ r : List Tr, r.map bareT = r → ∀ x ∈ r, bareT x = x := fun r => by
      induction r with
      | nil => intro _ x hx; cases hx
      | cons b r ihr =>
       intro h6 x hx
       rw [List.map_cons] at h6
       injection h6 with h7 h8
       rcases List.mem_cons.1 hx with rfl | hx
       ·exact h7
       ·exact ihr h8 x hx
     exact this _ h5 x hx
    ·exact ihl h4 e he x hx
  exact key t.ents hb' e he x hx
 have hrest : t.rest = [] := by
  have := congrArg Tr.rest hb
  rw [(bare_kind t).2.2.2] at this
  exact this.symm
 have ents : prE S m t.ents = t.ents := by
  have key : ∀ es : List (Int × List Tr), (∀ e ∈ es, e ∈ t.ents) → prE S m es = es := fun es => by
   induction es with
   | nil => intro _; rw [prE]
   | cons e es ihe =>
    intro hin
    rw [prE_cons, ihe fun e he => hin e (List.mem_cons_of_mem _ he)]
    have he := hin e List.mem_cons_self
    obtain ⟨f1, f2, f3⟩ := hent e he
    obtain ⟨⟨q1, q7⟩, qm⟩ := hF e.1 f1
    have r1 := rE e he
    have hEP : entP S m e = [e] := by
     have one : ∀ x ∈ e.2, fitV (fldOf m e.1).1.ty x = 0 := fun x hx => by
      have := f3 x hx
      unfold oneV at this
      exact (orE_eq.1 this).1
     have hall : e.2.all (pfit (fldOf m e.1).1.ty) = true := List.all_eq_true.2 fun x hx => by
      obtain ⟨c1, c2, c3⟩ := of_fit (one x hx)
      unfold kdV at c1
      by_cases a1 : (fldOf m e.1).1.ty.kind = 1 ∨ (fldOf m e.1).1.ty.kind = 2
      ·rw [if_pos (by omega)] at c1
       unfold pfit; rw [if_pos a1]; simpa using c1
      by_cases a3 : (fldOf m e.1).1.ty.kind = 3 ∨ (fldOf m e.1).1.ty.kind = 6
      ·rw [if_pos (by omega)] at c1
       unfold pfit; rw [if_neg a1, if_pos a3]; simp [c1, c2 c1]
      rw [if_neg (by omega)] at c1
      by_cases a4 : (fldOf m e.1).1.ty.kind = 4
      ·rw [if_pos (by omega)] at c1
       unfold pfit; rw [if_neg a1, if_neg a3, if_pos a4]; simp [c1, c3 a4]
      by_cases a5 : (fldOf m e.1).1.ty.kind = 5
      ·rw [if_pos (by omega)] at c1
       unfold pfit; rw [if_neg a1, if_neg a3, if_neg a4, if_pos a5]; simpa using c1
      ·rw [if_neg (by omega)] at c1
       unfold pfit; rw [if_neg a1, if_neg a3, if_neg a4, if_neg a5]; simpa using c1
     have hsel : selL (fldOf m e.1).1 e.2 = e.2 := by
      unfold selL
      split
      ·rfl
      ·rename_i hl3
       have := f2 hl3
       rw [show e.2.length - 1 = 0 by omega, List.drop_zero]
     have hpr : e.2.map (pr1 S (fldOf m e.1).1) = e.2 := by
      conv => rhs; rw [← List.map_id e.2]
      refine List.map_congr_left fun x hx => ?_
      obtain ⟨c1, c2, c3⟩ := of_fit (one x hx)
      simp only [id_eq]
      unfold pr1
      split
      ·rename_i a1
       have kx : x.kind = 1 := by rw [c1]; unfold kdV; rw [if_pos (by omega)]
       have nv := c2 kx
       unfold numV at nv
       rw [if_pos a1] at nv
       simp only [decide_eq_true_eq] at nv
       have : clampV x.n = x.n := by unfold clampV; rw [if_neg (by omega), if_neg (by omega)]
       rw [this]
       cases x; rfl
      split
      ·rename_i a7
       have kx : x.kind = 3 := by rw [c1]; unfold kdV; rw [if_neg (by omega), if_neg (by omega)]
       have mv := f3 x hx
       unfold oneV at mv
       have mv := (orE_eq.1 (orE_eq.1 mv).2).1
       rw [if_pos a7] at mv
       obtain ⟨i, hi⟩ := List.getElem?_of_mem he
       obtain ⟨j, hj⟩ := List.getElem?_of_mem hx
       exact ih _ (size_ent hi hj) x rfl _ (FO _ (qm a7)) (r1.2 x hx) kx mv (hbe e he x hx)
      ·rfl
     have hkeep : keepL (fldOf m e.1).1 e.2 = true := by
      unfold keepL
      by_cases a : (fldOf m e.1).1.label = 1
      ·rw [show ((fldOf m e.1).1.label != 1) = false by simp [a], Bool.false_or]
       have hl := r1.1
       cases hq : e.2 with
       | nil => rw [hq] at hl; simp at hl
       | cons y ys =>
        have mv := f3 y (by rw [hq]; exact List.mem_cons_self)
        unfold oneV at mv
        have mz := (orE_eq.1 (orE_eq.1 mv).2).2
        cases hz : zeroV y with
        | false => simp [hz]
        | true => rw [if_pos ⟨a, hz⟩] at mz; cases mz
      ·rw [show ((fldOf m e.1).1.label != 1) = true by simpa using a, Bool.true_or]
     have hfp : fieldP S (fldOf m e.1).1 e.2 = (e.2, true) := by unfold fieldP; rw [if_neg (by simp [hall]), hsel, hpr, hkeep]
     unfold entP
     rw [hfp, if_pos ⟨f1, rfl⟩]
    rw [hEP]
    rfl
  exact key t.ents fun e h => h
 rw [prM_mk, ents]
 cases t with
 | mk k n s es r =>
  simp only [Tr.kind, Tr.n, Tr.s, Tr.ents, Tr.rest] at *
  rw [hk, rt.1.1.1, rt.1.1.2, hrest]
end Go.Aw.T
namespace Go.Aw.T
open Go.Proofs
set_option linter.unusedSimpArgs false
set_option linter.unusedVariables false
theorem bare_of {k n : Int} {s : List UInt8} {es : List (Int × List Tr)} (h : ∀ e ∈ es, ∀ x ∈ e.2, bareT x = x) : bareT (.mk k n s es []) = .mk k n s es [] := by
 rw [bareT, bareE_map]
 congr 1
 conv => rhs; rw [← List.map_id es]
 refine List.map_congr_left fun e he => ?_
 obtain ⟨g, l⟩ := e
 simp only [id_eq, Prod.mk.injEq, true_and]
 conv => rhs; rw [← List.map_id l]
 exact List.map_congr_left fun x hx => h (g, l) he x hx
theorem leaf_bare (k v : Int) : bareT (leafF k v) = leafF k v := by
 unfold leafF
 repeat' split
 all_goals rw [bareT, bareE]
theorem reps_bare {l : List Int} {sub : List UInt8 → Nat → Tr × Nat} {f : Fd} (hs : ∀ k a, bareT (sub k a).1 = (sub k a).1) (a : Nat) : ∀ n, ∀ x ∈ (itS (fun _ => repF l sub f) n ([], a)).1, bareT x = x
 | 0 => by simp [itS]
 | n + 1 => by
  have ih := reps_bare (l := l) (f := f) hs a n
  rw [itS]
  generalize itS (fun _ => repF l sub f) n ([], a) = y at ih
  have ho : bareT (oneF l sub f y.2).1 = (oneF l sub f y.2).1 := by
   unfold oneF
   split
   ·exact leaf_bare _ _
   ·exact hs _ _
  intro x hx
  unfold repF at hx
  simp only at hx
  split at hx
  ·rcases List.mem_append.1 hx with hx | hx
   ·exact ih x hx
   ·simp only [List.mem_singleton] at hx
    rw [hx]; exact ho
  ·exact ih x hx
theorem tags_bare {m : Ms} {l : List Int} {sub : List UInt8 → Nat → Tr × Nat} {ok : Bool} (hs : ∀ k a, bareT (sub k a).1 = (sub k a).1) (a : Nat) : ∀ n, ∀ e ∈ (itS (tagF m l sub ok) n ([], a)).1, ∀ x ∈ e.2, bareT x = x
 | 0 => by simp [itS]
 | n + 1 => by
  have ih := tags_bare (m := m) (l := l) (ok := ok) hs a n
  rw [itS]
  generalize itS (tagF m l sub ok) n ([], a) = y at ih
  intro e he
  unfold tagF at he
  split at he
  ·exact ih e he
  split at he
  ·exact ih e he
  split at he
  ·exact ih e he
  split at he
  ·exact ih e he
  split at he
  ·exact ih e he
  ·simp only at he
   rcases List.mem_append.1 he with he | he
   ·exact ih e he
   ·simp only [List.mem_singleton] at he
    subst he
    exact reps_bare hs _ _
theorem fit_bare (S : Sc) (l : List Int) : ∀ (d : Nat) (k : List UInt8) (a : Nat), bareT (fitF S l d k a).1 = (fitF S l d k a).1
 | 0, k, a => by
  rw [fitF]
  exact bare_of (tags_bare (fun k a => by unfold nowhere; rw [bareT, bareE]) a 500)
 | d + 1, k, a => by
  rw [fitF]
  exact bare_of (tags_bare (fit_bare S l d) a 500)
end Go.Aw.T
