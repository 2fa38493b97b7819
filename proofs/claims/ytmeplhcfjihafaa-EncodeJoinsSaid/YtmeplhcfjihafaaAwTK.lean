/- The law EncodeJoins. -/
import Derived.Test.YtmeplhcfjihafaaAwTE
import Derived.Test.YtmeplhcfjihafaaAwTJ
namespace Go.Aw
open Go.Proofs Go.RowKit
set_option linter.unusedSimpArgs false
set_option linter.unusedVariables false
def mapG (g : Int) : Int := IntKind.wrap .i64 (andI .i64 g 255 + 200)
theorem and255 (g : Int) : 0 ≤ andI .i64 g 255 ∧ andI .i64 g 255 ≤ 255 := by
  unfold andI
  have h : (BitVec.ofInt 64 g &&& BitVec.ofInt 64 255).toNat ≤ 255 := by
    rw [BitVec.toNat_and]
    exact Nat.le_trans Nat.and_le_right (by decide)
  rw [show IntKind.bits .i64 = 64 from rfl, w64] <;> omega
theorem mapG_low (g : Int) : 200 ≤ mapG g := by
  have := and255 g
  unfold mapG
  rw [w64] <;> omega
def fT (e : Int × List Tr) : Int × List Tr := (mapG e.1, e.2)
def LQ (t : Tr) (i : Nat) : List (Int × List Tr) := t.ents.mapIdx fun k e => if k < i then fT e else e
theorem LQ_zero (t : Tr) : LQ t 0 = t.ents := by
  unfold LQ
  apply List.ext_getElem?
  intro i
  rw [List.getElem?_mapIdx]
  cases t.ents[i]? <;> simp
theorem LQ_len (t : Tr) (i : Nat) : (LQ t i).length = t.ents.length := by unfold LQ; rw [List.length_mapIdx]
theorem LQ_at {t : Tr} {i : Nat} {e : Int × List Tr} (h : t.ents[i]? = some e) : (LQ t i)[i]? = some e := by
  unfold LQ
  rw [List.getElem?_mapIdx, h, Option.map_some, if_neg (by omega)]
theorem LQ_next {t : Tr} {i : Nat} {e : Int × List Tr} (h : t.ents[i]? = some e) : (LQ t i).set i (fT e) = LQ t (i + 1) := by
  have hl : i < t.ents.length := (List.getElem?_eq_some_iff.1 h).1
  unfold LQ
  apply List.ext_getElem?
  intro j
  rw [List.getElem?_set, List.getElem?_mapIdx, List.getElem?_mapIdx]
  by_cases q : i = j
  · subst q
    rw [if_pos rfl, List.length_mapIdx, if_pos hl, h, Option.map_some, if_pos (by omega)]
  · rw [if_neg q]
    cases t.ents[j]? with
    | none => rfl
    | some n =>
      simp only [Option.map_some]
      by_cases q2 : j < i
      · rw [if_pos q2, if_pos (by omega)]
      · rw [if_neg q2, if_neg (by omega)]
theorem LQ_end (t : Tr) : ∀ e ∈ LQ t t.ents.length, ∃ x ∈ t.ents, e = fT x := by
  intro e he
  obtain ⟨j, hj⟩ := List.getElem?_of_mem he
  unfold LQ at hj
  rw [List.getElem?_mapIdx, Option.map_eq_some_iff] at hj
  obtain ⟨x, hx, rfl⟩ := hj
  exact ⟨x, List.mem_of_getElem? hx, by rw [if_pos (List.getElem?_eq_some_iff.1 hx).1]⟩
def mapT (t : Tr) : Tr := .mk t.kind t.n t.s (LQ t t.ents.length) t.rest
theorem lensE_all : ∀ {es : List (Int × List Tr)}, lensE es = true ↔ ∀ e ∈ es, e.2.length ≤ 1000 ∧ lensTs e.2 = true
  | [] => by simp [lensE]
  | (g, l) :: es => by
    rw [lensE, Bool.and_eq_true, Bool.and_eq_true, decide_eq_true_eq, lensE_all]
    simp
theorem lens_mapT {t : Tr} (h : lensT t = true) : lensT (mapT t) = true := by
  obtain ⟨h1, h2, h3⟩ := lensT_mk h
  unfold mapT
  rw [lensT, Bool.and_eq_true, Bool.and_eq_true, decide_eq_true_eq, decide_eq_true_eq, LQ_len]
  refine ⟨⟨h1, h2⟩, lensE_all.2 fun e he => ?_⟩
  obtain ⟨x, hx, rfl⟩ := LQ_end t e he
  exact lensE_all.1 h3 x hx
theorem lens_both {A U : Tr} (hA : lensT A = true) (hU : lensT U = true) (h : A.ents.length + U.ents.length ≤ 1000) : lensT (bothT A U) = true := by
  obtain ⟨a1, a2, a3⟩ := lensT_mk hA
  obtain ⟨u1, u2, u3⟩ := lensT_mk hU
  unfold bothT
  rw [lensT, Bool.and_eq_true, Bool.and_eq_true, decide_eq_true_eq, decide_eq_true_eq, List.length_append]
  refine ⟨⟨a1, h⟩, lensE_all.2 fun e he => ?_⟩
  rcases List.mem_append.1 he with he | he
  · exact lensE_all.1 a3 e he
  · exact lensE_all.1 u3 e he
theorem small_ents {t : Tr} (h : smallB t = true) : t.ents.length ≤ 40 := by
  cases t with
  | mk k n s es r =>
    unfold smallB at h
    rw [smallT] at h
    split at h
    · cases h
    · show es.length ≤ 40
      omega
theorem rightE_last : ∀ (a : List (Int × List Tr)) (L c : Int), rightE a L = true → (∀ e, a[a.length - 1]? = some e → e.1 < c) → L < c → ∀ e ∈ a, e.1 < c
  | [], _, _, _, _, _, e, he => by cases he
  | (g, l) :: a, L, c, h, hl, hL, e, he => by
    rw [rightE] at h
    split at h
    · cases h
    · split at h
      · have hg : g < c := by
          cases a with
          | nil => exact hl (g, l) rfl
          | cons x a =>
            obtain ⟨q, hq⟩ : ∃ q, (x :: a)[(x :: a).length - 1]? = some q := ⟨_, List.getElem?_eq_getElem (by simp)⟩
            have q1 : q.1 < c := hl q (by rw [List.length_cons, show (x :: a).length + 1 - 1 = ((x :: a).length - 1) + 1 by simp, List.getElem?_cons_succ]; exact hq)
            have q2 := (right_len h q (List.mem_of_getElem? hq)).1
            omega
        rcases List.mem_cons.1 he with rfl | he
        · exact hg
        · refine rightE_last a g c h (fun q hq => ?_) hg e he
          cases a with
          | nil => cases he
          | cons x a => exact hl q (by rw [List.length_cons, show (x :: a).length + 1 - 1 = ((x :: a).length - 1) + 1 by simp, List.getElem?_cons_succ]; exact hq)
      · cases h
end Go.Aw
