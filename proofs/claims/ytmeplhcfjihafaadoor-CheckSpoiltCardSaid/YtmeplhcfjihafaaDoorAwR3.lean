/- Names. -/
import Derived.Test.YtmeplhcfjihafaaDoorAwR2
import Derived.Test.YtmeplhcfjihafaaDoorAwSh
namespace Go.Aw
open Go.Proofs Go.RowKit
set_option linter.unusedSimpArgs false
set_option linter.unusedVariables false
theorem Fr.ofBelow {w w' : World} (h : Below w.heap.size w w') : Fr w (fun _ => False) w' :=
  ⟨h.os, h.tape, h.output, h.size, fun b hb _ => h.block b hb, fun b cur et p hb => ⟨cur, et, p, by
    rw [h.block b (Array.getElem?_eq_some_iff.1 hb).1]; exact hb, rfl⟩⟩
theorem utf8_decode (s : List UInt8) (h : s ≠ []) : PFn Tryd.prog 97 [.str s] (.tuple [.int .i32 ((runeAt s 0).1 : Int), .int .i64 ((runeAt s 0).2 : Int)]) := by
  refine ⟨by kernel_rfl, fun w I vals hs hr hI ht => ?_⟩
  have hs1 : vals.size = 1 := by rw [hs]; rfl
  have h0 := hr 0 _ _ (Array.getElem?_eq_getElem (by omega)) rfl
  have hv : vals = #[.string ⟨⟨s⟩⟩] := by
    generalize e1 : vals[0] = v1 at h0
    cases h0
    apply Array.ext
    · rw [hs1]; rfl
    · intro i hi hi'
      have : i < 1 := by omega
      match i, this with
      | 0, _ => exact e1
  subst hv
  have hne : (⟨⟨s⟩⟩ : ByteArray).size ≠ 0 := by
    show s.length ≠ 0
    intro e
    exact h (List.length_eq_zero_iff.1 e)
  have e : Lib.decodeGo ⟨⟨s⟩⟩ = runeAt s 0 := by
    unfold Lib.decodeGo runeAt
    rw [if_neg hne]
  refine (Tryd.utf8_DecodeRuneInString ⟨⟨s⟩⟩ w ht.1).mono fun x w' ⟨he, hb⟩ => ⟨_, he, Fr.ofBelow hb, ?_⟩
  rw [e]
  refine .tuple rfl fun j u' q h1 h2 => ?_
  match j, h1, h2 with
  | 0, h1, h2 => simp at h1 h2; subst h1; subst h2; exact .int _ _
  | 1, h1, h2 => simp at h1 h2; subst h1; subst h2; exact .int _ _
  | n + 2, h1, _ => simp at h1
theorem resN_cases (x : Nat × Nat) : (resN x = (0, 0, false) ∧ x.1 = 65533 ∧ x.2 < 2) ∨ (resN x = ((x.1 : Int), (x.2 : Int), true) ∧ ¬ (x.1 = 65533 ∧ x.2 < 2)) := by
  unfold resN
  split
  · rename_i h; exact .inl ⟨rfl, h⟩
  · rename_i h; exact .inr ⟨rfl, h⟩
set_option maxRecDepth 100000 in
theorem runes_Next (s : List UInt8) (p : Nat) (hp : p < s.length) (hl : s.length ≤ 1000000000) : PFn Tryd.prog 95 [.str s, .int .i64 (p : Int)] (nextT s p) := by
  refine PFn.of Tryd.func95 rfl (by decide) Tryd.ntmps95 Tryd.results95 (Nat.le_of_ble_eq_true rfl) ?_
  simp only [argsT, nextT]
  have g0 : ((p : Int) < 0) = False := eq_false (by omega)
  have g1 : 0 ≤ (p : Int) := by omega
  have g2 : (p : Int) ≤ (s.length : Int) := by omega
  have g3 : ((p : Int) ≥ (s.length : Int)) = False := eq_false (by omega)
  have U := utf8_decode (s.drop p) (by rw [Ne, List.drop_eq_nil_iff]; omega)
  rw [runeAt_drop] at U
  refine AW.rT (by rfl) fun K hK => ?_
  simp -implicitDefEqProofs only [go_sem, ↓reduceIte, Nat.reduceAdd, Nat.reduceMul, Nat.reduceEqDiff, Nat.reduceLeDiff, reduceCtorEq, Int.reduceToNat]
  refine hK _ ?_; clear hK K
  refine AW.seq ?_
  refine AW.rT (by rfl) fun K hK => ?_
  simp -implicitDefEqProofs only [go_sem, ↓reduceIte, Nat.reduceAdd, Nat.reduceMul, Nat.reduceEqDiff, Nat.reduceLeDiff, reduceCtorEq, Int.reduceToNat, g0, g3]
  refine hK _ ?_; clear hK K
  refine AW.cond _ (by simp -implicitDefEqProofs only [go_sem, ↓reduceIte, Nat.reduceAdd, Nat.reduceMul, Nat.reduceEqDiff, Nat.reduceLeDiff, reduceCtorEq, Int.reduceToNat]; rfl) (fun hc => ?_) (fun hc => ?_)
  · simp at hc
  refine AW.skip ?_
  simp only [andThen, inBlk, reduceCtorEq, ↓reduceIte, if_t, if_f]
  refine AW.rT (by rfl) fun K hK => ?_
  simp -implicitDefEqProofs only [go_sem, ↓reduceIte, Nat.reduceAdd, Nat.reduceMul, Nat.reduceEqDiff, Nat.reduceLeDiff, reduceCtorEq, Int.reduceToNat, g1, g2, List.take_length, Int.le_refl]
  refine ⟨.pure _, U, ?_⟩
  try simp -implicitDefEqProofs only [go_sem, ↓reduceIte, Nat.reduceAdd, Nat.reduceMul, Nat.reduceEqDiff, Nat.reduceLeDiff, reduceCtorEq, Int.reduceToNat]
  refine hK _ ?_; clear hK K
  refine AW.seq ?_
  generalize runeAt s p = x
  rcases resN_cases x with ⟨e, e1, e2⟩ | ⟨e, en⟩
  · have f1 : ((x.1 : Int) == 65533) = true := by simp; omega
    have f2 : ((x.2 : Int) < 2) = True := eq_true (by omega)
    refine AW.rT (by rfl) fun K hK => ?_
    simp -implicitDefEqProofs only [go_sem, ↓reduceIte, Nat.reduceAdd, Nat.reduceMul, Nat.reduceEqDiff, Nat.reduceLeDiff, reduceCtorEq, Int.reduceToNat, f1, f2]
    refine hK _ ?_; clear hK K
    refine AW.cond _ (by simp -implicitDefEqProofs only [go_sem, ↓reduceIte, Nat.reduceAdd, Nat.reduceMul, Nat.reduceEqDiff, Nat.reduceLeDiff, reduceCtorEq, Int.reduceToNat]; rfl) (fun hc => ?_) (fun hc => ?_)
    rotate_left
    · simp at hc
    refine AW.rT (by rfl) fun K hK => ?_
    simp -implicitDefEqProofs only [go_sem, ↓reduceIte, Nat.reduceAdd, Nat.reduceMul, Nat.reduceEqDiff, Nat.reduceLeDiff, reduceCtorEq, Int.reduceToNat]
    refine hK _ ?_; clear hK K
    refine AW.ret ?_
    simp -implicitDefEqProofs only [go_sem, ↓reduceIte, Nat.reduceAdd, Nat.reduceMul, Nat.reduceEqDiff, Nat.reduceLeDiff, reduceCtorEq, Int.reduceToNat, e]
  · by_cases e1 : x.1 = 65533
    · have f1 : ((x.1 : Int) == 65533) = true := by simp; omega
      have f2 : ((x.2 : Int) < 2) = False := eq_false (by omega)
      refine AW.rT (by rfl) fun K hK => ?_
      simp -implicitDefEqProofs only [go_sem, ↓reduceIte, Nat.reduceAdd, Nat.reduceMul, Nat.reduceEqDiff, Nat.reduceLeDiff, reduceCtorEq, Int.reduceToNat, f1, f2]
      refine hK _ ?_; clear hK K
      refine AW.cond _ (by simp -implicitDefEqProofs only [go_sem, ↓reduceIte, Nat.reduceAdd, Nat.reduceMul, Nat.reduceEqDiff, Nat.reduceLeDiff, reduceCtorEq, Int.reduceToNat]; rfl) (fun hc => ?_) (fun hc => ?_)
      · simp at hc
      refine AW.skip ?_
      simp only [andThen, inBlk, reduceCtorEq, ↓reduceIte, if_t, if_f]
      refine AW.rT (by rfl) fun K hK => ?_
      simp -implicitDefEqProofs only [go_sem, ↓reduceIte, Nat.reduceAdd, Nat.reduceMul, Nat.reduceEqDiff, Nat.reduceLeDiff, reduceCtorEq, Int.reduceToNat]
      refine hK _ ?_; clear hK K
      refine AW.ret ?_
      simp -implicitDefEqProofs only [go_sem, ↓reduceIte, Nat.reduceAdd, Nat.reduceMul, Nat.reduceEqDiff, Nat.reduceLeDiff, reduceCtorEq, Int.reduceToNat, e]
    · have f1 : ((x.1 : Int) == 65533) = false := by simp; omega
      refine AW.rT (by rfl) fun K hK => ?_
      simp -implicitDefEqProofs only [go_sem, ↓reduceIte, Nat.reduceAdd, Nat.reduceMul, Nat.reduceEqDiff, Nat.reduceLeDiff, reduceCtorEq, Int.reduceToNat, f1]
      refine hK _ ?_; clear hK K
      refine AW.cond _ (by simp -implicitDefEqProofs only [go_sem, ↓reduceIte, Nat.reduceAdd, Nat.reduceMul, Nat.reduceEqDiff, Nat.reduceLeDiff, reduceCtorEq, Int.reduceToNat]; rfl) (fun hc => ?_) (fun hc => ?_)
      · simp at hc
      refine AW.skip ?_
      simp only [andThen, inBlk, reduceCtorEq, ↓reduceIte, if_t, if_f]
      refine AW.rT (by rfl) fun K hK => ?_
      simp -implicitDefEqProofs only [go_sem, ↓reduceIte, Nat.reduceAdd, Nat.reduceMul, Nat.reduceEqDiff, Nat.reduceLeDiff, reduceCtorEq, Int.reduceToNat]
      refine hK _ ?_; clear hK K
      refine AW.ret ?_
      simp -implicitDefEqProofs only [go_sem, ↓reduceIte, Nat.reduceAdd, Nat.reduceMul, Nat.reduceEqDiff, Nat.reduceLeDiff, reduceCtorEq, Int.reduceToNat, e]
def vaS (s : List UInt8) (p : Nat) : St := ⟨ofL [(0, .p (.str s)), (9, .it 0)], ofH [(0, .iter s p)], 1⟩
theorem runes_end {s : List UInt8} {p : Nat} (h : ¬ p < s.length) : runesO s p = some [] := by rw [runesO_step, if_neg h]
theorem runes_bad {s : List UInt8} {p : Nat} (h : p < s.length) (hr : (resN (runeAt s p)).2.2 = false) : runesO s p = none := by rw [runesO_step, if_pos h, if_neg (by rw [hr]; simp)]
theorem runes_ok {s : List UInt8} {p : Nat} (h : p < s.length) (hr : (resN (runeAt s p)).2.2 = true) : runesO s p = (runesO s (p + (runeAt s p).2)).map (((runeAt s p).1 : Int) :: ·) := by
  rw [runesO_step, if_pos h, if_pos hr]
  cases runesO s (p + (runeAt s p).2) <;> rfl
set_option maxRecDepth 100000 in
theorem runes_Valid (s : List UInt8) (hl : s.length ≤ 1000000000) : PFn Tryd.prog 91 [.str s] (.bool (runesO s 0).isSome) := by
  refine PFn.of Tryd.func91 rfl (by decide) Tryd.ntmps91 Tryd.results91 (Nat.le_of_ble_eq_true rfl) ?_
  simp only [argsT]
  refine AW.rT (by rfl) fun K hK => ?_
  simp -implicitDefEqProofs only [go_sem, ↓reduceIte, Nat.reduceAdd, Nat.reduceMul, Nat.reduceEqDiff, Nat.reduceLeDiff, reduceCtorEq, Int.reduceToNat]
  refine hK _ ?_; clear hK K
  refine AW.seq ?_
  refine AW.rT (by rfl) fun K hK => ?_
  simp -implicitDefEqProofs only [go_sem, ↓reduceIte, Nat.reduceAdd, Nat.reduceMul, Nat.reduceEqDiff, Nat.reduceLeDiff, reduceCtorEq, Int.reduceToNat]
  refine hK _ ?_; clear hK K
  refine AW.block ?_
  refine AW.loop (vaS s) (fun p => p ≤ s.length ∧ (runesO s 0).isSome = (runesO s p).isSome) (fun p => s.length - p) 0 ?_ ⟨by omega, rfl⟩ fun p hp => ?_
  · simp only [vaS]
    refine Ghost.ent (fun _ => 2) ?_ ?_ ?_ <;> simp -implicitDefEqProofs only [go_sem, ↓reduceIte, Nat.reduceAdd, Nat.reduceMul, Nat.reduceEqDiff, Nat.reduceLeDiff, reduceCtorEq, Int.reduceToNat,  List.forall_mem_cons, List.not_mem_nil, false_implies, implies_true, and_self, map_renL_lift, labsIn_lift, List.all_append, List.all_cons, List.all_nil, List.map_append, Nat.reduceLT, labsInL, AV.labsIn]
  obtain ⟨p1, p2⟩ := hp
  simp only [vaS]
  have wid := runeAt_wid s p
  by_cases hp : p < s.length
  case neg =>
    have e : (runesO s 0).isSome = true := by rw [p2, runes_end hp]; rfl
    refine AW.rT (by rfl) fun K hK => ?_
    simp -implicitDefEqProofs only [go_sem, ↓reduceIte, Nat.reduceAdd, Nat.reduceMul, Nat.reduceEqDiff, Nat.reduceLeDiff, reduceCtorEq, Int.reduceToNat, hp]
    refine hK _ ?_; clear hK K
    refine AW.seq ?_
    refine AW.cond _ (by simp -implicitDefEqProofs only [go_sem, ↓reduceIte, Nat.reduceAdd, Nat.reduceMul, Nat.reduceEqDiff, Nat.reduceLeDiff, reduceCtorEq, Int.reduceToNat]; rfl) (fun hc => ?_) (fun hc => ?_)
    · simp at hc
    refine AW.exit ?_
    simp only [andThen, inBlk, reduceCtorEq, ↓reduceIte, if_t, if_f]
    refine AW.rT (by rfl) fun K hK => ?_
    simp -implicitDefEqProofs only [go_sem, ↓reduceIte, Nat.reduceAdd, Nat.reduceMul, Nat.reduceEqDiff, Nat.reduceLeDiff, reduceCtorEq, Int.reduceToNat]
    refine hK _ ?_; clear hK K
    refine AW.ret ?_
    simp -implicitDefEqProofs only [go_sem, ↓reduceIte, Nat.reduceAdd, Nat.reduceMul, Nat.reduceEqDiff, Nat.reduceLeDiff, reduceCtorEq, Int.reduceToNat, e]
  have hin := runeAt_in s p hp
  refine AW.rT (by rfl) fun K hK => ?_
  simp -implicitDefEqProofs only [go_sem, ↓reduceIte, Nat.reduceAdd, Nat.reduceMul, Nat.reduceEqDiff, Nat.reduceLeDiff, reduceCtorEq, Int.reduceToNat, hp]
  refine hK _ ?_; clear hK K
  refine AW.seq ?_
  refine AW.cond _ (by simp -implicitDefEqProofs only [go_sem, ↓reduceIte, Nat.reduceAdd, Nat.reduceMul, Nat.reduceEqDiff, Nat.reduceLeDiff, reduceCtorEq, Int.reduceToNat]; rfl) (fun hc => ?_) (fun hc => ?_)
  rotate_left
  · simp at hc
  refine AW.skip ?_
  simp only [andThen, inBlk, reduceCtorEq, ↓reduceIte, if_t, if_f]
  refine AW.block ?_
  refine AW.rT (by rfl) fun K hK => ?_
  simp -implicitDefEqProofs only [go_sem, ↓reduceIte, Nat.reduceAdd, Nat.reduceMul, Nat.reduceEqDiff, Nat.reduceLeDiff, reduceCtorEq, Int.reduceToNat]
  refine hK _ ?_; clear hK K
  refine AW.seq ?_
  have next : (resN (runeAt s p)).2.2 = true → (runesO s 0).isSome = (runesO s (p + (runeAt s p).2)).isSome := fun h => by rw [p2, runes_ok hp h, Option.isSome_map]
  by_cases h1 : (runeAt s p).1 = 65533
  case neg =>
    have f1 : (((runeAt s p).1 : Int) != 65533) = true := by simp; omega
    have ok : (resN (runeAt s p)).2.2 = true := by
      rcases resN_cases (runeAt s p) with ⟨e, e1, e2⟩ | ⟨e, en⟩
      · exact absurd e1 h1
      · rw [e]
    refine AW.rT (by rfl) fun K hK => ?_
    simp -implicitDefEqProofs only [go_sem, ↓reduceIte, Nat.reduceAdd, Nat.reduceMul, Nat.reduceEqDiff, Nat.reduceLeDiff, reduceCtorEq, Int.reduceToNat, f1]
    refine hK _ ?_; clear hK K
    refine AW.cond _ (by simp -implicitDefEqProofs only [go_sem, ↓reduceIte, Nat.reduceAdd, Nat.reduceMul, Nat.reduceEqDiff, Nat.reduceLeDiff, reduceCtorEq, Int.reduceToNat]; rfl) (fun hc => ?_) (fun hc => ?_)
    rotate_left
    · simp at hc
    refine AW.exit ?_
    simp only [andThen, inBlk, reduceCtorEq, ↓reduceIte, if_t, if_f]
    refine ⟨p + (runeAt s p).2, ⟨hin, next ok⟩, by omega, ?_⟩
    refine Ghost.sub ?_ ?_ <;> simp -implicitDefEqProofs only [go_sem, ↓reduceIte, Nat.reduceAdd, Nat.reduceMul, Nat.reduceEqDiff, Nat.reduceLeDiff, reduceCtorEq, Int.reduceToNat,  List.forall_mem_cons, List.not_mem_nil, false_implies, implies_true, and_self, labsIn_lift, List.all_append, List.all_cons, List.all_nil, Nat.reduceLT, labsInL, AV.labsIn]
  have f1 : (((runeAt s p).1 : Int) != 65533) = false := by simp; omega
  refine AW.rT (by rfl) fun K hK => ?_
  simp -implicitDefEqProofs only [go_sem, ↓reduceIte, Nat.reduceAdd, Nat.reduceMul, Nat.reduceEqDiff, Nat.reduceLeDiff, reduceCtorEq, Int.reduceToNat, f1]
  refine hK _ ?_; clear hK K
  refine AW.cond _ (by simp -implicitDefEqProofs only [go_sem, ↓reduceIte, Nat.reduceAdd, Nat.reduceMul, Nat.reduceEqDiff, Nat.reduceLeDiff, reduceCtorEq, Int.reduceToNat]; rfl) (fun hc => ?_) (fun hc => ?_)
  · simp at hc
  refine AW.skip ?_
  simp only [andThen, inBlk, reduceCtorEq, ↓reduceIte, if_t, if_f]
  have N := runes_Next s p hp hl
  unfold nextT at N
  refine AW.rT (by rfl) fun K hK => ?_
  simp -implicitDefEqProofs only [go_sem, ↓reduceIte, Nat.reduceAdd, Nat.reduceMul, Nat.reduceEqDiff, Nat.reduceLeDiff, reduceCtorEq, Int.reduceToNat]
  refine ⟨.pure _, N, ?_⟩
  try simp -implicitDefEqProofs only [go_sem, ↓reduceIte, Nat.reduceAdd, Nat.reduceMul, Nat.reduceEqDiff, Nat.reduceLeDiff, reduceCtorEq, Int.reduceToNat]
  refine hK _ ?_; clear hK K
  cases hb : (resN (runeAt s p)).2.2 with
  | true =>
    refine AW.rT (by rfl) fun K hK => ?_
    simp -implicitDefEqProofs only [go_sem, ↓reduceIte, Nat.reduceAdd, Nat.reduceMul, Nat.reduceEqDiff, Nat.reduceLeDiff, reduceCtorEq, Int.reduceToNat, hb]
    refine hK _ ?_; clear hK K
    refine AW.cond _ (by simp -implicitDefEqProofs only [go_sem, ↓reduceIte, Nat.reduceAdd, Nat.reduceMul, Nat.reduceEqDiff, Nat.reduceLeDiff, reduceCtorEq, Int.reduceToNat]; rfl) (fun hc => ?_) (fun hc => ?_)
    · simp at hc
    refine AW.skip ?_
    simp only [andThen, inBlk, reduceCtorEq, ↓reduceIte, if_t, if_f]
    refine ⟨p + (runeAt s p).2, ⟨hin, next hb⟩, by omega, ?_⟩
    refine Ghost.sub ?_ ?_ <;> simp -implicitDefEqProofs only [go_sem, ↓reduceIte, Nat.reduceAdd, Nat.reduceMul, Nat.reduceEqDiff, Nat.reduceLeDiff, reduceCtorEq, Int.reduceToNat,  List.forall_mem_cons, List.not_mem_nil, false_implies, implies_true, and_self, labsIn_lift, List.all_append, List.all_cons, List.all_nil, Nat.reduceLT, labsInL, AV.labsIn]
  | false =>
    have e : (runesO s 0).isSome = false := by rw [p2, runes_bad hp hb]; rfl
    refine AW.rT (by rfl) fun K hK => ?_
    simp -implicitDefEqProofs only [go_sem, ↓reduceIte, Nat.reduceAdd, Nat.reduceMul, Nat.reduceEqDiff, Nat.reduceLeDiff, reduceCtorEq, Int.reduceToNat, hb]
    refine hK _ ?_; clear hK K
    refine AW.cond _ (by simp -implicitDefEqProofs only [go_sem, ↓reduceIte, Nat.reduceAdd, Nat.reduceMul, Nat.reduceEqDiff, Nat.reduceLeDiff, reduceCtorEq, Int.reduceToNat]; rfl) (fun hc => ?_) (fun hc => ?_)
    rotate_left
    · simp at hc
    refine AW.rT (by rfl) fun K hK => ?_
    simp -implicitDefEqProofs only [go_sem, ↓reduceIte, Nat.reduceAdd, Nat.reduceMul, Nat.reduceEqDiff, Nat.reduceLeDiff, reduceCtorEq, Int.reduceToNat]
    refine hK _ ?_; clear hK K
    refine AW.ret ?_
    simp -implicitDefEqProofs only [go_sem, ↓reduceIte, Nat.reduceAdd, Nat.reduceMul, Nat.reduceEqDiff, Nat.reduceLeDiff, reduceCtorEq, Int.reduceToNat, e]
def coS (s : List UInt8) (x : Nat × Nat) : St := ⟨ofL [(0, .p (.str s)), (8, .it 0), (3, .p (.int .i64 (x.2 : Int)))], ofH [(0, .iter s x.1)], 1⟩
def countN (s : List UInt8) : Nat := match runesO s 0 with | none => 0 | some l => l.length
theorem runes_len (s : List UInt8) : ∀ (n p : Nat) (l : List Int), runesF s n p = some l → l.length ≤ n
  | 0, p, l, h => by simp [runesF] at h; simp [h]
  | n + 1, p, l, h => by
    rw [runesF] at h
    split at h
    · split at h
      · split at h
        · rename_i l' hl
          injection h with h
          subst h
          have := runes_len s n _ _ hl
          simp; omega
        · cases h
      · cases h
    · injection h with h; subst h; simp
set_option maxRecDepth 100000 in
theorem runes_Count (s : List UInt8) (hl : s.length ≤ 1000000000) : PFn Tryd.prog 79 [.str s] (.int .i64 (countN s : Int)) := by
  refine PFn.of Tryd.func79 rfl (by decide) Tryd.ntmps79 Tryd.results79 (Nat.le_of_ble_eq_true rfl) ?_
  simp only [argsT]
  refine AW.rT (by rfl) fun K hK => ?_
  simp -implicitDefEqProofs only [go_sem, ↓reduceIte, Nat.reduceAdd, Nat.reduceMul, Nat.reduceEqDiff, Nat.reduceLeDiff, reduceCtorEq, Int.reduceToNat]
  refine hK _ ?_; clear hK K
  refine AW.seq ?_
  refine AW.rT (by rfl) fun K hK => ?_
  simp -implicitDefEqProofs only [go_sem, ↓reduceIte, Nat.reduceAdd, Nat.reduceMul, Nat.reduceEqDiff, Nat.reduceLeDiff, reduceCtorEq, Int.reduceToNat]
  refine ⟨.pure _, runes_Valid s hl, ?_⟩
  try simp -implicitDefEqProofs only [go_sem, ↓reduceIte, Nat.reduceAdd, Nat.reduceMul, Nat.reduceEqDiff, Nat.reduceLeDiff, reduceCtorEq, Int.reduceToNat]
  refine hK _ ?_; clear hK K
  cases hr : runesO s 0 with
  | none =>
    have e : countN s = 0 := by unfold countN; rw [hr]
    have ei : (none : Option (List Int)).isSome = false := rfl
    simp only [ei]
    refine AW.cond _ (by simp -implicitDefEqProofs only [go_sem, ↓reduceIte, Nat.reduceAdd, Nat.reduceMul, Nat.reduceEqDiff, Nat.reduceLeDiff, reduceCtorEq, Int.reduceToNat]; rfl) (fun hc => ?_) (fun hc => ?_)
    rotate_left
    · simp at hc
    refine AW.rT (by rfl) fun K hK => ?_
    simp -implicitDefEqProofs only [go_sem, ↓reduceIte, Nat.reduceAdd, Nat.reduceMul, Nat.reduceEqDiff, Nat.reduceLeDiff, reduceCtorEq, Int.reduceToNat]
    refine hK _ ?_; clear hK K
    refine AW.ret ?_
    simp -implicitDefEqProofs only [go_sem, ↓reduceIte, Nat.reduceAdd, Nat.reduceMul, Nat.reduceEqDiff, Nat.reduceLeDiff, reduceCtorEq, Int.reduceToNat, e]
    rfl
  | some L =>
    have e : countN s = L.length := by unfold countN; rw [hr]
    have hLl : L.length ≤ s.length := by unfold runesO at hr; exact runes_len s _ _ _ hr
    have ei : (some L : Option (List Int)).isSome = true := rfl
    simp only [ei]
    refine AW.cond _ (by simp -implicitDefEqProofs only [go_sem, ↓reduceIte, Nat.reduceAdd, Nat.reduceMul, Nat.reduceEqDiff, Nat.reduceLeDiff, reduceCtorEq, Int.reduceToNat]; rfl) (fun hc => ?_) (fun hc => ?_)
    · simp at hc
    refine AW.skip ?_
    simp only [andThen, inBlk, reduceCtorEq, ↓reduceIte, if_t, if_f]
    refine AW.rT (by rfl) fun K hK => ?_
    simp -implicitDefEqProofs only [go_sem, ↓reduceIte, Nat.reduceAdd, Nat.reduceMul, Nat.reduceEqDiff, Nat.reduceLeDiff, reduceCtorEq, Int.reduceToNat]
    refine hK _ ?_; clear hK K
    refine AW.seq ?_
    refine AW.rT (by rfl) fun K hK => ?_
    simp -implicitDefEqProofs only [go_sem, ↓reduceIte, Nat.reduceAdd, Nat.reduceMul, Nat.reduceEqDiff, Nat.reduceLeDiff, reduceCtorEq, Int.reduceToNat]
    refine hK _ ?_; clear hK K
    refine AW.block ?_
    refine AW.loop (coS s) (fun x => x.1 ≤ s.length ∧ ∃ l, runesO s x.1 = some l ∧ x.2 + l.length = L.length) (fun x => s.length - x.1) (0, 0) ?_ ⟨by simp, L, hr, by simp⟩ fun x hx => ?_
    · simp only [coS]
      refine Ghost.ent (fun _ => 6) ?_ ?_ ?_ <;> simp -implicitDefEqProofs only [go_sem, ↓reduceIte, Nat.reduceAdd, Nat.reduceMul, Nat.reduceEqDiff, Nat.reduceLeDiff, reduceCtorEq, Int.reduceToNat,  List.forall_mem_cons, List.not_mem_nil, false_implies, implies_true, and_self, map_renL_lift, labsIn_lift, List.all_append, List.all_cons, List.all_nil, List.map_append, Nat.reduceLT, labsInL, AV.labsIn]
      rfl
    obtain ⟨p, c⟩ := x
    obtain ⟨p1, l, p2, p3⟩ := hx
    dsimp only at p1 p2 p3
    simp only [coS]
    have wid := runeAt_wid s p
    by_cases hp : p < s.length
    case neg =>
      rw [runes_end hp] at p2
      injection p2 with p2
      subst p2
      have e' : countN s = c := by rw [e, ← p3]; simp
      refine AW.rT (by rfl) fun K hK => ?_
      simp -implicitDefEqProofs only [go_sem, ↓reduceIte, Nat.reduceAdd, Nat.reduceMul, Nat.reduceEqDiff, Nat.reduceLeDiff, reduceCtorEq, Int.reduceToNat, hp]
      refine hK _ ?_; clear hK K
      refine AW.seq ?_
      refine AW.cond _ (by simp -implicitDefEqProofs only [go_sem, ↓reduceIte, Nat.reduceAdd, Nat.reduceMul, Nat.reduceEqDiff, Nat.reduceLeDiff, reduceCtorEq, Int.reduceToNat]; rfl) (fun hc => ?_) (fun hc => ?_)
      · simp at hc
      refine AW.exit ?_
      simp only [andThen, inBlk, reduceCtorEq, ↓reduceIte, if_t, if_f]
      refine AW.rT (by rfl) fun K hK => ?_
      simp -implicitDefEqProofs only [go_sem, ↓reduceIte, Nat.reduceAdd, Nat.reduceMul, Nat.reduceEqDiff, Nat.reduceLeDiff, reduceCtorEq, Int.reduceToNat]
      refine hK _ ?_; clear hK K
      refine AW.ret ?_
      simp -implicitDefEqProofs only [go_sem, ↓reduceIte, Nat.reduceAdd, Nat.reduceMul, Nat.reduceEqDiff, Nat.reduceLeDiff, reduceCtorEq, Int.reduceToNat, e']
    have hin := runeAt_in s p hp
    refine AW.rT (by rfl) fun K hK => ?_
    simp -implicitDefEqProofs only [go_sem, ↓reduceIte, Nat.reduceAdd, Nat.reduceMul, Nat.reduceEqDiff, Nat.reduceLeDiff, reduceCtorEq, Int.reduceToNat, hp]
    refine hK _ ?_; clear hK K
    refine AW.seq ?_
    refine AW.cond _ (by simp -implicitDefEqProofs only [go_sem, ↓reduceIte, Nat.reduceAdd, Nat.reduceMul, Nat.reduceEqDiff, Nat.reduceLeDiff, reduceCtorEq, Int.reduceToNat]; rfl) (fun hc => ?_) (fun hc => ?_)
    rotate_left
    · simp at hc
    refine AW.skip ?_
    simp only [andThen, inBlk, reduceCtorEq, ↓reduceIte, if_t, if_f]
    refine AW.block ?_
    cases hb : (resN (runeAt s p)).2.2 with
    | false => rw [runes_bad hp hb] at p2; cases p2
    | true =>
      rw [runes_ok hp hb, Option.map_eq_some_iff] at p2
      obtain ⟨l', q1, rfl⟩ := p2
      rw [List.length_cons] at p3
      have w1 : IntKind.wrap .i64 ((c : Int) + 1) = ((c + 1 : Nat) : Int) := by rw [w64] <;> omega
      refine AW.rE (by rfl) fun K hK => ?_
      simp -implicitDefEqProofs only [go_sem, ↓reduceIte, Nat.reduceAdd, Nat.reduceMul, Nat.reduceEqDiff, Nat.reduceLeDiff, reduceCtorEq, Int.reduceToNat, w1]
      refine hK _ ?_; clear hK K
      simp only [andThen, inBlk, reduceCtorEq, ↓reduceIte, if_t, if_f]
      refine ⟨(p + (runeAt s p).2, c + 1), ⟨hin, l', q1, by show c + 1 + l'.length = L.length; omega⟩, by show s.length - (p + (runeAt s p).2) < s.length - p; omega, ?_⟩
      refine Ghost.sub ?_ ?_ <;> simp -implicitDefEqProofs only [go_sem, ↓reduceIte, Nat.reduceAdd, Nat.reduceMul, Nat.reduceEqDiff, Nat.reduceLeDiff, reduceCtorEq, Int.reduceToNat,  List.forall_mem_cons, List.not_mem_nil, false_implies, implies_true, and_self, labsIn_lift, List.all_append, List.all_cons, List.all_nil, Nat.reduceLT, labsInL, AV.labsIn]
end Go.Aw
