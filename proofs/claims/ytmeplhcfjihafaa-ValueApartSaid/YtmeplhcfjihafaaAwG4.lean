/- Trees and values: Small, leaves, panics, Same, Kind. -/
import Derived.Test.YtmeplhcfjihafaaAwG1
import Derived.Test.YtmeplhcfjihafaaAwG2
import Derived.Tactics
import Derived.Tactics2
import Derived.Recover
import Derived.Laws.Pointers
/- Trees; concordatlaw00.Small. -/
namespace Go.Aw
open Go.Proofs
set_option linter.unusedSimpArgs false
set_option linter.unusedVariables false
inductive Tr where
  | mk (kind n : Int) (s : List UInt8) (ents : List (Int × List Tr)) (rest : List Raw)
def Tr.kind : Tr → Int | .mk k _ _ _ _ => k
def Tr.n : Tr → Int | .mk _ n _ _ _ => n
def Tr.s : Tr → List UInt8 | .mk _ _ s _ _ => s
def Tr.ents : Tr → List (Int × List Tr) | .mk _ _ _ e _ => e
def Tr.rest : Tr → List Raw | .mk _ _ _ _ r => r
mutual
def encTr : Tr → List PV
  | .mk k n s es rest => [.int .i64 k, .int .i64 n, .str s, .slice (encEs es), .slice (rest.map encRaw)]
def encEs : List (Int × List Tr) → List (List PV)
  | [] => []
  | (t, l) :: r => [.int .i64 t, .slice (encTs l)] :: encEs r
def encTs : List Tr → List (List PV)
  | [] => []
  | x :: l => encTr x :: encTs l
end
def encEn (e : Int × List Tr) : List PV := [.int .i64 e.1, .slice (e.2.map encTr)]
theorem encTs_map : ∀ l : List Tr, encTs l = l.map encTr
  | [] => by simp [encTs]
  | x :: l => by rw [encTs, encTs_map l]; rfl
theorem encEs_map : ∀ l : List (Int × List Tr), encEs l = l.map encEn
  | [] => by simp [encEs]
  | (t, l) :: r => by rw [encEs, encEs_map r, encTs_map]; rfl
theorem encTr_eq (t : Tr) : encTr t = [.int .i64 t.kind, .int .i64 t.n, .str t.s, .slice (t.ents.map encEn), .slice (t.rest.map encRaw)] := by
  cases t
  rw [encTr, encEs_map]; rfl
mutual
def smallT : Tr → Nat → Nat → Bool × Nat
  | .mk _ _ s es rest, deep, n => if n + 1 > 200 ∨ deep > 13 ∨ s.length > 5000 ∨ rest.length > 40 ∨ es.length > 40 then (false, n + 1)
    else if rest.all (fun r => decide (r.b.length ≤ 5000)) = false then (false, n + 1) else smallE es deep (n + 1)
def smallE : List (Int × List Tr) → Nat → Nat → Bool × Nat
  | [], _, n => (true, n)
  | (_, l) :: r, deep, n => if l.length > 70 then (false, n) else if (smallTs l deep n).1 = false then smallTs l deep n else smallE r deep (smallTs l deep n).2
def smallTs : List Tr → Nat → Nat → Bool × Nat
  | [], _, n => (true, n)
  | x :: l, deep, n => if (smallT x (deep + 1) n).1 = false then smallT x (deep + 1) n else smallTs l deep (smallT x (deep + 1) n).2
end
mutual
theorem smallT_n : ∀ (t : Tr) (deep n : Nat), (smallT t deep n).1 = true → (smallT t deep n).2 ≤ 200
  | .mk k m s es rest, deep, n => by
    rw [smallT]
    split
    · simp
    · split
      · simp
      · rename_i h1 h2
        exact smallE_n es deep (n + 1) (by omega)
theorem smallE_n : ∀ (es : List (Int × List Tr)) (deep n : Nat), n ≤ 200 → (smallE es deep n).1 = true → (smallE es deep n).2 ≤ 200
  | [], deep, n => by intro h _; rw [smallE]; exact h
  | (_, l) :: r, deep, n => by
    intro h
    rw [smallE]
    split
    · simp
    · split
      · rename_i h2; intro h3; rw [h2] at h3; cases h3
      · rename_i h2
        exact smallE_n r deep _ (smallTs_n l deep n h (by simpa using h2))
theorem smallTs_n : ∀ (l : List Tr) (deep n : Nat), n ≤ 200 → (smallTs l deep n).1 = true → (smallTs l deep n).2 ≤ 200
  | [], deep, n => by intro h _; rw [smallTs]; exact h
  | x :: l, deep, n => by
    intro h
    rw [smallTs]
    split
    · rename_i h2; intro h3; rw [h2] at h3; cases h3
    · rename_i h2
      exact smallTs_n l deep _ (smallT_n x (deep + 1) n (by simpa using h2))
end
theorem size_ent {t : Tr} {i : Nat} {e : Int × List Tr} (h : t.ents[i]? = some e) {k : Nat} {x : Tr} (h' : e.2[k]? = some x) : SizeOf.sizeOf x < SizeOf.sizeOf t := by
  cases t with
  | mk a b c es d =>
    have h1 : SizeOf.sizeOf e < SizeOf.sizeOf es := List.sizeOf_lt_of_mem (List.mem_of_getElem? (h : es[i]? = some e))
    have h2 := List.sizeOf_lt_of_mem (List.mem_of_getElem? h')
    obtain ⟨t0, l0⟩ := e
    simp only [Tr.mk.sizeOf_spec, Prod.mk.sizeOf_spec] at *
    omega
theorem smallT_mk (t : Tr) (deep n : Nat) : smallT t deep n = if n + 1 > 200 ∨ deep > 13 ∨ t.s.length > 5000 ∨ t.rest.length > 40 ∨ t.ents.length > 40 then (false, n + 1)
    else if t.rest.all (fun r => decide (r.b.length ≤ 5000)) = false then (false, n + 1) else smallE t.ents deep (n + 1) := by
  cases t; rw [smallT]; rfl
theorem smallE_at {es : List (Int × List Tr)} {i : Nat} {e : Int × List Tr} (h : es[i]? = some e) (deep n : Nat) :
    smallE (es.drop i) deep n = if e.2.length > 70 then (false, n) else if (smallTs e.2 deep n).1 = false then smallTs e.2 deep n else smallE (es.drop (i + 1)) deep (smallTs e.2 deep n).2 := by
  rw [List.drop_eq_getElem_cons (List.getElem?_eq_some_iff.1 h).1, (List.getElem?_eq_some_iff.1 h).2]
  obtain ⟨a, l⟩ := e
  rw [smallE]
theorem smallTs_at {l : List Tr} {k : Nat} {x : Tr} (h : l[k]? = some x) (deep n : Nat) :
    smallTs (l.drop k) deep n = if (smallT x (deep + 1) n).1 = false then smallT x (deep + 1) n else smallTs (l.drop (k + 1)) deep (smallT x (deep + 1) n).2 := by
  rw [List.drop_eq_getElem_cons (List.getElem?_eq_some_iff.1 h).1, (List.getElem?_eq_some_iff.1 h).2, smallTs]
def cellsT (t : Tr) : List AV := [.p (.int .i64 t.kind), .p (.int .i64 t.n), .p (.str t.s), .p (.slice (t.ents.map encEn)), .p (.slice (t.rest.map encRaw))]
def sm (t : Tr) (deep n : Nat) (m : List (Nat × AV)) : St :=
  ⟨ofL ([(1, .p (.int .i64 (deep : Int))), (2, .ptr 2 0 0), (3, .ptr 3 0 0)] ++ m), ofH [(3, .row 5 [cellsT t]), (2, .row 1 (liftE [[.int .i64 (n : Int)]]))], 4⟩
set_option maxRecDepth 100000 in
set_option maxHeartbeats 4000000 in
theorem law00_small : ∀ (t : Tr) (deep n : Nat), n ≤ 200 → deep ≤ 1000 →
    LFn Try.prog 77 [.v (.agg (encTr t)), .v (.int .i64 (deep : Int)), .ptr 0 0 1 [[.int .i64 (n : Int)]]] [none, none, some (.row 1 [[.int .i64 ((smallT t deep n).2 : Int)]])] (.bool (smallT t deep n).1) := by
  intro t
  induction h : SizeOf.sizeOf t using Nat.strongRecOn generalizing t with
  | _ sz ih =>
  subst h
  intro deep n hn hd
  refine LFn.of Try.func77 rfl (by decide) Try.ntmps77 Try.results77 (Nat.le_of_ble_eq_true rfl) rfl fun val => ?_
  have W1 : IntKind.wrap .i64 ((n : Int) + 1) = ((n + 1 : Nat) : Int) := by rw [w64] <;> omega
  simp only [laT, laH, laPins, LA.av, List.length_cons, List.length_nil]
  refine AW.rT (by rfl) fun K hK => ?_
  simp -implicitDefEqProofs only [go_sem, ↓reduceIte, Nat.reduceAdd, Nat.reduceMul, Nat.reduceEqDiff, Nat.reduceLeDiff, reduceCtorEq, Int.reduceToNat, encTr_eq, liftE_cons, liftE_nil, List.map_cons, List.map_nil]
  refine hK _ ?_; clear hK K
  refine AW.rT (by rfl) fun K hK => ?_
  simp -implicitDefEqProofs only [go_sem, ↓reduceIte, Nat.reduceAdd, Nat.reduceMul, Nat.reduceEqDiff, Nat.reduceLeDiff, reduceCtorEq, Int.reduceToNat, W1]
  refine hK _ ?_; clear hK K
  have sT := smallT_mk t deep n
  refine AW.seq ?_
  by_cases c1 : n + 1 > 200
  · have b1 : (((n + 1 : Nat) : Int) > 200) = True := by simp; omega
    have HH := sT.trans (if_pos (.inl c1))
    refine AW.rT (by rfl) fun K hK => ?_
    simp -implicitDefEqProofs only [go_sem, ↓reduceIte, Nat.reduceAdd, Nat.reduceMul, Nat.reduceEqDiff, Nat.reduceLeDiff, reduceCtorEq, Int.reduceToNat, b1]
    refine hK _ ?_; clear hK K
    refine AW.cond _ (by simp -implicitDefEqProofs only [go_sem, ↓reduceIte, Nat.reduceAdd, Nat.reduceMul, Nat.reduceEqDiff, Nat.reduceLeDiff, reduceCtorEq, Int.reduceToNat]; rfl) (fun hc => ?_) (fun hc => ?_)
    · refine AW.rT (by rfl) fun K hK => ?_
      simp -implicitDefEqProofs only [go_sem, ↓reduceIte, Nat.reduceAdd, Nat.reduceMul, Nat.reduceEqDiff, Nat.reduceLeDiff, reduceCtorEq, Int.reduceToNat]
      refine hK _ ?_; clear hK K
      refine AW.ret (show _ ∧ ((∃ l, _ ∧ _) ∧ (_ ∧ _ ∧ _) ∧ True) from ⟨?_, ⟨2, ?_, ?_⟩, ⟨rfl, by decide, rfl⟩, trivial⟩) <;> simp -implicitDefEqProofs only [go_sem, ↓reduceIte, Nat.reduceAdd, Nat.reduceMul, Nat.reduceEqDiff, Nat.reduceLeDiff, reduceCtorEq, Int.reduceToNat, liftE_cons, liftE_nil, List.map_cons, List.map_nil, HH]
    · simp at hc
  have b1 : (((n + 1 : Nat) : Int) > 200) = False := by simp; omega
  by_cases c2 : deep > 13
  · have b2 : ((deep : Int) > 13) = True := by simp; omega
    have HH := sT.trans (if_pos (.inr (.inl c2)))
    refine AW.rT (by rfl) fun K hK => ?_
    simp -implicitDefEqProofs only [go_sem, ↓reduceIte, Nat.reduceAdd, Nat.reduceMul, Nat.reduceEqDiff, Nat.reduceLeDiff, reduceCtorEq, Int.reduceToNat, b1, b2]
    refine hK _ ?_; clear hK K
    refine AW.cond _ (by simp -implicitDefEqProofs only [go_sem, ↓reduceIte, Nat.reduceAdd, Nat.reduceMul, Nat.reduceEqDiff, Nat.reduceLeDiff, reduceCtorEq, Int.reduceToNat]; rfl) (fun hc => ?_) (fun hc => ?_)
    · refine AW.rT (by rfl) fun K hK => ?_
      simp -implicitDefEqProofs only [go_sem, ↓reduceIte, Nat.reduceAdd, Nat.reduceMul, Nat.reduceEqDiff, Nat.reduceLeDiff, reduceCtorEq, Int.reduceToNat]
      refine hK _ ?_; clear hK K
      refine AW.ret (show _ ∧ ((∃ l, _ ∧ _) ∧ (_ ∧ _ ∧ _) ∧ True) from ⟨?_, ⟨2, ?_, ?_⟩, ⟨rfl, by decide, rfl⟩, trivial⟩) <;> simp -implicitDefEqProofs only [go_sem, ↓reduceIte, Nat.reduceAdd, Nat.reduceMul, Nat.reduceEqDiff, Nat.reduceLeDiff, reduceCtorEq, Int.reduceToNat, liftE_cons, liftE_nil, List.map_cons, List.map_nil, HH]
    · simp at hc
  have b2 : ((deep : Int) > 13) = False := by simp; omega
  by_cases c3 : t.s.length > 5000
  · have b3 : ((t.s.length : Int) > 5000) = True := by simp; omega
    have HH := sT.trans (if_pos (.inr (.inr (.inl c3))))
    refine AW.rT (by rfl) fun K hK => ?_
    simp -implicitDefEqProofs only [go_sem, ↓reduceIte, Nat.reduceAdd, Nat.reduceMul, Nat.reduceEqDiff, Nat.reduceLeDiff, reduceCtorEq, Int.reduceToNat, b1, b2, b3]
    refine hK _ ?_; clear hK K
    refine AW.cond _ (by simp -implicitDefEqProofs only [go_sem, ↓reduceIte, Nat.reduceAdd, Nat.reduceMul, Nat.reduceEqDiff, Nat.reduceLeDiff, reduceCtorEq, Int.reduceToNat]; rfl) (fun hc => ?_) (fun hc => ?_)
    · refine AW.rT (by rfl) fun K hK => ?_
      simp -implicitDefEqProofs only [go_sem, ↓reduceIte, Nat.reduceAdd, Nat.reduceMul, Nat.reduceEqDiff, Nat.reduceLeDiff, reduceCtorEq, Int.reduceToNat]
      refine hK _ ?_; clear hK K
      refine AW.ret (show _ ∧ ((∃ l, _ ∧ _) ∧ (_ ∧ _ ∧ _) ∧ True) from ⟨?_, ⟨2, ?_, ?_⟩, ⟨rfl, by decide, rfl⟩, trivial⟩) <;> simp -implicitDefEqProofs only [go_sem, ↓reduceIte, Nat.reduceAdd, Nat.reduceMul, Nat.reduceEqDiff, Nat.reduceLeDiff, reduceCtorEq, Int.reduceToNat, liftE_cons, liftE_nil, List.map_cons, List.map_nil, HH]
    · simp at hc
  have b3 : ((t.s.length : Int) > 5000) = False := by simp; omega
  by_cases c4 : t.rest.length > 40
  · have b4 : ((t.rest.length : Int) > 40) = True := by simp; omega
    have HH := sT.trans (if_pos (.inr (.inr (.inr (.inl c4)))))
    refine AW.rT (by rfl) fun K hK => ?_
    simp -implicitDefEqProofs only [go_sem, ↓reduceIte, Nat.reduceAdd, Nat.reduceMul, Nat.reduceEqDiff, Nat.reduceLeDiff, reduceCtorEq, Int.reduceToNat, b1, b2, b3, b4, List.length_map]
    refine hK _ ?_; clear hK K
    refine AW.cond _ (by simp -implicitDefEqProofs only [go_sem, ↓reduceIte, Nat.reduceAdd, Nat.reduceMul, Nat.reduceEqDiff, Nat.reduceLeDiff, reduceCtorEq, Int.reduceToNat]; rfl) (fun hc => ?_) (fun hc => ?_)
    · refine AW.rT (by rfl) fun K hK => ?_
      simp -implicitDefEqProofs only [go_sem, ↓reduceIte, Nat.reduceAdd, Nat.reduceMul, Nat.reduceEqDiff, Nat.reduceLeDiff, reduceCtorEq, Int.reduceToNat]
      refine hK _ ?_; clear hK K
      refine AW.ret (show _ ∧ ((∃ l, _ ∧ _) ∧ (_ ∧ _ ∧ _) ∧ True) from ⟨?_, ⟨2, ?_, ?_⟩, ⟨rfl, by decide, rfl⟩, trivial⟩) <;> simp -implicitDefEqProofs only [go_sem, ↓reduceIte, Nat.reduceAdd, Nat.reduceMul, Nat.reduceEqDiff, Nat.reduceLeDiff, reduceCtorEq, Int.reduceToNat, liftE_cons, liftE_nil, List.map_cons, List.map_nil, HH]
    · simp at hc
  have b4 : ((t.rest.length : Int) > 40) = False := by simp; omega
  by_cases c5 : t.ents.length > 40
  · have b5 : ((t.ents.length : Int) > 40) = True := by simp; omega
    have HH := sT.trans (if_pos (.inr (.inr (.inr (.inr c5)))))
    refine AW.rT (by rfl) fun K hK => ?_
    simp -implicitDefEqProofs only [go_sem, ↓reduceIte, Nat.reduceAdd, Nat.reduceMul, Nat.reduceEqDiff, Nat.reduceLeDiff, reduceCtorEq, Int.reduceToNat, b1, b2, b3, b4, b5, List.length_map]
    refine hK _ ?_; clear hK K
    refine AW.cond _ (by simp -implicitDefEqProofs only [go_sem, ↓reduceIte, Nat.reduceAdd, Nat.reduceMul, Nat.reduceEqDiff, Nat.reduceLeDiff, reduceCtorEq, Int.reduceToNat]; rfl) (fun hc => ?_) (fun hc => ?_)
    · refine AW.rT (by rfl) fun K hK => ?_
      simp -implicitDefEqProofs only [go_sem, ↓reduceIte, Nat.reduceAdd, Nat.reduceMul, Nat.reduceEqDiff, Nat.reduceLeDiff, reduceCtorEq, Int.reduceToNat]
      refine hK _ ?_; clear hK K
      refine AW.ret (show _ ∧ ((∃ l, _ ∧ _) ∧ (_ ∧ _ ∧ _) ∧ True) from ⟨?_, ⟨2, ?_, ?_⟩, ⟨rfl, by decide, rfl⟩, trivial⟩) <;> simp -implicitDefEqProofs only [go_sem, ↓reduceIte, Nat.reduceAdd, Nat.reduceMul, Nat.reduceEqDiff, Nat.reduceLeDiff, reduceCtorEq, Int.reduceToNat, liftE_cons, liftE_nil, List.map_cons, List.map_nil, HH]
    · simp at hc
  have b5 : ((t.ents.length : Int) > 40) = False := by simp; omega
  rw [if_neg (by omega)] at sT
  refine AW.rT (by rfl) fun K hK => ?_
  simp -implicitDefEqProofs only [go_sem, ↓reduceIte, Nat.reduceAdd, Nat.reduceMul, Nat.reduceEqDiff, Nat.reduceLeDiff, reduceCtorEq, Int.reduceToNat, b1, b2, b3, b4, b5, List.length_map]
  refine hK _ ?_; clear hK K
  refine AW.cond _ (by simp -implicitDefEqProofs only [go_sem, ↓reduceIte, Nat.reduceAdd, Nat.reduceMul, Nat.reduceEqDiff, Nat.reduceLeDiff, reduceCtorEq, Int.reduceToNat]; rfl) (fun hc => ?_) (fun hc => ?_)
  · simp at hc
  refine AW.skip ?_
  simp only [andThen, inBlk, reduceCtorEq, ↓reduceIte, if_t, if_f]
  clear b1 b2 b3 b4 b5
  refine AW.seq ?_
  refine AW.rT (by rfl) fun K hK => ?_
  simp -implicitDefEqProofs only [go_sem, ↓reduceIte, Nat.reduceAdd, Nat.reduceMul, Nat.reduceEqDiff, Nat.reduceLeDiff, reduceCtorEq, Int.reduceToNat]
  refine hK _ ?_; clear hK K
  refine AW.block ?_
  refine AW.loop (fun i : Nat => sm t deep (n + 1) [(7, .p (.int .i64 (i : Int)))]) (fun i => i ≤ t.rest.length ∧ (t.rest.take i).all (fun r => decide (r.b.length ≤ 5000)) = true) (fun i => t.rest.length - i) 0 ?_ (by simp) fun i hi => ?_
  · simp only [sm, cellsT, List.cons_append, List.nil_append]
    refine Ghost.sub ?_ ?_ <;> simp -implicitDefEqProofs only [go_sem, ↓reduceIte, Nat.reduceAdd, Nat.reduceMul, Nat.reduceEqDiff, Nat.reduceLeDiff, reduceCtorEq, Int.reduceToNat, liftE_cons, liftE_nil, List.map_cons, List.map_nil, List.forall_mem_cons, List.not_mem_nil, false_implies, implies_true, and_self, labsIn_lift, List.all_append, List.all_cons, List.all_nil, Nat.reduceLT, labsInL, AV.labsIn]
    rfl
  obtain ⟨g1, g2⟩ := hi
  simp only [sm, cellsT, List.cons_append, List.nil_append, liftE_cons, liftE_nil, List.map_cons, List.map_nil]
  refine AW.seq ?_
  by_cases hil : i < t.rest.length
  · obtain ⟨r, hr⟩ : ∃ r, t.rest[i]? = some r := ⟨_, List.getElem?_eq_getElem hil⟩
    have ⟨hr1, hr2, hr3⟩ := at_map' encRaw hr
    have hc1 : ((i : Int) < (t.rest.length : Int)) = True := by simp; omega
    refine AW.rT (by rfl) fun K hK => ?_
    simp -implicitDefEqProofs only [go_sem, ↓reduceIte, Nat.reduceAdd, Nat.reduceMul, Nat.reduceEqDiff, Nat.reduceLeDiff, reduceCtorEq, Int.reduceToNat, List.length_map, hc1]
    refine hK _ ?_; clear hK K
    refine AW.cond _ (by simp -implicitDefEqProofs only [go_sem, ↓reduceIte, Nat.reduceAdd, Nat.reduceMul, Nat.reduceEqDiff, Nat.reduceLeDiff, reduceCtorEq, Int.reduceToNat]; rfl) (fun hc => ?_) (fun hc => ?_)
    · refine AW.skip ?_
      simp only [andThen, inBlk, reduceCtorEq, ↓reduceIte, if_t, if_f]
      refine AW.seq ?_
      refine AW.block ?_
      by_cases hb : r.b.length > 5000
      · have b1 : ((r.b.length : Int) > 5000) = True := by simp; omega
        have hall : t.rest.all (fun r => decide (r.b.length ≤ 5000)) = false := by
          rw [List.all_eq_false]
          exact ⟨r, List.mem_of_getElem? hr, by simp; omega⟩
        have HH := sT.trans (if_pos hall)
        refine AW.rT (by rfl) fun K hK => ?_
        simp -implicitDefEqProofs only [go_sem, ↓reduceIte, Nat.reduceAdd, Nat.reduceMul, Nat.reduceEqDiff, Nat.reduceLeDiff, reduceCtorEq, Int.reduceToNat, hr1, hr2, hr3, encRaw, b1]
        refine hK _ ?_; clear hK K
        refine AW.cond _ (by simp -implicitDefEqProofs only [go_sem, ↓reduceIte, Nat.reduceAdd, Nat.reduceMul, Nat.reduceEqDiff, Nat.reduceLeDiff, reduceCtorEq, Int.reduceToNat]; rfl) (fun hc => ?_) (fun hc => ?_)
        · refine AW.rT (by rfl) fun K hK => ?_
          simp -implicitDefEqProofs only [go_sem, ↓reduceIte, Nat.reduceAdd, Nat.reduceMul, Nat.reduceEqDiff, Nat.reduceLeDiff, reduceCtorEq, Int.reduceToNat]
          refine hK _ ?_; clear hK K
          refine AW.ret (show _ ∧ ((∃ l, _ ∧ _) ∧ (_ ∧ _ ∧ _) ∧ True) from ⟨?_, ⟨2, ?_, ?_⟩, ⟨rfl, by decide, rfl⟩, trivial⟩) <;> simp -implicitDefEqProofs only [go_sem, ↓reduceIte, Nat.reduceAdd, Nat.reduceMul, Nat.reduceEqDiff, Nat.reduceLeDiff, reduceCtorEq, Int.reduceToNat, liftE_cons, liftE_nil, List.map_cons, List.map_nil, HH]
        · simp at hc
      · have b1 : ((r.b.length : Int) > 5000) = False := by simp; omega
        refine AW.rT (by rfl) fun K hK => ?_
        simp -implicitDefEqProofs only [go_sem, ↓reduceIte, Nat.reduceAdd, Nat.reduceMul, Nat.reduceEqDiff, Nat.reduceLeDiff, reduceCtorEq, Int.reduceToNat, hr1, hr2, hr3, encRaw, b1]
        refine hK _ ?_; clear hK K
        refine AW.cond _ (by simp -implicitDefEqProofs only [go_sem, ↓reduceIte, Nat.reduceAdd, Nat.reduceMul, Nat.reduceEqDiff, Nat.reduceLeDiff, reduceCtorEq, Int.reduceToNat]; rfl) (fun hc => ?_) (fun hc => ?_)
        · simp at hc
        refine AW.skip ?_
        simp only [andThen, inBlk, reduceCtorEq, ↓reduceIte, if_t, if_f]
        have w1 : IntKind.wrap .i64 ((i : Int) + 1) = ((i + 1 : Nat) : Int) := by rw [w64] <;> omega
        refine AW.rE (by rfl) fun K hK => ?_
        simp -implicitDefEqProofs only [go_sem, ↓reduceIte, Nat.reduceAdd, Nat.reduceMul, Nat.reduceEqDiff, Nat.reduceLeDiff, reduceCtorEq, Int.reduceToNat, w1]
        refine hK _ ?_; clear hK K
        refine ⟨i + 1, ⟨by omega, ?_⟩, by omega, ?_⟩
        · rw [List.take_add_one, hr, List.all_append, g2]
          simp; omega
        · refine Ghost.sub ?_ ?_ <;> simp -implicitDefEqProofs only [go_sem, ↓reduceIte, Nat.reduceAdd, Nat.reduceMul, Nat.reduceEqDiff, Nat.reduceLeDiff, reduceCtorEq, Int.reduceToNat,  List.forall_mem_cons, List.not_mem_nil, false_implies, implies_true, and_self, labsIn_lift, List.all_append, List.all_cons, List.all_nil, Nat.reduceLT, labsInL, AV.labsIn]
    · simp at hc
  have hc1 : ((i : Int) < (t.rest.length : Int)) = False := by simp; omega
  have hi' : i = t.rest.length := by omega
  subst hi'
  rw [List.take_length] at g2
  rw [if_neg (by rw [g2]; simp)] at sT
  refine AW.rT (by rfl) fun K hK => ?_
  simp -implicitDefEqProofs only [go_sem, ↓reduceIte, Nat.reduceAdd, Nat.reduceMul, Nat.reduceEqDiff, Nat.reduceLeDiff, reduceCtorEq, Int.reduceToNat, List.length_map, hc1]
  refine hK _ ?_; clear hK K
  refine AW.cond _ (by simp -implicitDefEqProofs only [go_sem, ↓reduceIte, Nat.reduceAdd, Nat.reduceMul, Nat.reduceEqDiff, Nat.reduceLeDiff, reduceCtorEq, Int.reduceToNat]; rfl) (fun hc => ?_) (fun hc => ?_)
  · simp at hc
  refine AW.exit ?_
  simp only [andThen, inBlk, reduceCtorEq, ↓reduceIte, if_t, if_f]
  refine AW.seq ?_
  refine AW.rT (by rfl) fun K hK => ?_
  simp -implicitDefEqProofs only [go_sem, ↓reduceIte, Nat.reduceAdd, Nat.reduceMul, Nat.reduceEqDiff, Nat.reduceLeDiff, reduceCtorEq, Int.reduceToNat]
  refine hK _ ?_; clear hK K
  refine AW.block ?_
  refine AW.loop (fun x : Nat × Nat => sm t deep x.2 [(8, .p (.int .i64 (x.1 : Int)))]) (fun x => x.1 ≤ t.ents.length ∧ x.2 ≤ 200 ∧ smallT t deep n = smallE (t.ents.drop x.1) deep x.2) (fun x => t.ents.length - x.1) (0, n + 1) ?_ ⟨by simp, by show n + 1 ≤ 200; omega, by rw [sT, List.drop_zero]⟩ fun x hx => ?_
  · simp only [sm, cellsT, List.cons_append, List.nil_append]
    refine Ghost.sub ?_ ?_ <;> simp -implicitDefEqProofs only [go_sem, ↓reduceIte, Nat.reduceAdd, Nat.reduceMul, Nat.reduceEqDiff, Nat.reduceLeDiff, reduceCtorEq, Int.reduceToNat, liftE_cons, liftE_nil, List.map_cons, List.map_nil, List.forall_mem_cons, List.not_mem_nil, false_implies, implies_true, and_self, labsIn_lift, List.all_append, List.all_cons, List.all_nil, Nat.reduceLT, labsInL, AV.labsIn]
    rfl
  obtain ⟨i, m⟩ := x
  obtain ⟨e1, e2, e3⟩ := hx
  dsimp only at e1 e2 e3
  simp only [sm, cellsT, List.cons_append, List.nil_append, liftE_cons, liftE_nil, List.map_cons, List.map_nil]
  refine AW.seq ?_
  by_cases hie : i < t.ents.length
  case neg =>
    have hc1 : ((i : Int) < (t.ents.length : Int)) = False := by simp; omega
    have hi' : i = t.ents.length := by omega
    subst hi'
    rw [List.drop_length, smallE] at e3
    have HH := e3
    refine AW.rT (by rfl) fun K hK => ?_
    simp -implicitDefEqProofs only [go_sem, ↓reduceIte, Nat.reduceAdd, Nat.reduceMul, Nat.reduceEqDiff, Nat.reduceLeDiff, reduceCtorEq, Int.reduceToNat, List.length_map, hc1]
    refine hK _ ?_; clear hK K
    refine AW.cond _ (by simp -implicitDefEqProofs only [go_sem, ↓reduceIte, Nat.reduceAdd, Nat.reduceMul, Nat.reduceEqDiff, Nat.reduceLeDiff, reduceCtorEq, Int.reduceToNat]; rfl) (fun hc => ?_) (fun hc => ?_)
    · simp at hc
    refine AW.exit ?_
    simp only [andThen, inBlk, reduceCtorEq, ↓reduceIte, if_t, if_f]
    refine AW.rT (by rfl) fun K hK => ?_
    simp -implicitDefEqProofs only [go_sem, ↓reduceIte, Nat.reduceAdd, Nat.reduceMul, Nat.reduceEqDiff, Nat.reduceLeDiff, reduceCtorEq, Int.reduceToNat]
    refine hK _ ?_; clear hK K
    refine AW.ret (show _ ∧ ((∃ l, _ ∧ _) ∧ (_ ∧ _ ∧ _) ∧ True) from ⟨?_, ⟨2, ?_, ?_⟩, ⟨rfl, by decide, rfl⟩, trivial⟩) <;> simp -implicitDefEqProofs only [go_sem, ↓reduceIte, Nat.reduceAdd, Nat.reduceMul, Nat.reduceEqDiff, Nat.reduceLeDiff, reduceCtorEq, Int.reduceToNat, liftE_cons, liftE_nil, List.map_cons, List.map_nil, HH]
  obtain ⟨e, he⟩ : ∃ e, t.ents[i]? = some e := ⟨_, List.getElem?_eq_getElem hie⟩
  have ⟨hr1, hr2, hr3⟩ := at_map' encEn he
  have hc1 : ((i : Int) < (t.ents.length : Int)) = True := by simp; omega
  have st := smallE_at he deep m
  refine AW.rT (by rfl) fun K hK => ?_
  simp -implicitDefEqProofs only [go_sem, ↓reduceIte, Nat.reduceAdd, Nat.reduceMul, Nat.reduceEqDiff, Nat.reduceLeDiff, reduceCtorEq, Int.reduceToNat, List.length_map, hc1]
  refine hK _ ?_; clear hK K
  refine AW.cond _ (by simp -implicitDefEqProofs only [go_sem, ↓reduceIte, Nat.reduceAdd, Nat.reduceMul, Nat.reduceEqDiff, Nat.reduceLeDiff, reduceCtorEq, Int.reduceToNat]; rfl) (fun hc => ?_) (fun hc => ?_)
  rotate_left
  · simp at hc
  refine AW.skip ?_
  simp only [andThen, inBlk, reduceCtorEq, ↓reduceIte, if_t, if_f]
  refine AW.seq ?_
  refine AW.block ?_
  refine AW.seq ?_
  by_cases hb : e.2.length > 70
  · have b1 : ((e.2.length : Int) > 70) = True := by simp; omega
    rw [if_pos hb] at st
    have HH := e3.trans st
    refine AW.rT (by rfl) fun K hK => ?_
    simp -implicitDefEqProofs only [go_sem, ↓reduceIte, Nat.reduceAdd, Nat.reduceMul, Nat.reduceEqDiff, Nat.reduceLeDiff, reduceCtorEq, Int.reduceToNat, hr1, hr2, hr3, hc1, encEn, b1, List.length_map]
    refine hK _ ?_; clear hK K
    refine AW.cond _ (by simp -implicitDefEqProofs only [go_sem, ↓reduceIte, Nat.reduceAdd, Nat.reduceMul, Nat.reduceEqDiff, Nat.reduceLeDiff, reduceCtorEq, Int.reduceToNat]; rfl) (fun hc => ?_) (fun hc => ?_)
    · refine AW.rT (by rfl) fun K hK => ?_
      simp -implicitDefEqProofs only [go_sem, ↓reduceIte, Nat.reduceAdd, Nat.reduceMul, Nat.reduceEqDiff, Nat.reduceLeDiff, reduceCtorEq, Int.reduceToNat]
      refine hK _ ?_; clear hK K
      refine AW.ret (show _ ∧ ((∃ l, _ ∧ _) ∧ (_ ∧ _ ∧ _) ∧ True) from ⟨?_, ⟨2, ?_, ?_⟩, ⟨rfl, by decide, rfl⟩, trivial⟩) <;> simp -implicitDefEqProofs only [go_sem, ↓reduceIte, Nat.reduceAdd, Nat.reduceMul, Nat.reduceEqDiff, Nat.reduceLeDiff, reduceCtorEq, Int.reduceToNat, liftE_cons, liftE_nil, List.map_cons, List.map_nil, HH]
    · simp at hc
  have b1 : ((e.2.length : Int) > 70) = False := by simp; omega
  rw [if_neg hb] at st
  refine AW.rT (by rfl) fun K hK => ?_
  simp -implicitDefEqProofs only [go_sem, ↓reduceIte, Nat.reduceAdd, Nat.reduceMul, Nat.reduceEqDiff, Nat.reduceLeDiff, reduceCtorEq, Int.reduceToNat, hr1, hr2, hr3, hc1, encEn, b1, List.length_map]
  refine hK _ ?_; clear hK K
  refine AW.cond _ (by simp -implicitDefEqProofs only [go_sem, ↓reduceIte, Nat.reduceAdd, Nat.reduceMul, Nat.reduceEqDiff, Nat.reduceLeDiff, reduceCtorEq, Int.reduceToNat]; rfl) (fun hc => ?_) (fun hc => ?_)
  · simp at hc
  refine AW.skip ?_
  simp only [andThen, inBlk, reduceCtorEq, ↓reduceIte, if_t, if_f]
  refine AW.rT (by rfl) fun K hK => ?_
  simp -implicitDefEqProofs only [go_sem, ↓reduceIte, Nat.reduceAdd, Nat.reduceMul, Nat.reduceEqDiff, Nat.reduceLeDiff, reduceCtorEq, Int.reduceToNat]
  refine hK _ ?_; clear hK K
  refine AW.block ?_
  refine AW.loop (fun y : Nat × Nat => sm t deep y.2 [(8, .p (.int .i64 (i : Int))), (9, .p (.int .i64 (y.1 : Int)))]) (fun y => y.1 ≤ e.2.length ∧ y.2 ≤ 200 ∧ smallTs e.2 deep m = smallTs (e.2.drop y.1) deep y.2) (fun y => e.2.length - y.1) (0, m) ?_ ⟨by simp, e2, by rw [List.drop_zero]⟩ fun y hy => ?_
  · simp only [sm, cellsT, List.cons_append, List.nil_append]
    refine Ghost.sub ?_ ?_ <;> simp -implicitDefEqProofs only [go_sem, ↓reduceIte, Nat.reduceAdd, Nat.reduceMul, Nat.reduceEqDiff, Nat.reduceLeDiff, reduceCtorEq, Int.reduceToNat, liftE_cons, liftE_nil, List.map_cons, List.map_nil, List.forall_mem_cons, List.not_mem_nil, false_implies, implies_true, and_self, labsIn_lift, List.all_append, List.all_cons, List.all_nil, Nat.reduceLT, labsInL, AV.labsIn]
    rfl
  obtain ⟨k, m'⟩ := y
  obtain ⟨f1, f2, f3⟩ := hy
  dsimp only at f1 f2 f3
  simp only [sm, cellsT, List.cons_append, List.nil_append, liftE_cons, liftE_nil, List.map_cons, List.map_nil]
  refine AW.seq ?_
  by_cases hk : k < e.2.length
  · obtain ⟨x, hx⟩ : ∃ x, e.2[k]? = some x := ⟨_, List.getElem?_eq_getElem hk⟩
    have ⟨ks1, ks2, ks3⟩ := at_map' encTr hx
    have hc2 : ((k : Int) < (e.2.length : Int)) = True := by simp; omega
    have sk := smallTs_at hx deep m'
    refine AW.rT (by rfl) fun K hK => ?_
    simp -implicitDefEqProofs only [go_sem, ↓reduceIte, Nat.reduceAdd, Nat.reduceMul, Nat.reduceEqDiff, Nat.reduceLeDiff, reduceCtorEq, Int.reduceToNat, hr1, hr2, hr3, hc1, encEn, List.length_map, hc2]
    refine hK _ ?_; clear hK K
    refine AW.cond _ (by simp -implicitDefEqProofs only [go_sem, ↓reduceIte, Nat.reduceAdd, Nat.reduceMul, Nat.reduceEqDiff, Nat.reduceLeDiff, reduceCtorEq, Int.reduceToNat]; rfl) (fun hc => ?_) (fun hc => ?_)
    rotate_left
    · simp at hc
    refine AW.skip ?_
    simp only [andThen, inBlk, reduceCtorEq, ↓reduceIte, if_t, if_f]
    refine AW.seq ?_
    refine AW.block ?_
    have wd : IntKind.wrap .i64 ((deep : Int) + 1) = ((deep + 1 : Nat) : Int) := by rw [w64] <;> omega
    refine AW.rT (by rfl) fun K hK => ?_
    simp -implicitDefEqProofs only [go_sem, ↓reduceIte, Nat.reduceAdd, Nat.reduceMul, Nat.reduceEqDiff, Nat.reduceLeDiff, reduceCtorEq, Int.reduceToNat, hr1, hr2, hr3, hc1, encEn, ks1, ks2, ks3, hc2, encTr_eq, wd, List.length_map]
    refine ⟨.lend [none, none, some 2] [.v (.agg (encTr x)), .v (.int .i64 ((deep + 1 : Nat) : Int)), .ptr 0 0 1 [[.int .i64 (m' : Int)]]] [none, none, some (.row 1 [[.int .i64 ((smallT x (deep + 1) m').2 : Int)]])] (.bool (smallT x (deep + 1) m').1),
      ⟨ih _ (size_ent he hx) x rfl (deep + 1) m' f2 (by omega), rfl, ?_⟩, ?_⟩
    · simp -implicitDefEqProofs only [go_sem, ↓reduceIte, Nat.reduceAdd, Nat.reduceMul, Nat.reduceEqDiff, Nat.reduceLeDiff, reduceCtorEq, Int.reduceToNat, encTr_eq, liftE_cons, liftE_nil, List.map_cons, List.map_nil, and_self]
    have n200 := smallT_n x (deep + 1) m'
    rcases hq : smallT x (deep + 1) m' with ⟨q, m2⟩
    rw [hq] at sk n200
    simp -implicitDefEqProofs only [go_sem, ↓reduceIte, Nat.reduceAdd, Nat.reduceMul, Nat.reduceEqDiff, Nat.reduceLeDiff, reduceCtorEq, Int.reduceToNat, liftE_cons, liftE_nil, List.map_cons, List.map_nil]
    refine hK _ ?_; clear hK K
    cases q with
    | false =>
      rw [if_pos rfl] at sk
      rw [f3, sk, if_pos rfl] at st
      have HH := e3.trans st
      refine AW.cond _ (by simp -implicitDefEqProofs only [go_sem, ↓reduceIte, Nat.reduceAdd, Nat.reduceMul, Nat.reduceEqDiff, Nat.reduceLeDiff, reduceCtorEq, Int.reduceToNat]; rfl) (fun hc => ?_) (fun hc => ?_)
      · refine AW.rT (by rfl) fun K hK => ?_
        simp -implicitDefEqProofs only [go_sem, ↓reduceIte, Nat.reduceAdd, Nat.reduceMul, Nat.reduceEqDiff, Nat.reduceLeDiff, reduceCtorEq, Int.reduceToNat]
        refine hK _ ?_; clear hK K
        refine AW.ret (show _ ∧ ((∃ l, _ ∧ _) ∧ (_ ∧ _ ∧ _) ∧ True) from ⟨?_, ⟨2, ?_, ?_⟩, ⟨rfl, by decide, rfl⟩, trivial⟩) <;> simp -implicitDefEqProofs only [go_sem, ↓reduceIte, Nat.reduceAdd, Nat.reduceMul, Nat.reduceEqDiff, Nat.reduceLeDiff, reduceCtorEq, Int.reduceToNat, liftE_cons, liftE_nil, List.map_cons, List.map_nil, HH]
      · simp at hc
    | true =>
      rw [if_neg (by simp)] at sk
      refine AW.cond _ (by simp -implicitDefEqProofs only [go_sem, ↓reduceIte, Nat.reduceAdd, Nat.reduceMul, Nat.reduceEqDiff, Nat.reduceLeDiff, reduceCtorEq, Int.reduceToNat]; rfl) (fun hc => ?_) (fun hc => ?_)
      · simp at hc
      refine AW.skip ?_
      simp only [andThen, inBlk, reduceCtorEq, ↓reduceIte, if_t, if_f]
      have w1 : IntKind.wrap .i64 ((k : Int) + 1) = ((k + 1 : Nat) : Int) := by rw [w64] <;> omega
      refine AW.rE (by rfl) fun K hK => ?_
      simp -implicitDefEqProofs only [go_sem, ↓reduceIte, Nat.reduceAdd, Nat.reduceMul, Nat.reduceEqDiff, Nat.reduceLeDiff, reduceCtorEq, Int.reduceToNat, w1]
      refine hK _ ?_; clear hK K
      refine ⟨(k + 1, m2), ⟨by show k + 1 ≤ e.2.length; omega, n200 rfl, f3.trans sk⟩, by show e.2.length - (k + 1) < e.2.length - k; omega, ?_⟩
      refine Ghost.sub ?_ ?_ <;> simp -implicitDefEqProofs only [go_sem, ↓reduceIte, Nat.reduceAdd, Nat.reduceMul, Nat.reduceEqDiff, Nat.reduceLeDiff, reduceCtorEq, Int.reduceToNat,  List.forall_mem_cons, List.not_mem_nil, false_implies, implies_true, and_self, labsIn_lift, List.all_append, List.all_cons, List.all_nil, Nat.reduceLT, labsInL, AV.labsIn]
  · have hc2 : ((k : Int) < (e.2.length : Int)) = False := by simp; omega
    have hk' : k = e.2.length := by omega
    subst hk'
    rw [List.drop_length, smallTs] at f3
    rw [f3, if_neg (by simp)] at st
    refine AW.rT (by rfl) fun K hK => ?_
    simp -implicitDefEqProofs only [go_sem, ↓reduceIte, Nat.reduceAdd, Nat.reduceMul, Nat.reduceEqDiff, Nat.reduceLeDiff, reduceCtorEq, Int.reduceToNat, hr1, hr2, hr3, hc1, encEn, List.length_map, hc2]
    refine hK _ ?_; clear hK K
    refine AW.cond _ (by simp -implicitDefEqProofs only [go_sem, ↓reduceIte, Nat.reduceAdd, Nat.reduceMul, Nat.reduceEqDiff, Nat.reduceLeDiff, reduceCtorEq, Int.reduceToNat]; rfl) (fun hc => ?_) (fun hc => ?_)
    · simp at hc
    refine AW.exit ?_
    simp only [andThen, inBlk, reduceCtorEq, ↓reduceIte, if_t, if_f]
    have w1 : IntKind.wrap .i64 ((i : Int) + 1) = ((i + 1 : Nat) : Int) := by rw [w64] <;> omega
    refine AW.rE (by rfl) fun K hK => ?_
    simp -implicitDefEqProofs only [go_sem, ↓reduceIte, Nat.reduceAdd, Nat.reduceMul, Nat.reduceEqDiff, Nat.reduceLeDiff, reduceCtorEq, Int.reduceToNat, w1]
    refine hK _ ?_; clear hK K
    refine ⟨(i + 1, m'), ⟨by show i + 1 ≤ t.ents.length; omega, f2, e3.trans st⟩, by show t.ents.length - (i + 1) < t.ents.length - i; omega, ?_⟩
    refine Ghost.sub ?_ ?_ <;> simp -implicitDefEqProofs only [go_sem, ↓reduceIte, Nat.reduceAdd, Nat.reduceMul, Nat.reduceEqDiff, Nat.reduceLeDiff, reduceCtorEq, Int.reduceToNat,  List.forall_mem_cons, List.not_mem_nil, false_implies, implies_true, and_self, labsIn_lift, List.all_append, List.all_cons, List.all_nil, Nat.reduceLT, labsInL, AV.labsIn]
end Go.Aw
/- Small; values by one number, one text; what they are asked. -/
namespace Go.Aw
open Go.Proofs
set_option linter.unusedSimpArgs false
set_option linter.unusedVariables false
theorem one_nilIface : Value.nilIface.oneCell' = true := rfl
attribute [go_sem] one_nilIface
def smallB (t : Tr) : Bool := (smallT t 0 0).1
theorem law00_Small (t : Tr) : PFn Try.prog 41 [.agg (encTr t)] (.bool (smallB t)) := by
  refine PFn.of Try.func41 rfl (by decide) Try.ntmps41 Try.results41 (Nat.le_of_ble_eq_true rfl) ?_
  simp only [argsT]
  refine AW.rT (by rfl) fun K hK => ?_
  simp -implicitDefEqProofs only [go_sem, ↓reduceIte, Nat.reduceAdd, Nat.reduceMul, Nat.reduceEqDiff, Nat.reduceLeDiff, reduceCtorEq, Int.reduceToNat, encTr_eq]
  refine hK _ ?_; clear hK K
  refine AW.rT (by rfl) fun K hK => ?_
  simp -implicitDefEqProofs only [go_sem, ↓reduceIte, Nat.reduceAdd, Nat.reduceMul, Nat.reduceEqDiff, Nat.reduceLeDiff, reduceCtorEq, Int.reduceToNat]
  refine hK _ ?_; clear hK K
  refine AW.rT (by rfl) fun K hK => ?_
  simp -implicitDefEqProofs only [go_sem, ↓reduceIte, Nat.reduceAdd, Nat.reduceMul, Nat.reduceEqDiff, Nat.reduceLeDiff, reduceCtorEq, Int.reduceToNat]
  refine ⟨.lend [none, none, some 2] [.v (.agg (encTr t)), .v (.int .i64 ((0 : Nat) : Int)), .ptr 0 0 1 [[.int .i64 ((0 : Nat) : Int)]]] [none, none, some (.row 1 [[.int .i64 ((smallT t 0 0).2 : Int)]])] (.bool (smallT t 0 0).1),
    ⟨law00_small t 0 0 (by decide) (by decide), rfl, ?_⟩, ?_⟩
  · simp -implicitDefEqProofs only [go_sem, ↓reduceIte, Nat.reduceAdd, Nat.reduceMul, Nat.reduceEqDiff, Nat.reduceLeDiff, reduceCtorEq, Int.reduceToNat, encTr_eq, liftE_cons, liftE_nil, List.map_cons, List.map_nil, and_self, Int.ofNat_zero, Int.natCast_zero]
  simp -implicitDefEqProofs only [go_sem, ↓reduceIte, Nat.reduceAdd, Nat.reduceMul, Nat.reduceEqDiff, Nat.reduceLeDiff, reduceCtorEq, Int.reduceToNat, liftE_cons, liftE_nil, List.map_cons, List.map_nil]
  refine hK _ ?_; clear hK K
  refine AW.ret ?_
  simp -implicitDefEqProofs only [go_sem, ↓reduceIte, Nat.reduceAdd, Nat.reduceMul, Nat.reduceEqDiff, Nat.reduceLeDiff, reduceCtorEq, Int.reduceToNat]
  rfl
/-- What a value is inside. -/
inductive In0 where
  | none | num (n : Int) | str (s : List UInt8) | node (cs : List PV)
def encIn : In0 → PV
  | .none => .cst .nilIface
  | .num n => .iface 99 (.int .i64 n)
  | .str s => .iface 101 (.str s)
  | .node cs => .iface 66 (.box cs 0)
theorem value_Num (n : Int) : PFn Try.prog 55 [.int .i64 n] (.agg [encIn (.num n)]) := by
  refine PFn.of Try.func55 rfl (by decide) Try.ntmps55 Try.results55 (Nat.le_of_ble_eq_true rfl) ?_
  simp only [argsT]
  refine AW.rT (by rfl) fun K hK => ?_
  simp -implicitDefEqProofs only [go_sem, ↓reduceIte, Nat.reduceAdd, Nat.reduceMul, Nat.reduceEqDiff, Nat.reduceLeDiff, reduceCtorEq, Int.reduceToNat]
  refine hK _ ?_; clear hK K
  refine AW.rT (by rfl) fun K hK => ?_
  simp -implicitDefEqProofs only [go_sem, ↓reduceIte, Nat.reduceAdd, Nat.reduceMul, Nat.reduceEqDiff, Nat.reduceLeDiff, reduceCtorEq, Int.reduceToNat]
  refine hK _ ?_; clear hK K
  refine AW.ret ?_
  simp -implicitDefEqProofs only [go_sem, ↓reduceIte, Nat.reduceAdd, Nat.reduceMul, Nat.reduceEqDiff, Nat.reduceLeDiff, reduceCtorEq, Int.reduceToNat]
  rfl
theorem value_Str (s : List UInt8) : PFn Try.prog 56 [.str s] (.agg [encIn (.str s)]) := by
  refine PFn.of Try.func56 rfl (by decide) Try.ntmps56 Try.results56 (Nat.le_of_ble_eq_true rfl) ?_
  simp only [argsT]
  refine AW.rT (by rfl) fun K hK => ?_
  simp -implicitDefEqProofs only [go_sem, ↓reduceIte, Nat.reduceAdd, Nat.reduceMul, Nat.reduceEqDiff, Nat.reduceLeDiff, reduceCtorEq, Int.reduceToNat]
  refine hK _ ?_; clear hK K
  refine AW.rT (by rfl) fun K hK => ?_
  simp -implicitDefEqProofs only [go_sem, ↓reduceIte, Nat.reduceAdd, Nat.reduceMul, Nat.reduceEqDiff, Nat.reduceLeDiff, reduceCtorEq, Int.reduceToNat]
  refine hK _ ?_; clear hK K
  refine AW.ret ?_
  simp -implicitDefEqProofs only [go_sem, ↓reduceIte, Nat.reduceAdd, Nat.reduceMul, Nat.reduceEqDiff, Nat.reduceLeDiff, reduceCtorEq, Int.reduceToNat]
  rfl
def asNum : In0 → Int × Bool
  | .num n => (n, true)
  | _ => (0, false)
def asStr : In0 → List UInt8 × Bool
  | .str s => (s, true)
  | _ => ([], false)
theorem value_AsNum (x : In0) : PFn Try.prog 51 [.agg [encIn x]] (.tuple [.int .i64 (asNum x).1, .bool (asNum x).2]) := by
  refine PFn.of Try.func51 rfl (by decide) Try.ntmps51 Try.results51 (Nat.le_of_ble_eq_true rfl) ?_
  simp only [argsT]
  cases x
  all_goals
    simp only [encIn]
    refine AW.rT (by rfl) fun K hK => ?_
    simp -implicitDefEqProofs only [go_sem, ↓reduceIte, Nat.reduceAdd, Nat.reduceMul, Nat.reduceEqDiff, Nat.reduceLeDiff, reduceCtorEq, Int.reduceToNat]
    refine hK _ ?_; clear hK K
    refine AW.rT (by rfl) fun K hK => ?_
    simp -implicitDefEqProofs only [go_sem, ↓reduceIte, Nat.reduceAdd, Nat.reduceMul, Nat.reduceEqDiff, Nat.reduceLeDiff, reduceCtorEq, Int.reduceToNat]
    refine hK _ ?_; clear hK K
    refine AW.rT (by rfl) fun K hK => ?_
    simp -implicitDefEqProofs only [go_sem, ↓reduceIte, Nat.reduceAdd, Nat.reduceMul, Nat.reduceEqDiff, Nat.reduceLeDiff, reduceCtorEq, Int.reduceToNat]
    refine hK _ ?_; clear hK K
    refine AW.ret ?_
    simp -implicitDefEqProofs only [go_sem, ↓reduceIte, Nat.reduceAdd, Nat.reduceMul, Nat.reduceEqDiff, Nat.reduceLeDiff, reduceCtorEq, Int.reduceToNat]
  all_goals rfl
def asNode : In0 → PV × Bool
  | .node cs => (.box cs 0, true)
  | _ => (.cst (.pointer none), false)
theorem value_AsStr (x : In0) : PFn Try.prog 52 [.agg [encIn x]] (.tuple [.str (asStr x).1, .bool (asStr x).2]) := by
  refine PFn.of Try.func52 rfl (by decide) Try.ntmps52 Try.results52 (Nat.le_of_ble_eq_true rfl) ?_
  simp only [argsT]
  cases x
  all_goals
    simp only [encIn]
    refine AW.rT (by rfl) fun K hK => ?_
    simp -implicitDefEqProofs only [go_sem, ↓reduceIte, Nat.reduceAdd, Nat.reduceMul, Nat.reduceEqDiff, Nat.reduceLeDiff, reduceCtorEq, Int.reduceToNat]
    refine hK _ ?_; clear hK K
    refine AW.rT (by rfl) fun K hK => ?_
    simp -implicitDefEqProofs only [go_sem, ↓reduceIte, Nat.reduceAdd, Nat.reduceMul, Nat.reduceEqDiff, Nat.reduceLeDiff, reduceCtorEq, Int.reduceToNat]
    refine hK _ ?_; clear hK K
    refine AW.rT (by rfl) fun K hK => ?_
    simp -implicitDefEqProofs only [go_sem, ↓reduceIte, Nat.reduceAdd, Nat.reduceMul, Nat.reduceEqDiff, Nat.reduceLeDiff, reduceCtorEq, Int.reduceToNat]
    refine hK _ ?_; clear hK K
    refine AW.ret ?_
    simp -implicitDefEqProofs only [go_sem, ↓reduceIte, Nat.reduceAdd, Nat.reduceMul, Nat.reduceEqDiff, Nat.reduceLeDiff, reduceCtorEq, Int.reduceToNat]
  all_goals rfl
theorem value_AsNode (x : In0) : PFn Try.prog 53 [.agg [encIn x]] (.tuple [(asNode x).1, .bool (asNode x).2]) := by
  refine PFn.of Try.func53 rfl (by decide) Try.ntmps53 Try.results53 (Nat.le_of_ble_eq_true rfl) ?_
  simp only [argsT]
  cases x
  all_goals
    simp only [encIn]
    refine AW.rT (by rfl) fun K hK => ?_
    simp -implicitDefEqProofs only [go_sem, ↓reduceIte, Nat.reduceAdd, Nat.reduceMul, Nat.reduceEqDiff, Nat.reduceLeDiff, reduceCtorEq, Int.reduceToNat]
    refine hK _ ?_; clear hK K
    refine AW.rT (by rfl) fun K hK => ?_
    simp -implicitDefEqProofs only [go_sem, ↓reduceIte, Nat.reduceAdd, Nat.reduceMul, Nat.reduceEqDiff, Nat.reduceLeDiff, reduceCtorEq, Int.reduceToNat]
    refine hK _ ?_; clear hK K
    refine AW.rT (by rfl) fun K hK => ?_
    simp -implicitDefEqProofs only [go_sem, ↓reduceIte, Nat.reduceAdd, Nat.reduceMul, Nat.reduceEqDiff, Nat.reduceLeDiff, reduceCtorEq, Int.reduceToNat]
    refine hK _ ?_; clear hK K
    refine AW.ret ?_
    simp -implicitDefEqProofs only [go_sem, ↓reduceIte, Nat.reduceAdd, Nat.reduceMul, Nat.reduceEqDiff, Nat.reduceLeDiff, reduceCtorEq, Int.reduceToNat]
  all_goals rfl
theorem value_MustNum (n : Int) : PFn Try.prog 57 [.agg [encIn (.num n)]] (.int .i64 n) := by
  refine PFn.of Try.func57 rfl (by decide) Try.ntmps57 Try.results57 (Nat.le_of_ble_eq_true rfl) ?_
  simp only [argsT, encIn]
  refine AW.rT (by rfl) fun K hK => ?_
  simp -implicitDefEqProofs only [go_sem, ↓reduceIte, Nat.reduceAdd, Nat.reduceMul, Nat.reduceEqDiff, Nat.reduceLeDiff, reduceCtorEq, Int.reduceToNat]
  refine hK _ ?_; clear hK K
  refine AW.rT (by rfl) fun K hK => ?_
  simp -implicitDefEqProofs only [go_sem, ↓reduceIte, Nat.reduceAdd, Nat.reduceMul, Nat.reduceEqDiff, Nat.reduceLeDiff, reduceCtorEq, Int.reduceToNat]
  refine hK _ ?_; clear hK K
  refine AW.ret ?_
  simp -implicitDefEqProofs only [go_sem, ↓reduceIte, Nat.reduceAdd, Nat.reduceMul, Nat.reduceEqDiff, Nat.reduceLeDiff, reduceCtorEq, Int.reduceToNat]
theorem value_MustStr (s : List UInt8) : PFn Try.prog 58 [.agg [encIn (.str s)]] (.str s) := by
  refine PFn.of Try.func58 rfl (by decide) Try.ntmps58 Try.results58 (Nat.le_of_ble_eq_true rfl) ?_
  simp only [argsT, encIn]
  refine AW.rT (by rfl) fun K hK => ?_
  simp -implicitDefEqProofs only [go_sem, ↓reduceIte, Nat.reduceAdd, Nat.reduceMul, Nat.reduceEqDiff, Nat.reduceLeDiff, reduceCtorEq, Int.reduceToNat]
  refine hK _ ?_; clear hK K
  refine AW.rT (by rfl) fun K hK => ?_
  simp -implicitDefEqProofs only [go_sem, ↓reduceIte, Nat.reduceAdd, Nat.reduceMul, Nat.reduceEqDiff, Nat.reduceLeDiff, reduceCtorEq, Int.reduceToNat]
  refine hK _ ?_; clear hK K
  refine AW.ret ?_
  simp -implicitDefEqProofs only [go_sem, ↓reduceIte, Nat.reduceAdd, Nat.reduceMul, Nat.reduceEqDiff, Nat.reduceLeDiff, reduceCtorEq, Int.reduceToNat]
theorem value_MustNode (cs : List PV) : PFn Try.prog 88 [.agg [encIn (.node cs)]] (.box cs 0) := by
  refine PFn.of Try.func88 rfl (by decide) Try.ntmps88 Try.results88 (Nat.le_of_ble_eq_true rfl) ?_
  simp only [argsT, encIn]
  refine AW.rT (by rfl) fun K hK => ?_
  simp -implicitDefEqProofs only [go_sem, ↓reduceIte, Nat.reduceAdd, Nat.reduceMul, Nat.reduceEqDiff, Nat.reduceLeDiff, reduceCtorEq, Int.reduceToNat]
  refine hK _ ?_; clear hK K
  refine AW.rT (by rfl) fun K hK => ?_
  simp -implicitDefEqProofs only [go_sem, ↓reduceIte, Nat.reduceAdd, Nat.reduceMul, Nat.reduceEqDiff, Nat.reduceLeDiff, reduceCtorEq, Int.reduceToNat]
  refine hK _ ?_; clear hK K
  refine AW.ret ?_
  simp -implicitDefEqProofs only [go_sem, ↓reduceIte, Nat.reduceAdd, Nat.reduceMul, Nat.reduceEqDiff, Nat.reduceLeDiff, reduceCtorEq, Int.reduceToNat]
end Go.Aw
/- What panics, and is caught: a value asked for what it is not. -/
namespace Go.Aw
open Go.Proofs Go.RowKit
set_option linter.unusedSimpArgs false
set_option linter.unusedVariables false
def lacks (x : Value) (ty : TypeId) : Prop := x = .nilIface ∨ ∃ t u, x = .iface t u ∧ t ≠ ty
theorem run_lacks {x : Value} {xT ty : TypeId} (w : World) (h : lacks x ty) (hc : conc Try.prog ty = true) : ∃ u pv o, (Instr.typeAssert x xT ty false).run Try.prog w = .halt (.panic (.iface u pv)) (w.alloc o) := by
  obtain ⟨u, hu, hne⟩ := conc_und hc
  rcases h with rfl | ⟨t, u', rfl, hne'⟩
  · refine ⟨15, .pointer (some ⟨w.heap.size, 0, none⟩), .cells (Value.agg #[typeHandle Try.prog xT, .pointer none, typeHandle Try.prog ty, strVal ""]).cells 121, ?_⟩
    cases u <;> first
      | exact absurd rfl (hne _)
      | simp [Instr.typeAssert, run_underlying' hu, runtimePanic, elemOf, newVar, newRow, goPanic]
  · refine ⟨15, .pointer (some ⟨w.heap.size, 0, none⟩), .cells (Value.agg #[typeHandle Try.prog xT, typeHandle Try.prog t, typeHandle Try.prog ty, strVal ""]).cells 121, ?_⟩
    cases u <;> first
      | exact absurd rfl (hne _)
      | simp [Instr.typeAssert, run_underlying' hu, hne', runtimePanic, elemOf, newVar, newRow, goPanic]
theorem Fr.alloc {w0 w : World} {X : Nat → Prop} (h : Fr w0 X w) (o : Obj) : Fr w0 X (w.alloc o) := by
  have e : ∀ b, b < w0.heap.size → (w.alloc o).heap[b]? = w.heap[b]? := fun b hb => by
    have := h.size
    show (w.heap.push o)[b]? = _
    rw [Array.getElem?_push, if_neg (by omega)]
  refine ⟨h.os, h.tape, h.output, ?_, fun b hb hx => (e b hb).trans (h.block b hb hx), h.step fun b cur et p hb hc => ⟨cur, et, p, by rw [e b hb]; exact hc, rfl⟩⟩
  show _ ≤ (w.heap.push o).size
  have := h.size
  simp; omega
theorem Fr.setCell {w0 w : World} {X : Nat → Prop} (h : Fr w0 X w) {p : Addr} (hp : w0.heap.size ≤ p.block) (v : Value) : Fr w0 X (w.setCell p v) := by
  have e : ∀ b, b < w0.heap.size → (w.setCell p v).heap[b]? = w.heap[b]? := fun b hb => heap_setCell_other w p b v (by omega)
  refine ⟨h.os, h.tape, h.output, ?_, fun b hb hx => (e b hb).trans (h.block b hb hx), h.step fun b cur et p hb hc => ⟨cur, et, p, by rw [e b hb]; exact hc, rfl⟩⟩
  show _ ≤ (w.heap.modify _ _).size
  rw [Array.size_modify]
  exact h.size
def must (f : FuncId) (ty : TypeId) : Prop := ∀ (x : Value) (w : World), lacks x ty → Calls Try.prog f #[.agg #[x]] w fun e w' => (∃ u pv, e = .panicked [{ v := .iface u pv, recovered := false }]) ∧ Fr w (fun _ => False) w'
set_option maxRecDepth 100000 in
theorem must57 : must 57 99 := by
  intro x w hx
  have h1 : x.oneCell' = true := by rcases hx with rfl | ⟨t, u, rfl, _⟩ <;> rfl
  go_enter Try.func57, Try.ntmps57
  go_wp2
  obtain ⟨u, pv, o, hr⟩ := run_lacks (xT := 57) (w.alloc (Obj.cells #[x] 59)) hx conc_99
  rw [hr]
  exact ⟨rfl, ⟨u, pv, rfl⟩, ((Fr.refl w _).alloc _).alloc _⟩
set_option maxRecDepth 100000 in
theorem must58 : must 58 101 := by
  intro x w hx
  have h1 : x.oneCell' = true := by rcases hx with rfl | ⟨t, u, rfl, _⟩ <;> rfl
  go_enter Try.func58, Try.ntmps58
  go_wp2
  obtain ⟨u, pv, o, hr⟩ := run_lacks (xT := 57) (w.alloc (Obj.cells #[x] 59)) hx conc_101
  rw [hr]
  exact ⟨rfl, ⟨u, pv, rfl⟩, ((Fr.refl w _).alloc _).alloc _⟩
set_option maxRecDepth 100000 in
theorem must88 : must 88 66 := by
  intro x w hx
  have h1 : x.oneCell' = true := by rcases hx with rfl | ⟨t, u, rfl, _⟩ <;> rfl
  go_enter Try.func88, Try.ntmps88
  go_wp2
  obtain ⟨u, pv, o, hr⟩ := run_lacks (xT := 57) (w.alloc (Obj.cells #[x] 59)) hx conc_66
  rw [hr]
  exact ⟨rfl, ⟨u, pv, rfl⟩, ((Fr.refl w _).alloc _).alloc _⟩
def askTy (k : Int) : TypeId := if k = 0 then 99 else if k = 1 then 101 else 66
theorem catch_panicking (p : Addr) (x : Bool) (u : TypeId) (pv : Value) (older : List PanicEntry) (w : World) (hc : w.cell? p = some (.bool x)) (hz : w.frozen? p = false) :
    CallsD Try.prog 87 #[.pointer (some p)] (.panicking ({ v := .iface u pv, recovered := false } :: older)) w fun e u' w' =>
      e = .returned (.tuple #[]) ∧ u' = .panicking ({ v := .iface u pv, recovered := true } :: older) ∧ w' = w.setCell p (.bool true) := by
  refine callsD_of_wpS Try.func87 rfl fun c₀ cs hu => ?_
  apply wpS_seq
  apply wpS_region
  simp [wpOpsS, go_sem, recoverD, hu, Try.ntmps87, Exit.thenS]
  refine wpS_cond (t := true) (by simp [Act.eval, Array.replicate]) ?_
  simp only [if_true]
  apply wpS_region
  simp [wpOpsS, go_sem, hc, hz, bodyPostS, results, Try.results87]
theorem catch_idle (p : Addr) (w : World) :
    CallsD Try.prog 87 #[.pointer (some p)] .returning w fun e u' w' => e = .returned (.tuple #[]) ∧ u' = .returning ∧ w' = w := by
  refine callsD_of_wpS Try.func87 rfl fun c₀ cs hu => ?_
  apply wpS_seq
  apply wpS_region
  simp [wpOpsS, go_sem, recoverD, hu, Try.ntmps87, Exit.thenS]
  refine wpS_cond (t := false) (by simp [Act.eval, Array.replicate]) ?_
  simp only [Bool.false_eq_true, if_false]
  refine wpS_of_wp (wp_skip ?_)
  cases c₀
  simp_all [bodyPostS, results, Try.results87]
set_option maxRecDepth 100000 in
theorem panics_0 (x : Value) (w : World) (hx : lacks x 99) : Calls Try.prog 54 #[.agg #[x], .int .i64 0] w fun e w' => e = .returned (.bool true) ∧ Fr w (fun _ => False) w' := by
  have hmf : ∀ (fn : Fn) (first cap : Array Value) (w : World), (Instr.makeFunc fn first cap).run Try.prog w = .ok (.func fn first cap) w := fun _ _ _ _ => rfl
  have h1c : x.oneCell' = true := by rcases hx with rfl | ⟨t, u, rfl, _⟩ <;> rfl
  go_enter_defers Try.func54, Try.ntmps54
  go_wp2
  obtain ⟨u, pv, o, hr⟩ := run_lacks (xT := 57) (((w.alloc (Obj.cells #[x] 59)).alloc (Obj.cells #[.bool false] 4)).alloc (Obj.cells #[x] 59)) hx conc_99
  rw [hr]
  refine ⟨rfl, ?_⟩
  refine leaves_cons (f := 87) (args := #[.pointer (some ⟨w.heap.size + 1, 0, none⟩)]) (by simp) (by simp [go_sem]) ?_
  refine (catch_panicking ⟨w.heap.size + 1, 0, none⟩ false u pv [] _ ?_ ?_).mono ?_
  · simp [go_sem]
  · simp [go_sem]
  rintro e u' w'' ⟨rfl, rfl, rfl⟩
  refine ⟨.bool true, ?_, rfl, ((((Fr.refl w _).alloc _).alloc _).alloc _).alloc _ |>.setCell (by show w.heap.size ≤ w.heap.size + 1; omega) _⟩
  simp [results, Try.results54, go_sem]
set_option maxRecDepth 100000 in
theorem panics_1 (x : Value) (w : World) (hx : lacks x 101) : Calls Try.prog 54 #[.agg #[x], .int .i64 1] w fun e w' => e = .returned (.bool true) ∧ Fr w (fun _ => False) w' := by
  have hmf : ∀ (fn : Fn) (first cap : Array Value) (w : World), (Instr.makeFunc fn first cap).run Try.prog w = .ok (.func fn first cap) w := fun _ _ _ _ => rfl
  have h1c : x.oneCell' = true := by rcases hx with rfl | ⟨t, u, rfl, _⟩ <;> rfl
  go_enter_defers Try.func54, Try.ntmps54
  go_wp2
  obtain ⟨u, pv, o, hr⟩ := run_lacks (xT := 57) (((w.alloc (Obj.cells #[x] 59)).alloc (Obj.cells #[.bool false] 4)).alloc (Obj.cells #[x] 59)) hx conc_101
  rw [hr]
  refine ⟨rfl, ?_⟩
  refine leaves_cons (f := 87) (args := #[.pointer (some ⟨w.heap.size + 1, 0, none⟩)]) (by simp) (by simp [go_sem]) ?_
  refine (catch_panicking ⟨w.heap.size + 1, 0, none⟩ false u pv [] _ ?_ ?_).mono ?_
  · simp [go_sem]
  · simp [go_sem]
  rintro e u' w'' ⟨rfl, rfl, rfl⟩
  refine ⟨.bool true, ?_, rfl, ((((Fr.refl w _).alloc _).alloc _).alloc _).alloc _ |>.setCell (by show w.heap.size ≤ w.heap.size + 1; omega) _⟩
  simp [results, Try.results54, go_sem]
set_option maxRecDepth 100000 in
theorem panics_2 (x : Value) (w : World) (hx : lacks x 66) : Calls Try.prog 54 #[.agg #[x], .int .i64 2] w fun e w' => e = .returned (.bool true) ∧ Fr w (fun _ => False) w' := by
  have hmf : ∀ (fn : Fn) (first cap : Array Value) (w : World), (Instr.makeFunc fn first cap).run Try.prog w = .ok (.func fn first cap) w := fun _ _ _ _ => rfl
  have h1c : x.oneCell' = true := by rcases hx with rfl | ⟨t, u, rfl, _⟩ <;> rfl
  go_enter_defers Try.func54, Try.ntmps54
  go_wp2
  obtain ⟨u, pv, o, hr⟩ := run_lacks (xT := 57) (((w.alloc (Obj.cells #[x] 59)).alloc (Obj.cells #[.bool false] 4)).alloc (Obj.cells #[x] 59)) hx conc_66
  rw [hr]
  refine ⟨rfl, ?_⟩
  refine leaves_cons (f := 87) (args := #[.pointer (some ⟨w.heap.size + 1, 0, none⟩)]) (by simp) (by simp [go_sem]) ?_
  refine (catch_panicking ⟨w.heap.size + 1, 0, none⟩ false u pv [] _ ?_ ?_).mono ?_
  · simp [go_sem]
  · simp [go_sem]
  rintro e u' w'' ⟨rfl, rfl, rfl⟩
  refine ⟨.bool true, ?_, rfl, ((((Fr.refl w _).alloc _).alloc _).alloc _).alloc _ |>.setCell (by show w.heap.size ≤ w.heap.size + 1; omega) _⟩
  simp [results, Try.results54, go_sem]
theorem run_has {u : Value} {xT ty : TypeId} (w : World) (hc : conc Try.prog ty = true) : (Instr.typeAssert (.iface ty u) xT ty false).run Try.prog w = .ok u w := by
  obtain ⟨d, hu, hne⟩ := conc_und hc
  cases d <;> first
    | exact absurd rfl (hne _)
    | simp [Instr.typeAssert, run_underlying' hu]
set_option maxRecDepth 100000 in
theorem stays_0 (u : Value) (w : World) : Calls Try.prog 54 #[.agg #[.iface 99 u], .int .i64 0] w fun e w' => e = .returned (.bool false) ∧ Fr w (fun _ => False) w' := by
  have hmf : ∀ (fn : Fn) (first cap : Array Value) (w : World), (Instr.makeFunc fn first cap).run Try.prog w = .ok (.func fn first cap) w := fun _ _ _ _ => rfl
  have hra : ∀ w : World, (Instr.typeAssert (.iface 99 u) 57 99 false).run Try.prog w = .ok u w := fun w => run_has w conc_99
  go_enter_defers Try.func54, Try.ntmps54
  go_wp2
  refine leaves_cons (f := 87) (args := #[.pointer (some ⟨w.heap.size + 1, 0, none⟩)]) (by simp) (by simp [go_sem]) ?_
  refine (catch_idle ⟨w.heap.size + 1, 0, none⟩ _).mono ?_
  rintro e u' w'' ⟨rfl, rfl, rfl⟩
  refine ⟨.bool false, ?_, rfl, ?_⟩
  · simp [results, Try.results54, go_sem]
  · exact (((Fr.refl w _).alloc _).alloc _).alloc _
set_option maxRecDepth 100000 in
theorem stays_1 (u : Value) (w : World) : Calls Try.prog 54 #[.agg #[.iface 101 u], .int .i64 1] w fun e w' => e = .returned (.bool false) ∧ Fr w (fun _ => False) w' := by
  have hmf : ∀ (fn : Fn) (first cap : Array Value) (w : World), (Instr.makeFunc fn first cap).run Try.prog w = .ok (.func fn first cap) w := fun _ _ _ _ => rfl
  have hra : ∀ w : World, (Instr.typeAssert (.iface 101 u) 57 101 false).run Try.prog w = .ok u w := fun w => run_has w conc_101
  go_enter_defers Try.func54, Try.ntmps54
  go_wp2
  refine leaves_cons (f := 87) (args := #[.pointer (some ⟨w.heap.size + 1, 0, none⟩)]) (by simp) (by simp [go_sem]) ?_
  refine (catch_idle ⟨w.heap.size + 1, 0, none⟩ _).mono ?_
  rintro e u' w'' ⟨rfl, rfl, rfl⟩
  refine ⟨.bool false, ?_, rfl, ?_⟩
  · simp [results, Try.results54, go_sem]
  · exact (((Fr.refl w _).alloc _).alloc _).alloc _
set_option maxRecDepth 100000 in
theorem stays_2 (u : Value) (w : World) : Calls Try.prog 54 #[.agg #[.iface 66 u], .int .i64 2] w fun e w' => e = .returned (.bool false) ∧ Fr w (fun _ => False) w' := by
  have hmf : ∀ (fn : Fn) (first cap : Array Value) (w : World), (Instr.makeFunc fn first cap).run Try.prog w = .ok (.func fn first cap) w := fun _ _ _ _ => rfl
  have hra : ∀ w : World, (Instr.typeAssert (.iface 66 u) 57 66 false).run Try.prog w = .ok u w := fun w => run_has w conc_66
  go_enter_defers Try.func54, Try.ntmps54
  go_wp2
  refine leaves_cons (f := 87) (args := #[.pointer (some ⟨w.heap.size + 1, 0, none⟩)]) (by simp) (by simp [go_sem]) ?_
  refine (catch_idle ⟨w.heap.size + 1, 0, none⟩ _).mono ?_
  rintro e u' w'' ⟨rfl, rfl, rfl⟩
  refine ⟨.bool false, ?_, rfl, ?_⟩
  · simp [results, Try.results54, go_sem]
  · exact (((Fr.refl w _).alloc _).alloc _).alloc _
def panicsB : In0 → Nat → Bool
  | .num _, 0 => false
  | .str _, 1 => false
  | .node _, 2 => false
  | _, _ => true
theorem rep_in {w : World} {I : Nat → Prop} {v : Value} {x : In0} (h : rep w I v (.agg [encIn x])) : ∃ u, v = .agg #[u] ∧ rep w I u (encIn x) := by
  cases h with
  | agg hs hr =>
    rename_i vs
    have h1 : vs.size = 1 := by rw [hs]; rfl
    refine ⟨vs[0], ?_, hr 0 _ _ (Array.getElem?_eq_getElem (by omega)) rfl⟩
    congr 1
    apply Array.ext
    · exact h1
    · intro i hi hi'
      have : i = 0 := by omega
      subst this
      rfl
def lackIn (x : In0) (ty : TypeId) : Prop := match x with | .none => True | .num _ => 99 ≠ ty | .str _ => 101 ≠ ty | .node _ => 66 ≠ ty
theorem in_lacks {w : World} {I : Nat → Prop} {u : Value} {x : In0} (h : rep w I u (encIn x)) (ty : TypeId) (hx : lackIn x ty) : lacks u ty := by
  cases x with
  | none => cases h; exact .inl rfl
  | num n => cases h with | iface _ h => exact .inr ⟨_, _, rfl, hx⟩
  | str n => cases h with | iface _ h => exact .inr ⟨_, _, rfl, hx⟩
  | node n => cases h with | iface _ h => exact .inr ⟨_, _, rfl, hx⟩
theorem panics_ok (x : In0) (k : Nat) (hk : k ≤ 2) : PFn Try.prog 54 [.agg [encIn x], .int .i64 (k : Int)] (.bool (panicsB x k)) := by
  refine ⟨by kernel_rfl, fun w I vals hs hr hI _ => ?_⟩
  have hs2 : vals.size = 2 := by rw [hs]; rfl
  have h0 := hr 0 _ _ (Array.getElem?_eq_getElem (by omega)) rfl
  have h1 := hr 1 _ _ (Array.getElem?_eq_getElem (by omega)) rfl
  obtain ⟨u, hu, hru⟩ := rep_in h0
  have hv : vals = #[.agg #[u], .int .i64 (k : Int)] := by
    generalize e1 : vals[1] = v1 at h1
    cases h1
    apply Array.ext
    · rw [hs2]; rfl
    · intro i hi hi'
      have : i < 2 := by omega
      match i, this with
      | 0, _ => exact hu
      | 1, _ => exact e1
  subst hv
  have yes : panicsB x k = true → (Calls Try.prog 54 #[.agg #[u], .int .i64 (k : Int)] w fun e w' => e = Ending.returned (.bool true) ∧ Fr w (fun _ => False) w') → _ := fun hb hc => hc.mono fun e w' ⟨he, hf⟩ => (⟨.bool true, he, hf, by rw [hb]; exact .bool true⟩ : ∃ v, e = Ending.returned v ∧ Fr w (fun _ => False) w' ∧ rep w' (fun g => I g ∨ (w.heap.size ≤ g ∧ g < w'.heap.size)) v (.bool (panicsB x k)))
  have no : panicsB x k = false → (Calls Try.prog 54 #[.agg #[u], .int .i64 (k : Int)] w fun e w' => e = Ending.returned (.bool false) ∧ Fr w (fun _ => False) w') → _ := fun hb hc => hc.mono fun e w' ⟨he, hf⟩ => (⟨.bool false, he, hf, by rw [hb]; exact .bool false⟩ : ∃ v, e = Ending.returned v ∧ Fr w (fun _ => False) w' ∧ rep w' (fun g => I g ∨ (w.heap.size ≤ g ∧ g < w'.heap.size)) v (.bool (panicsB x k)))
  have kc : k = 0 ∨ k = 1 ∨ k = 2 := by omega
  rcases kc with rfl | rfl | rfl
  · cases x with
    | num n => cases hru with | iface _ hru => exact no rfl (stays_0 _ w)
    | none => exact yes rfl (panics_0 u w (in_lacks hru 99 (by simp [lackIn])))
    | str s => exact yes rfl (panics_0 u w (in_lacks hru 99 (by simp [lackIn])))
    | node s => exact yes rfl (panics_0 u w (in_lacks hru 99 (by simp [lackIn])))
  · cases x with
    | str n => cases hru with | iface _ hru => exact no rfl (stays_1 _ w)
    | none => exact yes rfl (panics_1 u w (in_lacks hru 101 (by simp [lackIn])))
    | num s => exact yes rfl (panics_1 u w (in_lacks hru 101 (by simp [lackIn])))
    | node s => exact yes rfl (panics_1 u w (in_lacks hru 101 (by simp [lackIn])))
  · cases x with
    | node n => cases hru with | iface _ hru => exact no rfl (stays_2 _ w)
    | none => exact yes rfl (panics_2 u w (in_lacks hru 66 (by simp [lackIn])))
    | num s => exact yes rfl (panics_2 u w (in_lacks hru 66 (by simp [lackIn])))
    | str s => exact yes rfl (panics_2 u w (in_lacks hru 66 (by simp [lackIn])))
theorem law09_awake : PFn Try.prog 42 [] (.bool true) := by
  refine PFn.of Try.func42 rfl (by decide) Try.ntmps42 Try.results42 (Nat.le_of_ble_eq_true rfl) ?_
  simp only [argsT]
  refine AW.rT (by rfl) fun K hK => ?_
  simp -implicitDefEqProofs only [go_sem, ↓reduceIte, Nat.reduceAdd, Nat.reduceMul, Nat.reduceEqDiff, Nat.reduceLeDiff, reduceCtorEq, Int.reduceToNat]
  refine hK _ ?_; clear hK K
  refine AW.rT (by rfl) fun K hK => ?_
  simp -implicitDefEqProofs only [go_sem, ↓reduceIte, Nat.reduceAdd, Nat.reduceMul, Nat.reduceEqDiff, Nat.reduceLeDiff, reduceCtorEq, Int.reduceToNat]
  refine ⟨.pure _, value_Num 1, ?_⟩
  try simp -implicitDefEqProofs only [go_sem, ↓reduceIte, Nat.reduceAdd, Nat.reduceMul, Nat.reduceEqDiff, Nat.reduceLeDiff, reduceCtorEq, Int.reduceToNat]
  refine ⟨.pure _, value_AsStr (.num 1), ?_⟩
  try simp -implicitDefEqProofs only [go_sem, ↓reduceIte, Nat.reduceAdd, Nat.reduceMul, Nat.reduceEqDiff, Nat.reduceLeDiff, reduceCtorEq, Int.reduceToNat, asStr]
  refine hK _ ?_; clear hK K
  refine AW.rT (by rfl) fun K hK => ?_
  simp -implicitDefEqProofs only [go_sem, ↓reduceIte, Nat.reduceAdd, Nat.reduceMul, Nat.reduceEqDiff, Nat.reduceLeDiff, reduceCtorEq, Int.reduceToNat]
  refine ⟨.pure _, value_Num 7, ?_⟩
  try simp -implicitDefEqProofs only [go_sem, ↓reduceIte, Nat.reduceAdd, Nat.reduceMul, Nat.reduceEqDiff, Nat.reduceLeDiff, reduceCtorEq, Int.reduceToNat]
  refine ⟨.pure _, value_AsNum (.num 7), ?_⟩
  try simp -implicitDefEqProofs only [go_sem, ↓reduceIte, Nat.reduceAdd, Nat.reduceMul, Nat.reduceEqDiff, Nat.reduceLeDiff, reduceCtorEq, Int.reduceToNat, asNum]
  refine hK _ ?_; clear hK K
  refine AW.rT (by rfl) fun K hK => ?_
  simp -implicitDefEqProofs only [go_sem, ↓reduceIte, Nat.reduceAdd, Nat.reduceMul, Nat.reduceEqDiff, Nat.reduceLeDiff, reduceCtorEq, Int.reduceToNat]
  refine ⟨.pure _, value_Num 1, ?_⟩
  try simp -implicitDefEqProofs only [go_sem, ↓reduceIte, Nat.reduceAdd, Nat.reduceMul, Nat.reduceEqDiff, Nat.reduceLeDiff, reduceCtorEq, Int.reduceToNat]
  refine ⟨.pure _, panics_ok (.num 1) 1 (by decide), ?_⟩
  try simp -implicitDefEqProofs only [go_sem, ↓reduceIte, Nat.reduceAdd, Nat.reduceMul, Nat.reduceEqDiff, Nat.reduceLeDiff, reduceCtorEq, Int.reduceToNat, panicsB]
  refine ⟨.pure _, value_Str [97], ?_⟩
  try simp -implicitDefEqProofs only [go_sem, ↓reduceIte, Nat.reduceAdd, Nat.reduceMul, Nat.reduceEqDiff, Nat.reduceLeDiff, reduceCtorEq, Int.reduceToNat]
  refine ⟨.pure _, panics_ok (.str [97]) 1 (by decide), ?_⟩
  try simp -implicitDefEqProofs only [go_sem, ↓reduceIte, Nat.reduceAdd, Nat.reduceMul, Nat.reduceEqDiff, Nat.reduceLeDiff, reduceCtorEq, Int.reduceToNat, panicsB]
  refine hK _ ?_; clear hK K
  refine AW.ret ?_
  simp -implicitDefEqProofs only [go_sem, ↓reduceIte, Nat.reduceAdd, Nat.reduceMul, Nat.reduceEqDiff, Nat.reduceLeDiff, reduceCtorEq, Int.reduceToNat]
end Go.Aw
/- The document's Same. -/
namespace Go.Aw
open Go.Proofs
set_option linter.unusedSimpArgs false
set_option linter.unusedVariables false
mutual
def sameT : Tr → Tr → Bool
  | .mk k n s es r, .mk k' n' s' es' r' => if k = k' ∧ n = n' ∧ s = s' ∧ es.length = es'.length ∧ r.length = r'.length ∧ r = r' then sameE es es' else false
def sameE : List (Int × List Tr) → List (Int × List Tr) → Bool
  | [], [] => true
  | (t, l) :: r, (t', l') :: r' => if t = t' ∧ l.length = l'.length ∧ sameTs l l' = true then sameE r r' else false
  | _, _ => false
def sameTs : List Tr → List Tr → Bool
  | [], [] => true
  | x :: l, x' :: l' => if sameT x x' = true then sameTs l l' else false
  | _, _ => false
end
mutual
theorem sameT_iff : ∀ (a b : Tr), sameT a b = true ↔ a = b
  | .mk k n s es r, .mk k' n' s' es' r' => by
    rw [sameT]
    split
    · rename_i h
      obtain ⟨rfl, rfl, rfl, _, _, rfl⟩ := h
      rw [sameE_iff es es']
      simp
    · rename_i h
      simp only [Bool.false_eq_true, false_iff, Tr.mk.injEq]
      rintro ⟨rfl, rfl, rfl, rfl, rfl⟩
      exact h ⟨rfl, rfl, rfl, rfl, rfl, rfl⟩
theorem sameE_iff : ∀ (a b : List (Int × List Tr)), sameE a b = true ↔ a = b
  | [], [] => by simp [sameE]
  | [], _ :: _ => by simp [sameE]
  | _ :: _, [] => by simp [sameE]
  | (t, l) :: r, (t', l') :: r' => by
    rw [sameE]
    split
    · rename_i h
      obtain ⟨rfl, _, h2⟩ := h
      have := (sameTs_iff l l').1 h2
      subst this
      rw [sameE_iff r r']
      simp
    · rename_i h
      simp only [Bool.false_eq_true, false_iff, List.cons.injEq, Prod.mk.injEq]
      rintro ⟨⟨rfl, rfl⟩, rfl⟩
      exact h ⟨rfl, rfl, (sameTs_iff l l).2 rfl⟩
theorem sameTs_iff : ∀ (a b : List Tr), sameTs a b = true ↔ a = b
  | [], [] => by simp [sameTs]
  | [], _ :: _ => by simp [sameTs]
  | _ :: _, [] => by simp [sameTs]
  | x :: l, x' :: l' => by
    rw [sameTs]
    split
    · rename_i h
      have := (sameT_iff x x').1 h
      subst this
      rw [sameTs_iff l l']
      simp
    · rename_i h
      simp only [Bool.false_eq_true, false_iff, List.cons.injEq]
      rintro ⟨rfl, rfl⟩
      exact h ((sameT_iff x x).2 rfl)
end
mutual
def lensT : Tr → Bool
  | .mk _ _ _ es rest => decide (rest.length ≤ 1000) && decide (es.length ≤ 1000) && lensE es
def lensE : List (Int × List Tr) → Bool
  | [] => true
  | (_, l) :: r => decide (l.length ≤ 1000) && lensTs l && lensE r
def lensTs : List Tr → Bool
  | [] => true
  | x :: l => lensT x && lensTs l
end
theorem lensTs_at : ∀ {l : List Tr} {k : Nat} {x : Tr}, lensTs l = true → l[k]? = some x → lensT x = true := by
  intro l
  induction l with
  | nil => intro k x _ h; simp at h
  | cons y l ih =>
    intro k x h hk
    rw [lensTs, Bool.and_eq_true] at h
    cases k with
    | zero => simp at hk; subst hk; exact h.1
    | succ k => exact ih h.2 (by simpa using hk)
theorem lensE_at : ∀ {es : List (Int × List Tr)} {i : Nat} {e : Int × List Tr}, lensE es = true → es[i]? = some e → e.2.length ≤ 1000 ∧ lensTs e.2 = true := by
  intro es
  induction es with
  | nil => intro i e _ h; simp at h
  | cons y es ih =>
    intro i e h hi
    obtain ⟨t, l⟩ := y
    rw [lensE, Bool.and_eq_true, Bool.and_eq_true] at h
    cases i with
    | zero => simp at hi; subst hi; exact ⟨by simpa using h.1.1, h.1.2⟩
    | succ i => exact ih h.2 (by simpa using hi)
theorem lensT_mk {t : Tr} (h : lensT t = true) : t.rest.length ≤ 1000 ∧ t.ents.length ≤ 1000 ∧ lensE t.ents = true := by
  cases t
  rw [lensT] at h
  simp only [Bool.and_eq_true, decide_eq_true_eq] at h
  exact ⟨h.1.1, h.1.2, h.2⟩
mutual
theorem lens_small : ∀ (t : Tr) (deep n : Nat), (smallT t deep n).1 = true → lensT t = true
  | .mk k m s es rest, deep, n => by
    intro h
    rw [smallT] at h
    split at h
    · simp at h
    rename_i h1
    split at h
    · simp at h
    rw [lensT]
    simp only [Bool.and_eq_true, decide_eq_true_eq]
    exact ⟨⟨by omega, by omega⟩, lens_smallE es deep _ h⟩
theorem lens_smallE : ∀ (es : List (Int × List Tr)) (deep n : Nat), (smallE es deep n).1 = true → lensE es = true
  | [], _, _ => fun _ => by rw [lensE]
  | (t, l) :: r, deep, n => by
    intro h
    rw [smallE] at h
    split at h
    · simp at h
    rename_i h1
    split at h
    · rename_i h2; rw [h2] at h; cases h
    rename_i h2
    rw [lensE]
    simp only [Bool.and_eq_true, decide_eq_true_eq]
    exact ⟨⟨by omega, lens_smallTs l deep n (by simpa using h2)⟩, lens_smallE r deep _ h⟩
theorem lens_smallTs : ∀ (l : List Tr) (deep n : Nat), (smallTs l deep n).1 = true → lensTs l = true
  | [], _, _ => fun _ => by rw [lensTs]
  | x :: l, deep, n => by
    intro h
    rw [smallTs] at h
    split at h
    · rename_i h2; rw [h2] at h; cases h
    rename_i h2
    rw [lensTs, Bool.and_eq_true]
    exact ⟨lens_small x _ n (by simpa using h2), lens_smallTs l deep _ h⟩
end
theorem sameT_mk (a b : Tr) : sameT a b = if a.kind = b.kind ∧ a.n = b.n ∧ a.s = b.s ∧ a.ents.length = b.ents.length ∧ a.rest.length = b.rest.length ∧ a.rest = b.rest then sameE a.ents b.ents else false := by
  cases a; cases b; rw [sameT]; rfl
theorem sameE_at {es fs : List (Int × List Tr)} {i : Nat} {e f : Int × List Tr} (h : es[i]? = some e) (h' : fs[i]? = some f) :
    sameE (es.drop i) (fs.drop i) = if e.1 = f.1 ∧ e.2.length = f.2.length ∧ sameTs e.2 f.2 = true then sameE (es.drop (i + 1)) (fs.drop (i + 1)) else false := by
  rw [List.drop_eq_getElem_cons (List.getElem?_eq_some_iff.1 h).1, (List.getElem?_eq_some_iff.1 h).2, List.drop_eq_getElem_cons (List.getElem?_eq_some_iff.1 h').1, (List.getElem?_eq_some_iff.1 h').2]
  obtain ⟨a, l⟩ := e
  obtain ⟨b, m⟩ := f
  rw [sameE]
theorem sameTs_at {l m : List Tr} {k : Nat} {x y : Tr} (h : l[k]? = some x) (h' : m[k]? = some y) :
    sameTs (l.drop k) (m.drop k) = if sameT x y = true then sameTs (l.drop (k + 1)) (m.drop (k + 1)) else false := by
  rw [List.drop_eq_getElem_cons (List.getElem?_eq_some_iff.1 h).1, (List.getElem?_eq_some_iff.1 h).2, List.drop_eq_getElem_cons (List.getElem?_eq_some_iff.1 h').1, (List.getElem?_eq_some_iff.1 h').2, sameTs]
def ss (a b : Tr) (m : List (Nat × AV)) : St := ⟨ofL ([(2, .ptr 0 0 0), (3, .ptr 1 0 0)] ++ m), ofH [(0, .row 5 [cellsT a]), (1, .row 5 [cellsT b])], 2⟩
def st (a b : Tr) (i : Nat) (e f : Int × List Tr) (k : Nat) : St := ⟨ofL [(2, .ptr 0 0 0), (3, .ptr 1 0 0), (6, .p (.int .i64 (i : Int))), (7, .ptr 2 0 0), (8, .ptr 3 0 0), (9, .p (.int .i64 (k : Int)))],
  ofH [(0, .row 5 [cellsT a]), (1, .row 5 [cellsT b]), (2, .row 2 [[.p (.int .i64 e.1), .p (.slice (e.2.map encTr))]]), (3, .row 2 [[.p (.int .i64 f.1), .p (.slice (f.2.map encTr))]])], 4⟩
set_option maxRecDepth 100000 in
set_option maxHeartbeats 4000000 in
theorem ref09_Same : ∀ (a b : Tr), lensT a = true → PFn Try.prog 45 [.agg (encTr a), .agg (encTr b)] (.bool (sameT a b)) := by
  intro a
  induction h : SizeOf.sizeOf a using Nat.strongRecOn generalizing a with
  | _ sz ih =>
  subst h
  intro b hla
  obtain ⟨la1, la2, la3⟩ := lensT_mk hla
  have sT := sameT_mk a b
  refine PFn.of Try.func45 rfl (by decide) Try.ntmps45 Try.results45 (Nat.le_of_ble_eq_true rfl) ?_
  simp only [argsT]
  refine AW.rT (by rfl) fun K hK => ?_
  simp -implicitDefEqProofs only [go_sem, ↓reduceIte, Nat.reduceAdd, Nat.reduceMul, Nat.reduceEqDiff, Nat.reduceLeDiff, reduceCtorEq, Int.reduceToNat, encTr_eq]
  refine hK _ ?_; clear hK K
  refine AW.seq ?_
  by_cases c1 : a.kind = b.kind
  case neg =>
    have b1 : (a.kind != b.kind) = true := by simpa using c1
    rw [if_neg (fun h => c1 h.1)] at sT
    refine AW.rT (by rfl) fun K hK => ?_
    simp -implicitDefEqProofs only [go_sem, ↓reduceIte, Nat.reduceAdd, Nat.reduceMul, Nat.reduceEqDiff, Nat.reduceLeDiff, reduceCtorEq, Int.reduceToNat, b1]
    refine hK _ ?_; clear hK K
    refine AW.cond _ (by simp -implicitDefEqProofs only [go_sem, ↓reduceIte, Nat.reduceAdd, Nat.reduceMul, Nat.reduceEqDiff, Nat.reduceLeDiff, reduceCtorEq, Int.reduceToNat]; rfl) (fun hc => ?_) (fun hc => ?_)
    · refine AW.rT (by rfl) fun K hK => ?_
      simp -implicitDefEqProofs only [go_sem, ↓reduceIte, Nat.reduceAdd, Nat.reduceMul, Nat.reduceEqDiff, Nat.reduceLeDiff, reduceCtorEq, Int.reduceToNat]
      refine hK _ ?_; clear hK K
      refine AW.ret ?_
      simp -implicitDefEqProofs only [go_sem, ↓reduceIte, Nat.reduceAdd, Nat.reduceMul, Nat.reduceEqDiff, Nat.reduceLeDiff, reduceCtorEq, Int.reduceToNat, sT]
    · simp at hc
  have b1 : (a.kind != b.kind) = false := by simpa using c1
  by_cases c2 : a.n = b.n
  case neg =>
    have b2 : (a.n != b.n) = true := by simpa using c2
    rw [if_neg (fun h => c2 h.2.1)] at sT
    refine AW.rT (by rfl) fun K hK => ?_
    simp -implicitDefEqProofs only [go_sem, ↓reduceIte, Nat.reduceAdd, Nat.reduceMul, Nat.reduceEqDiff, Nat.reduceLeDiff, reduceCtorEq, Int.reduceToNat, b1, b2]
    refine hK _ ?_; clear hK K
    refine AW.cond _ (by simp -implicitDefEqProofs only [go_sem, ↓reduceIte, Nat.reduceAdd, Nat.reduceMul, Nat.reduceEqDiff, Nat.reduceLeDiff, reduceCtorEq, Int.reduceToNat]; rfl) (fun hc => ?_) (fun hc => ?_)
    · refine AW.rT (by rfl) fun K hK => ?_
      simp -implicitDefEqProofs only [go_sem, ↓reduceIte, Nat.reduceAdd, Nat.reduceMul, Nat.reduceEqDiff, Nat.reduceLeDiff, reduceCtorEq, Int.reduceToNat]
      refine hK _ ?_; clear hK K
      refine AW.ret ?_
      simp -implicitDefEqProofs only [go_sem, ↓reduceIte, Nat.reduceAdd, Nat.reduceMul, Nat.reduceEqDiff, Nat.reduceLeDiff, reduceCtorEq, Int.reduceToNat, sT]
    · simp at hc
  have b2 : (a.n != b.n) = false := by simpa using c2
  by_cases c3 : a.s = b.s
  case neg =>
    have b3 : (a.s == b.s) = false := beqf c3
    rw [if_neg (fun h => c3 h.2.2.1)] at sT
    refine AW.rT (by rfl) fun K hK => ?_
    simp -implicitDefEqProofs only [go_sem, ↓reduceIte, Nat.reduceAdd, Nat.reduceMul, Nat.reduceEqDiff, Nat.reduceLeDiff, reduceCtorEq, Int.reduceToNat, b1, b2, b3]
    refine hK _ ?_; clear hK K
    refine AW.cond _ (by simp -implicitDefEqProofs only [go_sem, ↓reduceIte, Nat.reduceAdd, Nat.reduceMul, Nat.reduceEqDiff, Nat.reduceLeDiff, reduceCtorEq, Int.reduceToNat]; rfl) (fun hc => ?_) (fun hc => ?_)
    · refine AW.rT (by rfl) fun K hK => ?_
      simp -implicitDefEqProofs only [go_sem, ↓reduceIte, Nat.reduceAdd, Nat.reduceMul, Nat.reduceEqDiff, Nat.reduceLeDiff, reduceCtorEq, Int.reduceToNat]
      refine hK _ ?_; clear hK K
      refine AW.ret ?_
      simp -implicitDefEqProofs only [go_sem, ↓reduceIte, Nat.reduceAdd, Nat.reduceMul, Nat.reduceEqDiff, Nat.reduceLeDiff, reduceCtorEq, Int.reduceToNat, sT]
    · simp at hc
  have b3 : (a.s == b.s) = true := by simpa using c3
  by_cases c4 : a.ents.length = b.ents.length
  case neg =>
    have b4 : ((a.ents.length : Int) != (b.ents.length : Int)) = true := by simp; omega
    rw [if_neg (fun h => c4 h.2.2.2.1)] at sT
    refine AW.rT (by rfl) fun K hK => ?_
    simp -implicitDefEqProofs only [go_sem, ↓reduceIte, Nat.reduceAdd, Nat.reduceMul, Nat.reduceEqDiff, Nat.reduceLeDiff, reduceCtorEq, Int.reduceToNat, b1, b2, b3, b4, List.length_map]
    refine hK _ ?_; clear hK K
    refine AW.cond _ (by simp -implicitDefEqProofs only [go_sem, ↓reduceIte, Nat.reduceAdd, Nat.reduceMul, Nat.reduceEqDiff, Nat.reduceLeDiff, reduceCtorEq, Int.reduceToNat]; rfl) (fun hc => ?_) (fun hc => ?_)
    · refine AW.rT (by rfl) fun K hK => ?_
      simp -implicitDefEqProofs only [go_sem, ↓reduceIte, Nat.reduceAdd, Nat.reduceMul, Nat.reduceEqDiff, Nat.reduceLeDiff, reduceCtorEq, Int.reduceToNat]
      refine hK _ ?_; clear hK K
      refine AW.ret ?_
      simp -implicitDefEqProofs only [go_sem, ↓reduceIte, Nat.reduceAdd, Nat.reduceMul, Nat.reduceEqDiff, Nat.reduceLeDiff, reduceCtorEq, Int.reduceToNat, sT]
    · simp at hc
  have b4 : ((a.ents.length : Int) != (b.ents.length : Int)) = false := by simp; omega
  by_cases c5 : a.rest.length = b.rest.length
  case neg =>
    have b5 : ((a.rest.length : Int) != (b.rest.length : Int)) = true := by simp; omega
    rw [if_neg (fun h => c5 h.2.2.2.2.1)] at sT
    refine AW.rT (by rfl) fun K hK => ?_
    simp -implicitDefEqProofs only [go_sem, ↓reduceIte, Nat.reduceAdd, Nat.reduceMul, Nat.reduceEqDiff, Nat.reduceLeDiff, reduceCtorEq, Int.reduceToNat, b1, b2, b3, b4, b5, List.length_map]
    refine hK _ ?_; clear hK K
    refine AW.cond _ (by simp -implicitDefEqProofs only [go_sem, ↓reduceIte, Nat.reduceAdd, Nat.reduceMul, Nat.reduceEqDiff, Nat.reduceLeDiff, reduceCtorEq, Int.reduceToNat]; rfl) (fun hc => ?_) (fun hc => ?_)
    · refine AW.rT (by rfl) fun K hK => ?_
      simp -implicitDefEqProofs only [go_sem, ↓reduceIte, Nat.reduceAdd, Nat.reduceMul, Nat.reduceEqDiff, Nat.reduceLeDiff, reduceCtorEq, Int.reduceToNat]
      refine hK _ ?_; clear hK K
      refine AW.ret ?_
      simp -implicitDefEqProofs only [go_sem, ↓reduceIte, Nat.reduceAdd, Nat.reduceMul, Nat.reduceEqDiff, Nat.reduceLeDiff, reduceCtorEq, Int.reduceToNat, sT]
    · simp at hc
  have b5 : ((a.rest.length : Int) != (b.rest.length : Int)) = false := by simp; omega
  refine AW.rT (by rfl) fun K hK => ?_
  simp -implicitDefEqProofs only [go_sem, ↓reduceIte, Nat.reduceAdd, Nat.reduceMul, Nat.reduceEqDiff, Nat.reduceLeDiff, reduceCtorEq, Int.reduceToNat, b1, b2, b3, b4, b5, List.length_map]
  refine hK _ ?_; clear hK K
  refine AW.cond _ (by simp -implicitDefEqProofs only [go_sem, ↓reduceIte, Nat.reduceAdd, Nat.reduceMul, Nat.reduceEqDiff, Nat.reduceLeDiff, reduceCtorEq, Int.reduceToNat]; rfl) (fun hc => ?_) (fun hc => ?_)
  · simp at hc
  refine AW.skip ?_
  simp only [andThen, inBlk, reduceCtorEq, ↓reduceIte, if_t, if_f]
  clear b1 b2 b3 b4 b5
  refine AW.seq ?_
  refine AW.rT (by rfl) fun K hK => ?_
  simp -implicitDefEqProofs only [go_sem, ↓reduceIte, Nat.reduceAdd, Nat.reduceMul, Nat.reduceEqDiff, Nat.reduceLeDiff, reduceCtorEq, Int.reduceToNat]
  refine hK _ ?_; clear hK K
  refine AW.block ?_
  refine AW.loop (fun i : Nat => ss a b [(5, .p (.int .i64 (i : Int)))]) (fun i => i ≤ a.rest.length ∧ a.rest.take i = b.rest.take i) (fun i => a.rest.length - i) 0 ?_ (by simp) fun i hi => ?_
  · simp only [ss, cellsT, List.cons_append, List.nil_append]
    refine Ghost.sub ?_ ?_ <;> simp -implicitDefEqProofs only [go_sem, ↓reduceIte, Nat.reduceAdd, Nat.reduceMul, Nat.reduceEqDiff, Nat.reduceLeDiff, reduceCtorEq, Int.reduceToNat,  List.forall_mem_cons, List.not_mem_nil, false_implies, implies_true, and_self, labsIn_lift, List.all_append, List.all_cons, List.all_nil, Nat.reduceLT, labsInL, AV.labsIn]
    rfl
  obtain ⟨g1, g2⟩ := hi
  simp only [ss, cellsT, List.cons_append, List.nil_append]
  refine AW.seq ?_
  by_cases hil : i < a.rest.length
  · obtain ⟨x, hx⟩ : ∃ x, a.rest[i]? = some x := ⟨_, List.getElem?_eq_getElem hil⟩
    obtain ⟨y, hy⟩ : ∃ y, b.rest[i]? = some y := ⟨_, List.getElem?_eq_getElem (by omega)⟩
    have ⟨hx1, hx2, hx3⟩ := at_map' encRaw hx
    have ⟨hy1, hy2, hy3⟩ := at_map' encRaw hy
    have ex : (encRaw x).length = 4 := rfl
    have ey : (encRaw y).length = 4 := rfl
    have hc1 : ((i : Int) < (a.rest.length : Int)) = True := by simp; omega
    refine AW.rT (by rfl) fun K hK => ?_
    simp -implicitDefEqProofs only [go_sem, ↓reduceIte, Nat.reduceAdd, Nat.reduceMul, Nat.reduceEqDiff, Nat.reduceLeDiff, reduceCtorEq, Int.reduceToNat, List.length_map, hc1]
    refine hK _ ?_; clear hK K
    refine AW.cond _ (by simp -implicitDefEqProofs only [go_sem, ↓reduceIte, Nat.reduceAdd, Nat.reduceMul, Nat.reduceEqDiff, Nat.reduceLeDiff, reduceCtorEq, Int.reduceToNat]; rfl) (fun hc => ?_) (fun hc => ?_)
    rotate_left
    · simp at hc
    refine AW.skip ?_
    simp only [andThen, inBlk, reduceCtorEq, ↓reduceIte, if_t, if_f]
    refine AW.seq ?_
    refine AW.block ?_
    refine AW.dT mixed (by rfl) (by decide +kernel) fun K hK => ?_
    simp -implicitDefEqProofs only [go_sem, ↓reduceIte, Nat.reduceAdd, Nat.reduceMul, Nat.reduceEqDiff, Nat.reduceLeDiff, reduceCtorEq, Int.reduceToNat, hx1, hx2, hx3, hy1, hy2, hy3, ex, ey]
    refine ⟨_, eqP_raw x y, ?_⟩
    simp only [boolE]
    try simp -implicitDefEqProofs only [go_sem, ↓reduceIte, Nat.reduceAdd, Nat.reduceMul, Nat.reduceEqDiff, Nat.reduceLeDiff, reduceCtorEq, Int.reduceToNat]
    refine ⟨heapOK_nil rfl, ?_⟩
    refine hK _ ?_; clear hK K
    by_cases hxy : x = y
    · have bx : decide (x = y) = true := by simpa using hxy
      rw [bx]
      refine AW.cond _ (by simp -implicitDefEqProofs only [go_sem, ↓reduceIte, Nat.reduceAdd, Nat.reduceMul, Nat.reduceEqDiff, Nat.reduceLeDiff, reduceCtorEq, Int.reduceToNat]; rfl) (fun hc => ?_) (fun hc => ?_)
      · simp at hc
      refine AW.skip ?_
      simp only [andThen, inBlk, reduceCtorEq, ↓reduceIte, if_t, if_f]
      have w2 : IntKind.wrap .i64 ((i : Int) + 1) = ((i + 1 : Nat) : Int) := by rw [w64] <;> omega
      refine AW.rE (by rfl) fun K hK => ?_
      simp -implicitDefEqProofs only [go_sem, ↓reduceIte, Nat.reduceAdd, Nat.reduceMul, Nat.reduceEqDiff, Nat.reduceLeDiff, reduceCtorEq, Int.reduceToNat, w2]
      refine hK _ ?_; clear hK K
      refine ⟨i + 1, ⟨by omega, by rw [List.take_add_one, List.take_add_one, hx, hy, g2, hxy]⟩, by omega, ?_⟩
      refine Ghost.sub ?_ ?_ <;> simp -implicitDefEqProofs only [go_sem, ↓reduceIte, Nat.reduceAdd, Nat.reduceMul, Nat.reduceEqDiff, Nat.reduceLeDiff, reduceCtorEq, Int.reduceToNat,  List.forall_mem_cons, List.not_mem_nil, false_implies, implies_true, and_self, labsIn_lift, List.all_append, List.all_cons, List.all_nil, Nat.reduceLT, labsInL, AV.labsIn]
    · have bx : decide (x = y) = false := by simpa using hxy
      rw [bx]
      rw [if_neg (fun h => hxy (by have := h.2.2.2.2.2; rw [this, hy] at hx; injection hx with hx; exact hx.symm))] at sT
      refine AW.cond _ (by simp -implicitDefEqProofs only [go_sem, ↓reduceIte, Nat.reduceAdd, Nat.reduceMul, Nat.reduceEqDiff, Nat.reduceLeDiff, reduceCtorEq, Int.reduceToNat]; rfl) (fun hc => ?_) (fun hc => ?_)
      · refine AW.rT (by rfl) fun K hK => ?_
        simp -implicitDefEqProofs only [go_sem, ↓reduceIte, Nat.reduceAdd, Nat.reduceMul, Nat.reduceEqDiff, Nat.reduceLeDiff, reduceCtorEq, Int.reduceToNat]
        refine hK _ ?_; clear hK K
        refine AW.ret ?_
        simp -implicitDefEqProofs only [go_sem, ↓reduceIte, Nat.reduceAdd, Nat.reduceMul, Nat.reduceEqDiff, Nat.reduceLeDiff, reduceCtorEq, Int.reduceToNat, sT]
      · simp at hc
  have hc1 : ((i : Int) < (a.rest.length : Int)) = False := by simp; omega
  have hi' : i = a.rest.length := by omega
  subst hi'
  rw [List.take_length, c5, List.take_length] at g2
  rw [if_pos ⟨c1, c2, c3, c4, c5, g2⟩] at sT
  refine AW.rT (by rfl) fun K hK => ?_
  simp -implicitDefEqProofs only [go_sem, ↓reduceIte, Nat.reduceAdd, Nat.reduceMul, Nat.reduceEqDiff, Nat.reduceLeDiff, reduceCtorEq, Int.reduceToNat, List.length_map, hc1]
  refine hK _ ?_; clear hK K
  refine AW.cond _ (by simp -implicitDefEqProofs only [go_sem, ↓reduceIte, Nat.reduceAdd, Nat.reduceMul, Nat.reduceEqDiff, Nat.reduceLeDiff, reduceCtorEq, Int.reduceToNat]; rfl) (fun hc => ?_) (fun hc => ?_)
  · simp at hc
  refine AW.exit ?_
  simp only [andThen, inBlk, reduceCtorEq, ↓reduceIte, if_t, if_f]
  refine AW.seq ?_
  refine AW.rT (by rfl) fun K hK => ?_
  simp -implicitDefEqProofs only [go_sem, ↓reduceIte, Nat.reduceAdd, Nat.reduceMul, Nat.reduceEqDiff, Nat.reduceLeDiff, reduceCtorEq, Int.reduceToNat]
  refine hK _ ?_; clear hK K
  refine AW.block ?_
  refine AW.loop (fun i : Nat => ss a b [(6, .p (.int .i64 (i : Int)))]) (fun i => i ≤ a.ents.length ∧ sameT a b = sameE (a.ents.drop i) (b.ents.drop i)) (fun i => a.ents.length - i) 0 ?_ ⟨by simp, by rw [sT, List.drop_zero, List.drop_zero]⟩ fun i hi => ?_
  · simp only [ss, cellsT, List.cons_append, List.nil_append]
    refine Ghost.sub ?_ ?_ <;> simp -implicitDefEqProofs only [go_sem, ↓reduceIte, Nat.reduceAdd, Nat.reduceMul, Nat.reduceEqDiff, Nat.reduceLeDiff, reduceCtorEq, Int.reduceToNat,  List.forall_mem_cons, List.not_mem_nil, false_implies, implies_true, and_self, labsIn_lift, List.all_append, List.all_cons, List.all_nil, Nat.reduceLT, labsInL, AV.labsIn]
    rfl
  obtain ⟨e1, e2⟩ := hi
  simp only [ss, cellsT, List.cons_append, List.nil_append]
  refine AW.seq ?_
  by_cases hil : i < a.ents.length
  case neg =>
    have hc1 : ((i : Int) < (a.ents.length : Int)) = False := by simp; omega
    rw [List.drop_of_length_le (by omega), List.drop_of_length_le (by omega), sameE] at e2
    refine AW.rT (by rfl) fun K hK => ?_
    simp -implicitDefEqProofs only [go_sem, ↓reduceIte, Nat.reduceAdd, Nat.reduceMul, Nat.reduceEqDiff, Nat.reduceLeDiff, reduceCtorEq, Int.reduceToNat, List.length_map, hc1]
    refine hK _ ?_; clear hK K
    refine AW.cond _ (by simp -implicitDefEqProofs only [go_sem, ↓reduceIte, Nat.reduceAdd, Nat.reduceMul, Nat.reduceEqDiff, Nat.reduceLeDiff, reduceCtorEq, Int.reduceToNat]; rfl) (fun hc => ?_) (fun hc => ?_)
    · simp at hc
    refine AW.exit ?_
    simp only [andThen, inBlk, reduceCtorEq, ↓reduceIte, if_t, if_f]
    refine AW.rT (by rfl) fun K hK => ?_
    simp -implicitDefEqProofs only [go_sem, ↓reduceIte, Nat.reduceAdd, Nat.reduceMul, Nat.reduceEqDiff, Nat.reduceLeDiff, reduceCtorEq, Int.reduceToNat]
    refine hK _ ?_; clear hK K
    refine AW.ret ?_
    simp -implicitDefEqProofs only [go_sem, ↓reduceIte, Nat.reduceAdd, Nat.reduceMul, Nat.reduceEqDiff, Nat.reduceLeDiff, reduceCtorEq, Int.reduceToNat, e2]
  obtain ⟨e, he⟩ : ∃ e, a.ents[i]? = some e := ⟨_, List.getElem?_eq_getElem hil⟩
  obtain ⟨f, hf⟩ : ∃ f, b.ents[i]? = some f := ⟨_, List.getElem?_eq_getElem (by omega)⟩
  have ⟨he1, he2, he3⟩ := at_map' encEn he
  have ⟨hf1, hf2, hf3⟩ := at_map' encEn hf
  have ⟨le1, le2⟩ := lensE_at la3 he
  have sE := sameE_at he hf
  have hc1 : ((i : Int) < (a.ents.length : Int)) = True := by simp; omega
  have hc1' : ((i : Int) < (b.ents.length : Int)) = True := by simp; omega
  refine AW.rT (by rfl) fun K hK => ?_
  simp -implicitDefEqProofs only [go_sem, ↓reduceIte, Nat.reduceAdd, Nat.reduceMul, Nat.reduceEqDiff, Nat.reduceLeDiff, reduceCtorEq, Int.reduceToNat, List.length_map, hc1]
  refine hK _ ?_; clear hK K
  refine AW.cond _ (by simp -implicitDefEqProofs only [go_sem, ↓reduceIte, Nat.reduceAdd, Nat.reduceMul, Nat.reduceEqDiff, Nat.reduceLeDiff, reduceCtorEq, Int.reduceToNat]; rfl) (fun hc => ?_) (fun hc => ?_)
  rotate_left
  · simp at hc
  refine AW.skip ?_
  simp only [andThen, inBlk, reduceCtorEq, ↓reduceIte, if_t, if_f]
  refine AW.seq ?_
  refine AW.block ?_
  refine AW.dT mixed (by rfl) (by decide +kernel) fun K hK => ?_
  simp -implicitDefEqProofs only [go_sem, ↓reduceIte, Nat.reduceAdd, Nat.reduceMul, Nat.reduceEqDiff, Nat.reduceLeDiff, reduceCtorEq, Int.reduceToNat, he1, he2, he3, hf1, hf2, hf3, encEn, List.length_map, hc1, hc1']
  refine ⟨by decide +kernel, ?_⟩
  refine hK _ ?_; clear hK K
  refine AW.seq ?_
  by_cases d1 : e.1 = f.1
  case neg =>
    have b1 : (e.1 != f.1) = true := by simpa using d1
    rw [if_neg (fun h => d1 h.1)] at sE
    have HH := e2.trans sE
    refine AW.rT (by rfl) fun K hK => ?_
    simp -implicitDefEqProofs only [go_sem, ↓reduceIte, Nat.reduceAdd, Nat.reduceMul, Nat.reduceEqDiff, Nat.reduceLeDiff, reduceCtorEq, Int.reduceToNat, b1]
    refine hK _ ?_; clear hK K
    refine AW.cond _ (by simp -implicitDefEqProofs only [go_sem, ↓reduceIte, Nat.reduceAdd, Nat.reduceMul, Nat.reduceEqDiff, Nat.reduceLeDiff, reduceCtorEq, Int.reduceToNat]; rfl) (fun hc => ?_) (fun hc => ?_)
    · refine AW.rT (by rfl) fun K hK => ?_
      simp -implicitDefEqProofs only [go_sem, ↓reduceIte, Nat.reduceAdd, Nat.reduceMul, Nat.reduceEqDiff, Nat.reduceLeDiff, reduceCtorEq, Int.reduceToNat]
      refine hK _ ?_; clear hK K
      refine AW.ret ?_
      simp -implicitDefEqProofs only [go_sem, ↓reduceIte, Nat.reduceAdd, Nat.reduceMul, Nat.reduceEqDiff, Nat.reduceLeDiff, reduceCtorEq, Int.reduceToNat, HH]
    · simp at hc
  have b1 : (e.1 != f.1) = false := by simpa using d1
  by_cases d2 : e.2.length = f.2.length
  case neg =>
    have b2 : ((e.2.length : Int) != (f.2.length : Int)) = true := by simp; omega
    rw [if_neg (fun h => d2 h.2.1)] at sE
    have HH := e2.trans sE
    refine AW.rT (by rfl) fun K hK => ?_
    simp -implicitDefEqProofs only [go_sem, ↓reduceIte, Nat.reduceAdd, Nat.reduceMul, Nat.reduceEqDiff, Nat.reduceLeDiff, reduceCtorEq, Int.reduceToNat, b1, b2, List.length_map]
    refine hK _ ?_; clear hK K
    refine AW.cond _ (by simp -implicitDefEqProofs only [go_sem, ↓reduceIte, Nat.reduceAdd, Nat.reduceMul, Nat.reduceEqDiff, Nat.reduceLeDiff, reduceCtorEq, Int.reduceToNat]; rfl) (fun hc => ?_) (fun hc => ?_)
    · refine AW.rT (by rfl) fun K hK => ?_
      simp -implicitDefEqProofs only [go_sem, ↓reduceIte, Nat.reduceAdd, Nat.reduceMul, Nat.reduceEqDiff, Nat.reduceLeDiff, reduceCtorEq, Int.reduceToNat]
      refine hK _ ?_; clear hK K
      refine AW.ret ?_
      simp -implicitDefEqProofs only [go_sem, ↓reduceIte, Nat.reduceAdd, Nat.reduceMul, Nat.reduceEqDiff, Nat.reduceLeDiff, reduceCtorEq, Int.reduceToNat, HH]
    · simp at hc
  have b2 : ((e.2.length : Int) != (f.2.length : Int)) = false := by simp; omega
  refine AW.rT (by rfl) fun K hK => ?_
  simp -implicitDefEqProofs only [go_sem, ↓reduceIte, Nat.reduceAdd, Nat.reduceMul, Nat.reduceEqDiff, Nat.reduceLeDiff, reduceCtorEq, Int.reduceToNat, b1, b2, List.length_map]
  refine hK _ ?_; clear hK K
  refine AW.cond _ (by simp -implicitDefEqProofs only [go_sem, ↓reduceIte, Nat.reduceAdd, Nat.reduceMul, Nat.reduceEqDiff, Nat.reduceLeDiff, reduceCtorEq, Int.reduceToNat]; rfl) (fun hc => ?_) (fun hc => ?_)
  · simp at hc
  refine AW.skip ?_
  simp only [andThen, inBlk, reduceCtorEq, ↓reduceIte, if_t, if_f]
  refine AW.rT (by rfl) fun K hK => ?_
  simp -implicitDefEqProofs only [go_sem, ↓reduceIte, Nat.reduceAdd, Nat.reduceMul, Nat.reduceEqDiff, Nat.reduceLeDiff, reduceCtorEq, Int.reduceToNat]
  refine hK _ ?_; clear hK K
  refine AW.block ?_
  refine AW.loop (fun k : Nat => st a b i e f k) (fun k => k ≤ e.2.length ∧ sameTs e.2 f.2 = sameTs (e.2.drop k) (f.2.drop k)) (fun k => e.2.length - k) 0 ?_ ⟨by simp, by rw [List.drop_zero, List.drop_zero]⟩ fun k hk => ?_
  · simp only [st, cellsT, List.cons_append, List.nil_append]
    refine Ghost.ent (fun l => if l = 2 then 17 else if l = 3 then 18 else l) ?_ ?_ ?_ <;> simp -implicitDefEqProofs only [go_sem, ↓reduceIte, Nat.reduceAdd, Nat.reduceMul, Nat.reduceEqDiff, Nat.reduceLeDiff, reduceCtorEq, Int.reduceToNat,  List.forall_mem_cons, List.not_mem_nil, false_implies, implies_true, and_self, map_renL_lift, labsIn_lift, List.all_append, List.all_cons, List.all_nil, List.map_append, Nat.reduceLT, labsInL, AV.labsIn]
    rfl
  obtain ⟨k1, k2⟩ := hk
  simp only [st, cellsT, List.cons_append, List.nil_append]
  refine AW.seq ?_
  by_cases hkl : k < e.2.length
  · obtain ⟨x, hx⟩ : ∃ x, e.2[k]? = some x := ⟨_, List.getElem?_eq_getElem hkl⟩
    obtain ⟨y, hy⟩ : ∃ y, f.2[k]? = some y := ⟨_, List.getElem?_eq_getElem (by omega)⟩
    have ⟨hx1, hx2, hx3⟩ := at_map' encTr hx
    have ⟨hy1, hy2, hy3⟩ := at_map' encTr hy
    have hc2 : ((k : Int) < (e.2.length : Int)) = True := by simp; omega
    have hc2' : ((k : Int) < (f.2.length : Int)) = True := by simp; omega
    have sK := sameTs_at hx hy
    refine AW.rT (by rfl) fun K hK => ?_
    simp -implicitDefEqProofs only [go_sem, ↓reduceIte, Nat.reduceAdd, Nat.reduceMul, Nat.reduceEqDiff, Nat.reduceLeDiff, reduceCtorEq, Int.reduceToNat, List.length_map, hc2]
    refine hK _ ?_; clear hK K
    refine AW.cond _ (by simp -implicitDefEqProofs only [go_sem, ↓reduceIte, Nat.reduceAdd, Nat.reduceMul, Nat.reduceEqDiff, Nat.reduceLeDiff, reduceCtorEq, Int.reduceToNat]; rfl) (fun hc => ?_) (fun hc => ?_)
    rotate_left
    · simp at hc
    refine AW.skip ?_
    simp only [andThen, inBlk, reduceCtorEq, ↓reduceIte, if_t, if_f]
    refine AW.seq ?_
    refine AW.block ?_
    have IH := ih _ (size_ent he hx) x rfl y (lensTs_at le2 hx)
    rw [encTr_eq, encTr_eq] at IH
    refine AW.dT mixed (by rfl) (by decide +kernel) fun K hK => ?_
    simp -implicitDefEqProofs only [go_sem, ↓reduceIte, Nat.reduceAdd, Nat.reduceMul, Nat.reduceEqDiff, Nat.reduceLeDiff, reduceCtorEq, Int.reduceToNat, hx1, hx2, hx3, hy1, hy2, hy3, hc2, hc2', encTr_eq, List.length_map]
    refine ⟨.pure _, IH, ?_⟩
    try simp -implicitDefEqProofs only [go_sem, ↓reduceIte, Nat.reduceAdd, Nat.reduceMul, Nat.reduceEqDiff, Nat.reduceLeDiff, reduceCtorEq, Int.reduceToNat]
    refine ⟨heapOK_nil rfl, ?_⟩
    refine hK _ ?_; clear hK K
    cases hq : sameT x y with
    | false =>
      rw [if_neg (by rw [hq]; simp)] at sK
      rw [if_neg (by rintro ⟨_, _, h⟩; rw [k2, sK] at h; cases h)] at sE
      have HH := e2.trans sE
      refine AW.cond _ (by simp -implicitDefEqProofs only [go_sem, ↓reduceIte, Nat.reduceAdd, Nat.reduceMul, Nat.reduceEqDiff, Nat.reduceLeDiff, reduceCtorEq, Int.reduceToNat]; rfl) (fun hc => ?_) (fun hc => ?_)
      · refine AW.rT (by rfl) fun K hK => ?_
        simp -implicitDefEqProofs only [go_sem, ↓reduceIte, Nat.reduceAdd, Nat.reduceMul, Nat.reduceEqDiff, Nat.reduceLeDiff, reduceCtorEq, Int.reduceToNat]
        refine hK _ ?_; clear hK K
        refine AW.ret ?_
        simp -implicitDefEqProofs only [go_sem, ↓reduceIte, Nat.reduceAdd, Nat.reduceMul, Nat.reduceEqDiff, Nat.reduceLeDiff, reduceCtorEq, Int.reduceToNat, HH]
      · simp at hc
    | true =>
      rw [if_pos hq] at sK
      refine AW.cond _ (by simp -implicitDefEqProofs only [go_sem, ↓reduceIte, Nat.reduceAdd, Nat.reduceMul, Nat.reduceEqDiff, Nat.reduceLeDiff, reduceCtorEq, Int.reduceToNat]; rfl) (fun hc => ?_) (fun hc => ?_)
      · simp at hc
      refine AW.skip ?_
      simp only [andThen, inBlk, reduceCtorEq, ↓reduceIte, if_t, if_f]
      have w2 : IntKind.wrap .i64 ((k : Int) + 1) = ((k + 1 : Nat) : Int) := by rw [w64] <;> omega
      refine AW.rE (by rfl) fun K hK => ?_
      simp -implicitDefEqProofs only [go_sem, ↓reduceIte, Nat.reduceAdd, Nat.reduceMul, Nat.reduceEqDiff, Nat.reduceLeDiff, reduceCtorEq, Int.reduceToNat, w2]
      refine hK _ ?_; clear hK K
      refine ⟨k + 1, ⟨by omega, k2.trans sK⟩, by omega, ?_⟩
      refine Ghost.sub ?_ ?_ <;> simp -implicitDefEqProofs only [go_sem, ↓reduceIte, Nat.reduceAdd, Nat.reduceMul, Nat.reduceEqDiff, Nat.reduceLeDiff, reduceCtorEq, Int.reduceToNat,  List.forall_mem_cons, List.not_mem_nil, false_implies, implies_true, and_self, labsIn_lift, List.all_append, List.all_cons, List.all_nil, Nat.reduceLT, labsInL, AV.labsIn]
  · have hc2 : ((k : Int) < (e.2.length : Int)) = False := by simp; omega
    rw [List.drop_of_length_le (by omega), List.drop_of_length_le (by omega), sameTs] at k2
    rw [if_pos ⟨d1, d2, k2⟩] at sE
    refine AW.rT (by rfl) fun K hK => ?_
    simp -implicitDefEqProofs only [go_sem, ↓reduceIte, Nat.reduceAdd, Nat.reduceMul, Nat.reduceEqDiff, Nat.reduceLeDiff, reduceCtorEq, Int.reduceToNat, List.length_map, hc2]
    refine hK _ ?_; clear hK K
    refine AW.cond _ (by simp -implicitDefEqProofs only [go_sem, ↓reduceIte, Nat.reduceAdd, Nat.reduceMul, Nat.reduceEqDiff, Nat.reduceLeDiff, reduceCtorEq, Int.reduceToNat]; rfl) (fun hc => ?_) (fun hc => ?_)
    · simp at hc
    refine AW.exit ?_
    simp only [andThen, inBlk, reduceCtorEq, ↓reduceIte, if_t, if_f]
    have w2 : IntKind.wrap .i64 ((i : Int) + 1) = ((i + 1 : Nat) : Int) := by rw [w64] <;> omega
    refine AW.rE (by rfl) fun K hK => ?_
    simp -implicitDefEqProofs only [go_sem, ↓reduceIte, Nat.reduceAdd, Nat.reduceMul, Nat.reduceEqDiff, Nat.reduceLeDiff, reduceCtorEq, Int.reduceToNat, w2]
    refine hK _ ?_; clear hK K
    refine ⟨i + 1, ⟨by omega, e2.trans sE⟩, by omega, ?_⟩
    refine Ghost.sub ?_ ?_ <;> simp -implicitDefEqProofs only [go_sem, ↓reduceIte, Nat.reduceAdd, Nat.reduceMul, Nat.reduceEqDiff, Nat.reduceLeDiff, reduceCtorEq, Int.reduceToNat,  List.forall_mem_cons, List.not_mem_nil, false_implies, implies_true, and_self, labsIn_lift, List.all_append, List.all_cons, List.all_nil, Nat.reduceLT, labsInL, AV.labsIn]
end Go.Aw
/- Kind; a leaf as a tree. -/
namespace Go.Aw
open Go.Proofs Go.RowKit
set_option linter.unusedSimpArgs false
set_option linter.unusedVariables false
theorem meth99 (u : Value) (w : World) : (method (Try.prog.types.size + Made.depth) 99 u "concordat/value.kind").run Try.prog w = .ok (120, u) w := by kernel_rfl
theorem meth101 (u : Value) (w : World) : (method (Try.prog.types.size + Made.depth) 101 u "concordat/value.kind").run Try.prog w = .ok (121, u) w := by kernel_rfl
theorem meth66 (u : Value) (w : World) : (method (Try.prog.types.size + Made.depth) 66 u "concordat/value.kind").run Try.prog w = .ok (119, u) w := by kernel_rfl
def kindIn : In0 → Int
  | .none => 0
  | .num _ => 1
  | .str _ => 2
  | .node _ => 3
set_option maxRecDepth 100000 in
theorem kind_num (u : Value) (w : World) : Calls Try.prog 60 #[.agg #[.iface 99 u]] w fun e w' => e = .returned (.int .i64 1) ∧ Fr w (fun _ => False) w' := by
  have hm : ∀ (u : Value) (w : World), (callMethod (.iface 99 u) "concordat/value.kind" #[]).run Try.prog w = .ok (.enter 120 #[u]) w := fun u w => by
    simp only [callMethod, Sem.run_bind, run_program, Result.andThen_ok, meth99]
    kernel_rfl
  go_enter Try.func60, Try.ntmps60
  go_wp2
  exact ⟨rfl, .int .i64 1, by simp [results, Try.results60], rfl, (Fr.refl w _).alloc _⟩
set_option maxRecDepth 100000 in
theorem kind_str (u : Value) (w : World) : Calls Try.prog 60 #[.agg #[.iface 101 u]] w fun e w' => e = .returned (.int .i64 2) ∧ Fr w (fun _ => False) w' := by
  have hm : ∀ (u : Value) (w : World), (callMethod (.iface 101 u) "concordat/value.kind" #[]).run Try.prog w = .ok (.enter 121 #[u]) w := fun u w => by
    simp only [callMethod, Sem.run_bind, run_program, Result.andThen_ok, meth101]
    kernel_rfl
  go_enter Try.func60, Try.ntmps60
  go_wp2
  exact ⟨rfl, .int .i64 2, by simp [results, Try.results60], rfl, (Fr.refl w _).alloc _⟩
set_option maxRecDepth 100000 in
theorem kind_node (u : Value) (w : World) : Calls Try.prog 60 #[.agg #[.iface 66 u]] w fun e w' => e = .returned (.int .i64 3) ∧ Fr w (fun _ => False) w' := by
  have hm : ∀ (u : Value) (w : World), (callMethod (.iface 66 u) "concordat/value.kind" #[]).run Try.prog w = .ok (.enter 119 #[u]) w := fun u w => by
    simp only [callMethod, Sem.run_bind, run_program, Result.andThen_ok, meth66]
    kernel_rfl
  go_enter Try.func60, Try.ntmps60
  go_wp2
  exact ⟨rfl, .int .i64 3, by simp [results, Try.results60], rfl, (Fr.refl w _).alloc _⟩
set_option maxRecDepth 100000 in
theorem kind_none (w : World) : Calls Try.prog 60 #[.agg #[.nilIface]] w fun e w' => e = .returned (.int .i64 0) ∧ Fr w (fun _ => False) w' := by
  go_enter Try.func60, Try.ntmps60
  go_wp2
  exact ⟨rfl, .int .i64 0, by simp [results, Try.results60], rfl, (Fr.refl w _).alloc _⟩
theorem value_Kind (x : In0) : PFn Try.prog 60 [.agg [encIn x]] (.int .i64 (kindIn x)) := by
  refine ⟨by kernel_rfl, fun w I vals hs hr hI _ => ?_⟩
  have hs1 : vals.size = 1 := by rw [hs]; rfl
  have h0 := hr 0 _ _ (Array.getElem?_eq_getElem (by omega)) rfl
  obtain ⟨u, hu, hru⟩ := rep_in h0
  have hv : vals = #[.agg #[u]] := by
    apply Array.ext
    · exact hs1
    · intro i hi hi'
      have : i = 0 := by omega
      subst this
      exact hu
  subst hv
  have fin : ∀ {k : Int}, k = kindIn x → (Calls Try.prog 60 #[.agg #[u]] w fun e w' => e = Ending.returned (.int .i64 k) ∧ Fr w (fun _ => False) w') → _ := fun hk hc => hc.mono fun e w' ⟨he, hf⟩ => (⟨_, he, hf, by rw [hk]; exact .int .i64 _⟩ : ∃ v, e = Ending.returned v ∧ Fr w (fun _ => False) w' ∧ rep w' (fun g => I g ∨ (w.heap.size ≤ g ∧ g < w'.heap.size)) v (.int .i64 (kindIn x)))
  cases x with
  | none => cases hru; exact fin rfl (kind_none w)
  | num n => cases hru with | iface _ h => exact fin rfl (kind_num _ w)
  | str n => cases hru with | iface _ h => exact fin rfl (kind_str _ w)
  | node n => cases hru with | iface _ h => exact fin rfl (kind_node _ w)
def leafT : In0 → Tr
  | .none => .mk 0 0 [] [] []
  | .num n => .mk 1 n [] [] []
  | .str s => .mk 2 0 s [] []
  | .node _ => .mk 3 0 [] [] []
theorem value_Tree_leaf (x : In0) (hx : ∀ cs, x ≠ .node cs) : PFn Try.prog 59 [.agg [encIn x]] (.agg (encTr (leafT x))) := by
  refine PFn.of Try.func59 rfl (by decide) Try.ntmps59 Try.results59 (Nat.le_of_ble_eq_true rfl) ?_
  simp only [argsT]
  cases x with
  | node cs => exact absurd rfl (hx cs)
  | num n =>
    simp only [encIn]
    refine AW.rT (by rfl) fun K hK => ?_
    simp -implicitDefEqProofs only [go_sem, ↓reduceIte, Nat.reduceAdd, Nat.reduceMul, Nat.reduceEqDiff, Nat.reduceLeDiff, reduceCtorEq, Int.reduceToNat]
    refine hK _ ?_; clear hK K
    refine AW.rT (by rfl) fun K hK => ?_
    simp -implicitDefEqProofs only [go_sem, ↓reduceIte, Nat.reduceAdd, Nat.reduceMul, Nat.reduceEqDiff, Nat.reduceLeDiff, reduceCtorEq, Int.reduceToNat]
    refine ⟨.pure _, value_Kind (.num n), ?_⟩
    try simp -implicitDefEqProofs only [go_sem, ↓reduceIte, Nat.reduceAdd, Nat.reduceMul, Nat.reduceEqDiff, Nat.reduceLeDiff, reduceCtorEq, Int.reduceToNat, kindIn]
    refine hK _ ?_; clear hK K
    refine AW.seq ?_
    refine AW.rT (by rfl) fun K hK => ?_
    simp -implicitDefEqProofs only [go_sem, ↓reduceIte, Nat.reduceAdd, Nat.reduceMul, Nat.reduceEqDiff, Nat.reduceLeDiff, reduceCtorEq, Int.reduceToNat]
    refine hK _ ?_; clear hK K
    refine AW.block ?_
    refine AW.rT (by rfl) fun K hK => ?_
    simp -implicitDefEqProofs only [go_sem, ↓reduceIte, Nat.reduceAdd, Nat.reduceMul, Nat.reduceEqDiff, Nat.reduceLeDiff, reduceCtorEq, Int.reduceToNat]
    refine hK _ ?_; clear hK K
    refine AW.cond _ (by simp -implicitDefEqProofs only [go_sem, ↓reduceIte, Nat.reduceAdd, Nat.reduceMul, Nat.reduceEqDiff, Nat.reduceLeDiff, reduceCtorEq, Int.reduceToNat]; rfl) (fun hc => ?_) (fun hc => ?_)
    · refine AW.rT (by rfl) fun K hK => ?_
      simp -implicitDefEqProofs only [go_sem, ↓reduceIte, Nat.reduceAdd, Nat.reduceMul, Nat.reduceEqDiff, Nat.reduceLeDiff, reduceCtorEq, Int.reduceToNat]
      refine hK _ ?_; clear hK K
      refine AW.rE (by rfl) fun K hK => ?_
      simp -implicitDefEqProofs only [go_sem, ↓reduceIte, Nat.reduceAdd, Nat.reduceMul, Nat.reduceEqDiff, Nat.reduceLeDiff, reduceCtorEq, Int.reduceToNat]
      refine hK _ ?_; clear hK K
      simp only [andThen, inBlk, reduceCtorEq, ↓reduceIte, if_t, if_f]
      refine AW.rT (by rfl) fun K hK => ?_
      simp -implicitDefEqProofs only [go_sem, ↓reduceIte, Nat.reduceAdd, Nat.reduceMul, Nat.reduceEqDiff, Nat.reduceLeDiff, reduceCtorEq, Int.reduceToNat]
      refine hK _ ?_; clear hK K
      refine AW.ret ?_
      simp -implicitDefEqProofs only [go_sem, ↓reduceIte, Nat.reduceAdd, Nat.reduceMul, Nat.reduceEqDiff, Nat.reduceLeDiff, reduceCtorEq, Int.reduceToNat, encTr_eq, leafT]
      rfl
    · simp at hc
  | str s =>
    simp only [encIn]
    refine AW.rT (by rfl) fun K hK => ?_
    simp -implicitDefEqProofs only [go_sem, ↓reduceIte, Nat.reduceAdd, Nat.reduceMul, Nat.reduceEqDiff, Nat.reduceLeDiff, reduceCtorEq, Int.reduceToNat]
    refine hK _ ?_; clear hK K
    refine AW.rT (by rfl) fun K hK => ?_
    simp -implicitDefEqProofs only [go_sem, ↓reduceIte, Nat.reduceAdd, Nat.reduceMul, Nat.reduceEqDiff, Nat.reduceLeDiff, reduceCtorEq, Int.reduceToNat]
    refine ⟨.pure _, value_Kind (.str s), ?_⟩
    try simp -implicitDefEqProofs only [go_sem, ↓reduceIte, Nat.reduceAdd, Nat.reduceMul, Nat.reduceEqDiff, Nat.reduceLeDiff, reduceCtorEq, Int.reduceToNat, kindIn]
    refine hK _ ?_; clear hK K
    refine AW.seq ?_
    refine AW.rT (by rfl) fun K hK => ?_
    simp -implicitDefEqProofs only [go_sem, ↓reduceIte, Nat.reduceAdd, Nat.reduceMul, Nat.reduceEqDiff, Nat.reduceLeDiff, reduceCtorEq, Int.reduceToNat]
    refine hK _ ?_; clear hK K
    refine AW.block ?_
    refine AW.rT (by rfl) fun K hK => ?_
    simp -implicitDefEqProofs only [go_sem, ↓reduceIte, Nat.reduceAdd, Nat.reduceMul, Nat.reduceEqDiff, Nat.reduceLeDiff, reduceCtorEq, Int.reduceToNat]
    refine hK _ ?_; clear hK K
    refine AW.cond _ (by simp -implicitDefEqProofs only [go_sem, ↓reduceIte, Nat.reduceAdd, Nat.reduceMul, Nat.reduceEqDiff, Nat.reduceLeDiff, reduceCtorEq, Int.reduceToNat]; rfl) (fun hc => ?_) (fun hc => ?_)
    · simp at hc
    refine AW.rT (by rfl) fun K hK => ?_
    simp -implicitDefEqProofs only [go_sem, ↓reduceIte, Nat.reduceAdd, Nat.reduceMul, Nat.reduceEqDiff, Nat.reduceLeDiff, reduceCtorEq, Int.reduceToNat]
    refine hK _ ?_; clear hK K
    refine AW.cond _ (by simp -implicitDefEqProofs only [go_sem, ↓reduceIte, Nat.reduceAdd, Nat.reduceMul, Nat.reduceEqDiff, Nat.reduceLeDiff, reduceCtorEq, Int.reduceToNat]; rfl) (fun hc => ?_) (fun hc => ?_)
    · refine AW.rT (by rfl) fun K hK => ?_
      simp -implicitDefEqProofs only [go_sem, ↓reduceIte, Nat.reduceAdd, Nat.reduceMul, Nat.reduceEqDiff, Nat.reduceLeDiff, reduceCtorEq, Int.reduceToNat]
      refine hK _ ?_; clear hK K
      refine AW.rE (by rfl) fun K hK => ?_
      simp -implicitDefEqProofs only [go_sem, ↓reduceIte, Nat.reduceAdd, Nat.reduceMul, Nat.reduceEqDiff, Nat.reduceLeDiff, reduceCtorEq, Int.reduceToNat]
      refine hK _ ?_; clear hK K
      simp only [andThen, inBlk, reduceCtorEq, ↓reduceIte, if_t, if_f]
      refine AW.rT (by rfl) fun K hK => ?_
      simp -implicitDefEqProofs only [go_sem, ↓reduceIte, Nat.reduceAdd, Nat.reduceMul, Nat.reduceEqDiff, Nat.reduceLeDiff, reduceCtorEq, Int.reduceToNat]
      refine hK _ ?_; clear hK K
      refine AW.ret ?_
      simp -implicitDefEqProofs only [go_sem, ↓reduceIte, Nat.reduceAdd, Nat.reduceMul, Nat.reduceEqDiff, Nat.reduceLeDiff, reduceCtorEq, Int.reduceToNat, encTr_eq, leafT]
      rfl
    · simp at hc
  | none =>
    simp only [encIn]
    refine AW.rT (by rfl) fun K hK => ?_
    simp -implicitDefEqProofs only [go_sem, ↓reduceIte, Nat.reduceAdd, Nat.reduceMul, Nat.reduceEqDiff, Nat.reduceLeDiff, reduceCtorEq, Int.reduceToNat]
    refine hK _ ?_; clear hK K
    refine AW.rT (by rfl) fun K hK => ?_
    simp -implicitDefEqProofs only [go_sem, ↓reduceIte, Nat.reduceAdd, Nat.reduceMul, Nat.reduceEqDiff, Nat.reduceLeDiff, reduceCtorEq, Int.reduceToNat]
    refine ⟨.pure _, value_Kind .none, ?_⟩
    try simp -implicitDefEqProofs only [go_sem, ↓reduceIte, Nat.reduceAdd, Nat.reduceMul, Nat.reduceEqDiff, Nat.reduceLeDiff, reduceCtorEq, Int.reduceToNat, kindIn]
    refine hK _ ?_; clear hK K
    refine AW.seq ?_
    refine AW.rT (by rfl) fun K hK => ?_
    simp -implicitDefEqProofs only [go_sem, ↓reduceIte, Nat.reduceAdd, Nat.reduceMul, Nat.reduceEqDiff, Nat.reduceLeDiff, reduceCtorEq, Int.reduceToNat]
    refine hK _ ?_; clear hK K
    refine AW.block ?_
    refine AW.rT (by rfl) fun K hK => ?_
    simp -implicitDefEqProofs only [go_sem, ↓reduceIte, Nat.reduceAdd, Nat.reduceMul, Nat.reduceEqDiff, Nat.reduceLeDiff, reduceCtorEq, Int.reduceToNat]
    refine hK _ ?_; clear hK K
    refine AW.cond _ (by simp -implicitDefEqProofs only [go_sem, ↓reduceIte, Nat.reduceAdd, Nat.reduceMul, Nat.reduceEqDiff, Nat.reduceLeDiff, reduceCtorEq, Int.reduceToNat]; rfl) (fun hc => ?_) (fun hc => ?_)
    · simp at hc
    refine AW.rT (by rfl) fun K hK => ?_
    simp -implicitDefEqProofs only [go_sem, ↓reduceIte, Nat.reduceAdd, Nat.reduceMul, Nat.reduceEqDiff, Nat.reduceLeDiff, reduceCtorEq, Int.reduceToNat]
    refine hK _ ?_; clear hK K
    refine AW.cond _ (by simp -implicitDefEqProofs only [go_sem, ↓reduceIte, Nat.reduceAdd, Nat.reduceMul, Nat.reduceEqDiff, Nat.reduceLeDiff, reduceCtorEq, Int.reduceToNat]; rfl) (fun hc => ?_) (fun hc => ?_)
    · simp at hc
    refine AW.rT (by rfl) fun K hK => ?_
    simp -implicitDefEqProofs only [go_sem, ↓reduceIte, Nat.reduceAdd, Nat.reduceMul, Nat.reduceEqDiff, Nat.reduceLeDiff, reduceCtorEq, Int.reduceToNat]
    refine hK _ ?_; clear hK K
    refine AW.cond _ (by simp -implicitDefEqProofs only [go_sem, ↓reduceIte, Nat.reduceAdd, Nat.reduceMul, Nat.reduceEqDiff, Nat.reduceLeDiff, reduceCtorEq, Int.reduceToNat]; rfl) (fun hc => ?_) (fun hc => ?_)
    · simp at hc
    refine AW.skip ?_
    simp only [andThen, inBlk, reduceCtorEq, ↓reduceIte, if_t, if_f]
    refine AW.rT (by rfl) fun K hK => ?_
    simp -implicitDefEqProofs only [go_sem, ↓reduceIte, Nat.reduceAdd, Nat.reduceMul, Nat.reduceEqDiff, Nat.reduceLeDiff, reduceCtorEq, Int.reduceToNat]
    refine hK _ ?_; clear hK K
    refine AW.ret ?_
    simp -implicitDefEqProofs only [go_sem, ↓reduceIte, Nat.reduceAdd, Nat.reduceMul, Nat.reduceEqDiff, Nat.reduceLeDiff, reduceCtorEq, Int.reduceToNat, encTr_eq, leafT]
    rfl
end Go.Aw
