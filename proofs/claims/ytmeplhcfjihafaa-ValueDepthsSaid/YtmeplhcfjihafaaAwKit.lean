/- Small facts that the walks use. -/
import Derived.Test.YtmeplhcfjihafaaAwSimp
namespace Go.Aw
theorem w64 {n : Int} (h : -9223372036854775808 ≤ n) (h' : n < 9223372036854775808) : IntKind.wrap .i64 n = n := by
  have e : (2 : Int) ^ 64 = 18446744073709551616 := by decide
  have e' : (2 : Int) ^ (64 - 1) = 9223372036854775808 := by decide
  simp only [IntKind.wrap, IntKind.bits, IntKind.signed, e, e', Bool.true_and, decide_eq_true_eq]
  split <;> omega
theorem wu64 {n : Int} (h : 0 ≤ n) (h' : n < 18446744073709551616) : IntKind.wrap .u64 n = n := by
  have e : (2 : Int) ^ 64 = 18446744073709551616 := by decide
  simp only [IntKind.wrap, IntKind.bits, IntKind.signed, e, Bool.false_and, Bool.false_eq_true, if_false]
  omega
theorem wu8 {n : Int} (h : 0 ≤ n) (h' : n < 256) : IntKind.wrap .u8 n = n := by
  have e : (2 : Int) ^ 8 = 256 := by decide
  simp only [IntKind.wrap, IntKind.bits, IntKind.signed, e, Bool.false_and, Bool.false_eq_true, if_false]
  omega
theorem at_map' {α : Type} (f : α → List PV) {l : List α} {n : Nat} {a : α} (h : l[n]? = some a) :
    (0 ≤ (n : Int)) ∧ ((n : Int) < ((l.map f).length : Int)) ∧ ((l.map f).getD n [] = f a) := by
  have hn : n < l.length := by rcases Nat.lt_or_ge n l.length with h' | h'; exact h'; rw [List.getElem?_eq_none h'] at h; cases h
  refine ⟨by omega, by simp; omega, ?_⟩
  simp [List.getD, h]
/-- A place of a read-only row, reckoned. -/
theorem at_map {α : Type} (f : α → List PV) {l : List α} {n : Nat} {a : α} {i : Int} (h : l[n]? = some a) (e : i = (n : Int)) :
    (0 ≤ i) ∧ (i < ((l.map f).length : Int)) ∧ ((l.map f).getD i.toNat [] = f a) := by
  have hn : n < l.length := by rcases Nat.lt_or_ge n l.length with h' | h'; exact h'; rw [List.getElem?_eq_none h'] at h; cases h
  subst e
  refine ⟨by omega, by simp; omega, ?_⟩
  simp [List.getD, h]
/-- A piece, and what is known behind it, told anew. -/
theorem AW.cut {P : Program} {nt : Fm} {x y : Code} {s : St} {Q : Exit → St → Prop} {α : Type} (R : α → St) (J : α → Prop) (h : AW P nt x s (andThen (fun s' => ∃ a, J a ∧ Ghost nt s' (R a)) Q)) (k : ∀ a, J a → AW P nt y (R a) Q) : AW P nt (.seq x y) s Q :=
  AW.seq (h.mono fun e s' hq => by
    cases e with
    | normal => obtain ⟨a, ja, g⟩ := hq; exact (k a ja).ghost g
    | _ => exact hq)
theorem sliceOps0 (x : Operand) : (#[x] ++ (none : Option Operand).toArray ++ (none : Option Operand).toArray ++ (none : Option Operand).toArray).toList = [x] := rfl
theorem sliceOps1 (x c : Operand) : (#[x] ++ (none : Option Operand).toArray ++ (none : Option Operand).toArray ++ (some c).toArray).toList = [x, c] := rfl
theorem sliceOps2 (x b : Operand) : (#[x] ++ (none : Option Operand).toArray ++ (some b).toArray ++ (none : Option Operand).toArray).toList = [x, b] := rfl
theorem sliceOps3 (x b c : Operand) : (#[x] ++ (none : Option Operand).toArray ++ (some b).toArray ++ (some c).toArray).toList = [x, b, c] := rfl
theorem sliceOps4 (x a : Operand) : (#[x] ++ (some a).toArray ++ (none : Option Operand).toArray ++ (none : Option Operand).toArray).toList = [x, a] := rfl
theorem sliceOps5 (x a c : Operand) : (#[x] ++ (some a).toArray ++ (none : Option Operand).toArray ++ (some c).toArray).toList = [x, a, c] := rfl
theorem sliceOps6 (x a b : Operand) : (#[x] ++ (some a).toArray ++ (some b).toArray ++ (none : Option Operand).toArray).toList = [x, a, b] := rfl
theorem sliceOps7 (x a b c : Operand) : (#[x] ++ (some a).toArray ++ (some b).toArray ++ (some c).toArray).toList = [x, a, b, c] := rfl
attribute [go_sem] sliceOps0 sliceOps1 sliceOps2 sliceOps3 sliceOps4 sliceOps5 sliceOps6 sliceOps7
theorem lapp (xs ys : List Operand) : (xs.toArray ++ ys.toArray).toList = xs ++ ys := by simp
attribute [go_sem] lapp
theorem heapOK_nil {ops : List Oper} {fs : List (List Nat × List Nat)} (h : fs.all (fun f => f.2.isEmpty) = true) : heapOK ops fs = true := by simp [heapOK, h]
theorem pureL_lift (e : List PV) : pureL (e.map AV.p) = some e := by
  induction e with
  | nil => rfl
  | cons x e ih => simp only [List.map_cons, pureL, pure1, ih]
theorem unlift_liftE (es : List (List PV)) : unlift (liftE es) = some es := by
  unfold liftE
  induction es with
  | nil => rfl
  | cons x e ih => simp only [List.map_cons, unlift, pureL_lift, ih]
theorem liftE_append (a b : List (List PV)) : liftE (a ++ b) = liftE a ++ liftE b := by simp [liftE]
theorem liftE_cons (a : List PV) (b : List (List PV)) : liftE (a :: b) = a.map AV.p :: liftE b := rfl
theorem liftE_nil : liftE [] = [] := rfl
theorem liftE_length (a : List (List PV)) : (liftE a).length = a.length := by simp [liftE]
theorem unlift_append (a b : List (List AV)) : unlift (a ++ b) = match unlift a, unlift b with | some x, some y => some (x ++ y) | _, _ => none := by
  induction a with
  | nil => simp only [List.nil_append, unlift]; cases unlift b <;> rfl
  | cons x a ih =>
    simp only [List.cons_append, unlift, ih]
    cases pureL x <;> cases unlift a <;> cases unlift b <;> rfl
attribute [go_sem] unlift_liftE unlift_append liftE_nil
theorem oneAll_lift {e : List PV} (h : ∀ p ∈ e, p.one = true) : oneAll (e.map AV.p) = true := by
  induction e with
  | nil => rfl
  | cons x e ih => simp only [List.map_cons, oneAll, AV.one, Bool.and_eq_true]; exact ⟨h x (by simp), ih fun p hp => h p (by simp [hp])⟩
theorem liftE_len {ps : List (List PV)} {sz : Nat} (h : ∀ e ∈ ps, e.length = sz) : ∀ n ∈ liftE ps, n.length = sz := by
  intro n hn
  obtain ⟨e, he, rfl⟩ := List.mem_map.1 hn
  rw [List.length_map]; exact h e he
theorem liftE_one {ps : List (List PV)} (h : ∀ e ∈ ps, ∀ p ∈ e, p.one = true) : ∀ n ∈ liftE ps, oneAll n = true := by
  intro n hn
  obtain ⟨e, he, rfl⟩ := List.mem_map.1 hn
  exact oneAll_lift (h e he)
theorem at_lift {α : Type} (f : α → List PV) {l : List α} {n : Nat} {a : α} (h : l[n]? = some a) : (liftE (l.map f))[n]? = some ((f a).map AV.p) := by
  simp [liftE, h]
theorem map_labs_lift (n : Nat) (ps : List (List PV)) : ∀ e ∈ liftE ps, labsInL n e = true := fun e he => List.all_eq_true.1 (labsIn_lift n ps) e he
theorem beqf {α : Type} [BEq α] [LawfulBEq α] {a b : α} (h : ¬ a = b) : (a == b) = false := by simpa using h
end Go.Aw
