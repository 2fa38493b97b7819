/- What a checked schema is, plainly; names taken, fields, kinds. -/
import Derived.Test.YtmeplhcfjihafaaDoorAwC1
import Derived.Test.YtmeplhcfjihafaaDoorAwR4
import Derived.Laws.StructEq
import Derived.Tactics
import Derived.Laws.Small
import Derived.KernelRfl
import Derived.ChangeCalls
namespace Go.Aw
open Go.Proofs Go.RowKit
set_option linter.unusedSimpArgs false
set_option linter.unusedVariables false
theorem first_of {α : Type} {q : α → Bool} : ∀ {l : List α}, l.any q = true → ∃ i a, l[i]? = some a ∧ q a = true ∧ ∀ (j : Nat) b, j < i → l[j]? = some b → q b = false
  | [], h => by simp at h
  | a :: l, h => by
    cases hq : q a with
    | true => exact ⟨0, a, rfl, hq, fun j b hj => by omega⟩
    | false =>
      rw [List.any_cons, hq, Bool.false_or] at h
      obtain ⟨i, x, h1, h2, h3⟩ := first_of h
      refine ⟨i + 1, x, by simpa using h1, h2, fun j b hj hb => ?_⟩
      cases j with
      | zero => simp at hb; subst hb; exact hq
      | succ j => exact h3 j b (by omega) (by simpa using hb)
theorem mapAt_none {α : Type} {f : α → PV × AV} {l : List α} {p : PV} {q : α → Bool} (hq : ∀ a, keyEq p (f a).1 = some (q a)) (h : l.any q = false) : MapAt (l.map f) p none := by
  intro e he
  obtain ⟨a, ha, rfl⟩ := List.mem_map.1 he
  rw [hq]
  have := List.any_eq_false.1 h a ha
  simpa using this
theorem mapAt_some {α : Type} {f : α → PV × AV} {l : List α} {p : PV} {q : α → Bool} (hq : ∀ a, keyEq p (f a).1 = some (q a)) {i : Nat} {a : α} (h1 : l[i]? = some a) (h2 : q a = true) (h3 : ∀ (j : Nat) b, j < i → l[j]? = some b → q b = false) : MapAt (l.map f) p (some (i, (f a).2)) := by
  refine ⟨f a, by simp [h1], rfl, by rw [hq, h2], fun j e' hj he => ?_⟩
  rw [List.getElem?_map, Option.map_eq_some_iff] at he
  obtain ⟨b, hb, rfl⟩ := he
  rw [hq, h3 j b hj hb]
def setM (ns : List (List UInt8)) : List (PV × PV) := ns.map fun k => (.str k, .bool true)
def mS (ns : List (List UInt8)) : List (PV × AV) := ns.map fun k => (.str k, .p (.bool true))
theorem lift_setM (ns : List (List UInt8)) : liftM (setM ns) = mS ns := by simp [liftM, setM, mS]
theorem contains_any {α : Type} [BEq α] (l : List α) (k : α) : l.contains k = l.any (k == ·) := by
  induction l with
  | nil => rfl
  | cons a l ih => rw [List.contains_cons, List.any_cons, ih]
theorem mS_no {ns : List (List UInt8)} {k : List UInt8} (h : ns.contains k = false) : MapAt (mS ns) (.str k) none :=
  mapAt_none (q := fun a => k == a) (fun a => rfl) (by rw [← contains_any]; exact h)
theorem mS_yes {ns : List (List UInt8)} {k : List UInt8} (h : ns.contains k = true) : ∃ i : Nat, MapAt (mS ns) (.str k) (some (i, .p (.bool true))) := by
  rw [contains_any] at h
  obtain ⟨i, a, h1, h2, h3⟩ := first_of h
  exact ⟨i, mapAt_some (q := fun a => k == a) (fun a => rfl) h1 h2 h3⟩
theorem mS_add (ns : List (List UInt8)) (k : List UInt8) : mS ns ++ [(.str k, .p (.bool true))] = mS (ns ++ [k]) := by simp [mS]
theorem mS_nil : mS [] = [] := rfl
theorem mS_ren (ns : List (List UInt8)) (ρ : Nat → Nat) : (mS ns).map (fun e => (e.1, AV.ren ρ e.2)) = mS ns := by
  simp [mS, AV.ren]
theorem mS_labs (ns : List (List UInt8)) (n : Nat) : (mS ns).all (fun e => AV.labsIn n e.2) = true := by
  simp [mS, AV.labsIn]
def mI (ts : List Int) : List (PV × AV) := ts.map fun k => (.int .i64 k, .p (.bool true))
theorem mI_no {ts : List Int} {k : Int} (h : ts.contains k = false) : MapAt (mI ts) (.int .i64 k) none :=
  mapAt_none (q := fun a => k == a) (fun a => by simp [keyEq]) (by rw [← contains_any]; exact h)
theorem mI_yes {ts : List Int} {k : Int} (h : ts.contains k = true) : ∃ i : Nat, MapAt (mI ts) (.int .i64 k) (some (i, .p (.bool true))) := by
  rw [contains_any] at h
  obtain ⟨i, a, h1, h2, h3⟩ := first_of h
  exact ⟨i, mapAt_some (q := fun a => k == a) (fun a => by simp [keyEq]) h1 h2 h3⟩
theorem mI_add (ts : List Int) (k : Int) : mI ts ++ [(.int .i64 k, .p (.bool true))] = mI (ts ++ [k]) := by simp [mI]
theorem mI_nil : mI [] = [] := rfl
theorem mI_ren (ts : List Int) (ρ : Nat → Nat) : (mI ts).map (fun e => (e.1, AV.ren ρ e.2)) = mI ts := by
  simp [mI, AV.ren]
theorem mI_labs (ts : List Int) (n : Nat) : (mI ts).all (fun e => AV.labsIn n e.2) = true := by
  simp [mI, AV.labsIn]
attribute [go_sem] mS_ren mS_labs mI_ren mI_labs
theorem keyS (k : List UInt8) : KeyT Tryd.prog 9 (.str k) := key_str Tryd.underlying9 k
theorem keyI (k : Int) : KeyT Tryd.prog 3 (.int .i64 k) := key_int Tryd.underlying3 k
def takesB (ns : List (List UInt8)) (k : List UInt8) : Bool := nameB k && !ns.contains k
def tagB (t : Int) : Bool := decide (1 ≤ t ∧ t ≤ 500)
theorem check_tag (t : Int) : PFn Tryd.prog 83 [.int .i64 t] (.bool (tagB t)) := by
  refine PFn.of Tryd.func83 rfl (by decide) Tryd.ntmps83 Tryd.results83 (Nat.le_of_ble_eq_true rfl) ?_
  simp only [argsT]
  refine AW.rT (by rfl) fun K hK => ?_
  simp -implicitDefEqProofs only [go_sem, ↓reduceIte, Nat.reduceAdd, Nat.reduceMul, Nat.reduceEqDiff, Nat.reduceLeDiff, reduceCtorEq, Int.reduceToNat]
  refine hK _ ?_; clear hK K
  by_cases h1 : t ≥ 1
  · have f1 : (t ≥ 1) = True := eq_true h1
    by_cases h2 : t ≤ 500
    · have f2 : (t ≤ 500) = True := eq_true h2
      have e : tagB t = true := decide_eq_true ⟨h1, h2⟩
      refine AW.rT (by rfl) fun K hK => ?_
      simp -implicitDefEqProofs only [go_sem, ↓reduceIte, Nat.reduceAdd, Nat.reduceMul, Nat.reduceEqDiff, Nat.reduceLeDiff, reduceCtorEq, Int.reduceToNat, f1, f2]
      refine hK _ ?_; clear hK K
      refine AW.ret ?_
      simp -implicitDefEqProofs only [go_sem, ↓reduceIte, Nat.reduceAdd, Nat.reduceMul, Nat.reduceEqDiff, Nat.reduceLeDiff, reduceCtorEq, Int.reduceToNat, e]
    · have f2 : (t ≤ 500) = False := eq_false h2
      have e : tagB t = false := decide_eq_false (fun h => h2 h.2)
      refine AW.rT (by rfl) fun K hK => ?_
      simp -implicitDefEqProofs only [go_sem, ↓reduceIte, Nat.reduceAdd, Nat.reduceMul, Nat.reduceEqDiff, Nat.reduceLeDiff, reduceCtorEq, Int.reduceToNat, f1, f2]
      refine hK _ ?_; clear hK K
      refine AW.ret ?_
      simp -implicitDefEqProofs only [go_sem, ↓reduceIte, Nat.reduceAdd, Nat.reduceMul, Nat.reduceEqDiff, Nat.reduceLeDiff, reduceCtorEq, Int.reduceToNat, e]
  · have f1 : (t ≥ 1) = False := eq_false h1
    have e : tagB t = false := decide_eq_false (fun h => h1 h.1)
    refine AW.rT (by rfl) fun K hK => ?_
    simp -implicitDefEqProofs only [go_sem, ↓reduceIte, Nat.reduceAdd, Nat.reduceMul, Nat.reduceEqDiff, Nat.reduceLeDiff, reduceCtorEq, Int.reduceToNat, f1]
    refine hK _ ?_; clear hK K
    refine AW.ret ?_
    simp -implicitDefEqProofs only [go_sem, ↓reduceIte, Nat.reduceAdd, Nat.reduceMul, Nat.reduceEqDiff, Nat.reduceLeDiff, reduceCtorEq, Int.reduceToNat, e]
def takeN (ns : List (List UInt8)) (k : List UInt8) : List (List UInt8) := if takesB ns k = true then ns ++ [k] else ns
set_option maxRecDepth 100000 in
theorem check_takes (ns : List (List UInt8)) (k : List UInt8) (hl : k.length ≤ 1000000000) :
    LFn Tryd.prog 61 [.map (setM ns), .v (.str k)] [some (.map (setM (takeN ns k))), none] (.bool (takesB ns k)) := by
  refine LFn.of Tryd.func61 rfl (by decide) Tryd.ntmps61 Tryd.results61 (Nat.le_of_ble_eq_true rfl) rfl fun val => ?_
  simp only [laT, laH, laPins, LA.av, List.length_cons, List.length_nil, lift_setM]
  refine AW.rT (by rfl) fun K hK => ?_
  simp -implicitDefEqProofs only [go_sem, ↓reduceIte, Nat.reduceAdd, Nat.reduceMul, Nat.reduceEqDiff, Nat.reduceLeDiff, reduceCtorEq, Int.reduceToNat]
  refine hK _ ?_; clear hK K
  refine AW.seq ?_
  cases hk : nameB k with
  | false =>
    have e : takesB ns k = false := by unfold takesB; rw [hk]; rfl
    have e2 : takeN ns k = ns := by unfold takeN; rw [e]; rfl
    refine AW.rT (by rfl) fun K hK => ?_
    simp -implicitDefEqProofs only [go_sem, ↓reduceIte, Nat.reduceAdd, Nat.reduceMul, Nat.reduceEqDiff, Nat.reduceLeDiff, reduceCtorEq, Int.reduceToNat]
    refine ⟨.pure _, runes_Name k hl, ?_⟩
    try simp -implicitDefEqProofs only [go_sem, ↓reduceIte, Nat.reduceAdd, Nat.reduceMul, Nat.reduceEqDiff, Nat.reduceLeDiff, reduceCtorEq, Int.reduceToNat, hk]
    refine hK _ ?_; clear hK K
    refine AW.cond _ (by simp -implicitDefEqProofs only [go_sem, ↓reduceIte, Nat.reduceAdd, Nat.reduceMul, Nat.reduceEqDiff, Nat.reduceLeDiff, reduceCtorEq, Int.reduceToNat]; rfl) (fun hc => ?_) (fun hc => ?_)
    rotate_left
    · simp at hc
    refine AW.rT (by rfl) fun K hK => ?_
    simp -implicitDefEqProofs only [go_sem, ↓reduceIte, Nat.reduceAdd, Nat.reduceMul, Nat.reduceEqDiff, Nat.reduceLeDiff, reduceCtorEq, Int.reduceToNat]
    refine hK _ ?_; clear hK K
    refine AW.ret (show _ ∧ ((∃ l, _ ∧ _) ∧ True) from ⟨?_, ⟨0, ?_, ?_⟩, trivial⟩) <;> simp -implicitDefEqProofs only [go_sem, ↓reduceIte, Nat.reduceAdd, Nat.reduceMul, Nat.reduceEqDiff, Nat.reduceLeDiff, reduceCtorEq, Int.reduceToNat, e, e2, lift_setM]
  | true =>
  cases hn : ns.contains k with
  | true =>
    have e : takesB ns k = false := by unfold takesB; rw [hk, hn]; rfl
    have e2 : takeN ns k = ns := by unfold takeN; rw [e]; rfl
    obtain ⟨i, hm⟩ := mS_yes hn
    refine AW.rT (by rfl) fun K hK => ?_
    simp -implicitDefEqProofs only [go_sem, ↓reduceIte, Nat.reduceAdd, Nat.reduceMul, Nat.reduceEqDiff, Nat.reduceLeDiff, reduceCtorEq, Int.reduceToNat]
    refine ⟨.pure _, runes_Name k hl, ?_⟩
    try simp -implicitDefEqProofs only [go_sem, ↓reduceIte, Nat.reduceAdd, Nat.reduceMul, Nat.reduceEqDiff, Nat.reduceLeDiff, reduceCtorEq, Int.reduceToNat, hk]
    refine ⟨keyS k, _, hm, _, rfl, ?_⟩
    try simp -implicitDefEqProofs only [go_sem, ↓reduceIte, Nat.reduceAdd, Nat.reduceMul, Nat.reduceEqDiff, Nat.reduceLeDiff, reduceCtorEq, Int.reduceToNat]
    refine hK _ ?_; clear hK K
    refine AW.cond _ (by simp -implicitDefEqProofs only [go_sem, ↓reduceIte, Nat.reduceAdd, Nat.reduceMul, Nat.reduceEqDiff, Nat.reduceLeDiff, reduceCtorEq, Int.reduceToNat]; rfl) (fun hc => ?_) (fun hc => ?_)
    rotate_left
    · simp at hc
    refine AW.rT (by rfl) fun K hK => ?_
    simp -implicitDefEqProofs only [go_sem, ↓reduceIte, Nat.reduceAdd, Nat.reduceMul, Nat.reduceEqDiff, Nat.reduceLeDiff, reduceCtorEq, Int.reduceToNat]
    refine hK _ ?_; clear hK K
    refine AW.ret (show _ ∧ ((∃ l, _ ∧ _) ∧ True) from ⟨?_, ⟨0, ?_, ?_⟩, trivial⟩) <;> simp -implicitDefEqProofs only [go_sem, ↓reduceIte, Nat.reduceAdd, Nat.reduceMul, Nat.reduceEqDiff, Nat.reduceLeDiff, reduceCtorEq, Int.reduceToNat, e, e2, lift_setM]
  | false =>
    have e : takesB ns k = true := by unfold takesB; rw [hk, hn]; rfl
    have e2 : takeN ns k = ns ++ [k] := by unfold takeN; rw [e]; rfl
    have hm := mS_no hn
    refine AW.rT (by rfl) fun K hK => ?_
    simp -implicitDefEqProofs only [go_sem, ↓reduceIte, Nat.reduceAdd, Nat.reduceMul, Nat.reduceEqDiff, Nat.reduceLeDiff, reduceCtorEq, Int.reduceToNat]
    refine ⟨.pure _, runes_Name k hl, ?_⟩
    try simp -implicitDefEqProofs only [go_sem, ↓reduceIte, Nat.reduceAdd, Nat.reduceMul, Nat.reduceEqDiff, Nat.reduceLeDiff, reduceCtorEq, Int.reduceToNat, hk]
    refine ⟨keyS k, _, hm, _, rfl, ?_⟩
    try simp -implicitDefEqProofs only [go_sem, ↓reduceIte, Nat.reduceAdd, Nat.reduceMul, Nat.reduceEqDiff, Nat.reduceLeDiff, reduceCtorEq, Int.reduceToNat]
    refine hK _ ?_; clear hK K
    refine AW.cond _ (by simp -implicitDefEqProofs only [go_sem, ↓reduceIte, Nat.reduceAdd, Nat.reduceMul, Nat.reduceEqDiff, Nat.reduceLeDiff, reduceCtorEq, Int.reduceToNat]; rfl) (fun hc => ?_) (fun hc => ?_)
    · simp at hc
    refine AW.skip ?_
    simp only [andThen, inBlk, reduceCtorEq, ↓reduceIte, if_t, if_f]
    refine AW.rT (by rfl) fun K hK => ?_
    simp -implicitDefEqProofs only [go_sem, ↓reduceIte, Nat.reduceAdd, Nat.reduceMul, Nat.reduceEqDiff, Nat.reduceLeDiff, reduceCtorEq, Int.reduceToNat]
    refine ⟨keyS k, _, hm, ?_⟩
    try simp -implicitDefEqProofs only [go_sem, ↓reduceIte, Nat.reduceAdd, Nat.reduceMul, Nat.reduceEqDiff, Nat.reduceLeDiff, reduceCtorEq, Int.reduceToNat]
    refine hK _ ?_; clear hK K
    refine AW.rT (by rfl) fun K hK => ?_
    simp -implicitDefEqProofs only [go_sem, ↓reduceIte, Nat.reduceAdd, Nat.reduceMul, Nat.reduceEqDiff, Nat.reduceLeDiff, reduceCtorEq, Int.reduceToNat]
    refine hK _ ?_; clear hK K
    refine AW.ret (show _ ∧ ((∃ l, _ ∧ _) ∧ True) from ⟨?_, ⟨0, ?_, ?_⟩, trivial⟩) <;> simp -implicitDefEqProofs only [go_sem, ↓reduceIte, Nat.reduceAdd, Nat.reduceMul, Nat.reduceEqDiff, Nat.reduceLeDiff, reduceCtorEq, Int.reduceToNat, e, e2, lift_setM, mS_add]
theorem frS_eq {ns : List (List UInt8)} {k : List UInt8} (h : ns.all (fun n => !(n == k)) = true) : ns.contains k = false := by
  rw [contains_any, List.any_eq_false]
  intro x hx
  have := List.all_eq_true.1 h x hx
  simp at this ⊢
  intro e
  exact this e.symm
def frS (ns : List (List UInt8)) (k : List UInt8) (i : Nat) : St := ⟨ofL [(0, .p (.str k)), (1, .p (.slice (ns.map encS))), (5, .p (.int .i64 (i : Int)))], ofH [], 0⟩
set_option maxRecDepth 100000 in
theorem ref07_fresh (ns : List (List UInt8)) (k : List UInt8) (hn : ns.length ≤ 2000000) (hl : k.length ≤ 1000000000) : PFn Tryd.prog 65 [.str k, .slice (ns.map encS)] (.bool (takesB ns k)) := by
  refine PFn.of Tryd.func65 rfl (by decide) Tryd.ntmps65 Tryd.results65 (Nat.le_of_ble_eq_true rfl) ?_
  simp only [argsT]
  refine AW.rT (by rfl) fun K hK => ?_
  simp -implicitDefEqProofs only [go_sem, ↓reduceIte, Nat.reduceAdd, Nat.reduceMul, Nat.reduceEqDiff, Nat.reduceLeDiff, reduceCtorEq, Int.reduceToNat]
  refine hK _ ?_; clear hK K
  refine AW.seq ?_
  refine AW.rT (by rfl) fun K hK => ?_
  simp -implicitDefEqProofs only [go_sem, ↓reduceIte, Nat.reduceAdd, Nat.reduceMul, Nat.reduceEqDiff, Nat.reduceLeDiff, reduceCtorEq, Int.reduceToNat]
  refine hK _ ?_; clear hK K
  refine AW.block ?_
  refine AW.loop (frS ns k) (fun i => i ≤ ns.length ∧ (ns.take i).all (fun n => !(n == k)) = true) (fun i => ns.length - i) 0 ?_ (by simp) fun i hi => ?_
  · simp only [frS]
    refine Ghost.sub ?_ ?_ <;> simp -implicitDefEqProofs only [go_sem, ↓reduceIte, Nat.reduceAdd, Nat.reduceMul, Nat.reduceEqDiff, Nat.reduceLeDiff, reduceCtorEq, Int.reduceToNat,  List.forall_mem_cons, List.not_mem_nil, false_implies, implies_true, and_self, labsIn_lift, List.all_append, List.all_cons, List.all_nil, Nat.reduceLT, labsInL, AV.labsIn]
    rfl
  obtain ⟨g1, g2⟩ := hi
  simp only [frS]
  refine AW.seq ?_
  by_cases hil : i < ns.length
  case neg =>
    have hc1 : ((i : Int) < (ns.length : Int)) = False := eq_false (by omega)
    rw [List.take_of_length_le (by omega)] at g2
    have e : takesB ns k = nameB k := by unfold takesB; rw [frS_eq g2]; simp
    refine AW.rT (by rfl) fun K hK => ?_
    simp -implicitDefEqProofs only [go_sem, ↓reduceIte, Nat.reduceAdd, Nat.reduceMul, Nat.reduceEqDiff, Nat.reduceLeDiff, reduceCtorEq, Int.reduceToNat, hc1, List.length_map]
    refine hK _ ?_; clear hK K
    refine AW.cond _ (by simp -implicitDefEqProofs only [go_sem, ↓reduceIte, Nat.reduceAdd, Nat.reduceMul, Nat.reduceEqDiff, Nat.reduceLeDiff, reduceCtorEq, Int.reduceToNat]; rfl) (fun hc => ?_) (fun hc => ?_)
    · simp at hc
    refine AW.exit ?_
    simp only [andThen, inBlk, reduceCtorEq, ↓reduceIte, if_t, if_f]
    refine AW.rT (by rfl) fun K hK => ?_
    simp -implicitDefEqProofs only [go_sem, ↓reduceIte, Nat.reduceAdd, Nat.reduceMul, Nat.reduceEqDiff, Nat.reduceLeDiff, reduceCtorEq, Int.reduceToNat]
    refine ⟨.pure _, ref01_Name k hl, ?_⟩
    try simp -implicitDefEqProofs only [go_sem, ↓reduceIte, Nat.reduceAdd, Nat.reduceMul, Nat.reduceEqDiff, Nat.reduceLeDiff, reduceCtorEq, Int.reduceToNat]
    refine hK _ ?_; clear hK K
    refine AW.ret ?_
    simp -implicitDefEqProofs only [go_sem, ↓reduceIte, Nat.reduceAdd, Nat.reduceMul, Nat.reduceEqDiff, Nat.reduceLeDiff, reduceCtorEq, Int.reduceToNat, e]
  obtain ⟨e, he⟩ : ∃ e, ns[i]? = some e := ⟨_, List.getElem?_eq_getElem hil⟩
  have ⟨he1, he2, he3⟩ := at_map' encS he
  have he3' : (ns.map encS).getD i [] = [.str e] := he3
  have hc1 : ((i : Int) < (ns.length : Int)) = True := eq_true (by omega)
  refine AW.rT (by rfl) fun K hK => ?_
  simp -implicitDefEqProofs only [go_sem, ↓reduceIte, Nat.reduceAdd, Nat.reduceMul, Nat.reduceEqDiff, Nat.reduceLeDiff, reduceCtorEq, Int.reduceToNat, hc1, List.length_map]
  refine hK _ ?_; clear hK K
  refine AW.cond _ (by simp -implicitDefEqProofs only [go_sem, ↓reduceIte, Nat.reduceAdd, Nat.reduceMul, Nat.reduceEqDiff, Nat.reduceLeDiff, reduceCtorEq, Int.reduceToNat]; rfl) (fun hc => ?_) (fun hc => ?_)
  rotate_left
  · simp at hc
  refine AW.skip ?_
  simp only [andThen, inBlk, reduceCtorEq, ↓reduceIte, if_t, if_f]
  refine AW.seq ?_
  refine AW.block ?_
  cases hk : (e == k) with
  | true =>
    have hck : ns.contains k = true := by
      have : e = k := by simpa using hk
      subst this
      rw [List.contains_iff_mem]
      exact List.mem_of_getElem? he
    have ek : takesB ns k = false := by unfold takesB; rw [hck]; simp
    refine AW.rT (by rfl) fun K hK => ?_
    simp -implicitDefEqProofs only [go_sem, ↓reduceIte, Nat.reduceAdd, Nat.reduceMul, Nat.reduceEqDiff, Nat.reduceLeDiff, reduceCtorEq, Int.reduceToNat, he1, he2, he3', hc1, List.length_map, hk]
    refine hK _ ?_; clear hK K
    refine AW.cond _ (by simp -implicitDefEqProofs only [go_sem, ↓reduceIte, Nat.reduceAdd, Nat.reduceMul, Nat.reduceEqDiff, Nat.reduceLeDiff, reduceCtorEq, Int.reduceToNat]; rfl) (fun hc => ?_) (fun hc => ?_)
    rotate_left
    · simp at hc
    refine AW.rT (by rfl) fun K hK => ?_
    simp -implicitDefEqProofs only [go_sem, ↓reduceIte, Nat.reduceAdd, Nat.reduceMul, Nat.reduceEqDiff, Nat.reduceLeDiff, reduceCtorEq, Int.reduceToNat]
    refine hK _ ?_; clear hK K
    refine AW.ret ?_
    simp -implicitDefEqProofs only [go_sem, ↓reduceIte, Nat.reduceAdd, Nat.reduceMul, Nat.reduceEqDiff, Nat.reduceLeDiff, reduceCtorEq, Int.reduceToNat, ek]
  | false =>
    refine AW.rT (by rfl) fun K hK => ?_
    simp -implicitDefEqProofs only [go_sem, ↓reduceIte, Nat.reduceAdd, Nat.reduceMul, Nat.reduceEqDiff, Nat.reduceLeDiff, reduceCtorEq, Int.reduceToNat, he1, he2, he3', hc1, List.length_map, hk]
    refine hK _ ?_; clear hK K
    refine AW.cond _ (by simp -implicitDefEqProofs only [go_sem, ↓reduceIte, Nat.reduceAdd, Nat.reduceMul, Nat.reduceEqDiff, Nat.reduceLeDiff, reduceCtorEq, Int.reduceToNat]; rfl) (fun hc => ?_) (fun hc => ?_)
    · simp at hc
    refine AW.skip ?_
    simp only [andThen, inBlk, reduceCtorEq, ↓reduceIte, if_t, if_f]
    have w1 : IntKind.wrap .i64 ((i : Int) + 1) = ((i + 1 : Nat) : Int) := by rw [w64] <;> omega
    refine AW.rE (by rfl) fun K hK => ?_
    simp -implicitDefEqProofs only [go_sem, ↓reduceIte, Nat.reduceAdd, Nat.reduceMul, Nat.reduceEqDiff, Nat.reduceLeDiff, reduceCtorEq, Int.reduceToNat, w1]
    refine hK _ ?_; clear hK K
    refine ⟨i + 1, ⟨by omega, all_next he g2 (by rw [hk]; rfl)⟩, by omega, ?_⟩
    refine Ghost.sub ?_ ?_ <;> simp -implicitDefEqProofs only [go_sem, ↓reduceIte, Nat.reduceAdd, Nat.reduceMul, Nat.reduceEqDiff, Nat.reduceLeDiff, reduceCtorEq, Int.reduceToNat,  List.forall_mem_cons, List.not_mem_nil, false_implies, implies_true, and_self, labsIn_lift, List.all_append, List.all_cons, List.all_nil, Nat.reduceLT, labsInL, AV.labsIn]
end Go.Aw
