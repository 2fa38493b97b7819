/- What the law LawInterpSelf leans on, joined (part 4). -/
import Derived.Test.YtpbangopjdlfcaaDoorZinterpSelf3
set_option linter.unusedSimpArgs false
set_option linter.unusedVariables false
set_option maxRecDepth 100000
set_option maxHeartbeats 8000000
namespace Go.Aw
open Go.Proofs Go.RowKit
def resBad (us : List Int) : List Int → Bool
 | [] => false
 | t :: l => if (tagB t && !us.contains t) = true then resBad (us ++ [t]) l else true
theorem resBad_at {l : List Int} {i : Nat} {t : Int} {us : List Int} (h : l[i]? = some t) : resBad us (l.drop i) = if (tagB t && !us.contains t) = true then resBad (us ++ [t]) (l.drop (i + 1)) else true := by
 rw [List.drop_eq_getElem_cons (List.getElem?_eq_some_iff.1 h).1, (List.getElem?_eq_some_iff.1 h).2, resBad]
def fldsC (S : Sc) (ns : List (List UInt8)) (us : List Int) : List Fd → Int
 | [] => 0
 | f :: l => if takesB ns f.name = true then (if (tagB f.tag && !us.contains f.tag) = true then (if fieldB S f = true then fldsC S (ns ++ [f.name]) (us ++ [f.tag]) l else 8) else 7) else 6
theorem fldsC_at {S : Sc} {l : List Fd} {i : Nat} {f : Fd} {ns : List (List UInt8)} {us : List Int} (h : l[i]? = some f) :
  fldsC S ns us (l.drop i) = if takesB ns f.name = true then (if (tagB f.tag && !us.contains f.tag) = true then (if fieldB S f = true then fldsC S (ns ++ [f.name]) (us ++ [f.tag]) (l.drop (i + 1)) else 8) else 7) else 6 := by
 rw [List.drop_eq_getElem_cons (List.getElem?_eq_some_iff.1 h).1, (List.getElem?_eq_some_iff.1 h).2, fldsC]
def bodyC (S : Sc) (m : Ms) : Int := if m.fields.length > 16 ∨ m.res.length > 32 then 4 else if resBad [] m.res = true then 7 else fldsC S [] m.res m.fields
def msgC (S : Sc) (ns : List (List UInt8)) (m : Ms) : Int := if takesB ns m.name = true then bodyC S m else 6
def cellsFd (f : Fd) : List AV := [.p (.str f.name), .p (.int .i64 f.tag), .p (.int .i64 f.label), .p (.int .i64 f.ty.kind), .p (.str f.ty.name)]
theorem take_map_next {α β : Type} (g : α → β) {l : List α} {i : Nat} {a : α} (h : l[i]? = some a) : (l.take (i + 1)).map g = (l.take i).map g ++ [g a] := by
 rw [List.take_add_one, h]; simp
def me1 (S : Sc) (m : Ms) (ns : List (List UInt8)) (i : Nat) : St := ⟨ofL [(1, .map 1), (3, .ptr 0 0 0), (5, .ptr 2 0 0), (7, .map 3), (32, .p (.slice (m.res.map encI))), (33, .p (.int .i64 (m.res.length : Int))), (34, .p (.int .i64 (i : Int)))],
 ofH [(0, .row 4 [cellsSc S]), (1, .map (mS ns)), (2, .row 3 [cellsMs m]), (3, .map (mI (m.res.take i)))], 4⟩
def me2 (S : Sc) (m : Ms) (ns : List (List UInt8)) (i : Nat) : St := ⟨ofL [(1, .map 1), (3, .ptr 0 0 0), (7, .map 3), (10, .map 4), (51, .p (.slice (m.fields.map encFd))), (52, .p (.int .i64 (m.fields.length : Int))), (53, .p (.int .i64 (i : Int)))],
 ofH [(0, .row 4 [cellsSc S]), (1, .map (mS ns)), (3, .map (mI (m.res ++ (m.fields.take i).map Fd.tag))), (4, .map (mS ((m.fields.take i).map Fd.name)))], 5⟩
def lensF (m : Ms) : Prop := m.name.length ≤ 1000000000 ∧ ∀ f ∈ m.fields, f.name.length ≤ 1000000000
theorem check_message (S : Sc) (ns : List (List UInt8)) (m : Ms) (h1 : S.msgs.length ≤ 1000000) (h2 : S.enums.length ≤ 1000000) (hm : lensF m) :
  LFn Tryd.prog 93 [.v (.agg (encSc S)), .map (setM ns), .v (.agg (encMs m))] [none, some (.map (setM (takeN ns m.name))), none] (.int .i64 (msgC S ns m)) := by
 refine LFn.of Tryd.func93 rfl (by decide) Tryd.ntmps93 Tryd.results93 (Nat.le_of_ble_eq_true rfl) rfl fun val => ?_
 simp only [laT, laH, laPins, LA.av, List.length_cons, List.length_nil, lift_setM, encSc, encMs]
 refine AW.rT (by rfl) fun K hK => ?_
 simp -implicitDefEqProofs only [go_sem, ↓reduceIte, Nat.reduceAdd, Nat.reduceEqDiff, reduceCtorEq]
 apply hK; clear hK K
 refine AW.seq ?_
 refine AW.block ?_
 have TK := check_takes ns m.name hm.1
 cases ht : takesB ns m.name with
 | false =>
  have e : msgC S ns m = 6 := by unfold msgC; rw [ht]; rfl
  have e2 : takeN ns m.name = ns := by unfold takeN; rw [ht]; rfl
  rw [ht, e2] at TK
  refine AW.rT (by rfl) fun K hK => ?_
  simp -implicitDefEqProofs only [go_sem, ↓reduceIte, Nat.reduceAdd, Nat.reduceEqDiff]
  refine ⟨.lend [some 1, none] [.map (setM ns), .v (.str m.name)] [some (.map (setM ns)), none] (.bool false), ⟨TK, rfl, ?_⟩, ?_⟩
  ·simp -implicitDefEqProofs only [go_sem, ↓reduceIte, Nat.reduceEqDiff, lift_setM]
  try simp -implicitDefEqProofs only [go_sem, Nat.reduceAdd, lift_setM]
  apply hK; clear hK K
  refine AW.cond _ (by simp -implicitDefEqProofs only [go_sem]; rfl) (fun hc => ?_) (fun hc => ?_)
  rotate_left
  ·simp at hc
  refine AW.rT (by rfl) fun K hK => ?_
  simp -implicitDefEqProofs only [go_sem, Nat.reduceAdd]
  apply hK; clear hK K
  refine AW.ret (show _ ∧ ((∃ l, _ ∧ _) ∧ True) from ⟨?_, ⟨1, ?_, ?_⟩, trivial⟩) <;> simp -implicitDefEqProofs only [go_sem, ↓reduceIte, Nat.reduceEqDiff, e, e2, lift_setM]
 | true =>
 have e0 : msgC S ns m = bodyC S m := by unfold msgC; rw [ht]; rfl
 have e2 : takeN ns m.name = ns ++ [m.name] := by unfold takeN; rw [ht]; rfl
 rw [ht, e2] at TK
 refine AW.rT (by rfl) fun K hK => ?_
 simp -implicitDefEqProofs only [go_sem, ↓reduceIte, Nat.reduceAdd, Nat.reduceEqDiff]
 refine ⟨.lend [some 1, none] [.map (setM ns), .v (.str m.name)] [some (.map (setM (ns ++ [m.name]))), none] (.bool true), ⟨TK, rfl, ?_⟩, ?_⟩
 ·simp -implicitDefEqProofs only [go_sem, ↓reduceIte, Nat.reduceEqDiff, lift_setM]
 try simp -implicitDefEqProofs only [go_sem, Nat.reduceAdd, lift_setM]
 apply hK; clear hK K
 refine AW.cond _ (by simp -implicitDefEqProofs only [go_sem]; rfl) (fun hc => ?_) (fun hc => ?_)
 ·simp at hc
 generalize ns ++ [m.name] = ns' at *
 by_cases c1 : m.fields.length > 16
 ·have b1 : ((m.fields.length : Int) > 16) = True := eq_true (by omega)
  have e : msgC S ns m = 4 := by rw [e0]; unfold bodyC; rw [if_pos (.inl c1)]
  refine AW.rT (by rfl) fun K hK => ?_
  simp -implicitDefEqProofs only [go_sem, ↓reduceIte, Nat.reduceAdd, Nat.reduceEqDiff, b1, List.length_map]
  apply hK; clear hK K
  refine AW.cond _ (by simp -implicitDefEqProofs only [go_sem]; rfl) (fun hc => ?_) (fun hc => ?_)
  rotate_left
  ·simp at hc
  refine AW.rT (by rfl) fun K hK => ?_
  simp -implicitDefEqProofs only [go_sem, Nat.reduceAdd]
  apply hK; clear hK K
  refine AW.ret (show _ ∧ ((∃ l, _ ∧ _) ∧ True) from ⟨?_, ⟨1, ?_, ?_⟩, trivial⟩) <;> simp -implicitDefEqProofs only [go_sem, ↓reduceIte, Nat.reduceEqDiff, e, e2, lift_setM]
 have b1 : ((m.fields.length : Int) > 16) = False := eq_false (by omega)
 by_cases c2 : m.res.length > 32
 ·have b2 : ((m.res.length : Int) > 32) = True := eq_true (by omega)
  have e : msgC S ns m = 4 := by rw [e0]; unfold bodyC; rw [if_pos (.inr c2)]
  refine AW.rT (by rfl) fun K hK => ?_
  simp -implicitDefEqProofs only [go_sem, ↓reduceIte, Nat.reduceAdd, Nat.reduceEqDiff, b1, b2, List.length_map]
  apply hK; clear hK K
  refine AW.cond _ (by simp -implicitDefEqProofs only [go_sem]; rfl) (fun hc => ?_) (fun hc => ?_)
  rotate_left
  ·simp at hc
  refine AW.rT (by rfl) fun K hK => ?_
  simp -implicitDefEqProofs only [go_sem, Nat.reduceAdd]
  apply hK; clear hK K
  refine AW.ret (show _ ∧ ((∃ l, _ ∧ _) ∧ True) from ⟨?_, ⟨1, ?_, ?_⟩, trivial⟩) <;> simp -implicitDefEqProofs only [go_sem, ↓reduceIte, Nat.reduceEqDiff, e, e2, lift_setM]
 have b2 : ((m.res.length : Int) > 32) = False := eq_false (by omega)
 refine AW.rT (by rfl) fun K hK => ?_
 simp -implicitDefEqProofs only [go_sem, ↓reduceIte, Nat.reduceAdd, Nat.reduceEqDiff, b1, b2, List.length_map]
 apply hK; clear hK K
 refine AW.cond _ (by simp -implicitDefEqProofs only [go_sem]; rfl) (fun hc => ?_) (fun hc => ?_)
 ·simp at hc
 refine AW.skip ?_
 simp only [andThen, inBlk]
 have e0 : msgC S ns m = if resBad [] m.res = true then 7 else fldsC S [] m.res m.fields := by rw [e0]; unfold bodyC; rw [if_neg (by omega)]
 refine AW.rT (by rfl) fun K hK => ?_
 simp -implicitDefEqProofs only [go_sem, Nat.reduceAdd]
 apply hK; clear hK K
 refine AW.seq ?_
 refine AW.rT (by rfl) fun K hK => ?_
 simp -implicitDefEqProofs only [go_sem, ↓reduceIte, Nat.reduceAdd, Nat.reduceEqDiff, List.length_map]
 apply hK; clear hK K
 refine AW.block ?_
 refine AW.loop (me1 S m ns') (fun i => i ≤ m.res.length ∧ resBad [] m.res = resBad (m.res.take i) (m.res.drop i)) (fun i => m.res.length - i) 0 ?_ ⟨by omega, by rw [List.drop_zero, List.take_zero]⟩ fun i hi => ?_
 ·simp only [me1, cellsSc, cellsMs]
  refine Ghost.ent (fun l => if l = 0 then 3 else if l = 1 then 1 else if l = 2 then 4 else 23) ?_ ?_ ?_ <;> simp -implicitDefEqProofs only [go_sem, ↓reduceIte, Nat.reduceEqDiff, reduceCtorEq, List.take_zero, mI_nil, List.forall_mem_cons, List.not_mem_nil, false_implies, implies_true, and_self, List.all_cons, List.all_nil, Nat.reduceLT, labsInL, AV.labsIn]
  all_goals first | rfl | decide | skip
 obtain ⟨i1, i2⟩ := hi
 simp only [me1, cellsSc, cellsMs]
 by_cases hil : i < m.res.length
 case neg =>
  have hc1 : ((i : Int) < (m.res.length : Int)) = False := eq_false (by omega)
  rw [List.take_of_length_le (by omega), List.drop_of_length_le (by omega), resBad] at i2
  rw [i2, if_neg (by simp)] at e0
  refine AW.rT (by rfl) fun K hK => ?_
  simp -implicitDefEqProofs only [go_sem, ↓reduceIte, Nat.reduceAdd, Nat.reduceEqDiff, hc1]
  apply hK; clear hK K
  refine AW.seq ?_
  refine AW.cond _ (by simp -implicitDefEqProofs only [go_sem]; rfl) (fun hc => ?_) (fun hc => ?_)
  ·simp at hc
  refine AW.exit ?_
  simp only [andThen, inBlk, ↓reduceIte]
  refine AW.rT (by rfl) fun K hK => ?_
  simp -implicitDefEqProofs only [go_sem, Nat.reduceAdd]
  apply hK; clear hK K
  refine AW.seq ?_
  refine AW.rT (by rfl) fun K hK => ?_
  simp -implicitDefEqProofs only [go_sem, ↓reduceIte, Nat.reduceAdd, Nat.reduceEqDiff, reduceCtorEq, List.length_map]
  apply hK; clear hK K
  refine AW.block ?_
  refine AW.loop (me2 S m ns') (fun i => i ≤ m.fields.length ∧ fldsC S [] m.res m.fields = fldsC S ((m.fields.take i).map Fd.name) (m.res ++ (m.fields.take i).map Fd.tag) (m.fields.drop i)) (fun i => m.fields.length - i) 0 ?_ ⟨by omega, by simp⟩ fun i hi => ?_
  ·simp only [me2, cellsSc]
   have er : m.res.take i = m.res := List.take_of_length_le (by omega)
   refine Ghost.ent (fun l => if l = 0 then 0 else if l = 1 then 1 else if l = 3 then 3 else 5) ?_ ?_ ?_ <;> simp -implicitDefEqProofs only [go_sem, ↓reduceIte, Nat.reduceEqDiff, reduceCtorEq, List.take_zero, List.map_nil, List.append_nil, mS_nil, er, List.forall_mem_cons, List.not_mem_nil, false_implies, implies_true, and_self, List.all_cons, List.all_nil, Nat.reduceLT, labsInL, AV.labsIn]
   all_goals first | rfl | decide | skip
  rename_i i0 _ _ _
  obtain ⟨j1, j2⟩ := hi
  simp only [me2, cellsSc]
  by_cases hjl : i < m.fields.length
  case neg =>
   have hc1 : ((i : Int) < (m.fields.length : Int)) = False := eq_false (by omega)
   rw [List.drop_of_length_le (by omega), fldsC] at j2
   rw [j2] at e0
   refine AW.rT (by rfl) fun K hK => ?_
   simp -implicitDefEqProofs only [go_sem, ↓reduceIte, Nat.reduceAdd, Nat.reduceEqDiff, hc1]
   apply hK; clear hK K
   refine AW.seq ?_
   refine AW.cond _ (by simp -implicitDefEqProofs only [go_sem]; rfl) (fun hc => ?_) (fun hc => ?_)
   ·simp at hc
   refine AW.exit ?_
   simp only [andThen, inBlk, ↓reduceIte]
   refine AW.rT (by rfl) fun K hK => ?_
   simp -implicitDefEqProofs only [go_sem, Nat.reduceAdd]
   apply hK; clear hK K
   refine AW.ret (show _ ∧ ((∃ l, _ ∧ _) ∧ True) from ⟨?_, ⟨1, ?_, ?_⟩, trivial⟩) <;> simp -implicitDefEqProofs only [go_sem, ↓reduceIte, Nat.reduceEqDiff, e0, e2, lift_setM]
  obtain ⟨f, hf⟩ : ∃ f, m.fields[i]? = some f := ⟨_, List.getElem?_eq_getElem hjl⟩
  have ⟨hf1, hf2, hf3⟩ := at_map' encFd hf
  have hc1 : ((i : Int) < (m.fields.length : Int)) = True := eq_true (by omega)
  have w1 : IntKind.wrap .i64 ((i : Int) + 1) = ((i + 1 : Nat) : Int) := by rw [w64] <;> omega
  rw [fldsC_at hf] at j2
  have hnx := take_map_next Fd.name hf
  have htx := take_map_next Fd.tag hf
  generalize hN : (m.fields.take i).map Fd.name = N at *
  generalize hT : m.res ++ (m.fields.take i).map Fd.tag = T at *
  have TK := check_takes N f.name (hm.2 f (List.mem_of_getElem? hf))
  refine AW.rT (by rfl) fun K hK => ?_
  simp -implicitDefEqProofs only [go_sem, ↓reduceIte, Nat.reduceAdd, Nat.reduceEqDiff, hc1]
  apply hK; clear hK K
  refine AW.seq ?_
  refine AW.cond _ (by simp -implicitDefEqProofs only [go_sem]; rfl) (fun hc => ?_) (fun hc => ?_)
  rotate_left
  ·simp at hc
  refine AW.skip ?_
  simp only [andThen]
  refine AW.seq ?_
  refine AW.block ?_
  refine AW.rT (by rfl) fun K hK => ?_
  simp -implicitDefEqProofs only [go_sem, ↓reduceIte, Nat.reduceAdd, Nat.reduceEqDiff, Nat.reduceLeDiff, hf1, hf3, hc1, encFd, List.length_map]
  apply hK; clear hK K
  refine AW.seq ?_
  refine AW.block ?_
  cases ht2 : takesB N f.name with
  | false =>
   have e3 : takeN N f.name = N := by unfold takeN; rw [ht2]; rfl
   rw [ht2, e3] at TK
   rw [ht2, if_neg (by simp)] at j2
   rw [j2] at e0
   refine AW.rT (by rfl) fun K hK => ?_
   simp -implicitDefEqProofs only [go_sem, ↓reduceIte, Nat.reduceAdd, Nat.reduceEqDiff]
   refine ⟨.lend [some 4, none] [.map (setM N), .v (.str f.name)] [some (.map (setM N)), none] (.bool false), ⟨TK, rfl, ?_⟩, ?_⟩
   ·simp -implicitDefEqProofs only [go_sem, ↓reduceIte, Nat.reduceEqDiff, reduceCtorEq, lift_setM]
   try simp -implicitDefEqProofs only [go_sem, Nat.reduceAdd, lift_setM]
   apply hK; clear hK K
   refine AW.cond _ (by simp -implicitDefEqProofs only [go_sem]; rfl) (fun hc => ?_) (fun hc => ?_)
   rotate_left
   ·simp at hc
   refine AW.rT (by rfl) fun K hK => ?_
   simp -implicitDefEqProofs only [go_sem, Nat.reduceAdd]
   apply hK; clear hK K
   refine AW.ret (show _ ∧ ((∃ l, _ ∧ _) ∧ True) from ⟨?_, ⟨1, ?_, ?_⟩, trivial⟩) <;> simp -implicitDefEqProofs only [go_sem, ↓reduceIte, Nat.reduceEqDiff, e0, e2, lift_setM]
  | true =>
  have e3 : takeN N f.name = N ++ [f.name] := by unfold takeN; rw [ht2]; rfl
  rw [ht2, e3] at TK
  rw [ht2, if_pos rfl] at j2
  refine AW.rT (by rfl) fun K hK => ?_
  simp -implicitDefEqProofs only [go_sem, ↓reduceIte, Nat.reduceAdd, Nat.reduceEqDiff]
  refine ⟨.lend [some 4, none] [.map (setM N), .v (.str f.name)] [some (.map (setM (N ++ [f.name]))), none] (.bool true), ⟨TK, rfl, ?_⟩, ?_⟩
  ·simp -implicitDefEqProofs only [go_sem, ↓reduceIte, Nat.reduceEqDiff, reduceCtorEq, lift_setM]
  try simp -implicitDefEqProofs only [go_sem, Nat.reduceAdd, lift_setM]
  apply hK; clear hK K
  refine AW.cond _ (by simp -implicitDefEqProofs only [go_sem]; rfl) (fun hc => ?_) (fun hc => ?_)
  ·simp at hc
  cases htg : tagB f.tag with
  | false =>
   rw [htg, Bool.false_and, if_neg (by simp)] at j2
   rw [j2] at e0
   refine AW.rT (by rfl) fun K hK => ?_
   simp -implicitDefEqProofs only [go_sem, ↓reduceIte, Nat.reduceAdd, Nat.reduceEqDiff]
   refine ⟨.pure _, check_tag f.tag, ?_⟩
   try simp -implicitDefEqProofs only [go_sem, ↓reduceIte, Nat.reduceAdd, Nat.reduceEqDiff, htg]
   apply hK; clear hK K
   refine AW.cond _ (by simp -implicitDefEqProofs only [go_sem]; rfl) (fun hc => ?_) (fun hc => ?_)
   rotate_left
   ·simp at hc
   refine AW.rT (by rfl) fun K hK => ?_
   simp -implicitDefEqProofs only [go_sem, Nat.reduceAdd]
   apply hK; clear hK K
   refine AW.ret (show _ ∧ ((∃ l, _ ∧ _) ∧ True) from ⟨?_, ⟨1, ?_, ?_⟩, trivial⟩) <;> simp -implicitDefEqProofs only [go_sem, ↓reduceIte, Nat.reduceEqDiff, e0, e2, lift_setM]
  | true =>
  cases hus : T.contains f.tag with
  | true =>
   rw [htg, hus, if_neg (by simp)] at j2
   rw [j2] at e0
   obtain ⟨q, hq⟩ := mI_yes hus
   refine AW.rT (by rfl) fun K hK => ?_
   simp -implicitDefEqProofs only [go_sem, ↓reduceIte, Nat.reduceAdd, Nat.reduceEqDiff]
   refine ⟨.pure _, check_tag f.tag, ?_⟩
   try simp -implicitDefEqProofs only [go_sem, ↓reduceIte, Nat.reduceAdd, Nat.reduceEqDiff, reduceCtorEq, htg]
   refine ⟨keyI f.tag, _, hq, _, rfl, ?_⟩
   try simp -implicitDefEqProofs only [go_sem, ↓reduceIte, Nat.reduceAdd, Nat.reduceMul, Nat.reduceEqDiff, Nat.reduceLeDiff, reduceCtorEq, Int.reduceToNat]
   apply hK; clear hK K
   refine AW.cond _ (by simp -implicitDefEqProofs only [go_sem]; rfl) (fun hc => ?_) (fun hc => ?_)
   rotate_left
   ·simp at hc
   refine AW.rT (by rfl) fun K hK => ?_
   simp -implicitDefEqProofs only [go_sem, Nat.reduceAdd]
   apply hK; clear hK K
   refine AW.ret (show _ ∧ ((∃ l, _ ∧ _) ∧ True) from ⟨?_, ⟨1, ?_, ?_⟩, trivial⟩) <;> simp -implicitDefEqProofs only [go_sem, ↓reduceIte, Nat.reduceEqDiff, e0, e2, lift_setM]
  | false =>
  rw [htg, hus, if_pos (by simp)] at j2
  have hq := mI_no hus
  refine AW.rT (by rfl) fun K hK => ?_
  simp -implicitDefEqProofs only [go_sem, ↓reduceIte, Nat.reduceAdd, Nat.reduceEqDiff]
  refine ⟨.pure _, check_tag f.tag, ?_⟩
  try simp -implicitDefEqProofs only [go_sem, ↓reduceIte, Nat.reduceAdd, Nat.reduceEqDiff, reduceCtorEq, htg]
  refine ⟨keyI f.tag, _, hq, _, rfl, ?_⟩
  try simp -implicitDefEqProofs only [go_sem, ↓reduceIte, Nat.reduceAdd, Nat.reduceMul, Nat.reduceEqDiff, Nat.reduceLeDiff, reduceCtorEq, Int.reduceToNat]
  apply hK; clear hK K
  refine AW.cond _ (by simp -implicitDefEqProofs only [go_sem]; rfl) (fun hc => ?_) (fun hc => ?_)
  ·simp at hc
  have CF := check_field S f h1 h2
  simp only [encSc, encFd] at CF
  refine AW.rT (by rfl) fun K hK => ?_
  simp -implicitDefEqProofs only [go_sem, ↓reduceIte, Nat.reduceAdd, Nat.reduceEqDiff, Nat.reduceLeDiff, reduceCtorEq]
  refine ⟨.pure _, CF, ?_⟩
  try simp -implicitDefEqProofs only [go_sem, Nat.reduceAdd]
  apply hK; clear hK K
  cases hfb : fieldB S f with
  | false =>
   rw [hfb, if_neg (by simp)] at j2
   rw [j2] at e0
   refine AW.cond _ (by simp -implicitDefEqProofs only [go_sem]; rfl) (fun hc => ?_) (fun hc => ?_)
   rotate_left
   ·simp at hc
   refine AW.rT (by rfl) fun K hK => ?_
   simp -implicitDefEqProofs only [go_sem, Nat.reduceAdd]
   apply hK; clear hK K
   refine AW.ret (show _ ∧ ((∃ l, _ ∧ _) ∧ True) from ⟨?_, ⟨1, ?_, ?_⟩, trivial⟩) <;> simp -implicitDefEqProofs only [go_sem, ↓reduceIte, Nat.reduceEqDiff, e0, e2, lift_setM]
  | true =>
   rw [hfb, if_pos rfl] at j2
   refine AW.cond _ (by simp -implicitDefEqProofs only [go_sem]; rfl) (fun hc => ?_) (fun hc => ?_)
   ·simp at hc
   refine AW.skip ?_
   simp only [andThen, inBlk]
   refine AW.rE (by rfl) fun K hK => ?_
   simp -implicitDefEqProofs only [go_sem, ↓reduceIte, Nat.reduceAdd, Nat.reduceEqDiff, reduceCtorEq]
   refine ⟨keyI f.tag, _, hq, ?_⟩
   try simp -implicitDefEqProofs only [go_sem]
   apply hK; clear hK K
   simp only [andThen, inBlk]
   refine AW.rE (by rfl) fun K hK => ?_
   simp -implicitDefEqProofs only [go_sem, ↓reduceIte, Nat.reduceAdd, Nat.reduceEqDiff, w1]
   apply hK; clear hK K
   refine ⟨i + 1, ⟨by omega, by rw [hnx, htx, ← List.append_assoc, hT]; exact j2⟩, by omega, ?_⟩
   rw [hnx, htx, ← List.append_assoc, hT]
   refine Ghost.sub ?_ ?_ <;> simp -implicitDefEqProofs only [go_sem, ↓reduceIte, Nat.reduceEqDiff, reduceCtorEq, mI_add, List.forall_mem_cons, List.not_mem_nil, false_implies, implies_true, and_self, List.all_cons, List.all_nil, Nat.reduceLT, labsInL, AV.labsIn]
 obtain ⟨t, ht⟩ : ∃ t, m.res[i]? = some t := ⟨_, List.getElem?_eq_getElem hil⟩
 have ⟨ht1, ht2, ht3⟩ := at_map' encI ht
 have ht3' : (m.res.map encI).getD i [] = [.int .i64 t] := ht3
 have hc1 : ((i : Int) < (m.res.length : Int)) = True := eq_true (by omega)
 have w1 : IntKind.wrap .i64 ((i : Int) + 1) = ((i + 1 : Nat) : Int) := by rw [w64] <;> omega
 rw [resBad_at ht] at i2
 have hnx : m.res.take (i + 1) = m.res.take i ++ [t] := by rw [List.take_add_one, ht]; rfl
 refine AW.rT (by rfl) fun K hK => ?_
 simp -implicitDefEqProofs only [go_sem, ↓reduceIte, Nat.reduceAdd, Nat.reduceEqDiff, hc1]
 apply hK; clear hK K
 refine AW.seq ?_
 refine AW.cond _ (by simp -implicitDefEqProofs only [go_sem]; rfl) (fun hc => ?_) (fun hc => ?_)
 rotate_left
 ·simp at hc
 refine AW.skip ?_
 simp only [andThen]
 refine AW.seq ?_
 refine AW.block ?_
 refine AW.rT (by rfl) fun K hK => ?_
 simp -implicitDefEqProofs only [go_sem, ↓reduceIte, Nat.reduceAdd, Nat.reduceEqDiff, ht1, ht3', hc1, List.length_map]
 apply hK; clear hK K
 refine AW.seq ?_
 cases htg : tagB t with
 | false =>
  rw [htg, Bool.false_and, if_neg (by simp)] at i2
  rw [i2, if_pos rfl] at e0
  refine AW.rT (by rfl) fun K hK => ?_
  simp -implicitDefEqProofs only [go_sem, Nat.reduceAdd]
  refine ⟨.pure _, check_tag t, ?_⟩
  try simp -implicitDefEqProofs only [go_sem, ↓reduceIte, Nat.reduceAdd, Nat.reduceEqDiff, htg]
  apply hK; clear hK K
  refine AW.cond _ (by simp -implicitDefEqProofs only [go_sem]; rfl) (fun hc => ?_) (fun hc => ?_)
  rotate_left
  ·simp at hc
  refine AW.rT (by rfl) fun K hK => ?_
  simp -implicitDefEqProofs only [go_sem, Nat.reduceAdd]
  apply hK; clear hK K
  refine AW.ret (show _ ∧ ((∃ l, _ ∧ _) ∧ True) from ⟨?_, ⟨1, ?_, ?_⟩, trivial⟩) <;> simp -implicitDefEqProofs only [go_sem, ↓reduceIte, Nat.reduceEqDiff, e0, e2, lift_setM]
 | true =>
 cases hus : (m.res.take i).contains t with
 | true =>
  rw [htg, hus, if_neg (by simp)] at i2
  rw [i2, if_pos rfl] at e0
  obtain ⟨q, hq⟩ := mI_yes hus
  refine AW.rT (by rfl) fun K hK => ?_
  simp -implicitDefEqProofs only [go_sem, Nat.reduceAdd]
  refine ⟨.pure _, check_tag t, ?_⟩
  try simp -implicitDefEqProofs only [go_sem, ↓reduceIte, Nat.reduceAdd, Nat.reduceEqDiff, reduceCtorEq, htg]
  refine ⟨keyI t, _, hq, _, rfl, ?_⟩
  try simp -implicitDefEqProofs only [go_sem, ↓reduceIte, Nat.reduceAdd, Nat.reduceMul, Nat.reduceEqDiff, Nat.reduceLeDiff, reduceCtorEq, Int.reduceToNat]
  apply hK; clear hK K
  refine AW.cond _ (by simp -implicitDefEqProofs only [go_sem]; rfl) (fun hc => ?_) (fun hc => ?_)
  rotate_left
  ·simp at hc
  refine AW.rT (by rfl) fun K hK => ?_
  simp -implicitDefEqProofs only [go_sem, Nat.reduceAdd]
  apply hK; clear hK K
  refine AW.ret (show _ ∧ ((∃ l, _ ∧ _) ∧ True) from ⟨?_, ⟨1, ?_, ?_⟩, trivial⟩) <;> simp -implicitDefEqProofs only [go_sem, ↓reduceIte, Nat.reduceEqDiff, e0, e2, lift_setM]
 | false =>
  rw [htg, hus, if_pos (by simp)] at i2
  have hq := mI_no hus
  refine AW.rT (by rfl) fun K hK => ?_
  simp -implicitDefEqProofs only [go_sem, Nat.reduceAdd]
  refine ⟨.pure _, check_tag t, ?_⟩
  try simp -implicitDefEqProofs only [go_sem, ↓reduceIte, Nat.reduceAdd, Nat.reduceEqDiff, reduceCtorEq, htg]
  refine ⟨keyI t, _, hq, _, rfl, ?_⟩
  try simp -implicitDefEqProofs only [go_sem, ↓reduceIte, Nat.reduceAdd, Nat.reduceMul, Nat.reduceEqDiff, Nat.reduceLeDiff, reduceCtorEq, Int.reduceToNat]
  apply hK; clear hK K
  refine AW.cond _ (by simp -implicitDefEqProofs only [go_sem]; rfl) (fun hc => ?_) (fun hc => ?_)
  ·simp at hc
  refine AW.skip ?_
  simp only [andThen]
  refine AW.rE (by rfl) fun K hK => ?_
  simp -implicitDefEqProofs only [go_sem, ↓reduceIte, Nat.reduceAdd, Nat.reduceEqDiff, reduceCtorEq]
  refine ⟨keyI t, _, hq, ?_⟩
  try simp -implicitDefEqProofs only [go_sem]
  apply hK; clear hK K
  simp only [andThen, inBlk]
  refine AW.rE (by rfl) fun K hK => ?_
  simp -implicitDefEqProofs only [go_sem, ↓reduceIte, Nat.reduceAdd, Nat.reduceEqDiff, w1]
  apply hK; clear hK K
  refine ⟨i + 1, ⟨by omega, by rw [hnx]; exact i2⟩, by omega, ?_⟩
  rw [hnx]
  refine Ghost.sub ?_ ?_ <;> simp -implicitDefEqProofs only [go_sem, ↓reduceIte, Nat.reduceEqDiff, reduceCtorEq, mI_add, List.forall_mem_cons, List.not_mem_nil, false_implies, implies_true, and_self, List.all_cons, List.all_nil, Nat.reduceLT, labsInL, AV.labsIn]
end Go.Aw
namespace Go.Aw
open Go.Proofs Go.RowKit
def rm1 (S : Sc) (m : Ms) (i : Nat) : St := ⟨ofL [(2, .ptr 0 0 0), (3, .ptr 1 0 0), (5, .p (.int .i64 (i : Int)))], ofH [(0, .row 4 [cellsSc S]), (1, .row 3 [cellsMs m])], 2⟩
def rm2 (S : Sc) (m : Ms) (i : Nat) : St := ⟨ofL [(2, .ptr 0 0 0), (3, .ptr 1 0 0), (6, .own 2), (7, .p (.int .i64 (i : Int)))], ofH [(0, .row 4 [cellsSc S]), (1, .row 3 [cellsMs m]), (2, .row 1 (liftE (((m.fields.take i).map Fd.name).map encS)))], 3⟩
theorem found_tag {l : List Fd} {i : Nat} {t : Int} : (firstP (fun x : Fd => x.tag == t) zFd (l.take i)).2 = ((l.take i).map Fd.tag).contains t := by
 rw [contains_any, List.any_map]
 unfold firstP
 cases h : (l.take i).find? fun x => x.tag == t with
 | none =>
  rw [List.find?_eq_none] at h
  symm
  rw [List.any_eq_false]
  intro x hx
  have := h x hx
  simp at this ⊢
  intro e
  exact this e.symm
 | some x =>
  symm
  rw [List.any_eq_true]
  exact ⟨x, List.mem_of_find?_eq_some h, by have := List.find?_some h; simp at this ⊢; exact this.symm⟩
theorem tag_split (t : Int) : t < 1 ∨ 500 < t ∨ (1 ≤ t ∧ t ≤ 500) := by omega
theorem len_encI {l : List Int} : ∀ y ∈ List.map encI l, 1 = y.length := by
 intro y hy
 obtain ⟨a, _, rfl⟩ := List.mem_map.1 hy
 rfl
theorem len_encFd {l : List Fd} : ∀ y ∈ List.map encFd l, 5 = y.length := by
 intro y hy
 obtain ⟨a, _, rfl⟩ := List.mem_map.1 hy
 rfl
theorem ref07_message (S : Sc) (m : Ms) (h1 : S.msgs.length ≤ 1000000) (h2 : S.enums.length ≤ 1000000) (hm : lensF m) :
  PFn Tryd.prog 88 [.agg (encSc S), .agg (encMs m)] (.int .i64 (bodyC S m)) := by
 refine PFn.of Tryd.func88 rfl (by decide) Tryd.ntmps88 Tryd.results88 (Nat.le_of_ble_eq_true rfl) ?_
 simp only [argsT, encSc, encMs]
 refine AW.rT (by rfl) fun K hK => ?_
 simp -implicitDefEqProofs only [go_sem, ↓reduceIte, Nat.reduceAdd, Nat.reduceEqDiff]
 apply hK; clear hK K
 refine AW.seq ?_
 by_cases c1 : m.fields.length > 16
 ·have b1 : ((m.fields.length : Int) > 16) = True := eq_true (by omega)
  have e : bodyC S m = 4 := by unfold bodyC; rw [if_pos (.inl c1)]
  refine AW.rT (by rfl) fun K hK => ?_
  simp -implicitDefEqProofs only [go_sem, ↓reduceIte, Nat.reduceAdd, Nat.reduceEqDiff, b1, List.length_map]
  apply hK; clear hK K
  refine AW.cT rfl ?_
  refine AW.rT (by rfl) fun K hK => ?_
  simp -implicitDefEqProofs only [go_sem, Nat.reduceAdd]
  apply hK; clear hK K
  refine AW.ret ?_
  simp -implicitDefEqProofs only [go_sem, e]
 have b1 : ((m.fields.length : Int) > 16) = False := eq_false (by omega)
 by_cases c2 : m.res.length > 32
 ·have b2 : ((m.res.length : Int) > 32) = True := eq_true (by omega)
  have e : bodyC S m = 4 := by unfold bodyC; rw [if_pos (.inr c2)]
  refine AW.rT (by rfl) fun K hK => ?_
  simp -implicitDefEqProofs only [go_sem, ↓reduceIte, Nat.reduceAdd, Nat.reduceEqDiff, b1, b2, List.length_map]
  apply hK; clear hK K
  refine AW.cT rfl ?_
  refine AW.rT (by rfl) fun K hK => ?_
  simp -implicitDefEqProofs only [go_sem, Nat.reduceAdd]
  apply hK; clear hK K
  refine AW.ret ?_
  simp -implicitDefEqProofs only [go_sem, e]
 have b2 : ((m.res.length : Int) > 32) = False := eq_false (by omega)
 refine AW.rT (by rfl) fun K hK => ?_
 simp -implicitDefEqProofs only [go_sem, ↓reduceIte, Nat.reduceAdd, Nat.reduceEqDiff, b1, b2, List.length_map]
 apply hK; clear hK K
 refine AW.cF rfl ?_
 refine AW.skip ?_
 simp only [andThen]
 have e0 : bodyC S m = if resBad [] m.res = true then 7 else fldsC S [] m.res m.fields := by unfold bodyC; rw [if_neg (by omega)]
 refine AW.seq ?_
 refine AW.rT (by rfl) fun K hK => ?_
 simp -implicitDefEqProofs only [go_sem, Nat.reduceAdd]
 apply hK; clear hK K
 refine AW.block ?_
 refine AW.loop (rm1 S m) (fun i => i ≤ m.res.length ∧ resBad [] m.res = resBad (m.res.take i) (m.res.drop i)) (fun i => m.res.length - i) 0 ?_ ⟨by omega, by rw [List.drop_zero, List.take_zero]⟩ fun i hi => ?_
 ·simp only [rm1, cellsSc, cellsMs]
  refine Ghost.sub ?_ ?_ <;> simp -implicitDefEqProofs only [go_sem, ↓reduceIte, Nat.reduceEqDiff, reduceCtorEq, List.forall_mem_cons, List.not_mem_nil, false_implies, implies_true, and_self, List.all_cons, List.all_nil, Nat.reduceLT, labsInL, AV.labsIn]
  rfl
 obtain ⟨i1, i2⟩ := hi
 simp only [rm1, cellsSc, cellsMs]
 refine AW.seq ?_
 by_cases hil : i < m.res.length
 case neg =>
  have hc1 : ((i : Int) < (m.res.length : Int)) = False := eq_false (by omega)
  rw [List.take_of_length_le (by omega), List.drop_of_length_le (by omega), resBad] at i2
  rw [i2, if_neg (by simp)] at e0
  clear hil
  refine AW.rT (by rfl) fun K hK => ?_
  simp -implicitDefEqProofs only [go_sem, ↓reduceIte, Nat.reduceAdd, Nat.reduceEqDiff, hc1, List.length_map]
  apply hK; clear hK K
  refine AW.cF rfl ?_
  refine AW.exit ?_
  simp only [andThen, inBlk, ↓reduceIte]
  refine AW.rT (by rfl) fun K hK => ?_
  simp -implicitDefEqProofs only [go_sem, Nat.reduceAdd]
  apply hK; clear hK K
  refine AW.seq ?_
  refine AW.rT (by rfl) fun K hK => ?_
  simp -implicitDefEqProofs only [go_sem, Nat.reduceAdd]
  apply hK; clear hK K
  refine AW.block ?_
  refine AW.loop (rm2 S m) (fun i => i ≤ m.fields.length ∧ fldsC S [] m.res m.fields = fldsC S ((m.fields.take i).map Fd.name) (m.res ++ (m.fields.take i).map Fd.tag) (m.fields.drop i)) (fun i => m.fields.length - i) 0 ?_ ⟨by omega, by simp⟩ fun j hj => ?_
  ·refine Ghost.trans (Ghost.nil (t := 6) (sz := 1) rfl) ?_
   simp only [rm2, cellsSc, cellsMs]
   refine Ghost.ent (fun l => if l = 2 then 9 else l) ?_ ?_ ?_ <;> simp -implicitDefEqProofs only [go_sem, ↓reduceIte, Nat.reduceEqDiff, reduceCtorEq, List.take_zero, List.map_nil, liftE_nil, List.forall_mem_cons, List.not_mem_nil, false_implies, implies_true, and_self, List.all_cons, List.all_nil, Nat.reduceLT, labsInL, AV.labsIn]
   all_goals first | rfl | decide | skip
  obtain ⟨j1, j2⟩ := hj
  simp only [rm2, cellsSc, cellsMs]
  refine AW.seq ?_
  by_cases hjl : j < m.fields.length
  case neg =>
   have hc2 : ((j : Int) < (m.fields.length : Int)) = False := eq_false (by omega)
   rw [List.drop_of_length_le (by omega), fldsC] at j2
   rw [j2] at e0
   refine AW.rT (by rfl) fun K hK => ?_
   simp -implicitDefEqProofs only [go_sem, ↓reduceIte, Nat.reduceAdd, Nat.reduceEqDiff, hc2, List.length_map]
   apply hK; clear hK K
   refine AW.cF rfl ?_
   refine AW.exit ?_
   simp only [andThen, inBlk, ↓reduceIte]
   refine AW.rT (by rfl) fun K hK => ?_
   simp -implicitDefEqProofs only [go_sem, Nat.reduceAdd]
   apply hK; clear hK K
   refine AW.ret ?_
   simp -implicitDefEqProofs only [go_sem, e0]
  obtain ⟨f, hf⟩ : ∃ f, m.fields[j]? = some f := ⟨_, List.getElem?_eq_getElem hjl⟩
  have ⟨hf1, hf2, hf3⟩ := at_map' encFd hf
  have hc2 : ((j : Int) < (m.fields.length : Int)) = True := eq_true (by omega)
  have hj3 : ((j : Int) ≤ (m.fields.length : Int)) := by omega
  have w1 : IntKind.wrap .i64 ((j : Int) + 1) = ((j + 1 : Nat) : Int) := by rw [w64] <;> omega
  rw [fldsC_at hf] at j2
  have hnx := take_map_next Fd.name hf
  have htx := take_map_next Fd.tag hf
  have hft := found_tag (l := m.fields) (i := j) (t := f.tag)
  have hNl : ((m.fields.take j).map Fd.name).length ≤ 1000000 := by rw [List.length_map, List.length_take]; omega
  have CFd := ref07_Field ⟨[], m.fields.take j, []⟩ f.tag (by show (m.fields.take j).length ≤ 1000000; rw [List.length_take]; omega)
  have CRs := ref07_Reserved m f.tag (by omega)
  have eF : encMs ⟨[], m.fields.take j, []⟩ = [.str [], .slice ((m.fields.map encFd).take j), .slice []] := by simp [encMs, List.map_take]
  rw [eF] at CFd
  simp only [encMs, encFd] at CRs CFd
  generalize hN : (m.fields.take j).map Fd.name = N at *
  generalize hT : (m.fields.take j).map Fd.tag = T at *
  have FR := ref07_fresh N f.name (by omega) (hm.2 f (List.mem_of_getElem? hf))
  refine AW.rT (by rfl) fun K hK => ?_
  simp -implicitDefEqProofs only [go_sem, ↓reduceIte, Nat.reduceAdd, Nat.reduceEqDiff, hc2, List.length_map]
  apply hK; clear hK K
  refine AW.cT rfl ?_
  refine AW.skip ?_
  simp only [andThen]
  refine AW.seq ?_
  refine AW.block ?_
  refine AW.rT (by rfl) fun K hK => ?_
  simp -implicitDefEqProofs only [go_sem, ↓reduceIte, Nat.reduceAdd, Nat.reduceEqDiff, Nat.reduceLeDiff, hf1, hf3, hc2, encFd, List.length_map]
  apply hK; clear hK K
  refine AW.seq ?_
  cases ht2 : takesB N f.name with
  | false =>
   rw [ht2] at FR
   rw [ht2, if_neg (by simp)] at j2
   rw [j2] at e0
   refine AW.rT (by rfl) fun K hK => ?_
   simp -implicitDefEqProofs only [go_sem, ↓reduceIte, Nat.reduceAdd, Nat.reduceEqDiff, reduceCtorEq]
   refine ⟨.peek _, ⟨FR, rfl⟩, ?_⟩
   try simp -implicitDefEqProofs only [go_sem, Nat.reduceAdd]
   apply hK; clear hK K
   refine AW.cT rfl ?_
   refine AW.rT (by rfl) fun K hK => ?_
   simp -implicitDefEqProofs only [go_sem, Nat.reduceAdd]
   apply hK; clear hK K
   refine AW.ret ?_
   simp -implicitDefEqProofs only [go_sem, e0]
  | true =>
  rw [ht2] at FR
  rw [ht2, if_pos rfl] at j2
  refine AW.rT (by rfl) fun K hK => ?_
  simp -implicitDefEqProofs only [go_sem, ↓reduceIte, Nat.reduceAdd, Nat.reduceEqDiff, reduceCtorEq]
  refine ⟨.peek _, ⟨FR, rfl⟩, ?_⟩
  try simp -implicitDefEqProofs only [go_sem, Nat.reduceAdd]
  apply hK; clear hK K
  refine AW.cF rfl ?_
  refine AW.skip ?_
  simp only [andThen]
  refine AW.rT (by rfl) fun K hK => ?_
  simp -implicitDefEqProofs only [go_sem, ↓reduceIte, Nat.reduceAdd, Nat.reduceMul, Nat.reduceEqDiff, Nat.reduceLeDiff, reduceCtorEq]
  refine ⟨⟨by simp, by simp [oneAll, AV.one, PV.one], by simp⟩, by simp [liftE_length]; omega, ?_⟩
  apply hK; clear hK K
  refine AW.seq ?_
  refine AW.dT mixed (by rfl) (by decide +kernel) fun K hK => ?_
  simp -implicitDefEqProofs only [go_sem, ↓reduceIte, Nat.reduceAdd, Nat.reduceEqDiff, Nat.reduceLeDiff, hj3, List.length_map]
  refine ⟨len_encFd, by simp, ⟨by simp, by simp <;> omega⟩, ?_⟩
  refine ⟨.pure _, CFd, ?_⟩
  try simp -implicitDefEqProofs only [go_sem, ↓reduceIte, Nat.reduceAdd, Nat.reduceEqDiff, Nat.reduceLeDiff]
  refine ⟨by decide +kernel, ?_⟩
  apply hK; clear hK K
  cases hTc : T.contains f.tag with
  | true =>
   have hb : (tagB f.tag && !(m.res ++ T).contains f.tag) = false := by
    have : (m.res ++ T).contains f.tag = true := by
     rw [List.contains_iff_mem] at hTc ⊢
     exact List.mem_append_right _ hTc
    rw [this]; simp
   rw [hb, if_neg (by simp)] at j2
   rw [j2] at e0
   rw [hTc] at hft
   refine AW.rT (by rfl) fun K hK => ?_
   simp -implicitDefEqProofs only [go_sem, ↓reduceIte, Nat.reduceAdd, Nat.reduceEqDiff, hft]
   apply hK; clear hK K
   refine AW.cT rfl ?_
   refine AW.rT (by rfl) fun K hK => ?_
   simp -implicitDefEqProofs only [go_sem, Nat.reduceAdd]
   apply hK; clear hK K
   refine AW.ret ?_
   simp -implicitDefEqProofs only [go_sem, e0]
  | false =>
  rw [hTc] at hft
  rcases tag_split f.tag with htg | htg | htg
  ·have hb : tagB f.tag = false := decide_eq_false (by omega)
   rw [hb, Bool.false_and, if_neg (by simp)] at j2
   rw [j2] at e0
   have f1 : (f.tag < 1) = True := eq_true htg
   refine AW.rT (by rfl) fun K hK => ?_
   simp -implicitDefEqProofs only [go_sem, ↓reduceIte, Nat.reduceAdd, Nat.reduceEqDiff, hft, f1]
   apply hK; clear hK K
   refine AW.cT rfl ?_
   refine AW.rT (by rfl) fun K hK => ?_
   simp -implicitDefEqProofs only [go_sem, Nat.reduceAdd]
   apply hK; clear hK K
   refine AW.ret ?_
   simp -implicitDefEqProofs only [go_sem, e0]
  ·have hb : tagB f.tag = false := decide_eq_false (by omega)
   rw [hb, Bool.false_and, if_neg (by simp)] at j2
   rw [j2] at e0
   have f1 : (f.tag < 1) = False := eq_false (by omega)
   have f2 : (f.tag > 500) = True := eq_true htg
   refine AW.rT (by rfl) fun K hK => ?_
   simp -implicitDefEqProofs only [go_sem, ↓reduceIte, Nat.reduceAdd, Nat.reduceEqDiff, hft, f1, f2]
   apply hK; clear hK K
   refine AW.cT rfl ?_
   refine AW.rT (by rfl) fun K hK => ?_
   simp -implicitDefEqProofs only [go_sem, Nat.reduceAdd]
   apply hK; clear hK K
   refine AW.ret ?_
   simp -implicitDefEqProofs only [go_sem, e0]
  have hb : tagB f.tag = true := decide_eq_true htg
  rw [hb, Bool.true_and] at j2
  have f1 : (f.tag < 1) = False := eq_false (by omega)
  have f2 : (f.tag > 500) = False := eq_false (by omega)
  cases hRc : m.res.contains f.tag with
  | true =>
   have hb : (m.res ++ T).contains f.tag = true := by
    rw [List.contains_iff_mem] at hRc ⊢
    exact List.mem_append_left _ hRc
   rw [hb, if_neg (by simp)] at j2
   rw [j2] at e0
   refine AW.rT (by rfl) fun K hK => ?_
   simp -implicitDefEqProofs only [go_sem, ↓reduceIte, Nat.reduceAdd, Nat.reduceEqDiff, Nat.reduceLeDiff, hft, f1, f2]
   refine ⟨.pure _, CRs, ?_⟩
   try simp -implicitDefEqProofs only [go_sem, ↓reduceIte, Nat.reduceAdd, Nat.reduceEqDiff, hRc]
   apply hK; clear hK K
   refine AW.cT rfl ?_
   refine AW.rT (by rfl) fun K hK => ?_
   simp -implicitDefEqProofs only [go_sem, Nat.reduceAdd]
   apply hK; clear hK K
   refine AW.ret ?_
   simp -implicitDefEqProofs only [go_sem, e0]
  | false =>
  have hb : (m.res ++ T).contains f.tag = false := by
   rw [contains_any] at hRc hTc ⊢
   rw [List.any_append, hRc, hTc]; rfl
  rw [hb, if_pos (by simp)] at j2
  refine AW.rT (by rfl) fun K hK => ?_
  simp -implicitDefEqProofs only [go_sem, ↓reduceIte, Nat.reduceAdd, Nat.reduceEqDiff, Nat.reduceLeDiff, hft, f1, f2]
  refine ⟨.pure _, CRs, ?_⟩
  try simp -implicitDefEqProofs only [go_sem, ↓reduceIte, Nat.reduceAdd, Nat.reduceEqDiff, hRc]
  apply hK; clear hK K
  refine AW.cF rfl ?_
  refine AW.skip ?_
  simp only [andThen]
  rcases label_cases f.label with hlb | hlb | hlb
  ·have hb : fieldB S f = false := by
    have : labelB f.label = false := decide_eq_false (by omega)
    unfold fieldB; rw [this]; rfl
   rw [hb, if_neg (by simp)] at j2
   rw [j2] at e0
   have g1 : (f.label < 1) = True := eq_true hlb
   refine AW.rT (by rfl) fun K hK => ?_
   simp -implicitDefEqProofs only [go_sem, ↓reduceIte, Nat.reduceAdd, Nat.reduceEqDiff, g1]
   apply hK; clear hK K
   refine AW.cT rfl ?_
   refine AW.rT (by rfl) fun K hK => ?_
   simp -implicitDefEqProofs only [go_sem, Nat.reduceAdd]
   apply hK; clear hK K
   refine AW.ret ?_
   simp -implicitDefEqProofs only [go_sem, e0]
  rotate_left
  ·have hb : fieldB S f = false := by
    have : labelB f.label = false := decide_eq_false (by omega)
    unfold fieldB; rw [this]; rfl
   rw [hb, if_neg (by simp)] at j2
   rw [j2] at e0
   have g1 : (f.label < 1) = False := eq_false (by omega)
   have g2 : (f.label > 3) = True := eq_true hlb
   refine AW.rT (by rfl) fun K hK => ?_
   simp -implicitDefEqProofs only [go_sem, ↓reduceIte, Nat.reduceAdd, Nat.reduceEqDiff, g1, g2]
   apply hK; clear hK K
   refine AW.cT rfl ?_
   refine AW.rT (by rfl) fun K hK => ?_
   simp -implicitDefEqProofs only [go_sem, Nat.reduceAdd]
   apply hK; clear hK K
   refine AW.ret ?_
   simp -implicitDefEqProofs only [go_sem, e0]
  have hb : fieldB S f = kindB S f.ty := by
   have : labelB f.label = true := decide_eq_true hlb
   unfold fieldB; rw [this]; rfl
  rw [hb] at j2
  have g1 : (f.label < 1) = False := eq_false (by omega)
  have g2 : (f.label > 3) = False := eq_false (by omega)
  have CK := ref07_kind S f.ty h1 h2
  simp only [encSc, encTy] at CK
  refine AW.rT (by rfl) fun K hK => ?_
  simp -implicitDefEqProofs only [go_sem, ↓reduceIte, Nat.reduceAdd, Nat.reduceEqDiff, Nat.reduceLeDiff, reduceCtorEq, g1, g2]
  refine ⟨.pure _, CK, ?_⟩
  try simp -implicitDefEqProofs only [go_sem, ↓reduceIte, Nat.reduceAdd, Nat.reduceEqDiff]
  cases hk : kindB S f.ty with
  | false =>
   rw [hk, if_neg (by simp)] at j2
   rw [j2] at e0
   simp -implicitDefEqProofs only [go_sem]
   apply hK; clear hK K
   refine AW.cT rfl ?_
   refine AW.rT (by rfl) fun K hK => ?_
   simp -implicitDefEqProofs only [go_sem, Nat.reduceAdd]
   apply hK; clear hK K
   refine AW.ret ?_
   simp -implicitDefEqProofs only [go_sem, e0]
  | true =>
   rw [hk, if_pos rfl] at j2
   simp -implicitDefEqProofs only [go_sem]
   apply hK; clear hK K
   refine AW.cF rfl ?_
   refine AW.skip ?_
   simp only [andThen, inBlk]
   refine AW.rE (by rfl) fun K hK => ?_
   simp -implicitDefEqProofs only [go_sem, ↓reduceIte, Nat.reduceAdd, Nat.reduceEqDiff, w1]
   apply hK; clear hK K
   refine ⟨j + 1, ⟨by omega, by rw [hnx, htx, ← List.append_assoc]; exact j2⟩, by omega, ?_⟩
   rw [hnx]
   refine Ghost.ent (fun l => if l = 2 then 24 else l) ?_ ?_ ?_ <;> simp -implicitDefEqProofs only [go_sem, ↓reduceIte, Nat.reduceEqDiff, reduceCtorEq, encS, List.map_append, liftE_append, liftE_cons, liftE_nil, List.forall_mem_cons, List.not_mem_nil, false_implies, implies_true, and_self, map_renL_lift, labsIn_lift, List.all_append, List.all_cons, List.all_nil, List.map_append, Nat.reduceLT, labsInL, AV.labsIn]
 obtain ⟨t, ht⟩ : ∃ t, m.res[i]? = some t := ⟨_, List.getElem?_eq_getElem hil⟩
 have ⟨ht1, ht2, ht3⟩ := at_map' encI ht
 have ht3' : (m.res.map encI).getD i [] = [.int .i64 t] := ht3
 have hc1 : ((i : Int) < (m.res.length : Int)) = True := eq_true (by omega)
 have hi3 : ((i : Int) ≤ (m.res.length : Int)) := by omega
 have w1 : IntKind.wrap .i64 ((i : Int) + 1) = ((i + 1 : Nat) : Int) := by rw [w64] <;> omega
 rw [resBad_at ht] at i2
 have hnx : m.res.take (i + 1) = m.res.take i ++ [t] := by rw [List.take_add_one, ht]; rfl
 have CRs := ref07_Reserved ⟨[], [], m.res.take i⟩ t (by show (m.res.take i).length ≤ 1000000; rw [List.length_take]; omega)
 have eF : encMs ⟨[], [], m.res.take i⟩ = [.str [], .slice [], .slice ((m.res.map encI).take i)] := by simp [encMs, List.map_take]
 rw [eF] at CRs
 refine AW.rT (by rfl) fun K hK => ?_
 simp -implicitDefEqProofs only [go_sem, ↓reduceIte, Nat.reduceAdd, Nat.reduceEqDiff, hc1, List.length_map]
 apply hK; clear hK K
 refine AW.cT rfl ?_
 refine AW.skip ?_
 simp only [andThen]
 refine AW.seq ?_
 refine AW.block ?_
 rcases tag_split t with htg | htg | htg
 ·have hb : tagB t = false := decide_eq_false (by omega)
  rw [hb, Bool.false_and, if_neg (by simp)] at i2
  rw [i2, if_pos rfl] at e0
  have f1 : (t < 1) = True := eq_true htg
  refine AW.dT mixed (by rfl) (by decide +kernel) fun K hK => ?_
  simp -implicitDefEqProofs only [go_sem, ↓reduceIte, Nat.reduceAdd, Nat.reduceEqDiff, ht1, ht3', hc1, List.length_map, f1]
  refine ⟨heapOK_nil rfl, ?_⟩
  apply hK; clear hK K
  refine AW.cT rfl ?_
  refine AW.rT (by rfl) fun K hK => ?_
  simp -implicitDefEqProofs only [go_sem, Nat.reduceAdd]
  apply hK; clear hK K
  refine AW.ret ?_
  simp -implicitDefEqProofs only [go_sem, e0]
 ·have hb : tagB t = false := decide_eq_false (by omega)
  rw [hb, Bool.false_and, if_neg (by simp)] at i2
  rw [i2, if_pos rfl] at e0
  have f1 : (t < 1) = False := eq_false (by omega)
  have f2 : (t > 500) = True := eq_true htg
  refine AW.dT mixed (by rfl) (by decide +kernel) fun K hK => ?_
  simp -implicitDefEqProofs only [go_sem, ↓reduceIte, Nat.reduceAdd, Nat.reduceEqDiff, ht1, ht3', hc1, List.length_map, f1, f2]
  refine ⟨heapOK_nil rfl, ?_⟩
  apply hK; clear hK K
  refine AW.cT rfl ?_
  refine AW.rT (by rfl) fun K hK => ?_
  simp -implicitDefEqProofs only [go_sem, Nat.reduceAdd]
  apply hK; clear hK K
  refine AW.ret ?_
  simp -implicitDefEqProofs only [go_sem, e0]
 have hb : tagB t = true := decide_eq_true htg
 rw [hb, Bool.true_and] at i2
 have f1 : (t < 1) = False := eq_false (by omega)
 have f2 : (t > 500) = False := eq_false (by omega)
 cases hus : (m.res.take i).contains t with
 | true =>
  rw [hus, if_neg (by simp)] at i2
  rw [i2, if_pos rfl] at e0
  refine AW.dT mixed (by rfl) (by decide +kernel) fun K hK => ?_
  simp -implicitDefEqProofs only [go_sem, ↓reduceIte, Nat.reduceAdd, Nat.reduceEqDiff, Nat.reduceLeDiff, ht1, ht3', hc1, List.length_map, f1, f2]
  refine ⟨len_encI, by simp, ⟨by simp, by simp <;> omega⟩, ?_⟩
  try simp -implicitDefEqProofs only [go_sem, ↓reduceIte, Nat.reduceAdd, Nat.reduceMul, Nat.reduceEqDiff, Nat.reduceLeDiff, reduceCtorEq, Int.reduceToNat, ht1, ht2, ht3', hc1, List.length_map, f1, f2]
  refine ⟨.pure _, CRs, ?_⟩
  try simp -implicitDefEqProofs only [go_sem, ↓reduceIte, Nat.reduceAdd, Nat.reduceEqDiff, hus]
  refine ⟨heapOK_nil rfl, ?_⟩
  apply hK; clear hK K
  refine AW.cT rfl ?_
  refine AW.rT (by rfl) fun K hK => ?_
  simp -implicitDefEqProofs only [go_sem, Nat.reduceAdd]
  apply hK; clear hK K
  refine AW.ret ?_
  simp -implicitDefEqProofs only [go_sem, e0]
 | false =>
  rw [hus, if_pos (by simp)] at i2
  refine AW.dT mixed (by rfl) (by decide +kernel) fun K hK => ?_
  simp -implicitDefEqProofs only [go_sem, ↓reduceIte, Nat.reduceAdd, Nat.reduceEqDiff, Nat.reduceLeDiff, ht1, ht3', hc1, List.length_map, f1, f2]
  refine ⟨len_encI, by simp, ⟨by simp, by simp <;> omega⟩, ?_⟩
  try simp -implicitDefEqProofs only [go_sem, ↓reduceIte, Nat.reduceAdd, Nat.reduceMul, Nat.reduceEqDiff, Nat.reduceLeDiff, reduceCtorEq, Int.reduceToNat, ht1, ht2, ht3', hc1, List.length_map, f1, f2]
  refine ⟨.pure _, CRs, ?_⟩
  try simp -implicitDefEqProofs only [go_sem, ↓reduceIte, Nat.reduceAdd, Nat.reduceEqDiff, hus]
  refine ⟨heapOK_nil rfl, ?_⟩
  apply hK; clear hK K
  refine AW.cF rfl ?_
  refine AW.skip ?_
  simp only [andThen, inBlk]
  refine AW.rE (by rfl) fun K hK => ?_
  simp -implicitDefEqProofs only [go_sem, ↓reduceIte, Nat.reduceAdd, Nat.reduceEqDiff, w1]
  apply hK; clear hK K
  refine ⟨i + 1, ⟨by omega, by rw [hnx]; exact i2⟩, by omega, ?_⟩
  refine Ghost.sub ?_ ?_ <;> simp -implicitDefEqProofs only [go_sem, ↓reduceIte, Nat.reduceEqDiff, List.forall_mem_cons, List.not_mem_nil, false_implies, implies_true, and_self, List.all_cons, List.all_nil, Nat.reduceLT, labsInL, AV.labsIn]
end Go.Aw
namespace Go.Aw
open Go.Proofs Go.RowKit
def numB (n : Int) : Bool := decide (0 ≤ n ∧ n ≤ 2147483647)
def valsC (ns : List (List UInt8)) (us : List Int) : List Nm → Int
 | [] => 0
 | v :: l => if takesB ns v.name = true then (if (numB v.n && !us.contains v.n) = true then valsC (ns ++ [v.name]) (us ++ [v.n]) l else 11) else 6
theorem valsC_at {l : List Nm} {i : Nat} {v : Nm} {ns : List (List UInt8)} {us : List Int} (h : l[i]? = some v) :
  valsC ns us (l.drop i) = if takesB ns v.name = true then (if (numB v.n && !us.contains v.n) = true then valsC (ns ++ [v.name]) (us ++ [v.n]) (l.drop (i + 1)) else 11) else 6 := by
 rw [List.drop_eq_getElem_cons (List.getElem?_eq_some_iff.1 h).1, (List.getElem?_eq_some_iff.1 h).2, valsC]
def enumBody (e : En) : Int := if e.vals.length > 16 then 4 else if (e.vals.any fun v => v.n == 0) = true then valsC [] [] e.vals else 12
def enumC (ns : List (List UInt8)) (e : En) : Int := if takesB ns e.name = true then enumBody e else 6
def lensV (e : En) : Prop := e.name.length ≤ 1000000000 ∧ ∀ v ∈ e.vals, v.name.length ≤ 1000000000
def zeroB (e : En) (i : Nat) : Bool := (e.vals.take i).any fun v => v.n == 0
theorem zeroB_next {e : En} {i : Nat} {v : Nm} (h : e.vals[i]? = some v) : zeroB e (i + 1) = (zeroB e i || v.n == 0) := by
 unfold zeroB
 rw [List.take_add_one, h, List.any_append]
 simp
theorem num_split (n : Int) : n < 0 ∨ 2147483647 < n ∨ (0 ≤ n ∧ n ≤ 2147483647) := by omega
def en1 (e : En) (ns : List (List UInt8)) (i : Nat) : St := ⟨ofL [(0, .map 0), (3, .ptr 1 0 0), (5, .p (.bool (zeroB e i))), (24, .p (.slice (e.vals.map encNm))), (25, .p (.int .i64 (e.vals.length : Int))), (26, .p (.int .i64 (i : Int)))],
 ofH [(0, .map (mS ns)), (1, .row 2 [cellsEn e])], 2⟩
def en2 (e : En) (ns : List (List UInt8)) (i : Nat) : St := ⟨ofL [(0, .map 0), (8, .map 1), (9, .map 2), (42, .p (.slice (e.vals.map encNm))), (43, .p (.int .i64 (e.vals.length : Int))), (44, .p (.int .i64 (i : Int)))],
 ofH [(0, .map (mS ns)), (1, .map (mS ((e.vals.take i).map Nm.name))), (2, .map (mI ((e.vals.take i).map Nm.n)))], 3⟩
theorem check_enum (ns : List (List UInt8)) (e : En) (hm : lensV e) :
  LFn Tryd.prog 94 [.map (setM ns), .v (.agg (encEn e))] [some (.map (setM (takeN ns e.name))), none] (.int .i64 (enumC ns e)) := by
 refine LFn.of Tryd.func94 rfl (by decide) Tryd.ntmps94 Tryd.results94 (Nat.le_of_ble_eq_true rfl) rfl fun val => ?_
 simp only [laT, laH, laPins, LA.av, List.length_cons, List.length_nil, lift_setM, encEn]
 refine AW.rT (by rfl) fun K hK => ?_
 simp -implicitDefEqProofs only [go_sem, ↓reduceIte, Nat.reduceAdd]
 apply hK; clear hK K
 refine AW.seq ?_
 refine AW.block ?_
 have TK := check_takes ns e.name hm.1
 cases ht : takesB ns e.name with
 | false =>
  have er : enumC ns e = 6 := by unfold enumC; rw [ht]; rfl
  have e2 : takeN ns e.name = ns := by unfold takeN; rw [ht]; rfl
  rw [ht, e2] at TK
  refine AW.rT (by rfl) fun K hK => ?_
  simp -implicitDefEqProofs only [go_sem, ↓reduceIte, Nat.reduceAdd, Nat.reduceEqDiff, reduceCtorEq]
  refine ⟨.lend [some 0, none] [.map (setM ns), .v (.str e.name)] [some (.map (setM ns)), none] (.bool false), ⟨TK, rfl, ?_⟩, ?_⟩
  ·simp -implicitDefEqProofs only [go_sem, ↓reduceIte, Nat.reduceEqDiff, reduceCtorEq, lift_setM]
  try simp -implicitDefEqProofs only [go_sem, Nat.reduceAdd, lift_setM]
  apply hK; clear hK K
  refine AW.cT rfl ?_
  refine AW.rT (by rfl) fun K hK => ?_
  simp -implicitDefEqProofs only [go_sem, Nat.reduceAdd]
  apply hK; clear hK K
  refine AW.ret (show _ ∧ ((∃ l, _ ∧ _) ∧ True) from ⟨?_, ⟨0, ?_, ?_⟩, trivial⟩) <;> simp -implicitDefEqProofs only [go_sem, ↓reduceIte, reduceCtorEq, er, e2, lift_setM]
 | true =>
 have e0 : enumC ns e = enumBody e := by unfold enumC; rw [ht]; rfl
 have e2 : takeN ns e.name = ns ++ [e.name] := by unfold takeN; rw [ht]; rfl
 rw [ht, e2] at TK
 refine AW.rT (by rfl) fun K hK => ?_
 simp -implicitDefEqProofs only [go_sem, ↓reduceIte, Nat.reduceAdd, Nat.reduceEqDiff, reduceCtorEq]
 refine ⟨.lend [some 0, none] [.map (setM ns), .v (.str e.name)] [some (.map (setM (ns ++ [e.name]))), none] (.bool true), ⟨TK, rfl, ?_⟩, ?_⟩
 ·simp -implicitDefEqProofs only [go_sem, ↓reduceIte, Nat.reduceEqDiff, reduceCtorEq, lift_setM]
 try simp -implicitDefEqProofs only [go_sem, Nat.reduceAdd, lift_setM]
 apply hK; clear hK K
 refine AW.cF rfl ?_
 generalize ns ++ [e.name] = ns' at *
 by_cases c1 : e.vals.length > 16
 ·have b1 : ((e.vals.length : Int) > 16) = True := eq_true (by omega)
  have er : enumC ns e = 4 := by rw [e0]; unfold enumBody; rw [if_pos c1]
  refine AW.rT (by rfl) fun K hK => ?_
  simp -implicitDefEqProofs only [go_sem, ↓reduceIte, Nat.reduceAdd, Nat.reduceEqDiff, reduceCtorEq, b1, List.length_map]
  apply hK; clear hK K
  refine AW.cT rfl ?_
  refine AW.rT (by rfl) fun K hK => ?_
  simp -implicitDefEqProofs only [go_sem, Nat.reduceAdd]
  apply hK; clear hK K
  refine AW.ret (show _ ∧ ((∃ l, _ ∧ _) ∧ True) from ⟨?_, ⟨0, ?_, ?_⟩, trivial⟩) <;> simp -implicitDefEqProofs only [go_sem, ↓reduceIte, reduceCtorEq, er, e2, lift_setM]
 have b1 : ((e.vals.length : Int) > 16) = False := eq_false (by omega)
 have e0 : enumC ns e = if (e.vals.any fun v => v.n == 0) = true then valsC [] [] e.vals else 12 := by rw [e0]; unfold enumBody; rw [if_neg c1]
 refine AW.rT (by rfl) fun K hK => ?_
 simp -implicitDefEqProofs only [go_sem, ↓reduceIte, Nat.reduceAdd, Nat.reduceEqDiff, reduceCtorEq, b1, List.length_map]
 apply hK; clear hK K
 refine AW.cF rfl ?_
 refine AW.skip ?_
 simp only [andThen, inBlk]
 refine AW.rT (by rfl) fun K hK => ?_
 simp -implicitDefEqProofs only [go_sem, Nat.reduceAdd]
 apply hK; clear hK K
 refine AW.seq ?_
 refine AW.rT (by rfl) fun K hK => ?_
 simp -implicitDefEqProofs only [go_sem, ↓reduceIte, Nat.reduceAdd, Nat.reduceEqDiff, reduceCtorEq, List.length_map]
 apply hK; clear hK K
 refine AW.block ?_
 refine AW.loop (en1 e ns') (fun i => i ≤ e.vals.length) (fun i => e.vals.length - i) 0 ?_ (by omega) fun i i1 => ?_
 ·simp only [en1, cellsEn]
  refine Ghost.ent (fun l => if l = 0 then 0 else 2) ?_ ?_ ?_ <;> simp -implicitDefEqProofs only [go_sem, ↓reduceIte, Nat.reduceEqDiff, reduceCtorEq, zeroB, List.take_zero, List.any_nil, List.forall_mem_cons, List.not_mem_nil, false_implies, implies_true, and_self, List.all_cons, List.all_nil, Nat.reduceLT, labsInL, AV.labsIn]
  all_goals first | rfl | decide | skip
 simp only [en1, cellsEn]
 by_cases hil : i < e.vals.length
 case neg =>
  have hc1 : ((i : Int) < (e.vals.length : Int)) = False := eq_false (by omega)
  have ez : zeroB e i = e.vals.any fun v => v.n == 0 := by unfold zeroB; rw [List.take_of_length_le (by omega)]
  rw [← ez] at e0
  clear hil
  refine AW.rT (by rfl) fun K hK => ?_
  simp -implicitDefEqProofs only [go_sem, ↓reduceIte, Nat.reduceAdd, Nat.reduceEqDiff, reduceCtorEq, hc1]
  apply hK; clear hK K
  refine AW.seq ?_
  refine AW.cF rfl ?_
  refine AW.exit ?_
  simp only [andThen, inBlk, ↓reduceIte]
  refine AW.seq ?_
  cases hz : zeroB e i with
  | false =>
   rw [hz, if_neg (by simp)] at e0
   refine AW.rT (by rfl) fun K hK => ?_
   simp -implicitDefEqProofs only [go_sem, ↓reduceIte, Nat.reduceAdd, Nat.reduceEqDiff, reduceCtorEq]
   apply hK; clear hK K
   refine AW.cT rfl ?_
   refine AW.rT (by rfl) fun K hK => ?_
   simp -implicitDefEqProofs only [go_sem, Nat.reduceAdd]
   apply hK; clear hK K
   refine AW.ret (show _ ∧ ((∃ l, _ ∧ _) ∧ True) from ⟨?_, ⟨0, ?_, ?_⟩, trivial⟩) <;> simp -implicitDefEqProofs only [go_sem, ↓reduceIte, reduceCtorEq, e0, e2, lift_setM]
  | true =>
  rw [hz, if_pos rfl] at e0
  refine AW.rT (by rfl) fun K hK => ?_
  simp -implicitDefEqProofs only [go_sem, ↓reduceIte, Nat.reduceAdd, Nat.reduceEqDiff, reduceCtorEq]
  apply hK; clear hK K
  refine AW.cF rfl ?_
  refine AW.skip ?_
  simp only [andThen]
  refine AW.rT (by rfl) fun K hK => ?_
  simp -implicitDefEqProofs only [go_sem, ↓reduceIte, Nat.reduceAdd, Nat.reduceEqDiff]
  apply hK; clear hK K
  refine AW.seq ?_
  refine AW.rT (by rfl) fun K hK => ?_
  simp -implicitDefEqProofs only [go_sem, ↓reduceIte, Nat.reduceAdd, Nat.reduceEqDiff, reduceCtorEq, List.length_map]
  apply hK; clear hK K
  refine AW.block ?_
  refine AW.loop (en2 e ns') (fun i => i ≤ e.vals.length ∧ valsC [] [] e.vals = valsC ((e.vals.take i).map Nm.name) ((e.vals.take i).map Nm.n) (e.vals.drop i)) (fun i => e.vals.length - i) 0 ?_ ⟨by omega, by simp⟩ fun j hj => ?_
  ·simp only [en2]
   refine Ghost.ent (fun l => if l = 0 then 0 else if l = 1 then 5 else 6) ?_ ?_ ?_ <;> simp -implicitDefEqProofs only [go_sem, ↓reduceIte, Nat.reduceEqDiff, reduceCtorEq, List.take_zero, List.map_nil, mS_nil, mI_nil, List.forall_mem_cons, List.not_mem_nil, false_implies, implies_true, and_self, List.all_nil, Nat.reduceLT, AV.labsIn]
   all_goals first | rfl | decide | skip
  obtain ⟨j1, j2⟩ := hj
  simp only [en2]
  by_cases hjl : j < e.vals.length
  case neg =>
   have hc1 : ((j : Int) < (e.vals.length : Int)) = False := eq_false (by omega)
   rw [List.drop_of_length_le (by omega), valsC] at j2
   rw [j2] at e0
   refine AW.rT (by rfl) fun K hK => ?_
   simp -implicitDefEqProofs only [go_sem, ↓reduceIte, Nat.reduceAdd, Nat.reduceEqDiff, reduceCtorEq, hc1]
   apply hK; clear hK K
   refine AW.seq ?_
   refine AW.cF rfl ?_
   refine AW.exit ?_
   simp only [andThen, inBlk, ↓reduceIte]
   refine AW.rT (by rfl) fun K hK => ?_
   simp -implicitDefEqProofs only [go_sem, Nat.reduceAdd]
   apply hK; clear hK K
   refine AW.ret (show _ ∧ ((∃ l, _ ∧ _) ∧ True) from ⟨?_, ⟨0, ?_, ?_⟩, trivial⟩) <;> simp -implicitDefEqProofs only [go_sem, ↓reduceIte, reduceCtorEq, e0, e2, lift_setM]
  obtain ⟨v, hv⟩ : ∃ v, e.vals[j]? = some v := ⟨_, List.getElem?_eq_getElem hjl⟩
  have ⟨hv1, hv2, hv3⟩ := at_map' encNm hv
  have hc1 : ((j : Int) < (e.vals.length : Int)) = True := eq_true (by omega)
  have w1 : IntKind.wrap .i64 ((j : Int) + 1) = ((j + 1 : Nat) : Int) := by rw [w64] <;> omega
  rw [valsC_at hv] at j2
  have hnx := take_map_next Nm.name hv
  have htx := take_map_next Nm.n hv
  generalize hN : (e.vals.take j).map Nm.name = N at *
  generalize hT : (e.vals.take j).map Nm.n = T at *
  have TK := check_takes N v.name (hm.2 v (List.mem_of_getElem? hv))
  refine AW.rT (by rfl) fun K hK => ?_
  simp -implicitDefEqProofs only [go_sem, ↓reduceIte, Nat.reduceAdd, Nat.reduceEqDiff, reduceCtorEq, hc1]
  apply hK; clear hK K
  refine AW.seq ?_
  refine AW.cT rfl ?_
  refine AW.skip ?_
  simp only [andThen]
  refine AW.seq ?_
  refine AW.block ?_
  refine AW.rT (by rfl) fun K hK => ?_
  simp -implicitDefEqProofs only [go_sem, ↓reduceIte, Nat.reduceAdd, Nat.reduceEqDiff, Nat.reduceLeDiff, reduceCtorEq, hv1, hv3, hc1, encNm, List.length_map]
  apply hK; clear hK K
  refine AW.seq ?_
  refine AW.block ?_
  cases ht2 : takesB N v.name with
  | false =>
   have e3 : takeN N v.name = N := by unfold takeN; rw [ht2]; rfl
   rw [ht2, e3] at TK
   rw [ht2, if_neg (by simp)] at j2
   rw [j2] at e0
   refine AW.rT (by rfl) fun K hK => ?_
   simp -implicitDefEqProofs only [go_sem, ↓reduceIte, Nat.reduceAdd, Nat.reduceEqDiff, reduceCtorEq]
   refine ⟨.lend [some 1, none] [.map (setM N), .v (.str v.name)] [some (.map (setM N)), none] (.bool false), ⟨TK, rfl, ?_⟩, ?_⟩
   ·simp -implicitDefEqProofs only [go_sem, ↓reduceIte, Nat.reduceEqDiff, lift_setM]
   try simp -implicitDefEqProofs only [go_sem, Nat.reduceAdd, lift_setM]
   apply hK; clear hK K
   refine AW.cT rfl ?_
   refine AW.rT (by rfl) fun K hK => ?_
   simp -implicitDefEqProofs only [go_sem, Nat.reduceAdd]
   apply hK; clear hK K
   refine AW.ret (show _ ∧ ((∃ l, _ ∧ _) ∧ True) from ⟨?_, ⟨0, ?_, ?_⟩, trivial⟩) <;> simp -implicitDefEqProofs only [go_sem, ↓reduceIte, reduceCtorEq, e0, e2, lift_setM]
  | true =>
  have e3 : takeN N v.name = N ++ [v.name] := by unfold takeN; rw [ht2]; rfl
  rw [ht2, e3] at TK
  rw [ht2, if_pos rfl] at j2
  refine AW.rT (by rfl) fun K hK => ?_
  simp -implicitDefEqProofs only [go_sem, ↓reduceIte, Nat.reduceAdd, Nat.reduceEqDiff, reduceCtorEq]
  refine ⟨.lend [some 1, none] [.map (setM N), .v (.str v.name)] [some (.map (setM (N ++ [v.name]))), none] (.bool true), ⟨TK, rfl, ?_⟩, ?_⟩
  ·simp -implicitDefEqProofs only [go_sem, ↓reduceIte, Nat.reduceEqDiff, lift_setM]
  try simp -implicitDefEqProofs only [go_sem, Nat.reduceAdd, lift_setM]
  apply hK; clear hK K
  refine AW.cF rfl ?_
  rcases num_split v.n with hnb | hnb | hnb
  ·have hb : numB v.n = false := decide_eq_false (by omega)
   rw [hb, Bool.false_and, if_neg (by simp)] at j2
   rw [j2] at e0
   have f1 : (v.n < 0) = True := eq_true hnb
   refine AW.rT (by rfl) fun K hK => ?_
   simp -implicitDefEqProofs only [go_sem, ↓reduceIte, Nat.reduceAdd, Nat.reduceEqDiff, f1]
   apply hK; clear hK K
   refine AW.cT rfl ?_
   refine AW.rT (by rfl) fun K hK => ?_
   simp -implicitDefEqProofs only [go_sem, Nat.reduceAdd]
   apply hK; clear hK K
   refine AW.ret (show _ ∧ ((∃ l, _ ∧ _) ∧ True) from ⟨?_, ⟨0, ?_, ?_⟩, trivial⟩) <;> simp -implicitDefEqProofs only [go_sem, ↓reduceIte, reduceCtorEq, e0, e2, lift_setM]
  ·have hb : numB v.n = false := decide_eq_false (by omega)
   rw [hb, Bool.false_and, if_neg (by simp)] at j2
   rw [j2] at e0
   have f1 : (v.n < 0) = False := eq_false (by omega)
   have f2 : (v.n > 2147483647) = True := eq_true hnb
   refine AW.rT (by rfl) fun K hK => ?_
   simp -implicitDefEqProofs only [go_sem, ↓reduceIte, Nat.reduceAdd, Nat.reduceEqDiff, f1, f2]
   apply hK; clear hK K
   refine AW.cT rfl ?_
   refine AW.rT (by rfl) fun K hK => ?_
   simp -implicitDefEqProofs only [go_sem, Nat.reduceAdd]
   apply hK; clear hK K
   refine AW.ret (show _ ∧ ((∃ l, _ ∧ _) ∧ True) from ⟨?_, ⟨0, ?_, ?_⟩, trivial⟩) <;> simp -implicitDefEqProofs only [go_sem, ↓reduceIte, reduceCtorEq, e0, e2, lift_setM]
  have hb : numB v.n = true := decide_eq_true hnb
  rw [hb, Bool.true_and] at j2
  have f1 : (v.n < 0) = False := eq_false (by omega)
  have f2 : (v.n > 2147483647) = False := eq_false (by omega)
  cases hus : T.contains v.n with
  | true =>
   rw [hus, if_neg (by simp)] at j2
   rw [j2] at e0
   obtain ⟨q, hq⟩ := mI_yes hus
   refine AW.rT (by rfl) fun K hK => ?_
   simp -implicitDefEqProofs only [go_sem, ↓reduceIte, Nat.reduceAdd, Nat.reduceEqDiff, reduceCtorEq, f1, f2]
   refine ⟨keyI v.n, _, hq, _, rfl, ?_⟩
   try simp -implicitDefEqProofs only [go_sem, ↓reduceIte, Nat.reduceAdd, Nat.reduceMul, Nat.reduceEqDiff, Nat.reduceLeDiff, reduceCtorEq, Int.reduceToNat]
   apply hK; clear hK K
   refine AW.cT rfl ?_
   refine AW.rT (by rfl) fun K hK => ?_
   simp -implicitDefEqProofs only [go_sem, Nat.reduceAdd]
   apply hK; clear hK K
   refine AW.ret (show _ ∧ ((∃ l, _ ∧ _) ∧ True) from ⟨?_, ⟨0, ?_, ?_⟩, trivial⟩) <;> simp -implicitDefEqProofs only [go_sem, ↓reduceIte, reduceCtorEq, e0, e2, lift_setM]
  | false =>
   rw [hus, if_pos (by simp)] at j2
   have hq := mI_no hus
   refine AW.rT (by rfl) fun K hK => ?_
   simp -implicitDefEqProofs only [go_sem, ↓reduceIte, Nat.reduceAdd, Nat.reduceEqDiff, reduceCtorEq, f1, f2]
   refine ⟨keyI v.n, _, hq, _, rfl, ?_⟩
   try simp -implicitDefEqProofs only [go_sem, ↓reduceIte, Nat.reduceAdd, Nat.reduceMul, Nat.reduceEqDiff, Nat.reduceLeDiff, reduceCtorEq, Int.reduceToNat]
   apply hK; clear hK K
   refine AW.cF rfl ?_
   refine AW.skip ?_
   simp only [andThen, inBlk]
   refine AW.rE (by rfl) fun K hK => ?_
   simp -implicitDefEqProofs only [go_sem, ↓reduceIte, Nat.reduceAdd, Nat.reduceEqDiff, reduceCtorEq]
   refine ⟨keyI v.n, _, hq, ?_⟩
   try simp -implicitDefEqProofs only [go_sem]
   apply hK; clear hK K
   simp only [andThen, inBlk]
   refine AW.rE (by rfl) fun K hK => ?_
   simp -implicitDefEqProofs only [go_sem, ↓reduceIte, Nat.reduceAdd, Nat.reduceEqDiff, reduceCtorEq, w1]
   apply hK; clear hK K
   refine ⟨j + 1, ⟨by omega, by rw [hnx, htx]; exact j2⟩, by omega, ?_⟩
   rw [hnx, htx]
   refine Ghost.sub ?_ ?_ <;> simp -implicitDefEqProofs only [go_sem, ↓reduceIte, Nat.reduceEqDiff, reduceCtorEq, mI_add, List.forall_mem_cons, List.not_mem_nil, false_implies, implies_true, and_self, Nat.reduceLT, AV.labsIn]
 obtain ⟨v, hv⟩ : ∃ v, e.vals[i]? = some v := ⟨_, List.getElem?_eq_getElem hil⟩
 have ⟨hv1, hv2, hv3⟩ := at_map' encNm hv
 have hc1 : ((i : Int) < (e.vals.length : Int)) = True := eq_true (by omega)
 have w1 : IntKind.wrap .i64 ((i : Int) + 1) = ((i + 1 : Nat) : Int) := by rw [w64] <;> omega
 have hz := zeroB_next hv
 refine AW.rT (by rfl) fun K hK => ?_
 simp -implicitDefEqProofs only [go_sem, ↓reduceIte, Nat.reduceAdd, Nat.reduceEqDiff, reduceCtorEq, hc1]
 apply hK; clear hK K
 refine AW.seq ?_
 refine AW.cT rfl ?_
 refine AW.skip ?_
 simp only [andThen]
 refine AW.seq ?_
 refine AW.block ?_
 refine AW.rT (by rfl) fun K hK => ?_
 simp -implicitDefEqProofs only [go_sem, ↓reduceIte, Nat.reduceAdd, Nat.reduceEqDiff, Nat.reduceLeDiff, reduceCtorEq, hv1, hv3, hc1, encNm, List.length_map]
 apply hK; clear hK K
 cases hb : zeroB e i with
 | true =>
  rw [hb, Bool.true_or] at hz
  refine AW.rE (by rfl) fun K hK => ?_
  simp -implicitDefEqProofs only [go_sem, ↓reduceIte, Nat.reduceAdd, Nat.reduceEqDiff, reduceCtorEq]
  apply hK; clear hK K
  simp only [andThen, inBlk]
  refine AW.rE (by rfl) fun K hK => ?_
  simp -implicitDefEqProofs only [go_sem, ↓reduceIte, Nat.reduceAdd, Nat.reduceEqDiff, reduceCtorEq, w1]
  apply hK; clear hK K
  refine ⟨i + 1, by omega, by omega, ?_⟩
  refine Ghost.sub ?_ ?_ <;> simp -implicitDefEqProofs only [go_sem, ↓reduceIte, Nat.reduceEqDiff, reduceCtorEq, hz, List.forall_mem_cons, List.not_mem_nil, false_implies, implies_true, and_self, List.all_cons, List.all_nil, Nat.reduceLT, labsInL, AV.labsIn]
 | false =>
  rw [hb, Bool.false_or] at hz
  refine AW.rE (by rfl) fun K hK => ?_
  simp -implicitDefEqProofs only [go_sem, ↓reduceIte, Nat.reduceAdd, Nat.reduceEqDiff, reduceCtorEq]
  apply hK; clear hK K
  simp only [andThen, inBlk]
  refine AW.rE (by rfl) fun K hK => ?_
  simp -implicitDefEqProofs only [go_sem, ↓reduceIte, Nat.reduceAdd, Nat.reduceEqDiff, reduceCtorEq, w1]
  apply hK; clear hK K
  refine ⟨i + 1, by omega, by omega, ?_⟩
  refine Ghost.sub ?_ ?_ <;> simp -implicitDefEqProofs only [go_sem, ↓reduceIte, Nat.reduceEqDiff, reduceCtorEq, hz, List.forall_mem_cons, List.not_mem_nil, false_implies, implies_true, and_self, List.all_cons, List.all_nil, Nat.reduceLT, labsInL, AV.labsIn]
def re1 (e : En) (i : Nat) : St := ⟨ofL [(1, .ptr 0 0 0), (3, .p (.bool (zeroB e i))), (4, .p (.int .i64 (i : Int)))], ofH [(0, .row 2 [cellsEn e])], 1⟩
def re2 (e : En) (i : Nat) : St := ⟨ofL [(1, .ptr 0 0 0), (5, .own 1), (6, .p (.int .i64 (i : Int)))], ofH [(0, .row 2 [cellsEn e]), (1, .row 1 (liftE (((e.vals.take i).map Nm.name).map encS)))], 2⟩
def re3 (e : En) (v : Nm) (ns : List (List UInt8)) (i k : Nat) : St := ⟨ofL [(1, .ptr 0 0 0), (5, .own 1), (6, .p (.int .i64 (i : Int))), (7, .ptr 2 0 0), (8, .p (.int .i64 (k : Int)))], ofH [(0, .row 2 [cellsEn e]), (1, .row 1 (liftE (ns.map encS))), (2, .row 2 [[.p (.str v.name), .p (.int .i64 v.n)]])], 3⟩
theorem ref07_enum (e : En) (hm : lensV e) : PFn Tryd.prog 89 [.agg (encEn e)] (.int .i64 (enumBody e)) := by
 refine PFn.of Tryd.func89 rfl (by decide) Tryd.ntmps89 Tryd.results89 (Nat.le_of_ble_eq_true rfl) ?_
 simp only [argsT, encEn]
 refine AW.rT (by rfl) fun K hK => ?_
 simp -implicitDefEqProofs only [go_sem, Nat.reduceAdd]
 apply hK; clear hK K
 refine AW.seq ?_
 by_cases c1 : e.vals.length > 16
 ·have b1 : ((e.vals.length : Int) > 16) = True := eq_true (by omega)
  have er : enumBody e = 4 := by unfold enumBody; rw [if_pos c1]
  refine AW.rT (by rfl) fun K hK => ?_
  simp -implicitDefEqProofs only [go_sem, ↓reduceIte, Nat.reduceAdd, Nat.reduceEqDiff, b1, List.length_map]
  apply hK; clear hK K
  refine AW.cT rfl ?_
  refine AW.rT (by rfl) fun K hK => ?_
  simp -implicitDefEqProofs only [go_sem, Nat.reduceAdd]
  apply hK; clear hK K
  refine AW.ret ?_
  simp -implicitDefEqProofs only [go_sem, er]
 have b1 : ((e.vals.length : Int) > 16) = False := eq_false (by omega)
 have e0 : enumBody e = if (e.vals.any fun v => v.n == 0) = true then valsC [] [] e.vals else 12 := by unfold enumBody; rw [if_neg c1]
 refine AW.rT (by rfl) fun K hK => ?_
 simp -implicitDefEqProofs only [go_sem, ↓reduceIte, Nat.reduceAdd, Nat.reduceEqDiff, b1, List.length_map]
 apply hK; clear hK K
 refine AW.cF rfl ?_
 refine AW.skip ?_
 simp only [andThen]
 refine AW.rT (by rfl) fun K hK => ?_
 simp -implicitDefEqProofs only [go_sem, Nat.reduceAdd]
 apply hK; clear hK K
 refine AW.seq ?_
 refine AW.rT (by rfl) fun K hK => ?_
 simp -implicitDefEqProofs only [go_sem, Nat.reduceAdd]
 apply hK; clear hK K
 refine AW.block ?_
 refine AW.loop (re1 e) (fun i => i ≤ e.vals.length) (fun i => e.vals.length - i) 0 ?_ (by omega) fun i i1 => ?_
 ·simp only [re1, cellsEn]
  refine Ghost.sub ?_ ?_ <;> simp -implicitDefEqProofs only [go_sem, ↓reduceIte, Nat.reduceEqDiff, zeroB, List.take_zero, List.any_nil, List.forall_mem_cons, List.not_mem_nil, false_implies, implies_true, and_self, List.all_cons, List.all_nil, Nat.reduceLT, labsInL, AV.labsIn]
  all_goals first | rfl | decide | skip
 simp only [re1, cellsEn]
 refine AW.seq ?_
 by_cases hil : i < e.vals.length
 case neg =>
  have hc1 : ((i : Int) < (e.vals.length : Int)) = False := eq_false (by omega)
  have ez : zeroB e i = e.vals.any fun v => v.n == 0 := by unfold zeroB; rw [List.take_of_length_le (by omega)]
  rw [← ez] at e0
  clear hil
  refine AW.rT (by rfl) fun K hK => ?_
  simp -implicitDefEqProofs only [go_sem, ↓reduceIte, Nat.reduceAdd, Nat.reduceEqDiff, hc1, List.length_map]
  apply hK; clear hK K
  refine AW.cF rfl ?_
  refine AW.exit ?_
  simp only [andThen, inBlk, ↓reduceIte]
  refine AW.seq ?_
  cases hz : zeroB e i with
  | false =>
   rw [hz, if_neg (by simp)] at e0
   refine AW.rT (by rfl) fun K hK => ?_
   simp -implicitDefEqProofs only [go_sem, ↓reduceIte, Nat.reduceAdd, Nat.reduceEqDiff]
   apply hK; clear hK K
   refine AW.cT rfl ?_
   refine AW.rT (by rfl) fun K hK => ?_
   simp -implicitDefEqProofs only [go_sem, Nat.reduceAdd]
   apply hK; clear hK K
   refine AW.ret ?_
   simp -implicitDefEqProofs only [go_sem, e0]
  | true =>
  rw [hz, if_pos rfl] at e0
  refine AW.rT (by rfl) fun K hK => ?_
  simp -implicitDefEqProofs only [go_sem, ↓reduceIte, Nat.reduceAdd, Nat.reduceEqDiff]
  apply hK; clear hK K
  refine AW.cF rfl ?_
  refine AW.skip ?_
  simp only [andThen]
  refine AW.rT (by rfl) fun K hK => ?_
  simp -implicitDefEqProofs only [go_sem, Nat.reduceAdd]
  apply hK; clear hK K
  refine AW.seq ?_
  refine AW.rT (by rfl) fun K hK => ?_
  simp -implicitDefEqProofs only [go_sem, Nat.reduceAdd]
  apply hK; clear hK K
  refine AW.block ?_
  refine AW.loop (re2 e) (fun i => i ≤ e.vals.length ∧ valsC [] [] e.vals = valsC ((e.vals.take i).map Nm.name) ((e.vals.take i).map Nm.n) (e.vals.drop i)) (fun i => e.vals.length - i) 0 ?_ ⟨by omega, by simp⟩ fun j hj => ?_
  ·refine Ghost.trans (Ghost.nil (t := 5) (sz := 1) rfl) ?_
   simp only [re2, cellsEn]
   refine Ghost.ent (fun l => if l = 0 then 0 else 10) ?_ ?_ ?_ <;> simp -implicitDefEqProofs only [go_sem, ↓reduceIte, Nat.reduceEqDiff, reduceCtorEq, List.take_zero, List.map_nil, liftE_nil, List.forall_mem_cons, List.not_mem_nil, false_implies, implies_true, and_self, List.all_cons, List.all_nil, Nat.reduceLT, labsInL, AV.labsIn]
   all_goals first | rfl | decide | skip
  obtain ⟨j1, j2⟩ := hj
  simp only [re2, cellsEn]
  refine AW.seq ?_
  by_cases hjl : j < e.vals.length
  case neg =>
   have hc1 : ((j : Int) < (e.vals.length : Int)) = False := eq_false (by omega)
   rw [List.drop_of_length_le (by omega), valsC] at j2
   rw [j2] at e0
   refine AW.rT (by rfl) fun K hK => ?_
   simp -implicitDefEqProofs only [go_sem, ↓reduceIte, Nat.reduceAdd, Nat.reduceEqDiff, hc1, List.length_map]
   apply hK; clear hK K
   refine AW.cF rfl ?_
   refine AW.exit ?_
   simp only [andThen, inBlk, ↓reduceIte]
   refine AW.rT (by rfl) fun K hK => ?_
   simp -implicitDefEqProofs only [go_sem, Nat.reduceAdd]
   apply hK; clear hK K
   refine AW.ret ?_
   simp -implicitDefEqProofs only [go_sem, e0]
  obtain ⟨v, hv⟩ : ∃ v, e.vals[j]? = some v := ⟨_, List.getElem?_eq_getElem hjl⟩
  have ⟨hv1, hv2, hv3⟩ := at_map' encNm hv
  have hc1 : ((j : Int) < (e.vals.length : Int)) = True := eq_true (by omega)
  have w1 : IntKind.wrap .i64 ((j : Int) + 1) = ((j + 1 : Nat) : Int) := by rw [w64] <;> omega
  rw [valsC_at hv] at j2
  have hnx := take_map_next Nm.name hv
  have htx := take_map_next Nm.n hv
  have hNl : ((e.vals.take j).map Nm.name).length ≤ 1000000 := by rw [List.length_map, List.length_take]; omega
  generalize hN : (e.vals.take j).map Nm.name = N at *
  generalize hT : (e.vals.take j).map Nm.n = T at *
  have FR := ref07_fresh N v.name (by omega) (hm.2 v (List.mem_of_getElem? hv))
  refine AW.rT (by rfl) fun K hK => ?_
  simp -implicitDefEqProofs only [go_sem, ↓reduceIte, Nat.reduceAdd, Nat.reduceEqDiff, hc1, List.length_map]
  apply hK; clear hK K
  refine AW.cT rfl ?_
  refine AW.skip ?_
  simp only [andThen]
  refine AW.seq ?_
  refine AW.block ?_
  refine AW.rT (by rfl) fun K hK => ?_
  simp -implicitDefEqProofs only [go_sem, ↓reduceIte, Nat.reduceAdd, Nat.reduceEqDiff, Nat.reduceLeDiff, hv1, hv3, hc1, encNm, List.length_map]
  apply hK; clear hK K
  refine AW.seq ?_
  cases ht2 : takesB N v.name with
  | false =>
   rw [ht2] at FR
   rw [ht2, if_neg (by simp)] at j2
   rw [j2] at e0
   refine AW.rT (by rfl) fun K hK => ?_
   simp -implicitDefEqProofs only [go_sem, ↓reduceIte, Nat.reduceAdd, Nat.reduceEqDiff]
   refine ⟨.peek _, ⟨FR, rfl⟩, ?_⟩
   try simp -implicitDefEqProofs only [go_sem, Nat.reduceAdd]
   apply hK; clear hK K
   refine AW.cT rfl ?_
   refine AW.rT (by rfl) fun K hK => ?_
   simp -implicitDefEqProofs only [go_sem, Nat.reduceAdd]
   apply hK; clear hK K
   refine AW.ret ?_
   simp -implicitDefEqProofs only [go_sem, e0]
  | true =>
  rw [ht2] at FR
  rw [ht2, if_pos rfl] at j2
  refine AW.rT (by rfl) fun K hK => ?_
  simp -implicitDefEqProofs only [go_sem, ↓reduceIte, Nat.reduceAdd, Nat.reduceEqDiff]
  refine ⟨.peek _, ⟨FR, rfl⟩, ?_⟩
  try simp -implicitDefEqProofs only [go_sem, Nat.reduceAdd]
  apply hK; clear hK K
  refine AW.cF rfl ?_
  refine AW.skip ?_
  simp only [andThen]
  refine AW.rT (by rfl) fun K hK => ?_
  simp -implicitDefEqProofs only [go_sem, ↓reduceIte, Nat.reduceAdd, Nat.reduceMul, Nat.reduceEqDiff, Nat.reduceLeDiff, reduceCtorEq]
  refine ⟨⟨by simp, by simp [oneAll, AV.one, PV.one], by simp⟩, by simp [liftE_length]; omega, ?_⟩
  apply hK; clear hK K
  refine AW.seq ?_
  rcases num_split v.n with hnb | hnb | hnb
  ·have hb : numB v.n = false := decide_eq_false (by omega)
   rw [hb, Bool.false_and, if_neg (by simp)] at j2
   rw [j2] at e0
   have f1 : (v.n < 0) = True := eq_true hnb
   refine AW.rT (by rfl) fun K hK => ?_
   simp -implicitDefEqProofs only [go_sem, ↓reduceIte, Nat.reduceAdd, Nat.reduceEqDiff, f1]
   apply hK; clear hK K
   refine AW.cT rfl ?_
   refine AW.rT (by rfl) fun K hK => ?_
   simp -implicitDefEqProofs only [go_sem, Nat.reduceAdd]
   apply hK; clear hK K
   refine AW.ret ?_
   simp -implicitDefEqProofs only [go_sem, e0]
  ·have hb : numB v.n = false := decide_eq_false (by omega)
   rw [hb, Bool.false_and, if_neg (by simp)] at j2
   rw [j2] at e0
   have f1 : (v.n < 0) = False := eq_false (by omega)
   have f2 : (v.n > 2147483647) = True := eq_true hnb
   refine AW.rT (by rfl) fun K hK => ?_
   simp -implicitDefEqProofs only [go_sem, ↓reduceIte, Nat.reduceAdd, Nat.reduceEqDiff, f1, f2]
   apply hK; clear hK K
   refine AW.cT rfl ?_
   refine AW.rT (by rfl) fun K hK => ?_
   simp -implicitDefEqProofs only [go_sem, Nat.reduceAdd]
   apply hK; clear hK K
   refine AW.ret ?_
   simp -implicitDefEqProofs only [go_sem, e0]
  have hb : numB v.n = true := decide_eq_true hnb
  rw [hb, Bool.true_and] at j2
  have f1 : (v.n < 0) = False := eq_false (by omega)
  have f2 : (v.n > 2147483647) = False := eq_false (by omega)
  refine AW.rT (by rfl) fun K hK => ?_
  simp -implicitDefEqProofs only [go_sem, ↓reduceIte, Nat.reduceAdd, Nat.reduceEqDiff, f1, f2]
  apply hK; clear hK K
  refine AW.cF rfl ?_
  refine AW.skip ?_
  simp only [andThen]
  refine AW.rT (by rfl) fun K hK => ?_
  simp -implicitDefEqProofs only [go_sem, Nat.reduceAdd]
  apply hK; clear hK K
  refine AW.block ?_
  refine AW.loop (re3 e v (N ++ [v.name]) j) (fun k => k ≤ j ∧ (T.take k).all (fun n => !(n == v.n)) = true) (fun k => j - k) 0 ?_ ⟨by omega, by simp⟩ fun k hk => ?_
  ·simp only [re3, cellsEn]
   refine Ghost.ent (fun l => if l = 0 then 0 else if l = 1 then 23 else 12) ?_ ?_ ?_ <;> simp -implicitDefEqProofs only [go_sem, ↓reduceIte, Nat.reduceEqDiff, reduceCtorEq, encS, List.map_append, liftE_append, List.map_cons, List.map_nil, liftE_cons, liftE_nil, List.forall_mem_cons, List.not_mem_nil, false_implies, implies_true, and_self, map_renL_lift, labsIn_lift, List.all_append, List.all_cons, List.all_nil, List.map_append, Nat.reduceLT, labsInL, AV.labsIn]
   all_goals first | rfl | decide | skip
  obtain ⟨k1, k2⟩ := hk
  simp only [re3, cellsEn]
  have hTl : T.length = j := by rw [← hT, List.length_map, List.length_take]; omega
  refine AW.seq ?_
  by_cases hkl : k < j
  case neg =>
   have hc2 : ((k : Int) < (j : Int)) = False := eq_false (by omega)
   rw [List.take_of_length_le (by omega)] at k2
   rw [res_no k2, if_pos (by simp)] at j2
   refine AW.rT (by rfl) fun K hK => ?_
   simp -implicitDefEqProofs only [go_sem, ↓reduceIte, Nat.reduceAdd, Nat.reduceEqDiff, hc2]
   apply hK; clear hK K
   refine AW.cF rfl ?_
   refine AW.exit ?_
   simp only [andThen, inBlk, ↓reduceIte]
   refine AW.rE (by rfl) fun K hK => ?_
   simp -implicitDefEqProofs only [go_sem, ↓reduceIte, Nat.reduceAdd, Nat.reduceEqDiff, w1]
   apply hK; clear hK K
   refine ⟨j + 1, ⟨by omega, by rw [hnx, htx]; exact j2⟩, by omega, ?_⟩
   rw [hnx]
   refine Ghost.sub ?_ ?_ <;> simp -implicitDefEqProofs only [go_sem, ↓reduceIte, Nat.reduceEqDiff, List.forall_mem_cons, List.not_mem_nil, false_implies, implies_true, and_self, labsIn_lift, List.all_cons, List.all_nil, Nat.reduceLT, labsInL, AV.labsIn]
  have hc2 : ((k : Int) < (j : Int)) = True := eq_true (by omega)
  obtain ⟨x, hx⟩ : ∃ x, e.vals[k]? = some x := ⟨_, List.getElem?_eq_getElem (by omega)⟩
  have ⟨hx1, hx2, hx3⟩ := at_map' encNm hx
  have hx2' : (k : Int) < (e.vals.length : Int) := by omega
  have hTx : T[k]? = some x.n := by rw [← hT, List.getElem?_map, List.getElem?_take, if_pos hkl, hx]; rfl
  have w2 : IntKind.wrap .i64 ((k : Int) + 1) = ((k + 1 : Nat) : Int) := by rw [w64] <;> omega
  refine AW.rT (by rfl) fun K hK => ?_
  simp -implicitDefEqProofs only [go_sem, ↓reduceIte, Nat.reduceAdd, Nat.reduceEqDiff, hc2]
  apply hK; clear hK K
  refine AW.cT rfl ?_
  refine AW.skip ?_
  simp only [andThen]
  refine AW.seq ?_
  refine AW.block ?_
  cases hq : (x.n == v.n) with
  | true =>
   have hus : T.contains v.n = true := by
    have : x.n = v.n := by simpa using hq
    rw [List.contains_iff_mem, ← this]
    exact List.mem_of_getElem? hTx
   rw [hus, if_neg (by simp)] at j2
   rw [j2] at e0
   refine AW.dT mixed (by rfl) (by decide +kernel) fun K hK => ?_
   simp -implicitDefEqProofs only [go_sem, ↓reduceIte, Nat.reduceAdd, Nat.reduceEqDiff, reduceCtorEq, hx1, hx2', hx3, encNm, List.length_map, hq]
   refine ⟨heapOK_nil rfl, ?_⟩
   apply hK; clear hK K
   refine AW.cT rfl ?_
   refine AW.rT (by rfl) fun K hK => ?_
   simp -implicitDefEqProofs only [go_sem, Nat.reduceAdd]
   apply hK; clear hK K
   refine AW.ret ?_
   simp -implicitDefEqProofs only [go_sem, e0]
  | false =>
   refine AW.dT mixed (by rfl) (by decide +kernel) fun K hK => ?_
   simp -implicitDefEqProofs only [go_sem, ↓reduceIte, Nat.reduceAdd, Nat.reduceEqDiff, reduceCtorEq, hx1, hx2', hx3, encNm, List.length_map, hq]
   refine ⟨heapOK_nil rfl, ?_⟩
   apply hK; clear hK K
   refine AW.cF rfl ?_
   refine AW.skip ?_
   simp only [andThen, inBlk]
   refine AW.rE (by rfl) fun K hK => ?_
   simp -implicitDefEqProofs only [go_sem, ↓reduceIte, Nat.reduceAdd, Nat.reduceEqDiff, w2]
   apply hK; clear hK K
   refine ⟨k + 1, ⟨by omega, all_next hTx k2 (by rw [hq]; rfl)⟩, by omega, ?_⟩
   refine Ghost.sub ?_ ?_ <;> simp -implicitDefEqProofs only [go_sem, ↓reduceIte, Nat.reduceEqDiff, reduceCtorEq, List.forall_mem_cons, List.not_mem_nil, false_implies, implies_true, and_self, labsIn_lift, List.all_cons, List.all_nil, Nat.reduceLT, labsInL, AV.labsIn]
 obtain ⟨v, hv⟩ : ∃ v, e.vals[i]? = some v := ⟨_, List.getElem?_eq_getElem hil⟩
 have ⟨hv1, hv2, hv3⟩ := at_map' encNm hv
 have hv2' : (i : Int) < (e.vals.length : Int) := by omega
 have hc1 : ((i : Int) < (e.vals.length : Int)) = True := eq_true (by omega)
 have w1 : IntKind.wrap .i64 ((i : Int) + 1) = ((i + 1 : Nat) : Int) := by rw [w64] <;> omega
 have hz := zeroB_next hv
 refine AW.rT (by rfl) fun K hK => ?_
 simp -implicitDefEqProofs only [go_sem, ↓reduceIte, Nat.reduceAdd, Nat.reduceEqDiff, hc1, List.length_map]
 apply hK; clear hK K
 refine AW.cT rfl ?_
 refine AW.skip ?_
 simp only [andThen]
 refine AW.seq ?_
 refine AW.block ?_
 cases hb : zeroB e i with
 | true =>
  rw [hb, Bool.true_or] at hz
  refine AW.rE (by rfl) fun K hK => ?_
  simp -implicitDefEqProofs only [go_sem, ↓reduceIte, Nat.reduceAdd, Nat.reduceEqDiff]
  apply hK; clear hK K
  simp only [andThen, inBlk]
  refine AW.rE (by rfl) fun K hK => ?_
  simp -implicitDefEqProofs only [go_sem, ↓reduceIte, Nat.reduceAdd, Nat.reduceEqDiff, w1]
  apply hK; clear hK K
  refine ⟨i + 1, by omega, by omega, ?_⟩
  refine Ghost.sub ?_ ?_ <;> simp -implicitDefEqProofs only [go_sem, ↓reduceIte, Nat.reduceEqDiff, hz, List.forall_mem_cons, List.not_mem_nil, false_implies, implies_true, and_self, List.all_cons, List.all_nil, Nat.reduceLT, labsInL, AV.labsIn]
 | false =>
  rw [hb, Bool.false_or] at hz
  refine AW.rE (by rfl) fun K hK => ?_
  simp -implicitDefEqProofs only [go_sem, ↓reduceIte, Nat.reduceAdd, Nat.reduceEqDiff, hv1, hv2', hv3, encNm, List.length_map]
  apply hK; clear hK K
  simp only [andThen, inBlk]
  refine AW.rE (by rfl) fun K hK => ?_
  simp -implicitDefEqProofs only [go_sem, ↓reduceIte, Nat.reduceAdd, Nat.reduceEqDiff, w1]
  apply hK; clear hK K
  refine ⟨i + 1, by omega, by omega, ?_⟩
  refine Ghost.sub ?_ ?_ <;> simp -implicitDefEqProofs only [go_sem, ↓reduceIte, Nat.reduceEqDiff, hz, List.forall_mem_cons, List.not_mem_nil, false_implies, implies_true, and_self, List.all_cons, List.all_nil, Nat.reduceLT, labsInL, AV.labsIn]
end Go.Aw
namespace Go.Aw
open Go.Proofs Go.RowKit
def msgsC (S : Sc) (K : List (List UInt8) → Int) (ns : List (List UInt8)) : List Ms → Int
 | [] => K ns
 | m :: l => if msgC S ns m = 0 then msgsC S K (ns ++ [m.name]) l else msgC S ns m
def enumsC (ns : List (List UInt8)) : List En → Int
 | [] => 0
 | e :: l => if enumC ns e = 0 then enumsC (ns ++ [e.name]) l else enumC ns e
def partsC (S : Sc) : Int := msgsC S (fun ns => enumsC ns S.enums) [] S.msgs
def hasM (S : Sc) (k : List UInt8) : Bool := (firstP (fun x => x.name == k) zMs S.msgs).2
def methsC (S : Sc) (ns : List (List UInt8)) : List Mt → Int
 | [] => 0
 | t :: l => if takesB ns t.name = true then (if (hasM S t.inn && hasM S t.out) = true then methsC S (ns ++ [t.name]) l else 8) else 6
def checkC (S : Sc) : Int := if nameB S.name = true then (if S.msgs.length = 0 then 12 else if S.msgs.length > 10 ∨ S.enums.length > 6 ∨ S.meths.length > 6 then 4 else if partsC S = 0 then methsC S [] S.meths else partsC S) else 6
theorem msgsC_at {S : Sc} {K : List (List UInt8) → Int} {l : List Ms} {i : Nat} {m : Ms} {ns : List (List UInt8)} (h : l[i]? = some m) :
  msgsC S K ns (l.drop i) = if msgC S ns m = 0 then msgsC S K (ns ++ [m.name]) (l.drop (i + 1)) else msgC S ns m := by
 rw [List.drop_eq_getElem_cons (List.getElem?_eq_some_iff.1 h).1, (List.getElem?_eq_some_iff.1 h).2, msgsC]
theorem enumsC_at {l : List En} {i : Nat} {e : En} {ns : List (List UInt8)} (h : l[i]? = some e) :
  enumsC ns (l.drop i) = if enumC ns e = 0 then enumsC (ns ++ [e.name]) (l.drop (i + 1)) else enumC ns e := by
 rw [List.drop_eq_getElem_cons (List.getElem?_eq_some_iff.1 h).1, (List.getElem?_eq_some_iff.1 h).2, enumsC]
theorem methsC_at {S : Sc} {l : List Mt} {i : Nat} {t : Mt} {ns : List (List UInt8)} (h : l[i]? = some t) :
  methsC S ns (l.drop i) = if takesB ns t.name = true then (if (hasM S t.inn && hasM S t.out) = true then methsC S (ns ++ [t.name]) (l.drop (i + 1)) else 8) else 6 := by
 rw [List.drop_eq_getElem_cons (List.getElem?_eq_some_iff.1 h).1, (List.getElem?_eq_some_iff.1 h).2, methsC]
theorem takes_msg {S : Sc} {ns : List (List UInt8)} {m : Ms} (h : msgC S ns m = 0) : takeN ns m.name = ns ++ [m.name] := by
 unfold msgC at h
 unfold takeN
 cases ht : takesB ns m.name with
 | true => rfl
 | false => rw [ht] at h; simp at h
theorem takes_enum {ns : List (List UInt8)} {e : En} (h : enumC ns e = 0) : takeN ns e.name = ns ++ [e.name] := by
 unfold enumC at h
 unfold takeN
 cases ht : takesB ns e.name with
 | true => rfl
 | false => rw [ht] at h; simp at h
structure LensS (S : Sc) : Prop where
 name : S.name.length ≤ 1000000000
 msgs : ∀ m ∈ S.msgs, lensF m
 enums : ∀ e ∈ S.enums, lensV e
 meths : ∀ t ∈ S.meths, t.name.length ≤ 1000000000
 m : S.msgs.length ≤ 1000000
 e : S.enums.length ≤ 1000000
 t : S.meths.length ≤ 1000000
def ck1 (S : Sc) (i : Nat) : St := ⟨ofL [(1, .ptr 0 0 0), (3, .map 1), (46, .p (.slice (S.msgs.map encMs))), (47, .p (.int .i64 (S.msgs.length : Int))), (48, .p (.int .i64 (i : Int)))],
 ofH [(0, .row 4 [cellsSc S]), (1, .map (mS ((S.msgs.take i).map Ms.name)))], 2⟩
def ck2 (S : Sc) (i : Nat) : St := ⟨ofL [(1, .ptr 0 0 0), (3, .map 1), (61, .p (.slice (S.enums.map encEn))), (62, .p (.int .i64 (S.enums.length : Int))), (63, .p (.int .i64 (i : Int)))],
 ofH [(0, .row 4 [cellsSc S]), (1, .map (mS (S.msgs.map Ms.name ++ (S.enums.take i).map En.name)))], 2⟩
def ck3 (S : Sc) (i : Nat) : St := ⟨ofL [(1, .ptr 0 0 0), (10, .map 1), (76, .p (.slice (S.meths.map encMt))), (77, .p (.int .i64 (S.meths.length : Int))), (78, .p (.int .i64 (i : Int)))],
 ofH [(0, .row 4 [cellsSc S]), (1, .map (mS ((S.meths.take i).map Mt.name)))], 2⟩
theorem check_Check (S : Sc) (L : LensS S) : PFn Tryd.prog 61 [.agg (encSc S)] (.int .i64 (checkC S)) := by
 refine PFn.of Tryd.func61 rfl (by decide) Tryd.ntmps61 Tryd.results61 (Nat.le_of_ble_eq_true rfl) ?_
 simp only [argsT, encSc]
 refine AW.rT (by rfl) fun K hK => ?_
 simp -implicitDefEqProofs only [go_sem, Nat.reduceAdd]
 apply hK; clear hK K
 refine AW.seq ?_
 refine AW.block ?_
 cases hn : nameB S.name with
 | false =>
  have e : checkC S = 6 := by unfold checkC; rw [hn]; rfl
  refine AW.rT (by rfl) fun K hK => ?_
  simp -implicitDefEqProofs only [go_sem, ↓reduceIte, Nat.reduceAdd, Nat.reduceEqDiff]
  refine ⟨.pure _, runes_Name S.name L.name, ?_⟩
  try simp -implicitDefEqProofs only [go_sem, Nat.reduceAdd, hn]
  apply hK; clear hK K
  refine AW.cT rfl ?_
  refine AW.rT (by rfl) fun K hK => ?_
  simp -implicitDefEqProofs only [go_sem, Nat.reduceAdd]
  apply hK; clear hK K
  refine AW.ret ?_
  simp -implicitDefEqProofs only [go_sem, e]
 | true =>
 have e0 : checkC S = if S.msgs.length = 0 then 12 else if S.msgs.length > 10 ∨ S.enums.length > 6 ∨ S.meths.length > 6 then 4 else if partsC S = 0 then methsC S [] S.meths else partsC S := by unfold checkC; rw [hn, if_pos rfl]
 refine AW.rT (by rfl) fun K hK => ?_
 simp -implicitDefEqProofs only [go_sem, ↓reduceIte, Nat.reduceAdd, Nat.reduceEqDiff]
 refine ⟨.pure _, runes_Name S.name L.name, ?_⟩
 try simp -implicitDefEqProofs only [go_sem, Nat.reduceAdd, hn]
 apply hK; clear hK K
 refine AW.cF rfl ?_
 by_cases c0 : S.msgs.length = 0
 ·have b0 : ((S.msgs.length : Int) == 0) = true := by rw [beq_iff_eq]; omega
  rw [if_pos c0] at e0
  refine AW.rT (by rfl) fun K hK => ?_
  simp -implicitDefEqProofs only [go_sem, ↓reduceIte, Nat.reduceAdd, Nat.reduceEqDiff, b0, List.length_map]
  apply hK; clear hK K
  refine AW.cT rfl ?_
  refine AW.rT (by rfl) fun K hK => ?_
  simp -implicitDefEqProofs only [go_sem, Nat.reduceAdd]
  apply hK; clear hK K
  refine AW.ret ?_
  simp -implicitDefEqProofs only [go_sem, e0]
 rw [if_neg c0] at e0
 have b0 : ((S.msgs.length : Int) == 0) = false := beq_eq_false_iff_ne.2 (by omega)
 refine AW.rT (by rfl) fun K hK => ?_
 simp -implicitDefEqProofs only [go_sem, ↓reduceIte, Nat.reduceAdd, Nat.reduceEqDiff, b0, List.length_map]
 apply hK; clear hK K
 refine AW.cF rfl ?_
 by_cases c1 : S.msgs.length > 10
 ·have b1 : ((S.msgs.length : Int) > 10) = True := eq_true (by omega)
  rw [if_pos (.inl c1)] at e0
  refine AW.rT (by rfl) fun K hK => ?_
  simp -implicitDefEqProofs only [go_sem, ↓reduceIte, Nat.reduceAdd, Nat.reduceEqDiff, b1, List.length_map]
  apply hK; clear hK K
  refine AW.cT rfl ?_
  refine AW.rT (by rfl) fun K hK => ?_
  simp -implicitDefEqProofs only [go_sem, Nat.reduceAdd]
  apply hK; clear hK K
  refine AW.ret ?_
  simp -implicitDefEqProofs only [go_sem, e0]
 have b1 : ((S.msgs.length : Int) > 10) = False := eq_false (by omega)
 by_cases c2 : S.enums.length > 6
 ·have b2 : ((S.enums.length : Int) > 6) = True := eq_true (by omega)
  rw [if_pos (.inr (.inl c2))] at e0
  refine AW.rT (by rfl) fun K hK => ?_
  simp -implicitDefEqProofs only [go_sem, ↓reduceIte, Nat.reduceAdd, Nat.reduceEqDiff, b1, b2, List.length_map]
  apply hK; clear hK K
  refine AW.cT rfl ?_
  refine AW.rT (by rfl) fun K hK => ?_
  simp -implicitDefEqProofs only [go_sem, Nat.reduceAdd]
  apply hK; clear hK K
  refine AW.ret ?_
  simp -implicitDefEqProofs only [go_sem, e0]
 have b2 : ((S.enums.length : Int) > 6) = False := eq_false (by omega)
 by_cases c3 : S.meths.length > 6
 ·have b3 : ((S.meths.length : Int) > 6) = True := eq_true (by omega)
  rw [if_pos (.inr (.inr c3))] at e0
  refine AW.rT (by rfl) fun K hK => ?_
  simp -implicitDefEqProofs only [go_sem, ↓reduceIte, Nat.reduceAdd, Nat.reduceEqDiff, b1, b2, b3, List.length_map]
  apply hK; clear hK K
  refine AW.cT rfl ?_
  refine AW.rT (by rfl) fun K hK => ?_
  simp -implicitDefEqProofs only [go_sem, Nat.reduceAdd]
  apply hK; clear hK K
  refine AW.ret ?_
  simp -implicitDefEqProofs only [go_sem, e0]
 have b3 : ((S.meths.length : Int) > 6) = False := eq_false (by omega)
 rw [if_neg (by omega)] at e0
 refine AW.rT (by rfl) fun K hK => ?_
 simp -implicitDefEqProofs only [go_sem, ↓reduceIte, Nat.reduceAdd, Nat.reduceEqDiff, b1, b2, b3, List.length_map]
 apply hK; clear hK K
 refine AW.cF rfl ?_
 refine AW.skip ?_
 simp only [andThen, inBlk]
 clear b1 b2 b3
 refine AW.rT (by rfl) fun K hK => ?_
 simp -implicitDefEqProofs only [go_sem, Nat.reduceAdd]
 apply hK; clear hK K
 refine AW.seq ?_
 refine AW.rT (by rfl) fun K hK => ?_
 simp -implicitDefEqProofs only [go_sem, ↓reduceIte, Nat.reduceAdd, Nat.reduceEqDiff, reduceCtorEq, List.length_map]
 apply hK; clear hK K
 refine AW.block ?_
 refine AW.loop (ck1 S) (fun i => i ≤ S.msgs.length ∧ partsC S = msgsC S (fun ns => enumsC ns S.enums) ((S.msgs.take i).map Ms.name) (S.msgs.drop i)) (fun i => S.msgs.length - i) 0 ?_ ⟨by omega, by simp [partsC]⟩ fun i hi => ?_
 ·simp only [ck1, cellsSc]
  refine Ghost.ent (fun l => if l = 0 then 0 else 29) ?_ ?_ ?_ <;> simp -implicitDefEqProofs only [go_sem, ↓reduceIte, Nat.reduceEqDiff, reduceCtorEq, List.take_zero, List.map_nil, mS_nil, List.forall_mem_cons, List.not_mem_nil, false_implies, implies_true, and_self, List.all_cons, List.all_nil, Nat.reduceLT, labsInL, AV.labsIn]
  all_goals first | rfl | decide | skip
 obtain ⟨i1, i2⟩ := hi
 simp only [ck1, cellsSc]
 by_cases hil : i < S.msgs.length
 ·obtain ⟨m, hm⟩ : ∃ m, S.msgs[i]? = some m := ⟨_, List.getElem?_eq_getElem hil⟩
  have ⟨hm1, hm2, hm3⟩ := at_map' encMs hm
  have hc1 : ((i : Int) < (S.msgs.length : Int)) = True := eq_true (by omega)
  have w1 : IntKind.wrap .i64 ((i : Int) + 1) = ((i + 1 : Nat) : Int) := by rw [w64] <;> omega
  rw [msgsC_at hm] at i2
  have hnx := take_map_next Ms.name hm
  generalize hN : (S.msgs.take i).map Ms.name = N at *
  have CM := check_message S N m L.m L.e (L.msgs m (List.mem_of_getElem? hm))
  refine AW.rT (by rfl) fun K hK => ?_
  simp -implicitDefEqProofs only [go_sem, ↓reduceIte, Nat.reduceAdd, Nat.reduceEqDiff, hc1]
  apply hK; clear hK K
  refine AW.seq ?_
  refine AW.cT rfl ?_
  refine AW.skip ?_
  simp only [andThen]
  refine AW.seq ?_
  refine AW.block ?_
  refine AW.rT (by rfl) fun K hK => ?_
  simp -implicitDefEqProofs only [go_sem, ↓reduceIte, Nat.reduceAdd, Nat.reduceEqDiff, Nat.reduceLeDiff, hm1, hm3, hc1, encMs, List.length_map]
  apply hK; clear hK K
  refine AW.rT (by rfl) fun K hK => ?_
  simp -implicitDefEqProofs only [go_sem, ↓reduceIte, Nat.reduceAdd, Nat.reduceEqDiff, Nat.reduceLeDiff, reduceCtorEq]
  refine ⟨.lend [none, some 1, none] [.v (.agg (encSc S)), .map (setM N), .v (.agg (encMs m))] [none, some (.map (setM (takeN N m.name))), none] (.int .i64 (msgC S N m)), ⟨CM, rfl, ?_⟩, ?_⟩
  ·simp -implicitDefEqProofs only [go_sem, ↓reduceIte, Nat.reduceEqDiff, lift_setM, encSc, encMs]
  try simp -implicitDefEqProofs only [go_sem, Nat.reduceAdd, lift_setM]
  apply hK; clear hK K
  by_cases hz : msgC S N m = 0
  ·have bz : (msgC S N m != 0) = false := by simp [hz]
   rw [if_pos hz] at i2
   rw [takes_msg hz]
   refine AW.rT (by rfl) fun K hK => ?_
   simp -implicitDefEqProofs only [go_sem, ↓reduceIte, Nat.reduceAdd, bz]
   apply hK; clear hK K
   refine AW.cF rfl ?_
   refine AW.skip ?_
   simp only [andThen, inBlk]
   refine AW.rE (by rfl) fun K hK => ?_
   simp -implicitDefEqProofs only [go_sem, ↓reduceIte, Nat.reduceAdd, Nat.reduceEqDiff, w1]
   apply hK; clear hK K
   refine ⟨i + 1, ⟨by omega, by rw [hnx]; exact i2⟩, by omega, ?_⟩
   rw [hnx]
   refine Ghost.sub ?_ ?_ <;> simp -implicitDefEqProofs only [go_sem, ↓reduceIte, Nat.reduceEqDiff, reduceCtorEq, List.forall_mem_cons, List.not_mem_nil, false_implies, implies_true, and_self, List.all_cons, List.all_nil, Nat.reduceLT, labsInL, AV.labsIn]
  ·have bz : (msgC S N m != 0) = true := by simp [hz]
   rw [if_neg hz] at i2
   rw [if_neg (by rw [i2]; exact hz), i2] at e0
   refine AW.rT (by rfl) fun K hK => ?_
   simp -implicitDefEqProofs only [go_sem, ↓reduceIte, Nat.reduceAdd, bz]
   apply hK; clear hK K
   refine AW.cT rfl ?_
   refine AW.rT (by rfl) fun K hK => ?_
   simp -implicitDefEqProofs only [go_sem, ↓reduceIte, Nat.reduceAdd, Nat.reduceEqDiff]
   apply hK; clear hK K
   refine AW.ret ?_
   simp -implicitDefEqProofs only [go_sem, e0]
 have hc1 : ((i : Int) < (S.msgs.length : Int)) = False := eq_false (by omega)
 have ea : S.msgs.take i = S.msgs := List.take_of_length_le (by omega)
 rw [List.drop_of_length_le (by omega), msgsC, ea] at i2
 rw [ea]
 clear ea hil
 refine AW.rT (by rfl) fun K hK => ?_
 simp -implicitDefEqProofs only [go_sem, ↓reduceIte, Nat.reduceAdd, Nat.reduceEqDiff, hc1]
 apply hK; clear hK K
 refine AW.seq ?_
 refine AW.cF rfl ?_
 refine AW.exit ?_
 simp only [andThen, inBlk, ↓reduceIte]
 refine AW.seq ?_
 refine AW.rT (by rfl) fun K hK => ?_
 simp -implicitDefEqProofs only [go_sem, ↓reduceIte, Nat.reduceAdd, Nat.reduceEqDiff, List.length_map]
 apply hK; clear hK K
 refine AW.block ?_
 refine AW.loop (ck2 S) (fun i => i ≤ S.enums.length ∧ partsC S = enumsC (S.msgs.map Ms.name ++ (S.enums.take i).map En.name) (S.enums.drop i)) (fun i => S.enums.length - i) 0 ?_ ⟨by omega, by simpa using i2⟩ fun j hj => ?_
 ·simp only [ck2, cellsSc]
  refine Ghost.sub ?_ ?_ <;> simp -implicitDefEqProofs only [go_sem, ↓reduceIte, Nat.reduceEqDiff, List.take_zero, List.map_nil, List.append_nil, List.forall_mem_cons, List.not_mem_nil, false_implies, implies_true, and_self, List.all_cons, List.all_nil, Nat.reduceLT, labsInL, AV.labsIn]
  all_goals first | rfl | decide | skip
 clear i2 i1 hc1
 obtain ⟨j1, j2⟩ := hj
 simp only [ck2, cellsSc]
 by_cases hjl : j < S.enums.length
 ·obtain ⟨m, hm⟩ : ∃ m, S.enums[j]? = some m := ⟨_, List.getElem?_eq_getElem hjl⟩
  have ⟨hm1, hm2, hm3⟩ := at_map' encEn hm
  have hc1 : ((j : Int) < (S.enums.length : Int)) = True := eq_true (by omega)
  have w1 : IntKind.wrap .i64 ((j : Int) + 1) = ((j + 1 : Nat) : Int) := by rw [w64] <;> omega
  rw [enumsC_at hm] at j2
  have hnx : S.msgs.map Ms.name ++ (S.enums.take (j + 1)).map En.name = (S.msgs.map Ms.name ++ (S.enums.take j).map En.name) ++ [m.name] := by rw [take_map_next En.name hm, List.append_assoc]
  generalize hN : S.msgs.map Ms.name ++ (S.enums.take j).map En.name = N at *
  have CM := check_enum N m (L.enums m (List.mem_of_getElem? hm))
  refine AW.rT (by rfl) fun K hK => ?_
  simp -implicitDefEqProofs only [go_sem, ↓reduceIte, Nat.reduceAdd, Nat.reduceEqDiff, hc1]
  apply hK; clear hK K
  refine AW.seq ?_
  refine AW.cT rfl ?_
  refine AW.skip ?_
  simp only [andThen]
  refine AW.seq ?_
  refine AW.block ?_
  refine AW.rT (by rfl) fun K hK => ?_
  simp -implicitDefEqProofs only [go_sem, ↓reduceIte, Nat.reduceAdd, Nat.reduceEqDiff, Nat.reduceLeDiff, hm1, hm3, hc1, encEn, List.length_map]
  apply hK; clear hK K
  refine AW.rT (by rfl) fun K hK => ?_
  simp -implicitDefEqProofs only [go_sem, ↓reduceIte, Nat.reduceAdd, Nat.reduceEqDiff, Nat.reduceLeDiff]
  refine ⟨.lend [some 1, none] [.map (setM N), .v (.agg (encEn m))] [some (.map (setM (takeN N m.name))), none] (.int .i64 (enumC N m)), ⟨CM, rfl, ?_⟩, ?_⟩
  ·simp -implicitDefEqProofs only [go_sem, ↓reduceIte, Nat.reduceEqDiff, lift_setM, encEn]
  try simp -implicitDefEqProofs only [go_sem, Nat.reduceAdd, lift_setM]
  apply hK; clear hK K
  by_cases hz : enumC N m = 0
  ·have bz : (enumC N m != 0) = false := by simp [hz]
   rw [if_pos hz] at j2
   rw [takes_enum hz]
   refine AW.rT (by rfl) fun K hK => ?_
   simp -implicitDefEqProofs only [go_sem, ↓reduceIte, Nat.reduceAdd, bz]
   apply hK; clear hK K
   refine AW.cF rfl ?_
   refine AW.skip ?_
   simp only [andThen, inBlk]
   refine AW.rE (by rfl) fun K hK => ?_
   simp -implicitDefEqProofs only [go_sem, ↓reduceIte, Nat.reduceAdd, Nat.reduceEqDiff, w1]
   apply hK; clear hK K
   refine ⟨j + 1, ⟨by omega, by rw [hnx]; exact j2⟩, by omega, ?_⟩
   rw [hnx]
   refine Ghost.sub ?_ ?_ <;> simp -implicitDefEqProofs only [go_sem, ↓reduceIte, Nat.reduceEqDiff, reduceCtorEq, List.forall_mem_cons, List.not_mem_nil, false_implies, implies_true, and_self, List.all_cons, List.all_nil, Nat.reduceLT, labsInL, AV.labsIn]
  ·have bz : (enumC N m != 0) = true := by simp [hz]
   rw [if_neg hz] at j2
   rw [if_neg (by rw [j2]; exact hz), j2] at e0
   refine AW.rT (by rfl) fun K hK => ?_
   simp -implicitDefEqProofs only [go_sem, ↓reduceIte, Nat.reduceAdd, bz]
   apply hK; clear hK K
   refine AW.cT rfl ?_
   refine AW.rT (by rfl) fun K hK => ?_
   simp -implicitDefEqProofs only [go_sem, ↓reduceIte, Nat.reduceAdd, Nat.reduceEqDiff]
   apply hK; clear hK K
   refine AW.ret ?_
   simp -implicitDefEqProofs only [go_sem, e0]
 have hc1 : ((j : Int) < (S.enums.length : Int)) = False := eq_false (by omega)
 rw [List.drop_of_length_le (by omega), enumsC] at j2
 rw [if_pos j2] at e0
 clear hjl
 refine AW.rT (by rfl) fun K hK => ?_
 simp -implicitDefEqProofs only [go_sem, ↓reduceIte, Nat.reduceAdd, Nat.reduceEqDiff, hc1]
 apply hK; clear hK K
 refine AW.seq ?_
 refine AW.cF rfl ?_
 refine AW.exit ?_
 simp only [andThen, inBlk, ↓reduceIte]
 refine AW.rT (by rfl) fun K hK => ?_
 simp -implicitDefEqProofs only [go_sem, Nat.reduceAdd]
 apply hK; clear hK K
 refine AW.seq ?_
 refine AW.rT (by rfl) fun K hK => ?_
 simp -implicitDefEqProofs only [go_sem, ↓reduceIte, Nat.reduceAdd, Nat.reduceEqDiff, reduceCtorEq, List.length_map]
 apply hK; clear hK K
 refine AW.block ?_
 refine AW.loop (ck3 S) (fun i => i ≤ S.meths.length ∧ methsC S [] S.meths = methsC S ((S.meths.take i).map Mt.name) (S.meths.drop i)) (fun i => S.meths.length - i) 0 ?_ ⟨by omega, by simp⟩ fun k hk => ?_
 ·simp only [ck3, cellsSc]
  refine Ghost.ent (fun l => if l = 0 then 0 else 3) ?_ ?_ ?_ <;> simp -implicitDefEqProofs only [go_sem, ↓reduceIte, Nat.reduceEqDiff, reduceCtorEq, List.take_zero, List.map_nil, mS_nil, List.forall_mem_cons, List.not_mem_nil, false_implies, implies_true, and_self, List.all_cons, List.all_nil, Nat.reduceLT, labsInL, AV.labsIn]
  all_goals first | rfl | decide | skip
 obtain ⟨k1, k2⟩ := hk
 simp only [ck3, cellsSc]
 by_cases hkl : k < S.meths.length
 case neg =>
  have hc1 : ((k : Int) < (S.meths.length : Int)) = False := eq_false (by omega)
  rw [List.drop_of_length_le (by omega), methsC] at k2
  rw [k2] at e0
  refine AW.rT (by rfl) fun K hK => ?_
  simp -implicitDefEqProofs only [go_sem, ↓reduceIte, Nat.reduceAdd, Nat.reduceEqDiff, hc1]
  apply hK; clear hK K
  refine AW.seq ?_
  refine AW.cF rfl ?_
  refine AW.exit ?_
  simp only [andThen, inBlk, ↓reduceIte]
  refine AW.rT (by rfl) fun K hK => ?_
  simp -implicitDefEqProofs only [go_sem, Nat.reduceAdd]
  apply hK; clear hK K
  refine AW.ret ?_
  simp -implicitDefEqProofs only [go_sem, e0]
 obtain ⟨m, hm⟩ : ∃ m, S.meths[k]? = some m := ⟨_, List.getElem?_eq_getElem hkl⟩
 have ⟨hm1, hm2, hm3⟩ := at_map' encMt hm
 have hc1 : ((k : Int) < (S.meths.length : Int)) = True := eq_true (by omega)
 have w1 : IntKind.wrap .i64 ((k : Int) + 1) = ((k + 1 : Nat) : Int) := by rw [w64] <;> omega
 rw [methsC_at hm] at k2
 have hnx := take_map_next Mt.name hm
 generalize hN : (S.meths.take k).map Mt.name = N at *
 have TK := check_takes N m.name (L.meths m (List.mem_of_getElem? hm))
 have M1 := check_Message S m.inn L.m
 have M2 := check_Message S m.out L.m
 simp only [encSc, encMs] at M1 M2
 refine AW.rT (by rfl) fun K hK => ?_
 simp -implicitDefEqProofs only [go_sem, ↓reduceIte, Nat.reduceAdd, Nat.reduceEqDiff, hc1]
 apply hK; clear hK K
 refine AW.seq ?_
 refine AW.cT rfl ?_
 refine AW.skip ?_
 simp only [andThen]
 refine AW.seq ?_
 refine AW.block ?_
 refine AW.rT (by rfl) fun K hK => ?_
 simp -implicitDefEqProofs only [go_sem, ↓reduceIte, Nat.reduceAdd, Nat.reduceEqDiff, Nat.reduceLeDiff, hm1, hm3, hc1, encMt, List.length_map]
 apply hK; clear hK K
 refine AW.rT (by rfl) fun K hK => ?_
 simp -implicitDefEqProofs only [go_sem, ↓reduceIte, Nat.reduceAdd, Nat.reduceEqDiff, Nat.reduceLeDiff, reduceCtorEq]
 refine ⟨.pure _, M1, ?_⟩
 try simp -implicitDefEqProofs only [go_sem, ↓reduceIte, Nat.reduceAdd, Nat.reduceEqDiff, Nat.reduceLeDiff]
 apply hK; clear hK K
 refine AW.rT (by rfl) fun K hK => ?_
 simp -implicitDefEqProofs only [go_sem, ↓reduceIte, Nat.reduceAdd, Nat.reduceEqDiff, Nat.reduceLeDiff, reduceCtorEq]
 refine ⟨.pure _, M2, ?_⟩
 try simp -implicitDefEqProofs only [go_sem, ↓reduceIte, Nat.reduceAdd, Nat.reduceEqDiff, Nat.reduceLeDiff]
 apply hK; clear hK K
 refine AW.block ?_
 have h1 : hasM S m.inn = (firstP (fun x => x.name == m.inn) zMs S.msgs).2 := rfl
 have h2 : hasM S m.out = (firstP (fun x => x.name == m.out) zMs S.msgs).2 := rfl
 rw [← h1, ← h2]
 cases ht2 : takesB N m.name with
 | false =>
  have e3 : takeN N m.name = N := by unfold takeN; rw [ht2]; rfl
  rw [ht2, e3] at TK
  rw [ht2, if_neg (by simp)] at k2
  rw [k2] at e0
  refine AW.rT (by rfl) fun K hK => ?_
  simp -implicitDefEqProofs only [go_sem, ↓reduceIte, Nat.reduceAdd, Nat.reduceEqDiff]
  refine ⟨.lend [some 1, none] [.map (setM N), .v (.str m.name)] [some (.map (setM N)), none] (.bool false), ⟨TK, rfl, ?_⟩, ?_⟩
  ·simp -implicitDefEqProofs only [go_sem, ↓reduceIte, Nat.reduceEqDiff, lift_setM]
  try simp -implicitDefEqProofs only [go_sem, Nat.reduceAdd, lift_setM]
  apply hK; clear hK K
  refine AW.cT rfl ?_
  refine AW.rT (by rfl) fun K hK => ?_
  simp -implicitDefEqProofs only [go_sem, Nat.reduceAdd]
  apply hK; clear hK K
  refine AW.ret ?_
  simp -implicitDefEqProofs only [go_sem, e0]
 | true =>
 have e3 : takeN N m.name = N ++ [m.name] := by unfold takeN; rw [ht2]; rfl
 rw [ht2, e3] at TK
 rw [ht2, if_pos rfl] at k2
 refine AW.rT (by rfl) fun K hK => ?_
 simp -implicitDefEqProofs only [go_sem, ↓reduceIte, Nat.reduceAdd, Nat.reduceEqDiff]
 refine ⟨.lend [some 1, none] [.map (setM N), .v (.str m.name)] [some (.map (setM (N ++ [m.name]))), none] (.bool true), ⟨TK, rfl, ?_⟩, ?_⟩
 ·simp -implicitDefEqProofs only [go_sem, ↓reduceIte, Nat.reduceEqDiff, lift_setM]
 try simp -implicitDefEqProofs only [go_sem, Nat.reduceAdd, lift_setM]
 apply hK; clear hK K
 refine AW.cF rfl ?_
 cases hi : hasM S m.inn with
 | false =>
  rw [hi, Bool.false_and, if_neg (by simp)] at k2
  rw [k2] at e0
  refine AW.rT (by rfl) fun K hK => ?_
  simp -implicitDefEqProofs only [go_sem, ↓reduceIte, Nat.reduceAdd, Nat.reduceEqDiff]
  apply hK; clear hK K
  refine AW.cT rfl ?_
  refine AW.rT (by rfl) fun K hK => ?_
  simp -implicitDefEqProofs only [go_sem, Nat.reduceAdd]
  apply hK; clear hK K
  refine AW.ret ?_
  simp -implicitDefEqProofs only [go_sem, e0]
 | true =>
 cases ho : hasM S m.out with
 | false =>
  rw [hi, ho, if_neg (by simp)] at k2
  rw [k2] at e0
  refine AW.rT (by rfl) fun K hK => ?_
  simp -implicitDefEqProofs only [go_sem, ↓reduceIte, Nat.reduceAdd, Nat.reduceEqDiff]
  apply hK; clear hK K
  refine AW.cT rfl ?_
  refine AW.rT (by rfl) fun K hK => ?_
  simp -implicitDefEqProofs only [go_sem, Nat.reduceAdd]
  apply hK; clear hK K
  refine AW.ret ?_
  simp -implicitDefEqProofs only [go_sem, e0]
 | true =>
  rw [hi, ho, if_pos (by rfl)] at k2
  refine AW.rT (by rfl) fun K hK => ?_
  simp -implicitDefEqProofs only [go_sem, ↓reduceIte, Nat.reduceAdd, Nat.reduceEqDiff]
  apply hK; clear hK K
  refine AW.cF rfl ?_
  refine AW.skip ?_
  simp only [andThen, inBlk]
  refine AW.rE (by rfl) fun K hK => ?_
  simp -implicitDefEqProofs only [go_sem, ↓reduceIte, Nat.reduceAdd, Nat.reduceEqDiff, w1]
  apply hK; clear hK K
  refine ⟨k + 1, ⟨by omega, by rw [hnx]; exact k2⟩, by omega, ?_⟩
  rw [hnx]
  refine Ghost.sub ?_ ?_ <;> simp -implicitDefEqProofs only [go_sem, ↓reduceIte, Nat.reduceEqDiff, reduceCtorEq, List.forall_mem_cons, List.not_mem_nil, false_implies, implies_true, and_self, List.all_cons, List.all_nil, Nat.reduceLT, labsInL, AV.labsIn]
end Go.Aw
namespace Go.Aw
open Go.Proofs Go.RowKit
end Go.Aw
namespace Go.Aw
open Go.Proofs Go.RowKit
theorem lift_len {α : Type} {f : α → List PV} {n : Nat} (h : ∀ a, (f a).length = n) (l : List α) : ∀ y ∈ liftE (l.map f), y.length = n := by
 intro y hy
 unfold liftE at hy
 rw [List.map_map] at hy
 obtain ⟨a, _, rfl⟩ := List.mem_map.1 hy
 simp [h]
theorem one_lift {l : List PV} (h : ∀ p ∈ l, p.one = true) : oneAll (l.map AV.p) = true := by
 induction l with
 | nil => rfl
 | cons a l ih =>
  rw [List.map_cons, oneAll, ih fun p hp => h p (List.mem_cons_of_mem _ hp), Bool.and_true]
  exact h a List.mem_cons_self
theorem lift_one {α : Type} {f : α → List PV} (h : ∀ a, ∀ p ∈ f a, p.one = true) (l : List α) : ∀ y ∈ liftE (l.map f), oneAll y = true := by
 intro y hy
 unfold liftE at hy
 rw [List.map_map] at hy
 obtain ⟨a, _, rfl⟩ := List.mem_map.1 hy
 exact one_lift (h a)
theorem one_I (a : Int) : ∀ p ∈ encI a, p.one = true := by intro p hp; simp [encI] at hp; subst hp; rfl
theorem one_Fd (a : Fd) : ∀ p ∈ encFd a, p.one = true := by intro p hp; simp [encFd] at hp; rcases hp with rfl | rfl | rfl | rfl | rfl <;> rfl
theorem one_Nm (a : Nm) : ∀ p ∈ encNm a, p.one = true := by intro p hp; simp [encNm] at hp; rcases hp with rfl | rfl <;> rfl
theorem one_Mt (a : Mt) : ∀ p ∈ encMt a, p.one = true := by intro p hp; simp [encMt] at hp; rcases hp with rfl | rfl | rfl <;> rfl
theorem law00_Ints (l : List Int) (hl : l.length ≤ 1000000) : PFn Tryd.prog 65 [.slice (l.map encI)] (.slice (l.map encI)) := by
 refine PFn.of Tryd.func65 rfl (by decide) Tryd.ntmps65 Tryd.results65 (Nat.le_of_ble_eq_true rfl) ?_
 simp only [argsT]
 refine AW.rT (by rfl) fun K hK => ?_
 simp -implicitDefEqProofs only [go_sem]
 apply hK; clear hK K
 refine AW.rT (by rfl) fun K hK => ?_
 simp -implicitDefEqProofs only [go_sem, ↓reduceIte, Nat.reduceAdd, Nat.reduceLeDiff, reduceCtorEq]
 refine ⟨⟨lift_len (f := encI) (fun _ => rfl) l, lift_one one_I l, by simp⟩, ⟨.inl trivial, by simp, by rw [liftE_length, List.length_map]; omega⟩, ?_⟩
 apply hK; clear hK K
 refine AW.ret ?_
 simp -implicitDefEqProofs only [go_sem]
theorem law00_Place (p n : Int) (hn : 0 < n) (hb : n ≤ 9223372036854775807) (hp : -9223372036854775808 ≤ p) (hq : p ≤ 9223372036854775807) : PFn Tryd.prog 22 [.int .i64 p, .int .i64 n] (.int .i64 (p % n)) := by
 refine PFn.of Tryd.func22 rfl (by decide) Tryd.ntmps22 Tryd.results22 (Nat.le_of_ble_eq_true rfl) ?_
 simp only [argsT]
 have z : (n = 0) = False := eq_false (by omega)
 have hm := Int.emod_nonneg p (show n ≠ 0 by omega)
 have hm2 := Int.emod_lt_of_pos p hn
 refine AW.rT (by rfl) fun K hK => ?_
 simp -implicitDefEqProofs only [go_sem]
 apply hK; clear hK K
 refine AW.rT (by rfl) fun K hK => ?_
 simp -implicitDefEqProofs only [go_sem, ↓reduceIte, Nat.reduceAdd, Nat.reduceEqDiff, reduceCtorEq, z]
 apply hK; clear hK K
 refine AW.seq ?_
 have ht : p.tmod n = if 0 ≤ p ∨ p % n = 0 then p % n else p % n - n := by
  rw [Int.tmod_eq_emod]
  have hd : n ∣ p ↔ p % n = 0 := Int.dvd_iff_emod_eq_zero
  have hna : (n.natAbs : Int) = n := by omega
  by_cases h : 0 ≤ p ∨ n ∣ p
  ·rw [if_pos h, if_pos (by rcases h with h | h; exact .inl h; exact .inr (hd.1 h))]; simp
  ·rw [if_neg h, if_neg (by intro h'; apply h; rcases h' with h' | h'; exact .inl h'; exact .inr (hd.2 h')), hna]
 by_cases h : p.tmod n < 0
 ·have f1 : (p.tmod n < 0) = True := eq_true h
  have e : IntKind.wrap .i64 (p.tmod n + n) = p % n := by
   rw [w64]
   all_goals
    split at ht <;> omega
  refine AW.rT (by rfl) fun K hK => ?_
  simp -implicitDefEqProofs only [go_sem, ↓reduceIte, Nat.reduceAdd, f1]
  apply hK; clear hK K
  refine AW.cT rfl ?_
  refine AW.rE (by rfl) fun K hK => ?_
  simp -implicitDefEqProofs only [go_sem, ↓reduceIte, Nat.reduceAdd, Nat.reduceEqDiff, e]
  apply hK; clear hK K
  simp only [andThen]
  refine AW.rT (by rfl) fun K hK => ?_
  simp -implicitDefEqProofs only [go_sem, Nat.reduceAdd]
  apply hK; clear hK K
  refine AW.ret ?_
  simp -implicitDefEqProofs only [go_sem]
 ·have f1 : (p.tmod n < 0) = False := eq_false h
  have e : p.tmod n = p % n := by
   split at ht <;> omega
  refine AW.rT (by rfl) fun K hK => ?_
  simp -implicitDefEqProofs only [go_sem, ↓reduceIte, Nat.reduceAdd, f1]
  apply hK; clear hK K
  refine AW.cF rfl ?_
  refine AW.skip ?_
  simp only [andThen]
  refine AW.rT (by rfl) fun K hK => ?_
  simp -implicitDefEqProofs only [go_sem, ↓reduceIte, Nat.reduceAdd, Nat.reduceEqDiff]
  apply hK; clear hK K
  refine AW.ret ?_
  simp -implicitDefEqProofs only [go_sem, e]
def fdFew (f : Fd) : Bool := decide (f.name.length ≤ 200 ∧ f.ty.name.length ≤ 200)
def msFew (m : Ms) : Bool := decide (m.fields.length ≤ 20 ∧ m.res.length ≤ 40) && m.fields.all fdFew
def nmFew (v : Nm) : Bool := decide (v.name.length ≤ 200)
def enFew (e : En) : Bool := decide (e.name.length ≤ 200 ∧ e.vals.length ≤ 24) && e.vals.all nmFew
def mtFew (t : Mt) : Bool := decide (t.name.length ≤ 200 ∧ t.inn.length ≤ 200 ∧ t.out.length ≤ 200)
def totN (S : Sc) (k : Nat) : Nat := S.name.length + ((S.msgs.take k).map fun m => m.name.length).sum
def fewB (S : Sc) : Bool := (S.msgs.take 20).all msFew && ((S.enums.take 20).all enFew && ((S.meths.take 20).all mtFew && decide (totN S 20 < 3000 ∧ S.msgs.length ≤ 14 ∧ S.enums.length ≤ 10 ∧ S.meths.length ≤ 10)))
def bigS (S : Sc) : Prop := S.name.length ≤ reachBytes ∧ ∀ m ∈ S.msgs, m.name.length ≤ reachBytes
theorem tot_next {S : Sc} {i : Nat} {m : Ms} (h : S.msgs[i]? = some m) : totN S (i + 1) = totN S i + m.name.length := by
 unfold totN
 rw [List.take_add_one, h]
 simp; omega
theorem sum_le {l : List Ms} {n : Nat} (h : ∀ m ∈ l, m.name.length ≤ n) : (l.map fun m => m.name.length).sum ≤ l.length * n := by
 induction l with
 | nil => simp
 | cons a l ih =>
  rw [List.map_cons, List.sum_cons, List.length_cons, Nat.add_mul]
  have := h a List.mem_cons_self
  have := ih fun m hm => h m (List.mem_cons_of_mem _ hm)
  omega
theorem tot_le {S : Sc} (h : bigS S) {i : Nat} (hi : i ≤ 20) : totN S i ≤ 21 * 140737488351232 := by
 have h1 := h.1
 have h2 := sum_le (l := S.msgs.take i) (n := reachBytes) fun m hm => h.2 m (List.mem_of_mem_take hm)
 have hl : (S.msgs.take i).length ≤ 20 := by rw [List.length_take]; omega
 have : (S.msgs.take i).length * reachBytes ≤ 20 * reachBytes := Nat.mul_le_mul_right _ hl
 have e : reachBytes = 140737488351232 := by decide
 unfold totN
 omega
theorem take_end {α : Type} {l : List α} {i : Nat} (hi : i ≤ l.length) (h2 : i ≤ 20) (h : ¬ (i < l.length ∧ i < 20)) : l.take i = l.take 20 := by
 by_cases h3 : i = 20
 ·rw [h3]
 ·rw [List.take_of_length_le (by omega), List.take_of_length_le (by omega)]
theorem few_msg {S : Sc} {i : Nat} {m : Ms} (h : S.msgs[i]? = some m) (hi : i < 20) (hm : msFew m = false) : fewB S = false := by
 have : (S.msgs.take 20).all msFew = false := all_not (k := i) (r := m) (by rw [List.getElem?_take, if_pos hi]; exact h) hm
 unfold fewB; rw [this]; rfl
theorem few_enum {S : Sc} {i : Nat} {m : En} (h : S.enums[i]? = some m) (hi : i < 20) (hm : enFew m = false) : fewB S = false := by
 have : (S.enums.take 20).all enFew = false := all_not (k := i) (r := m) (by rw [List.getElem?_take, if_pos hi]; exact h) hm
 unfold fewB; rw [this]; simp
theorem few_meth {S : Sc} {i : Nat} {m : Mt} (h : S.meths[i]? = some m) (hi : i < 20) (hm : mtFew m = false) : fewB S = false := by
 have : (S.meths.take 20).all mtFew = false := all_not (k := i) (r := m) (by rw [List.getElem?_take, if_pos hi]; exact h) hm
 unfold fewB; rw [this]; simp
def fw (S : Sc) (l : List (Nat × AV)) : St := ⟨ofL ((1, .ptr 0 0 0) :: l), ofH [(0, .row 4 [cellsSc S])], 1⟩
theorem law00_Few (S : Sc) (B : bigS S) : PFn Tryd.prog 19 [.agg (encSc S)] (.bool (fewB S)) := by
 refine PFn.of Tryd.func19 rfl (by decide) Tryd.ntmps19 Tryd.results19 (Nat.le_of_ble_eq_true rfl) ?_
 simp only [argsT, encSc]
 refine AW.rT (by rfl) fun K hK => ?_
 simp -implicitDefEqProofs only [go_sem, Nat.reduceAdd]
 apply hK; clear hK K
 refine AW.rT (by rfl) fun K hK => ?_
 simp -implicitDefEqProofs only [go_sem, ↓reduceIte, Nat.reduceAdd, Nat.reduceEqDiff]
 apply hK; clear hK K
 refine AW.cut (fun _ : Unit => fw S [(3, .p (.int .i64 (totN S 20 : Int)))]) (fun _ => (S.msgs.take 20).all msFew = true) ?_ fun _ qA => ?_
 rotate_left
 ·skip
  try simp only [fw, cellsSc]
  refine AW.cut (fun _ : Unit => fw S [(3, .p (.int .i64 (totN S 20 : Int)))]) (fun _ => (S.enums.take 20).all enFew = true) ?_ fun _ qC => ?_
  ·refine AW.rT (by rfl) fun K hK => ?_
   simp -implicitDefEqProofs only [go_sem, Nat.reduceAdd]
   apply hK; clear hK K
   refine AW.block ?_
   refine AW.loop (fun i : Nat => fw S [(3, .p (.int .i64 (totN S 20 : Int))), (7, .p (.int .i64 (i : Int)))]) (fun i => (i ≤ S.enums.length ∧ i ≤ 20) ∧ (S.enums.take i).all enFew = true) (fun i => 20 - i) 0 ?_ ⟨⟨by omega, by omega⟩, by simp⟩ fun i hi => ?_
   ·simp only [fw, cellsSc]
    refine Ghost.sub ?_ ?_ <;> simp -implicitDefEqProofs only [go_sem, ↓reduceIte, Nat.reduceEqDiff, List.forall_mem_cons, List.not_mem_nil, false_implies, implies_true, and_self, List.all_cons, List.all_nil, Nat.reduceLT, labsInL, AV.labsIn]
    all_goals first | rfl | decide | skip
   obtain ⟨⟨i1, i0⟩, i2⟩ := hi
   try simp only [fw, cellsSc]
   refine AW.seq ?_
   by_cases hil : i < S.enums.length ∧ i < 20
   ·have c1 : ((i : Int) < (S.enums.length : Int)) = True := eq_true (by omega)
    have c2 : ((i : Int) < 20) = True := eq_true (by omega)
    obtain ⟨m, hm⟩ : ∃ m, S.enums[i]? = some m := ⟨_, List.getElem?_eq_getElem hil.1⟩
    have ⟨hm1, hm2, hm3⟩ := at_map' encEn hm
    have hm2' : (i : Int) < (S.enums.length : Int) := by omega
    have w1 : IntKind.wrap .i64 ((i : Int) + 1) = ((i + 1 : Nat) : Int) := by rw [w64] <;> omega
    refine AW.rT (by rfl) fun K hK => ?_
    simp -implicitDefEqProofs only [go_sem, ↓reduceIte, Nat.reduceAdd, Nat.reduceEqDiff, c1, c2, List.length_map]
    apply hK; clear hK K
    refine AW.cT rfl ?_
    refine AW.skip ?_
    simp only [andThen]
    refine AW.seq ?_
    refine AW.block ?_
    refine AW.seq ?_
    by_cases a1 : m.name.length > 200
    ·have f1 : ((m.name.length : Int) > 200) = True := eq_true (by omega)
     have e := few_enum hm hil.2 (by unfold enFew; rw [decide_eq_false (by omega)]; rfl)
     refine AW.rT (by rfl) fun K hK => ?_
     simp -implicitDefEqProofs only [go_sem, ↓reduceIte, Nat.reduceAdd, Nat.reduceEqDiff, hm1, hm2', hm3, encEn, List.length_map, f1]
     apply hK; clear hK K
     refine AW.cT rfl ?_
     refine AW.rT (by rfl) fun K hK => ?_
     simp -implicitDefEqProofs only [go_sem, Nat.reduceAdd]
     apply hK; clear hK K
     refine AW.ret ?_
     simp -implicitDefEqProofs only [go_sem, e]
    have f1 : ((m.name.length : Int) > 200) = False := eq_false (by omega)
    by_cases a2 : m.vals.length > 24
    ·have f2 : ((m.vals.length : Int) > 24) = True := eq_true (by omega)
     have e := few_enum hm hil.2 (by unfold enFew; rw [decide_eq_false (by omega)]; rfl)
     refine AW.rT (by rfl) fun K hK => ?_
     simp -implicitDefEqProofs only [go_sem, ↓reduceIte, Nat.reduceAdd, Nat.reduceEqDiff, hm1, hm2', hm3, encEn, List.length_map, f1, f2]
     apply hK; clear hK K
     refine AW.cT rfl ?_
     refine AW.rT (by rfl) fun K hK => ?_
     simp -implicitDefEqProofs only [go_sem, Nat.reduceAdd]
     apply hK; clear hK K
     refine AW.ret ?_
     simp -implicitDefEqProofs only [go_sem, e]
    have f2 : ((m.vals.length : Int) > 24) = False := eq_false (by omega)
    refine AW.rT (by rfl) fun K hK => ?_
    simp -implicitDefEqProofs only [go_sem, ↓reduceIte, Nat.reduceAdd, Nat.reduceEqDiff, hm1, hm2', hm3, encEn, List.length_map, f1, f2]
    apply hK; clear hK K
    refine AW.cF rfl ?_
    refine AW.skip ?_
    simp only [andThen]
    refine AW.rT (by rfl) fun K hK => ?_
    simp -implicitDefEqProofs only [go_sem, Nat.reduceAdd]
    apply hK; clear hK K
    refine AW.block ?_
    refine AW.loop (fun j : Nat => fw S [(3, .p (.int .i64 (totN S 20 : Int))), (7, .p (.int .i64 (i : Int))), (8, .p (.int .i64 (j : Int)))]) (fun j => j ≤ m.vals.length ∧ (m.vals.take j).all nmFew = true) (fun j => m.vals.length - j) 0 ?_ ⟨by omega, by simp⟩ fun j hj => ?_
    ·simp only [fw, cellsSc]
     refine Ghost.sub ?_ ?_ <;> simp -implicitDefEqProofs only [go_sem, ↓reduceIte, Nat.reduceEqDiff, List.forall_mem_cons, List.not_mem_nil, false_implies, implies_true, and_self, List.all_cons, List.all_nil, Nat.reduceLT, labsInL, AV.labsIn]
     all_goals first | rfl | decide | skip
    obtain ⟨j1, j2⟩ := hj
    try simp only [fw, cellsSc]
    refine AW.seq ?_
    by_cases hjl : j < m.vals.length
    case neg =>
     have c3 : ((j : Int) < (m.vals.length : Int)) = False := eq_false (by omega)
     rw [List.take_of_length_le (by omega)] at j2
     have hmf : enFew m = true := by unfold enFew; rw [decide_eq_true (by omega), j2]; rfl
     refine AW.rT (by rfl) fun K hK => ?_
     simp -implicitDefEqProofs only [go_sem, ↓reduceIte, Nat.reduceAdd, Nat.reduceEqDiff, hm1, hm2', hm3, encEn, List.length_map, c3]
     apply hK; clear hK K
     refine AW.cF rfl ?_
     refine AW.exit ?_
     simp only [andThen, inBlk, ↓reduceIte]
     refine AW.rE (by rfl) fun K hK => ?_
     simp -implicitDefEqProofs only [go_sem, ↓reduceIte, Nat.reduceAdd, Nat.reduceEqDiff, w1]
     apply hK; clear hK K
     refine ⟨i + 1, ⟨⟨by omega, by omega⟩, all_next hm i2 hmf⟩, by omega, ?_⟩
     try simp only [fw, cellsSc]
     refine Ghost.sub ?_ ?_ <;> simp -implicitDefEqProofs only [go_sem, ↓reduceIte, Nat.reduceEqDiff, List.forall_mem_cons, List.not_mem_nil, false_implies, implies_true, and_self, List.all_cons, List.all_nil, Nat.reduceLT, labsInL, AV.labsIn]
    obtain ⟨f, hf⟩ : ∃ f, m.vals[j]? = some f := ⟨_, List.getElem?_eq_getElem hjl⟩
    have ⟨hf1, hf2, hf3⟩ := at_map' encNm hf
    have hf2' : (j : Int) < (m.vals.length : Int) := by omega
    have c3 : ((j : Int) < (m.vals.length : Int)) = True := eq_true (by omega)
    have w3 : IntKind.wrap .i64 ((j : Int) + 1) = ((j + 1 : Nat) : Int) := by rw [w64] <;> omega
    refine AW.rT (by rfl) fun K hK => ?_
    simp -implicitDefEqProofs only [go_sem, ↓reduceIte, Nat.reduceAdd, Nat.reduceEqDiff, hm1, hm2', hm3, encEn, List.length_map, c3]
    apply hK; clear hK K
    refine AW.cT rfl ?_
    refine AW.skip ?_
    simp only [andThen]
    refine AW.seq ?_
    refine AW.block ?_
    by_cases b1 : f.name.length > 200
    ·have f1 : ((f.name.length : Int) > 200) = True := eq_true (by omega)
     have e := few_enum hm hil.2 (by unfold enFew; rw [all_not hf (show nmFew f = false from decide_eq_false (by omega))]; simp)
     refine AW.rT (by rfl) fun K hK => ?_
     simp -implicitDefEqProofs only [go_sem, ↓reduceIte, Nat.reduceAdd, Nat.reduceEqDiff, hm1, hm2', hm3, encEn, List.length_map, hf1, hf2', hf3, encNm, f1]
     apply hK; clear hK K
     refine AW.cT rfl ?_
     refine AW.rT (by rfl) fun K hK => ?_
     simp -implicitDefEqProofs only [go_sem, Nat.reduceAdd]
     apply hK; clear hK K
     refine AW.ret ?_
     simp -implicitDefEqProofs only [go_sem, e]
    have f1 : ((f.name.length : Int) > 200) = False := eq_false (by omega)
    refine AW.rT (by rfl) fun K hK => ?_
    simp -implicitDefEqProofs only [go_sem, ↓reduceIte, Nat.reduceAdd, Nat.reduceEqDiff, hm1, hm2', hm3, encEn, List.length_map, hf1, hf2', hf3, encNm, f1]
    apply hK; clear hK K
    refine AW.cF rfl ?_
    refine AW.skip ?_
    simp only [andThen, inBlk]
    refine AW.rE (by rfl) fun K hK => ?_
    simp -implicitDefEqProofs only [go_sem, ↓reduceIte, Nat.reduceAdd, Nat.reduceEqDiff, w3]
    apply hK; clear hK K
    refine ⟨j + 1, ⟨by omega, all_next hf j2 (decide_eq_true (by omega))⟩, by omega, ?_⟩
    refine Ghost.sub ?_ ?_ <;> simp -implicitDefEqProofs only [go_sem, ↓reduceIte, Nat.reduceEqDiff, List.forall_mem_cons, List.not_mem_nil, false_implies, implies_true, and_self, List.all_cons, List.all_nil, Nat.reduceLT, labsInL, AV.labsIn]
   have ea := take_end i1 i0 hil
   rw [ea] at i2
   by_cases hil' : i < S.enums.length
   ·have c1 : ((i : Int) < (S.enums.length : Int)) = True := eq_true (by omega)
    have c2 : ((i : Int) < 20) = False := eq_false (by omega)
    refine AW.rT (by rfl) fun K hK => ?_
    simp -implicitDefEqProofs only [go_sem, ↓reduceIte, Nat.reduceAdd, Nat.reduceEqDiff, c1, c2, List.length_map]
    apply hK; clear hK K
    refine AW.cF rfl ?_
    refine AW.exit ?_
    simp only [andThen, inBlk, ↓reduceIte]
    refine ⟨(), i2, ?_⟩
    try simp only [fw, cellsSc]
    refine Ghost.sub ?_ ?_ <;> simp -implicitDefEqProofs only [go_sem, ↓reduceIte, Nat.reduceEqDiff, List.forall_mem_cons, List.not_mem_nil, false_implies, implies_true, and_self, List.all_cons, List.all_nil, Nat.reduceLT, labsInL, AV.labsIn]
   ·have c1 : ((i : Int) < (S.enums.length : Int)) = False := eq_false (by omega)
    refine AW.rT (by rfl) fun K hK => ?_
    simp -implicitDefEqProofs only [go_sem, ↓reduceIte, Nat.reduceAdd, Nat.reduceEqDiff, c1, List.length_map]
    apply hK; clear hK K
    refine AW.cF rfl ?_
    refine AW.exit ?_
    simp only [andThen, inBlk, ↓reduceIte]
    refine ⟨(), i2, ?_⟩
    try simp only [fw, cellsSc]
    refine Ghost.sub ?_ ?_ <;> simp -implicitDefEqProofs only [go_sem, ↓reduceIte, Nat.reduceEqDiff, List.forall_mem_cons, List.not_mem_nil, false_implies, implies_true, and_self, List.all_cons, List.all_nil, Nat.reduceLT, labsInL, AV.labsIn]
  try simp only [fw, cellsSc]
  refine AW.cut (fun _ : Unit => fw S [(3, .p (.int .i64 (totN S 20 : Int)))]) (fun _ => (S.meths.take 20).all mtFew = true) ?_ fun _ qE => ?_
  ·refine AW.rT (by rfl) fun K hK => ?_
   simp -implicitDefEqProofs only [go_sem, Nat.reduceAdd]
   apply hK; clear hK K
   refine AW.block ?_
   refine AW.loop (fun i : Nat => fw S [(3, .p (.int .i64 (totN S 20 : Int))), (9, .p (.int .i64 (i : Int)))]) (fun i => (i ≤ S.meths.length ∧ i ≤ 20) ∧ (S.meths.take i).all mtFew = true) (fun i => 20 - i) 0 ?_ ⟨⟨by omega, by omega⟩, by simp⟩ fun i hi => ?_
   ·simp only [fw, cellsSc]
    refine Ghost.sub ?_ ?_ <;> simp -implicitDefEqProofs only [go_sem, ↓reduceIte, Nat.reduceEqDiff, List.forall_mem_cons, List.not_mem_nil, false_implies, implies_true, and_self, List.all_cons, List.all_nil, Nat.reduceLT, labsInL, AV.labsIn]
    all_goals first | rfl | decide | skip
   obtain ⟨⟨i1, i0⟩, i2⟩ := hi
   try simp only [fw, cellsSc]
   refine AW.seq ?_
   by_cases hil : i < S.meths.length ∧ i < 20
   ·have c1 : ((i : Int) < (S.meths.length : Int)) = True := eq_true (by omega)
    have c2 : ((i : Int) < 20) = True := eq_true (by omega)
    obtain ⟨m, hm⟩ : ∃ m, S.meths[i]? = some m := ⟨_, List.getElem?_eq_getElem hil.1⟩
    have ⟨hm1, hm2, hm3⟩ := at_map' encMt hm
    have hm2' : (i : Int) < (S.meths.length : Int) := by omega
    have w1 : IntKind.wrap .i64 ((i : Int) + 1) = ((i + 1 : Nat) : Int) := by rw [w64] <;> omega
    refine AW.rT (by rfl) fun K hK => ?_
    simp -implicitDefEqProofs only [go_sem, ↓reduceIte, Nat.reduceAdd, Nat.reduceEqDiff, c1, c2, List.length_map]
    apply hK; clear hK K
    refine AW.cT rfl ?_
    refine AW.skip ?_
    simp only [andThen]
    refine AW.seq ?_
    refine AW.block ?_
    by_cases a1 : m.name.length > 200
    ·have f1 : ((m.name.length : Int) > 200) = True := eq_true (by omega)
     have e := few_meth hm hil.2 (decide_eq_false (by omega))
     refine AW.rT (by rfl) fun K hK => ?_
     simp -implicitDefEqProofs only [go_sem, ↓reduceIte, Nat.reduceAdd, Nat.reduceEqDiff, hm1, hm2', hm3, encMt, List.length_map, f1]
     apply hK; clear hK K
     refine AW.cT rfl ?_
     refine AW.rT (by rfl) fun K hK => ?_
     simp -implicitDefEqProofs only [go_sem, Nat.reduceAdd]
     apply hK; clear hK K
     refine AW.ret ?_
     simp -implicitDefEqProofs only [go_sem, e]
    have f1 : ((m.name.length : Int) > 200) = False := eq_false (by omega)
    by_cases a2 : m.inn.length > 200
    ·have f2 : ((m.inn.length : Int) > 200) = True := eq_true (by omega)
     have e := few_meth hm hil.2 (decide_eq_false (by omega))
     refine AW.rT (by rfl) fun K hK => ?_
     simp -implicitDefEqProofs only [go_sem, ↓reduceIte, Nat.reduceAdd, Nat.reduceEqDiff, hm1, hm2', hm3, encMt, List.length_map, f1, f2]
     apply hK; clear hK K
     refine AW.cT rfl ?_
     refine AW.rT (by rfl) fun K hK => ?_
     simp -implicitDefEqProofs only [go_sem, Nat.reduceAdd]
     apply hK; clear hK K
     refine AW.ret ?_
     simp -implicitDefEqProofs only [go_sem, e]
    have f2 : ((m.inn.length : Int) > 200) = False := eq_false (by omega)
    by_cases a3 : m.out.length > 200
    ·have f3 : ((m.out.length : Int) > 200) = True := eq_true (by omega)
     have e := few_meth hm hil.2 (decide_eq_false (by omega))
     refine AW.rT (by rfl) fun K hK => ?_
     simp -implicitDefEqProofs only [go_sem, ↓reduceIte, Nat.reduceAdd, Nat.reduceEqDiff, hm1, hm2', hm3, encMt, List.length_map, f1, f2, f3]
     apply hK; clear hK K
     refine AW.cT rfl ?_
     refine AW.rT (by rfl) fun K hK => ?_
     simp -implicitDefEqProofs only [go_sem, Nat.reduceAdd]
     apply hK; clear hK K
     refine AW.ret ?_
     simp -implicitDefEqProofs only [go_sem, e]
    have f3 : ((m.out.length : Int) > 200) = False := eq_false (by omega)
    refine AW.rT (by rfl) fun K hK => ?_
    simp -implicitDefEqProofs only [go_sem, ↓reduceIte, Nat.reduceAdd, Nat.reduceEqDiff, hm1, hm2', hm3, encMt, List.length_map, f1, f2, f3]
    apply hK; clear hK K
    refine AW.cF rfl ?_
    refine AW.skip ?_
    simp only [andThen, inBlk]
    refine AW.rE (by rfl) fun K hK => ?_
    simp -implicitDefEqProofs only [go_sem, ↓reduceIte, Nat.reduceAdd, Nat.reduceEqDiff, w1]
    apply hK; clear hK K
    refine ⟨i + 1, ⟨⟨by omega, by omega⟩, all_next hm i2 (decide_eq_true (by omega))⟩, by omega, ?_⟩
    try simp only [fw, cellsSc]
    refine Ghost.sub ?_ ?_ <;> simp -implicitDefEqProofs only [go_sem, ↓reduceIte, Nat.reduceEqDiff, List.forall_mem_cons, List.not_mem_nil, false_implies, implies_true, and_self, List.all_cons, List.all_nil, Nat.reduceLT, labsInL, AV.labsIn]
   have ea := take_end i1 i0 hil
   rw [ea] at i2
   by_cases hil' : i < S.meths.length
   ·have c1 : ((i : Int) < (S.meths.length : Int)) = True := eq_true (by omega)
    have c2 : ((i : Int) < 20) = False := eq_false (by omega)
    refine AW.rT (by rfl) fun K hK => ?_
    simp -implicitDefEqProofs only [go_sem, ↓reduceIte, Nat.reduceAdd, Nat.reduceEqDiff, c1, c2, List.length_map]
    apply hK; clear hK K
    refine AW.cF rfl ?_
    refine AW.exit ?_
    simp only [andThen, inBlk, ↓reduceIte]
    refine ⟨(), i2, ?_⟩
    try simp only [fw, cellsSc]
    refine Ghost.sub ?_ ?_ <;> simp -implicitDefEqProofs only [go_sem, ↓reduceIte, Nat.reduceEqDiff, List.forall_mem_cons, List.not_mem_nil, false_implies, implies_true, and_self, List.all_cons, List.all_nil, Nat.reduceLT, labsInL, AV.labsIn]
   ·have c1 : ((i : Int) < (S.meths.length : Int)) = False := eq_false (by omega)
    refine AW.rT (by rfl) fun K hK => ?_
    simp -implicitDefEqProofs only [go_sem, ↓reduceIte, Nat.reduceAdd, Nat.reduceEqDiff, c1, List.length_map]
    apply hK; clear hK K
    refine AW.cF rfl ?_
    refine AW.exit ?_
    simp only [andThen, inBlk, ↓reduceIte]
    refine ⟨(), i2, ?_⟩
    try simp only [fw, cellsSc]
    refine Ghost.sub ?_ ?_ <;> simp -implicitDefEqProofs only [go_sem, ↓reduceIte, Nat.reduceEqDiff, List.forall_mem_cons, List.not_mem_nil, false_implies, implies_true, and_self, List.all_cons, List.all_nil, Nat.reduceLT, labsInL, AV.labsIn]
  try simp only [fw, cellsSc]
  have eF : fewB S = decide (totN S 20 < 3000 ∧ S.msgs.length ≤ 14 ∧ S.enums.length ≤ 10 ∧ S.meths.length ≤ 10) := by
   unfold fewB; rw [qA, qC, qE]; simp only [Bool.true_and]
  by_cases a0 : totN S 20 < 3000
  case neg =>
   have f0 : ((totN S 20 : Int) < 3000) = False := eq_false (by omega)
   rw [decide_eq_false (by omega)] at eF
   refine AW.rT (by rfl) fun K hK => ?_
   simp -implicitDefEqProofs only [go_sem, ↓reduceIte, Nat.reduceAdd, Nat.reduceEqDiff, f0]
   apply hK; clear hK K
   refine AW.ret ?_
   simp -implicitDefEqProofs only [go_sem, eF]
  have f0 : ((totN S 20 : Int) < 3000) = True := eq_true (by omega)
  by_cases a1 : S.msgs.length ≤ 14
  case neg =>
   have f1 : ((S.msgs.length : Int) ≤ 14) = False := eq_false (by omega)
   rw [decide_eq_false (by omega)] at eF
   refine AW.rT (by rfl) fun K hK => ?_
   simp -implicitDefEqProofs only [go_sem, ↓reduceIte, Nat.reduceAdd, Nat.reduceEqDiff, f0, f1, List.length_map]
   apply hK; clear hK K
   refine AW.ret ?_
   simp -implicitDefEqProofs only [go_sem, eF]
  have f1 : ((S.msgs.length : Int) ≤ 14) = True := eq_true (by omega)
  by_cases a2 : S.enums.length ≤ 10
  case neg =>
   have f2 : ((S.enums.length : Int) ≤ 10) = False := eq_false (by omega)
   rw [decide_eq_false (by omega)] at eF
   refine AW.rT (by rfl) fun K hK => ?_
   simp -implicitDefEqProofs only [go_sem, ↓reduceIte, Nat.reduceAdd, Nat.reduceEqDiff, f0, f1, f2, List.length_map]
   apply hK; clear hK K
   refine AW.ret ?_
   simp -implicitDefEqProofs only [go_sem, eF]
  have f2 : ((S.enums.length : Int) ≤ 10) = True := eq_true (by omega)
  by_cases a3 : S.meths.length ≤ 10
  case neg =>
   have f3 : ((S.meths.length : Int) ≤ 10) = False := eq_false (by omega)
   rw [decide_eq_false (by omega)] at eF
   refine AW.rT (by rfl) fun K hK => ?_
   simp -implicitDefEqProofs only [go_sem, ↓reduceIte, Nat.reduceAdd, Nat.reduceEqDiff, f0, f1, f2, f3, List.length_map]
   apply hK; clear hK K
   refine AW.ret ?_
   simp -implicitDefEqProofs only [go_sem, eF]
  have f3 : ((S.meths.length : Int) ≤ 10) = True := eq_true (by omega)
  rw [decide_eq_true (by omega)] at eF
  refine AW.rT (by rfl) fun K hK => ?_
  simp -implicitDefEqProofs only [go_sem, ↓reduceIte, Nat.reduceAdd, Nat.reduceEqDiff, f0, f1, f2, f3, List.length_map]
  apply hK; clear hK K
  refine AW.ret ?_
  simp -implicitDefEqProofs only [go_sem, eF]
 refine AW.rT (by rfl) fun K hK => ?_
 simp -implicitDefEqProofs only [go_sem, Nat.reduceAdd]
 apply hK; clear hK K
 refine AW.block ?_
 refine AW.loop (fun i : Nat => fw S [(3, .p (.int .i64 (totN S i : Int))), (4, .p (.int .i64 (i : Int)))]) (fun i => (i ≤ S.msgs.length ∧ i ≤ 20) ∧ (S.msgs.take i).all msFew = true) (fun i => 20 - i) 0 ?_ ⟨⟨by omega, by omega⟩, by simp⟩ fun i hi => ?_
 ·simp only [fw, cellsSc]
  refine Ghost.sub ?_ ?_ <;> simp -implicitDefEqProofs only [go_sem, ↓reduceIte, Nat.reduceEqDiff, totN, List.take_zero, List.map_nil, List.sum_nil, List.forall_mem_cons, List.not_mem_nil, false_implies, implies_true, and_self, List.all_cons, List.all_nil, Nat.reduceLT, labsInL, AV.labsIn]
  all_goals first | rfl | decide | skip
 obtain ⟨⟨i1, i0⟩, i2⟩ := hi
 have ht := tot_le B i0
 try simp only [fw, cellsSc]
 refine AW.seq ?_
 by_cases hil : i < S.msgs.length ∧ i < 20
 ·have c1 : ((i : Int) < (S.msgs.length : Int)) = True := eq_true (by omega)
  have c2 : ((i : Int) < 20) = True := eq_true (by omega)
  obtain ⟨m, hm⟩ : ∃ m, S.msgs[i]? = some m := ⟨_, List.getElem?_eq_getElem hil.1⟩
  have ⟨hm1, hm2, hm3⟩ := at_map' encMs hm
  have hm2' : (i : Int) < (S.msgs.length : Int) := by omega
  have w1 : IntKind.wrap .i64 ((i : Int) + 1) = ((i + 1 : Nat) : Int) := by rw [w64] <;> omega
  have hbm : m.name.length ≤ reachBytes := B.2 m (List.mem_of_getElem? hm)
  have eb : reachBytes = 140737488351232 := by decide
  have hnt := tot_next hm
  have w2 : IntKind.wrap .i64 ((totN S i : Int) + (m.name.length : Int)) = (totN S (i + 1) : Int) := by rw [w64] <;> omega
  refine AW.rT (by rfl) fun K hK => ?_
  simp -implicitDefEqProofs only [go_sem, ↓reduceIte, Nat.reduceAdd, Nat.reduceEqDiff, c1, c2, List.length_map]
  apply hK; clear hK K
  refine AW.cT rfl ?_
  refine AW.skip ?_
  simp only [andThen]
  refine AW.seq ?_
  refine AW.block ?_
  refine AW.rT (by rfl) fun K hK => ?_
  simp -implicitDefEqProofs only [go_sem, ↓reduceIte, Nat.reduceAdd, Nat.reduceEqDiff, c1, List.length_map, hm1, hm3, encMs, w2]
  apply hK; clear hK K
  refine AW.seq ?_
  by_cases a1 : m.fields.length > 20
  ·have f1 : ((m.fields.length : Int) > 20) = True := eq_true (by omega)
   have e := few_msg hm hil.2 (by unfold msFew; rw [decide_eq_false (by omega)]; rfl)
   refine AW.rT (by rfl) fun K hK => ?_
   simp -implicitDefEqProofs only [go_sem, ↓reduceIte, Nat.reduceAdd, Nat.reduceEqDiff, hm1, hm2', hm3, encMs, List.length_map, f1]
   apply hK; clear hK K
   refine AW.cT rfl ?_
   refine AW.rT (by rfl) fun K hK => ?_
   simp -implicitDefEqProofs only [go_sem, Nat.reduceAdd]
   apply hK; clear hK K
   refine AW.ret ?_
   simp -implicitDefEqProofs only [go_sem, e]
  have f1 : ((m.fields.length : Int) > 20) = False := eq_false (by omega)
  by_cases a2 : m.res.length > 40
  ·have f2 : ((m.res.length : Int) > 40) = True := eq_true (by omega)
   have e := few_msg hm hil.2 (by unfold msFew; rw [decide_eq_false (by omega)]; rfl)
   refine AW.rT (by rfl) fun K hK => ?_
   simp -implicitDefEqProofs only [go_sem, ↓reduceIte, Nat.reduceAdd, Nat.reduceEqDiff, hm1, hm2', hm3, encMs, List.length_map, f1, f2]
   apply hK; clear hK K
   refine AW.cT rfl ?_
   refine AW.rT (by rfl) fun K hK => ?_
   simp -implicitDefEqProofs only [go_sem, Nat.reduceAdd]
   apply hK; clear hK K
   refine AW.ret ?_
   simp -implicitDefEqProofs only [go_sem, e]
  have f2 : ((m.res.length : Int) > 40) = False := eq_false (by omega)
  refine AW.rT (by rfl) fun K hK => ?_
  simp -implicitDefEqProofs only [go_sem, ↓reduceIte, Nat.reduceAdd, Nat.reduceEqDiff, hm1, hm2', hm3, encMs, List.length_map, f1, f2]
  apply hK; clear hK K
  refine AW.cF rfl ?_
  refine AW.skip ?_
  simp only [andThen]
  refine AW.rT (by rfl) fun K hK => ?_
  simp -implicitDefEqProofs only [go_sem, Nat.reduceAdd]
  apply hK; clear hK K
  refine AW.block ?_
  refine AW.loop (fun j : Nat => fw S [(3, .p (.int .i64 (totN S (i + 1) : Int))), (4, .p (.int .i64 (i : Int))), (5, .p (.int .i64 (j : Int)))]) (fun j => j ≤ m.fields.length ∧ (m.fields.take j).all fdFew = true) (fun j => m.fields.length - j) 0 ?_ ⟨by omega, by simp⟩ fun j hj => ?_
  ·simp only [fw, cellsSc]
   refine Ghost.sub ?_ ?_ <;> simp -implicitDefEqProofs only [go_sem, ↓reduceIte, Nat.reduceEqDiff, List.forall_mem_cons, List.not_mem_nil, false_implies, implies_true, and_self, List.all_cons, List.all_nil, Nat.reduceLT, labsInL, AV.labsIn]
   all_goals first | rfl | decide | skip
  obtain ⟨j1, j2⟩ := hj
  try simp only [fw, cellsSc]
  refine AW.seq ?_
  by_cases hjl : j < m.fields.length
  case neg =>
   have c3 : ((j : Int) < (m.fields.length : Int)) = False := eq_false (by omega)
   rw [List.take_of_length_le (by omega)] at j2
   have hmf : msFew m = true := by unfold msFew; rw [decide_eq_true (by omega), j2]; rfl
   refine AW.rT (by rfl) fun K hK => ?_
   simp -implicitDefEqProofs only [go_sem, ↓reduceIte, Nat.reduceAdd, Nat.reduceEqDiff, hm1, hm2', hm3, encMs, List.length_map, c3]
   apply hK; clear hK K
   refine AW.cF rfl ?_
   refine AW.exit ?_
   simp only [andThen, inBlk, ↓reduceIte]
   refine AW.rE (by rfl) fun K hK => ?_
   simp -implicitDefEqProofs only [go_sem, ↓reduceIte, Nat.reduceAdd, Nat.reduceEqDiff, w1]
   apply hK; clear hK K
   refine ⟨i + 1, ⟨⟨by omega, by omega⟩, all_next hm i2 hmf⟩, by omega, ?_⟩
   try simp only [fw, cellsSc]
   refine Ghost.sub ?_ ?_ <;> simp -implicitDefEqProofs only [go_sem, ↓reduceIte, Nat.reduceEqDiff, List.forall_mem_cons, List.not_mem_nil, false_implies, implies_true, and_self, List.all_cons, List.all_nil, Nat.reduceLT, labsInL, AV.labsIn]
  obtain ⟨f, hf⟩ : ∃ f, m.fields[j]? = some f := ⟨_, List.getElem?_eq_getElem hjl⟩
  have ⟨hf1, hf2, hf3⟩ := at_map' encFd hf
  have hf2' : (j : Int) < (m.fields.length : Int) := by omega
  have c3 : ((j : Int) < (m.fields.length : Int)) = True := eq_true (by omega)
  have w3 : IntKind.wrap .i64 ((j : Int) + 1) = ((j + 1 : Nat) : Int) := by rw [w64] <;> omega
  refine AW.rT (by rfl) fun K hK => ?_
  simp -implicitDefEqProofs only [go_sem, ↓reduceIte, Nat.reduceAdd, Nat.reduceEqDiff, hm1, hm2', hm3, encMs, List.length_map, c3]
  apply hK; clear hK K
  refine AW.cT rfl ?_
  refine AW.skip ?_
  simp only [andThen]
  refine AW.seq ?_
  refine AW.block ?_
  refine AW.rT (by rfl) fun K hK => ?_
  simp -implicitDefEqProofs only [go_sem, ↓reduceIte, Nat.reduceAdd, Nat.reduceEqDiff, Nat.reduceLeDiff, hm1, hm2', hm3, encMs, List.length_map, hf1, hf2', hf3, encFd]
  apply hK; clear hK K
  have bad : fdFew f = false → fewB S = false := fun h => few_msg hm hil.2 (by unfold msFew; rw [all_not hf h]; simp)
  by_cases b1 : f.name.length > 200
  ·have f1 : ((f.name.length : Int) > 200) = True := eq_true (by omega)
   have e := bad (decide_eq_false (by omega))
   refine AW.rT (by rfl) fun K hK => ?_
   simp -implicitDefEqProofs only [go_sem, ↓reduceIte, Nat.reduceAdd, Nat.reduceEqDiff, f1]
   apply hK; clear hK K
   refine AW.cT rfl ?_
   refine AW.rT (by rfl) fun K hK => ?_
   simp -implicitDefEqProofs only [go_sem, Nat.reduceAdd]
   apply hK; clear hK K
   refine AW.ret ?_
   simp -implicitDefEqProofs only [go_sem, e]
  have f1 : ((f.name.length : Int) > 200) = False := eq_false (by omega)
  by_cases b2 : f.ty.name.length > 200
  ·have f2 : ((f.ty.name.length : Int) > 200) = True := eq_true (by omega)
   have e := bad (decide_eq_false (by omega))
   refine AW.rT (by rfl) fun K hK => ?_
   simp -implicitDefEqProofs only [go_sem, ↓reduceIte, Nat.reduceAdd, Nat.reduceEqDiff, f1, f2]
   apply hK; clear hK K
   refine AW.cT rfl ?_
   refine AW.rT (by rfl) fun K hK => ?_
   simp -implicitDefEqProofs only [go_sem, Nat.reduceAdd]
   apply hK; clear hK K
   refine AW.ret ?_
   simp -implicitDefEqProofs only [go_sem, e]
  have f2 : ((f.ty.name.length : Int) > 200) = False := eq_false (by omega)
  refine AW.rT (by rfl) fun K hK => ?_
  simp -implicitDefEqProofs only [go_sem, ↓reduceIte, Nat.reduceAdd, Nat.reduceEqDiff, f1, f2]
  apply hK; clear hK K
  refine AW.cF rfl ?_
  refine AW.skip ?_
  simp only [andThen, inBlk]
  refine AW.rE (by rfl) fun K hK => ?_
  simp -implicitDefEqProofs only [go_sem, ↓reduceIte, Nat.reduceAdd, Nat.reduceEqDiff, w3]
  apply hK; clear hK K
  refine ⟨j + 1, ⟨by omega, all_next hf j2 (decide_eq_true (by omega))⟩, by omega, ?_⟩
  refine Ghost.sub ?_ ?_ <;> simp -implicitDefEqProofs only [go_sem, ↓reduceIte, Nat.reduceEqDiff, reduceCtorEq, List.forall_mem_cons, List.not_mem_nil, false_implies, implies_true, and_self, List.all_cons, List.all_nil, Nat.reduceLT, labsInL, AV.labsIn]
 have ea := take_end i1 i0 hil
 have et : totN S i = totN S 20 := by unfold totN; rw [ea]
 rw [ea] at i2
 by_cases hil' : i < S.msgs.length
 ·have c1 : ((i : Int) < (S.msgs.length : Int)) = True := eq_true (by omega)
  have c2 : ((i : Int) < 20) = False := eq_false (by omega)
  refine AW.rT (by rfl) fun K hK => ?_
  simp -implicitDefEqProofs only [go_sem, ↓reduceIte, Nat.reduceAdd, Nat.reduceEqDiff, c1, c2, List.length_map]
  apply hK; clear hK K
  refine AW.cF rfl ?_
  refine AW.exit ?_
  simp only [andThen, inBlk, ↓reduceIte]
  refine ⟨(), i2, ?_⟩
  try simp only [fw, cellsSc]
  refine Ghost.sub ?_ ?_ <;> simp -implicitDefEqProofs only [go_sem, ↓reduceIte, Nat.reduceEqDiff, et, List.forall_mem_cons, List.not_mem_nil, false_implies, implies_true, and_self, List.all_cons, List.all_nil, Nat.reduceLT, labsInL, AV.labsIn]
 ·have c1 : ((i : Int) < (S.msgs.length : Int)) = False := eq_false (by omega)
  refine AW.rT (by rfl) fun K hK => ?_
  simp -implicitDefEqProofs only [go_sem, ↓reduceIte, Nat.reduceAdd, Nat.reduceEqDiff, c1, List.length_map]
  apply hK; clear hK K
  refine AW.cF rfl ?_
  refine AW.exit ?_
  simp only [andThen, inBlk, ↓reduceIte]
  refine ⟨(), i2, ?_⟩
  try simp only [fw, cellsSc]
  refine Ghost.sub ?_ ?_ <;> simp -implicitDefEqProofs only [go_sem, ↓reduceIte, Nat.reduceEqDiff, et, List.forall_mem_cons, List.not_mem_nil, false_implies, implies_true, and_self, List.all_cons, List.all_nil, Nat.reduceLT, labsInL, AV.labsIn]
end Go.Aw
namespace Go.Aw
theorem Ghost.nilH {nt : Fm} {s : St} {l i j sz sz' : Nat} {es : List (List AV)} {e : List AV} (hl : s.H l = some (.row sz es)) (hi : es[i]? = some e) (hj : e[j]? = some (.ex [])) :
  Ghost nt s ⟨s.T, upd (upd s.H l (some (.row sz (es.set i (e.set j (.own s.nx)))))) s.nx (some (.row sz' [])), s.nx + 1⟩ := by
 rintro w0 X I0 a w ⟨σ, I, hσ, m⟩
 have hb := m.heap.rows l _ hl
 cases hb with
 | emp h => simp at hi
 | row h hg hcur hc hs ho hr =>
  rename_i g c cur et
  obtain ⟨u, hu, hru⟩ := hr i e j _ hi hj
  have hnx := hσ s.nx (Nat.le_refl _)
  have hln : l ≠ s.nx := by rintro rfl; rw [hnx] at h; cases h
  cases hru with
  | ex he hrep =>
   rename_i ad n
   subst he
   have ext : ∀ l' s', σ l' = some s' → upd σ s.nx (some (.emp ad)) l' = some s' := fun l' s' h' => by
    rw [upd_ne _ _ (by rintro rfl; rw [hnx] at h'; cases h')]
    exact h'
   have H2 := m.heap.empty hnx ad sz'
   refine ⟨upd σ s.nx (some (.emp ad)), I, fun l' h' => ?_, m.defers, m.size, m.pins, ⟨fun l' b' h' => ?_, fun l1 l2 g s1 s2 h1 h2 => ?_, fun l' g s' h1 => ?_, H2.imm, H2.sub, H2.fr⟩, fun i' x hx => ?_⟩
   ·simp only at h'
    rw [upd_ne _ _ (by omega)]
    exact hσ l' (by omega)
   ·simp only at h'
    by_cases e1 : l' = s.nx
    ·subst e1
     rw [upd_same] at h'
     exact H2.rows s.nx b' (by rw [upd_same]; exact h')
    ·rw [upd_ne _ _ e1] at h'
     by_cases e2 : l' = l
     ·subst e2
      rw [upd_same] at h'
      injection h' with h'
      subst h'
      refine .row (by rw [List.length_set]; exact ext _ _ h) hg hcur (by rw [List.length_set]; exact hc) (fun e' he' => ?_) (fun e' he' x hx => ?_) fun i' e' j' x q1 q2 => ?_
      ·rcases List.mem_or_eq_of_mem_set he' with he' | rfl
       ·exact hs e' he'
       ·rw [List.length_set]; exact hs e (List.mem_of_getElem? hi)
      ·rcases List.mem_or_eq_of_mem_set he' with he' | rfl
       ·exact ho e' he' x hx
       ·rcases List.mem_or_eq_of_mem_set hx with hx | rfl
        ·exact ho e (List.mem_of_getElem? hi) x hx
        ·rfl
      ·rw [List.getElem?_set] at q1
       split at q1
       ·rename_i e3
        subst e3
        split at q1
        ·injection q1 with q1
         subst q1
         rw [List.getElem?_set] at q2
         split at q2
         ·rename_i e4
          subst e4
          split at q2
          ·injection q2 with q2
           subst q2
           exact ⟨_, hu, .ownE (upd_same _ _ _)⟩
          ·cases q2
         ·obtain ⟨u', hu', hr'⟩ := hr i e j' x hi q2
          exact ⟨u', hu', hr'.mono ext (fun _ h => h) (fun _ _ => rfl)⟩
        ·cases q1
       ·obtain ⟨u', hu', hr'⟩ := hr i' e' j' x q1 q2
        exact ⟨u', hu', hr'.mono ext (fun _ h => h) (fun _ _ => rfl)⟩
     ·rw [upd_ne _ _ e2] at h'
      exact H2.rows l' b' (by rw [upd_ne _ _ e1]; exact h')
   ·refine H2.inj l1 l2 g s1 s2 ?_ ?_
    ·intro h0; apply h1
     show upd (upd s.H l _) s.nx _ l1 = none
     by_cases e1 : l1 = s.nx
     ·subst e1; rw [upd_same] at h0; cases h0
     ·rw [upd_ne _ _ e1] at h0 ⊢
      by_cases e2 : l1 = l
      ·subst e2; rw [hl] at h0; cases h0
      ·rw [upd_ne _ _ e2]; exact h0
    ·intro h0; apply h2
     show upd (upd s.H l _) s.nx _ l2 = none
     by_cases e1 : l2 = s.nx
     ·subst e1; rw [upd_same] at h0; cases h0
     ·rw [upd_ne _ _ e1] at h0 ⊢
      by_cases e2 : l2 = l
      ·subst e2; rw [hl] at h0; cases h0
      ·rw [upd_ne _ _ e2]; exact h0
   ·refine H2.mine l' g s' ?_
    intro h0; apply h1
    show upd (upd s.H l _) s.nx _ l' = none
    by_cases e1 : l' = s.nx
    ·subst e1; rw [upd_same] at h0; cases h0
    ·rw [upd_ne _ _ e1] at h0 ⊢
     by_cases e2 : l' = l
     ·subst e2; rw [hl] at h0; cases h0
     ·rw [upd_ne _ _ e2]; exact h0
   ·obtain ⟨v, hv, hrv⟩ := m.tmps i' x hx
    exact ⟨v, hv, hrv.mono ext (fun _ h => h) (fun _ _ => rfl)⟩
theorem thaw_lift (lb : Nat) (qs ps : List (List PV)) : (liftE ps).map (fun e => e.map (thaw1 lb qs)) = liftE ps := by
 simp [liftE, thaw1]
end Go.Aw
namespace Go.Aw
open Go.Proofs Go.RowKit
structure FewM (m : Ms) : Prop where
 name : m.name.length < 3000
 fields : m.fields.length ≤ 20
 res : m.res.length ≤ 40
 fd : ∀ f ∈ m.fields, f.name.length ≤ 200 ∧ f.ty.name.length ≤ 200
structure FewE (e : En) : Prop where
 name : e.name.length ≤ 200
 vals : e.vals.length ≤ 24
 nm : ∀ v ∈ e.vals, v.name.length ≤ 200
structure FewS (S : Sc) : Prop where
 name : S.name.length < 3000
 msgs : S.msgs.length ≤ 14
 enums : S.enums.length ≤ 10
 meths : S.meths.length ≤ 10
 ms : ∀ m ∈ S.msgs, FewM m
 en : ∀ e ∈ S.enums, FewE e
 mt : ∀ t ∈ S.meths, t.name.length ≤ 200 ∧ t.inn.length ≤ 200 ∧ t.out.length ≤ 200
theorem le_sum {l : List Ms} {m : Ms} (h : m ∈ l) : m.name.length ≤ (l.map fun m => m.name.length).sum := by
 induction l with
 | nil => cases h
 | cons a l ih =>
  rw [List.map_cons, List.sum_cons]
  rcases List.mem_cons.1 h with rfl | h
  ·omega
  ·have := ih h; omega
theorem few_spec {S : Sc} (h : fewB S = true) : FewS S := by
 unfold fewB at h
 simp only [Bool.and_eq_true, decide_eq_true_eq] at h
 obtain ⟨h1, h2, h3, h4, h5, h6, h7⟩ := h
 rw [List.take_of_length_le (by omega)] at h1 h2 h3
 unfold totN at h4
 rw [List.take_of_length_le (by omega)] at h4
 refine ⟨by omega, h5, h6, h7, fun m hm => ?_, fun e he => ?_, fun t ht => ?_⟩
 ·have q := List.all_eq_true.1 h1 m hm
  unfold msFew at q
  simp only [Bool.and_eq_true, decide_eq_true_eq] at q
  have := le_sum hm
  exact ⟨by omega, q.1.1, q.1.2, fun f hf => by have := List.all_eq_true.1 q.2 f hf; simpa [fdFew] using this⟩
 ·have q := List.all_eq_true.1 h2 e he
  unfold enFew at q
  simp only [Bool.and_eq_true, decide_eq_true_eq] at q
  exact ⟨q.1.1, q.1.2, fun f hf => by have := List.all_eq_true.1 q.2 f hf; simpa [nmFew] using this⟩
 ·have q := List.all_eq_true.1 h3 t ht
  simpa [mtFew] using q
theorem FewS.lens {S : Sc} (h : FewS S) : LensS S := by
 refine ⟨by have := h.name; omega, fun m hm => ⟨by have := (h.ms m hm).name; omega, fun f hf => by have := ((h.ms m hm).fd f hf).1; omega⟩, fun e he => ⟨by have := (h.en e he).name; omega, fun v hv => by have := (h.en e he).nm v hv; omega⟩, fun t ht => by have := (h.mt t ht).1; omega, by have := h.msgs; omega, by have := h.enums; omega, by have := h.meths; omega⟩
def sc1 (S : Sc) (i : Nat) : St := ⟨ofL [(1, .ptr 0 0 0), (2, .ptr 1 0 0), (3, .ptr 2 0 0), (4, .p (.int .i64 (i : Int)))],
 ofH [(0, .row 4 [cellsSc S]), (1, .row 4 [[.p (.str []), .ex [], .ex [], .ex []]]), (2, .row 4 [[.p (.str S.name), .own 3, .ex [], .p (.slice (S.meths.map encMt))]]), (3, .row 3 (liftE ((S.msgs.take i).map encMs)))], 4⟩
def scA (S : Sc) : St := ⟨ofL [(1, .ptr 0 0 0), (2, .ptr 1 0 0), (3, .ptr 2 0 0), (4, .p (.int .i64 0))],
 ofH [(0, .row 4 [cellsSc S]), (1, .row 4 [[.p (.str []), .ex [], .ex [], .ex []]]), (2, .row 4 [[.p (.str S.name), .ex [], .ex [], .p (.slice (S.meths.map encMt))]])], 3⟩
def scB (S : Sc) (m : Ms) (i : Nat) : St := ⟨ofL [(1, .ptr 0 0 0), (2, .ptr 1 0 0), (3, .ptr 2 0 0), (4, .p (.int .i64 (i : Int)))],
 ofH [(0, .row 4 [cellsSc S]), (1, .row 4 [[.p (.str []), .ex [], .ex [], .ex []]]), (2, .row 4 [[.p (.str S.name), .own 3, .ex [], .p (.slice (S.meths.map encMt))]]), (3, .row 3 (liftE ((S.msgs.take i).map encMs) ++ [[.p (.str m.name), .own 4, .p (.slice (m.res.map encI))]])), (4, .row 5 (liftE (m.fields.map encFd)))], 5⟩
def scC (S : Sc) (m : Ms) (i : Nat) : St := ⟨ofL [(1, .ptr 0 0 0), (2, .ptr 1 0 0), (3, .ptr 2 0 0), (4, .p (.int .i64 (i : Int)))],
 ofH [(0, .row 4 [cellsSc S]), (1, .row 4 [[.p (.str []), .ex [], .ex [], .ex []]]), (2, .row 4 [[.p (.str S.name), .own 3, .ex [], .p (.slice (S.meths.map encMt))]]), (3, .row 3 (liftE ((S.msgs.take i).map encMs) ++ [[.p (.str m.name), .p (.slice (m.fields.map encFd)), .p (.slice (m.res.map encI))]]))], 5⟩
def scD (S : Sc) : St := ⟨ofL [(1, .ptr 0 0 0), (2, .ptr 1 0 0), (3, .ptr 2 0 0)],
 ofH [(0, .row 4 [cellsSc S]), (1, .row 4 [[.p (.str []), .ex [], .ex [], .ex []]]), (2, .row 4 [[.p (.str S.name), .p (.slice (S.msgs.map encMs)), .ex [], .p (.slice (S.meths.map encMt))]])], 3⟩
def scE (S : Sc) (i : Nat) : St := ⟨ofL [(1, .ptr 0 0 0), (2, .ptr 1 0 0), (3, .ptr 2 0 0), (6, .p (.int .i64 (i : Int)))],
 ofH [(0, .row 4 [cellsSc S]), (1, .row 4 [[.p (.str []), .ex [], .ex [], .ex []]]), (2, .row 4 [[.p (.str S.name), .p (.slice (S.msgs.map encMs)), .own 3, .p (.slice (S.meths.map encMt))]]), (3, .row 2 (liftE ((S.enums.take i).map encEn)))], 4⟩
def scF (S : Sc) (m : En) (i : Nat) : St := ⟨ofL [(1, .ptr 0 0 0), (2, .ptr 1 0 0), (3, .ptr 2 0 0), (6, .p (.int .i64 (i : Int)))],
 ofH [(0, .row 4 [cellsSc S]), (1, .row 4 [[.p (.str []), .ex [], .ex [], .ex []]]), (2, .row 4 [[.p (.str S.name), .p (.slice (S.msgs.map encMs)), .own 3, .p (.slice (S.meths.map encMt))]]), (3, .row 2 (liftE ((S.enums.take i).map encEn) ++ [[.p (.str m.name), .own 4]])), (4, .row 2 (liftE (m.vals.map encNm)))], 5⟩
def scG (S : Sc) (m : En) (i : Nat) : St := ⟨ofL [(1, .ptr 0 0 0), (2, .ptr 1 0 0), (3, .ptr 2 0 0), (6, .p (.int .i64 (i : Int)))],
 ofH [(0, .row 4 [cellsSc S]), (1, .row 4 [[.p (.str []), .ex [], .ex [], .ex []]]), (2, .row 4 [[.p (.str S.name), .p (.slice (S.msgs.map encMs)), .own 3, .p (.slice (S.meths.map encMt))]]), (3, .row 2 (liftE ((S.enums.take i).map encEn) ++ [[.p (.str m.name), .p (.slice (m.vals.map encNm))]]))], 5⟩
def scH (S : Sc) : St := ⟨ofL [(1, .ptr 0 0 0), (2, .ptr 1 0 0), (3, .ptr 2 0 0)],
 ofH [(0, .row 4 [cellsSc S]), (1, .row 4 [[.p (.str []), .ex [], .ex [], .ex []]]), (2, .row 4 [[.p (.str S.name), .p (.slice (S.msgs.map encMs)), .p (.slice (S.enums.map encEn)), .p (.slice (S.meths.map encMt))]])], 3⟩
def sc0 (S : Sc) : St := ⟨ofL [(1, .ptr 0 0 0), (2, .ptr 1 0 0), (3, .ptr 2 0 0), (4, .p (.int .i64 0))],
 ofH [(0, .row 4 [cellsSc S]), (1, .row 4 [[.p (.str []), .ex [], .ex [], .ex []]]), (2, .row 4 [[.p (.str S.name), .ex [], .ex [], .own 3]]), (3, .row 3 (liftE (S.meths.map encMt)))], 4⟩
theorem law00_Schema (S : Sc) (F : FewS S) : PFn Tryd.prog 25 [.agg (encSc S)] (.agg (encSc S)) := by
 refine PFn.of Tryd.func25 rfl (by decide) Tryd.ntmps25 Tryd.results25 (Nat.le_of_ble_eq_true rfl) ?_
 simp only [argsT, encSc]
 have Fm := F.msgs
 have Fe := F.enums
 have Ft := F.meths
 refine AW.rT (by rfl) fun K hK => ?_
 simp -implicitDefEqProofs only [go_sem, Nat.reduceAdd]
 apply hK; clear hK K
 refine AW.dT mixed (by rfl) (by decide +kernel) fun K hK => ?_
 simp -implicitDefEqProofs only [go_sem, ↓reduceIte, Nat.reduceAdd, Nat.reduceEqDiff, Nat.reduceLeDiff, reduceCtorEq]
 refine ⟨⟨lift_len (f := encMt) (fun _ => rfl) _, lift_one one_Mt _, by simp⟩, ⟨.inl trivial, by simp, by rw [liftE_length, List.length_map]; omega⟩, ?_⟩
 try simp -implicitDefEqProofs only [go_sem, ↓reduceIte, Nat.reduceAdd, Nat.reduceMul, Nat.reduceEqDiff, Nat.reduceLeDiff, reduceCtorEq, Int.reduceToNat]
 refine ⟨by decide +kernel, ?_⟩
 apply hK; clear hK K
 refine AW.seq ?_
 refine AW.rT (by rfl) fun K hK => ?_
 simp -implicitDefEqProofs only [go_sem, Nat.reduceAdd]
 apply hK; clear hK K
 refine AW.block ?_
 refine AW.loop (sc1 S) (fun i => i ≤ S.msgs.length) (fun i => S.msgs.length - i) 0 ?_ (by omega) fun i i1 => ?_
 ·refine Ghost.trans (s' := sc0 S) ?_ ?_
  ·simp only [sc0, cellsSc]
   refine Ghost.ent (fun l => if l = 0 then 0 else if l = 1 then 1 else if l = 2 then 8 else 6) ?_ ?_ ?_ <;> simp -implicitDefEqProofs only [go_sem, ↓reduceIte, Nat.reduceEqDiff, reduceCtorEq, List.forall_mem_cons, List.not_mem_nil, false_implies, implies_true, and_self, map_renL_lift, labsIn_lift, List.all_cons, List.all_nil, Nat.reduceLT, labsInL, AV.labsIn]
   all_goals first | rfl | decide | skip
  refine Ghost.trans (s' := scA S) (Ghost.trans (Ghost.freeze (lb := 3) (ps := S.meths.map encMt) rfl (unlift_liftE _)) ?_) (Ghost.trans (Ghost.nilH (l := 2) (i := 0) (j := 1) (sz' := 3) rfl rfl rfl) ?_)
  ·simp only [sc0, scA, cellsSc]
   refine Ghost.sub ?_ ?_ <;> simp -implicitDefEqProofs only [go_sem, ↓reduceIte, Nat.reduceEqDiff, reduceCtorEq, thaw, thaw1, Option.map_some, List.map_cons, List.map_nil, List.forall_mem_cons, List.not_mem_nil, false_implies, implies_true, and_self, List.all_cons, List.all_nil, Nat.reduceLT, labsInL, AV.labsIn]
   all_goals first | rfl | decide | skip
  ·simp only [scA, sc1, cellsSc]
   refine Ghost.sub ?_ ?_ <;> simp -implicitDefEqProofs only [go_sem, ↓reduceIte, Nat.reduceEqDiff, reduceCtorEq, List.take_zero, List.map_nil, liftE_nil, List.forall_mem_cons, List.not_mem_nil, false_implies, implies_true, and_self, List.all_cons, List.all_nil, Nat.reduceLT, labsInL, AV.labsIn]
   all_goals first | rfl | decide | skip
 simp only [sc1, cellsSc]
 refine AW.seq ?_
 by_cases hil : i < S.msgs.length
 ·obtain ⟨m, hm⟩ : ∃ m, S.msgs[i]? = some m := ⟨_, List.getElem?_eq_getElem hil⟩
  have ⟨hm1, hm2, hm3⟩ := at_map' encMs hm
  have hm2' : (i : Int) < (S.msgs.length : Int) := by omega
  have hc1 : ((i : Int) < (S.msgs.length : Int)) = True := eq_true (by omega)
  have w1 : IntKind.wrap .i64 ((i : Int) + 1) = ((i + 1 : Nat) : Int) := by rw [w64] <;> omega
  have FM := F.ms m (List.mem_of_getElem? hm)
  have f1 := FM.fields
  have f2 := FM.res
  have CI := law00_Ints m.res (by omega)
  refine AW.rT (by rfl) fun K hK => ?_
  simp -implicitDefEqProofs only [go_sem, ↓reduceIte, Nat.reduceAdd, Nat.reduceEqDiff, hc1, List.length_map]
  apply hK; clear hK K
  refine AW.cT rfl ?_
  refine AW.skip ?_
  simp only [andThen]
  refine AW.seq ?_
  refine AW.block ?_
  refine AW.rT (by rfl) fun K hK => ?_
  simp -implicitDefEqProofs only [go_sem, ↓reduceIte, Nat.reduceAdd, Nat.reduceEqDiff, Nat.reduceLeDiff, hm1, hm2', hm3, encMs, List.length_map]
  apply hK; clear hK K
  refine AW.dE mixed (by rfl) (by decide +kernel) fun K hK => ?_
  simp -implicitDefEqProofs only [go_sem, ↓reduceIte, Nat.reduceAdd, Nat.reduceEqDiff, Nat.reduceLeDiff, reduceCtorEq]
  refine ⟨⟨lift_len (f := encFd) (fun _ => rfl) _, lift_one one_Fd _, by simp⟩, ⟨.inl trivial, by simp, by rw [liftE_length, List.length_map]; omega⟩, ?_⟩
  try simp -implicitDefEqProofs only [go_sem, ↓reduceIte, Nat.reduceAdd, Nat.reduceMul, Nat.reduceEqDiff, Nat.reduceLeDiff, reduceCtorEq, Int.reduceToNat]
  refine ⟨.pure _, CI, ?_⟩
  try simp -implicitDefEqProofs only [go_sem, ↓reduceIte, Nat.reduceAdd, Nat.reduceMul, Nat.reduceEqDiff, Nat.reduceLeDiff, reduceCtorEq]
  refine ⟨⟨by simp, by simp [oneAll, AV.one, PV.one], by simp⟩, by simp [liftE_length]; omega, by decide +kernel, ?_⟩
  apply hK; clear hK K
  simp only [andThen, inBlk]
  refine AW.ghost (s' := scB S m i) ?_ (AW.ghost (s' := scC S m i) (Ghost.trans (Ghost.freeze (lb := 4) (ps := m.fields.map encFd) rfl (unlift_liftE _)) ?_) ?_)
  ·simp only [scB, cellsSc]
   refine Ghost.ent (fun l => if l = 0 then 0 else if l = 1 then 1 else if l = 2 then 2 else if l = 3 then 28 else 22) ?_ ?_ ?_ <;> simp -implicitDefEqProofs only [go_sem, ↓reduceIte, Nat.reduceEqDiff, reduceCtorEq, List.forall_mem_cons, List.not_mem_nil, false_implies, implies_true, and_self, map_renL_lift, labsIn_lift, List.all_append, List.all_cons, List.all_nil, List.map_append, Nat.reduceLT, labsInL, AV.labsIn]
   all_goals first | rfl | decide | skip
  ·simp only [scB, scC, cellsSc]
   refine Ghost.sub ?_ ?_ <;> simp -implicitDefEqProofs only [go_sem, ↓reduceIte, Nat.reduceEqDiff, reduceCtorEq, thaw, thaw1, Option.map_some, List.map_cons, List.map_nil, List.map_append, thaw_lift, List.forall_mem_cons, List.not_mem_nil, false_implies, implies_true, and_self, labsIn_lift, List.all_append, List.all_cons, List.all_nil, Nat.reduceLT, labsInL, AV.labsIn]
   all_goals first | rfl | decide | skip
  simp only [scC, cellsSc]
  have e8 : liftE ((S.msgs.take i).map encMs) ++ [[AV.p (.str m.name), .p (.slice (m.fields.map encFd)), .p (.slice (m.res.map encI))]] = liftE ((S.msgs.take (i + 1)).map encMs) := by
   rw [List.take_add_one, hm]
   simp [liftE, encMs]
  rw [e8]
  refine AW.rE (by rfl) fun K hK => ?_
  simp -implicitDefEqProofs only [go_sem, ↓reduceIte, Nat.reduceAdd, Nat.reduceEqDiff, w1]
  apply hK; clear hK K
  refine ⟨i + 1, by omega, by omega, ?_⟩
  refine Ghost.sub ?_ ?_ <;> simp -implicitDefEqProofs only [go_sem, ↓reduceIte, Nat.reduceEqDiff, reduceCtorEq, List.forall_mem_cons, List.not_mem_nil, false_implies, implies_true, and_self, labsIn_lift, List.all_cons, List.all_nil, Nat.reduceLT, labsInL, AV.labsIn]
 have hc1 : ((i : Int) < (S.msgs.length : Int)) = False := eq_false (by omega)
 have ea : S.msgs.take i = S.msgs := List.take_of_length_le (by omega)
 rw [ea]
 clear ea
 refine AW.rT (by rfl) fun K hK => ?_
 simp -implicitDefEqProofs only [go_sem, ↓reduceIte, Nat.reduceAdd, Nat.reduceEqDiff, hc1, List.length_map]
 apply hK; clear hK K
 refine AW.cF rfl ?_
 refine AW.exit ?_
 simp only [andThen, inBlk, ↓reduceIte]
 refine AW.ghost (s' := scD S) (Ghost.trans (Ghost.freeze (lb := 3) (ps := S.msgs.map encMs) rfl (unlift_liftE _)) ?_) ?_
 ·simp only [scD, cellsSc]
  refine Ghost.sub ?_ ?_ <;> simp -implicitDefEqProofs only [go_sem, ↓reduceIte, Nat.reduceEqDiff, reduceCtorEq, thaw, thaw1, Option.map_some, List.map_cons, List.map_nil, List.forall_mem_cons, List.not_mem_nil, false_implies, implies_true, and_self, List.all_cons, List.all_nil, Nat.reduceLT, labsInL, AV.labsIn]
  all_goals first | rfl | decide | skip
 clear hc1 hil i1
 refine AW.seq ?_
 simp only [scD, cellsSc]
 refine AW.rT (by rfl) fun K hK => ?_
 simp -implicitDefEqProofs only [go_sem, Nat.reduceAdd]
 apply hK; clear hK K
 refine AW.block ?_
 refine AW.loop (scE S) (fun i => i ≤ S.enums.length) (fun i => S.enums.length - i) 0 ?_ (by omega) fun j j1 => ?_
 ·refine Ghost.trans (Ghost.nilH (l := 2) (i := 0) (j := 2) (sz' := 2) rfl rfl rfl) ?_
  simp only [scE, cellsSc]
  refine Ghost.ent (fun l => if l = 3 then 4 else l) ?_ ?_ ?_ <;> simp -implicitDefEqProofs only [go_sem, ↓reduceIte, Nat.reduceEqDiff, reduceCtorEq, List.take_zero, List.map_nil, liftE_nil, List.forall_mem_cons, List.not_mem_nil, false_implies, implies_true, and_self, List.all_cons, List.all_nil, Nat.reduceLT, labsInL, AV.labsIn]
  all_goals first | rfl | decide | skip
 simp only [scE, cellsSc]
 refine AW.seq ?_
 by_cases hil : j < S.enums.length
 ·obtain ⟨m, hm⟩ : ∃ m, S.enums[j]? = some m := ⟨_, List.getElem?_eq_getElem hil⟩
  have ⟨hm1, hm2, hm3⟩ := at_map' encEn hm
  have hm2' : (j : Int) < (S.enums.length : Int) := by omega
  have hc1 : ((j : Int) < (S.enums.length : Int)) = True := eq_true (by omega)
  have w1 : IntKind.wrap .i64 ((j : Int) + 1) = ((j + 1 : Nat) : Int) := by rw [w64] <;> omega
  have FE := F.en m (List.mem_of_getElem? hm)
  have f1 := FE.vals
  refine AW.rT (by rfl) fun K hK => ?_
  simp -implicitDefEqProofs only [go_sem, ↓reduceIte, Nat.reduceAdd, Nat.reduceEqDiff, hc1, List.length_map]
  apply hK; clear hK K
  refine AW.cT rfl ?_
  refine AW.skip ?_
  simp only [andThen]
  refine AW.seq ?_
  refine AW.block ?_
  refine AW.dE mixed (by rfl) (by decide +kernel) fun K hK => ?_
  simp -implicitDefEqProofs only [go_sem, ↓reduceIte, Nat.reduceAdd, Nat.reduceMul, Nat.reduceEqDiff, Nat.reduceLeDiff, reduceCtorEq, hm1, hm2', hm3, encEn, List.length_map]
  refine ⟨⟨lift_len (f := encNm) (fun _ => rfl) _, lift_one one_Nm _, by simp⟩, ⟨.inl trivial, by simp, by rw [liftE_length, List.length_map]; omega⟩, ?_⟩
  try simp -implicitDefEqProofs only [go_sem, ↓reduceIte, Nat.reduceAdd, Nat.reduceMul, Nat.reduceEqDiff, Nat.reduceLeDiff, reduceCtorEq, Int.reduceToNat]
  refine ⟨⟨by simp, by simp [oneAll, AV.one, PV.one], by simp⟩, by simp [liftE_length]; omega, by decide +kernel, ?_⟩
  apply hK; clear hK K
  simp only [andThen, inBlk]
  refine AW.ghost (s' := scF S m j) ?_ (AW.ghost (s' := scG S m j) (Ghost.trans (Ghost.freeze (lb := 4) (ps := m.vals.map encNm) rfl (unlift_liftE _)) ?_) ?_)
  ·simp only [scF, cellsSc]
   refine Ghost.ent (fun l => if l = 0 then 0 else if l = 1 then 1 else if l = 2 then 2 else if l = 3 then 26 else 23) ?_ ?_ ?_ <;> simp -implicitDefEqProofs only [go_sem, ↓reduceIte, Nat.reduceEqDiff, reduceCtorEq, List.forall_mem_cons, List.not_mem_nil, false_implies, implies_true, and_self, map_renL_lift, labsIn_lift, List.all_append, List.all_cons, List.all_nil, List.map_append, Nat.reduceLT, labsInL, AV.labsIn]
   all_goals first | rfl | decide | skip
  ·simp only [scF, scG, cellsSc]
   refine Ghost.sub ?_ ?_ <;> simp -implicitDefEqProofs only [go_sem, ↓reduceIte, Nat.reduceEqDiff, reduceCtorEq, thaw, thaw1, Option.map_some, List.map_cons, List.map_nil, List.map_append, thaw_lift, List.forall_mem_cons, List.not_mem_nil, false_implies, implies_true, and_self, labsIn_lift, List.all_append, List.all_cons, List.all_nil, Nat.reduceLT, labsInL, AV.labsIn]
   all_goals first | rfl | decide | skip
  simp only [scG, cellsSc]
  have e8 : liftE ((S.enums.take j).map encEn) ++ [[AV.p (.str m.name), .p (.slice (m.vals.map encNm))]] = liftE ((S.enums.take (j + 1)).map encEn) := by
   rw [List.take_add_one, hm]
   simp [liftE, encEn]
  rw [e8]
  refine AW.rE (by rfl) fun K hK => ?_
  simp -implicitDefEqProofs only [go_sem, ↓reduceIte, Nat.reduceAdd, Nat.reduceEqDiff, w1]
  apply hK; clear hK K
  refine ⟨j + 1, by omega, by omega, ?_⟩
  refine Ghost.sub ?_ ?_ <;> simp -implicitDefEqProofs only [go_sem, ↓reduceIte, Nat.reduceEqDiff, reduceCtorEq, List.forall_mem_cons, List.not_mem_nil, false_implies, implies_true, and_self, labsIn_lift, List.all_cons, List.all_nil, Nat.reduceLT, labsInL, AV.labsIn]
 have hc1 : ((j : Int) < (S.enums.length : Int)) = False := eq_false (by omega)
 have ea : S.enums.take j = S.enums := List.take_of_length_le (by omega)
 rw [ea]
 clear ea
 refine AW.rT (by rfl) fun K hK => ?_
 simp -implicitDefEqProofs only [go_sem, ↓reduceIte, Nat.reduceAdd, Nat.reduceEqDiff, hc1, List.length_map]
 apply hK; clear hK K
 refine AW.cF rfl ?_
 refine AW.exit ?_
 simp only [andThen, inBlk, ↓reduceIte]
 refine AW.ghost (s' := scH S) (Ghost.trans (Ghost.freeze (lb := 3) (ps := S.enums.map encEn) rfl (unlift_liftE _)) ?_) ?_
 ·simp only [scH, cellsSc]
  refine Ghost.sub ?_ ?_ <;> simp -implicitDefEqProofs only [go_sem, ↓reduceIte, Nat.reduceEqDiff, reduceCtorEq, thaw, thaw1, Option.map_some, List.map_cons, List.map_nil, List.forall_mem_cons, List.not_mem_nil, false_implies, implies_true, and_self, List.all_cons, List.all_nil, Nat.reduceLT, labsInL, AV.labsIn]
  all_goals first | rfl | decide | skip
 simp only [scH, cellsSc]
 refine AW.rT (by rfl) fun K hK => ?_
 simp -implicitDefEqProofs only [go_sem, ↓reduceIte, Nat.reduceAdd, Nat.reduceEqDiff, Nat.reduceLeDiff, reduceCtorEq]
 apply hK; clear hK K
 refine AW.ret ?_
 simp -implicitDefEqProofs only [go_sem, ↓reduceIte, Nat.reduceAdd, Nat.reduceEqDiff, Nat.reduceLeDiff]
end Go.Aw
namespace Go.Aw
open Go.Proofs Go.RowKit
theorem msgsC_zero {S : Sc} {K : List (List UInt8) → Int} : ∀ {l : List Ms} {ns : List (List UInt8)}, msgsC S K ns l = 0 → (∀ (i : Nat) m, l[i]? = some m → msgC S (ns ++ (l.take i).map Ms.name) m = 0) ∧ K (ns ++ l.map Ms.name) = 0
 | [], ns, h => ⟨fun i m hm => by simp at hm, by simpa [msgsC] using h⟩
 | a :: l, ns, h => by
  rw [msgsC] at h
  split at h
  ·rename_i h0
   obtain ⟨h1, h2⟩ := msgsC_zero h
   refine ⟨fun i m hm => ?_, by simpa [List.append_assoc] using h2⟩
   cases i with
   | zero => simp at hm; subst hm; simpa using h0
   | succ i => have := h1 i m (by simpa using hm); simpa [List.append_assoc] using this
  ·rename_i h0; exact absurd h h0
theorem enumsC_zero : ∀ {l : List En} {ns : List (List UInt8)}, enumsC ns l = 0 → ∀ (i : Nat) m, l[i]? = some m → enumC (ns ++ (l.take i).map En.name) m = 0
 | [], ns, h, i, m, hm => by simp at hm
 | a :: l, ns, h, i, m, hm => by
  rw [enumsC] at h
  split at h
  ·rename_i h0
   have h1 := enumsC_zero h
   cases i with
   | zero => simp at hm; subst hm; simpa using h0
   | succ i => have := h1 i m (by simpa using hm); simpa [List.append_assoc] using this
  ·rename_i h0; exact absurd h h0
theorem methsC_zero {S : Sc} : ∀ {l : List Mt} {ns : List (List UInt8)}, methsC S ns l = 0 → ∀ (i : Nat) m, l[i]? = some m → takesB (ns ++ (l.take i).map Mt.name) m.name = true ∧ hasM S m.inn = true ∧ hasM S m.out = true
 | [], ns, h, i, m, hm => by simp at hm
 | a :: l, ns, h, i, m, hm => by
  rw [methsC] at h
  split at h
  ·rename_i h0
   split at h
   ·rename_i h2
    have h1 := methsC_zero h
    cases i with
    | zero =>
     simp at hm; subst hm
     simp only [Bool.and_eq_true] at h2
     exact ⟨by simpa using h0, h2⟩
    | succ i => have := h1 i m (by simpa using hm); simpa [List.append_assoc] using this
   ·cases h
  ·cases h
theorem fldsC_zero {S : Sc} : ∀ {l : List Fd} {ns : List (List UInt8)} {us : List Int}, fldsC S ns us l = 0 → ∀ (i : Nat) f, l[i]? = some f → takesB (ns ++ (l.take i).map Fd.name) f.name = true ∧ tagB f.tag = true ∧ (us ++ (l.take i).map Fd.tag).contains f.tag = false ∧ fieldB S f = true
 | [], ns, us, h, i, f, hf => by simp at hf
 | a :: l, ns, us, h, i, f, hf => by
  rw [fldsC] at h
  split at h
  ·rename_i h0
   split at h
   ·rename_i h2
    split at h
    ·rename_i h3
     have h1 := fldsC_zero h
     cases i with
     | zero =>
      simp at hf; subst hf
      simp only [Bool.and_eq_true, Bool.not_eq_true'] at h2
      exact ⟨by simpa using h0, h2.1, by simpa using h2.2, h3⟩
     | succ i => have := h1 i f (by simpa using hf); simpa [List.append_assoc] using this
    ·cases h
   ·cases h
  ·cases h
theorem contains_apart {α : Type} {f : α → List UInt8} {l : List α} {k : List UInt8} (h : (l.map f).contains k = false) : l.all (fun x => !(f x == k)) = true := by
 rw [List.all_eq_true]
 intro x hx
 rw [contains_any, List.any_map] at h
 have := List.any_eq_false.1 h x hx
 simp at this ⊢
 intro e
 exact this e.symm
theorem contains_apartI {α : Type} {f : α → Int} {l : List α} {k : Int} (h : (l.map f).contains k = false) : l.all (fun x => !(f x == k)) = true := by
 rw [List.all_eq_true]
 intro x hx
 rw [contains_any, List.any_map] at h
 have := List.any_eq_false.1 h x hx
 simp at this ⊢
 intro e
 exact this e.symm
theorem contains_app {α : Type} [BEq α] {a b : List α} {k : α} (h : (a ++ b).contains k = false) : a.contains k = false ∧ b.contains k = false := by
 rw [contains_any, List.any_append, Bool.or_eq_false_iff] at h
 exact ⟨by rw [contains_any]; exact h.1, by rw [contains_any]; exact h.2⟩
structure RightS (S : Sc) : Prop where
 msg : ∀ (i : Nat) m, S.msgs[i]? = some m → firstP (fun x => x.name == m.name) zMs S.msgs = (m, true) ∧ firstP (fun x => x.name == m.name) zEn S.enums = (zEn, false) ∧ nameB m.name = true
 enum : ∀ (i : Nat) m, S.enums[i]? = some m → firstP (fun x => x.name == m.name) zEn S.enums = (m, true)
 meth : ∀ (i : Nat) m, S.meths[i]? = some m → firstP (fun x => x.name == m.name) zMt S.meths = (m, true) ∧ hasM S m.inn = true ∧ hasM S m.out = true
 fld : ∀ m ∈ S.msgs, ∀ (i : Nat) f, m.fields[i]? = some f → firstP (fun x => x.tag == f.tag) zFd m.fields = (f, true) ∧ m.res.contains f.tag = false ∧ fieldB S f = true ∧ tagB f.tag = true ∧ nameB f.name = true
 res : ∀ m ∈ S.msgs, ∀ t ∈ m.res, firstP (fun x => x.tag == t) zFd m.fields = (zFd, false)
 no : ∀ m ∈ S.msgs, m.fields.length ≤ 16 ∧ m.res.length ≤ 32
 len : S.msgs.length ≠ 0 ∧ S.msgs.length ≤ 10 ∧ S.enums.length ≤ 6 ∧ S.meths.length ≤ 6
theorem right_of {S : Sc} (h : checkC S = 0) : RightS S := by
 unfold checkC at h
 split at h
 case isFalse => cases h
 split at h
 ·cases h
 rename_i hl0
 split at h
 ·cases h
 rename_i hl1
 split at h
 case isFalse h0 => exact absurd h h0
 rename_i h0
 obtain ⟨h1, h2⟩ := msgsC_zero h0
 have h3 := enumsC_zero h2
 have h4 := methsC_zero h
 have mz : ∀ (i : Nat) m, S.msgs[i]? = some m → takesB ((S.msgs.take i).map Ms.name) m.name = true ∧ bodyC S m = 0 := fun i m hm => by
  have := h1 i m hm
  unfold msgC at this
  rw [List.nil_append] at this
  split at this
  ·rename_i q; exact ⟨q, this⟩
  ·cases this
 have ez : ∀ (i : Nat) m, S.enums[i]? = some m → takesB (S.msgs.map Ms.name ++ (S.enums.take i).map En.name) m.name = true := fun i m hm => by
  have := h3 i m hm
  unfold enumC at this
  rw [List.nil_append] at this
  split at this
  ·rename_i q; exact q
  ·cases this
 have tk : ∀ {ns : List (List UInt8)} {k : List UInt8}, takesB ns k = true → ns.contains k = false ∧ nameB k = true := fun q => by
  unfold takesB at q
  simp only [Bool.and_eq_true, Bool.not_eq_true'] at q
  exact ⟨q.2, q.1⟩
 have bz : ∀ m ∈ S.msgs, (m.fields.length ≤ 16 ∧ m.res.length ≤ 32) ∧ fldsC S [] m.res m.fields = 0 := fun m hm => by
  obtain ⟨i, hi⟩ := List.getElem?_of_mem hm
  have q := (mz i m hi).2
  unfold bodyC at q
  split at q
  ·cases q
  rename_i q1
  split at q
  ·cases q
  ·exact ⟨by omega, q⟩
 have fz : ∀ m ∈ S.msgs, ∀ (i : Nat) f, m.fields[i]? = some f → takesB ((m.fields.take i).map Fd.name) f.name = true ∧ tagB f.tag = true ∧ (m.res ++ (m.fields.take i).map Fd.tag).contains f.tag = false ∧ fieldB S f = true := fun m hm i f hf => by
  have := fldsC_zero (bz m hm).2 i f hf
  rwa [List.nil_append] at this
 refine ⟨fun i m hm => ?_, fun i m hm => ?_, fun i m hm => ?_, fun m hm i f hf => ?_, fun m hm t ht => ?_, fun m hm => (bz m hm).1, ⟨hl0, by omega⟩⟩
 ·refine ⟨first_at hm (contains_apart (tk (mz i m hm).1).1) (by simp), first_not ?_, (tk (mz i m hm).1).2⟩
  rw [List.all_eq_true]
  intro e he
  obtain ⟨j, hj⟩ := List.getElem?_of_mem he
  have q := (contains_app (tk (ez j e hj)).1).1
  have q' := List.all_eq_true.1 (contains_apart q) m (List.mem_of_getElem? hm)
  simp at q' ⊢
  intro e'
  exact q' e'.symm
 ·exact first_at hm (contains_apart (contains_app (tk (ez i m hm)).1).2) (by simp)
 ·have q := h4 i m hm
  rw [List.nil_append] at q
  exact ⟨first_at hm (contains_apart (tk q.1).1) (by simp), q.2⟩
 ·obtain ⟨q1, q2, q3, q4⟩ := fz m hm i f hf
  exact ⟨first_at hf (contains_apartI (contains_app q3).2) (by simp), (contains_app q3).1, q4, q2, (tk q1).2⟩
 ·refine first_not ?_
  rw [List.all_eq_true]
  intro f hf
  obtain ⟨j, hj⟩ := List.getElem?_of_mem hf
  have q := (contains_app (fz m hm j f hj).2.2.1).1
  have : f.tag ≠ t := by
   intro e
   rw [e] at q
   have : m.res.contains t = true := by rw [List.contains_iff_mem]; exact ht
   rw [this] at q
   cases q
  simpa using this
end Go.Aw
namespace Go.Aw.T
open Go.Proofs
def numV (y : Ty) (n : Int) : Bool := if y.kind = 1 then decide (-2147483648 ≤ n ∧ n ≤ 2147483647) else if y.kind = 3 then decide (n = 0 ∨ n = 1) else if y.kind = 6 then decide (0 ≤ n ∧ n ≤ 2147483647) else decide (y.kind = 2)
def zeroV (t : Tr) : Bool := decide (1 ≤ t.kind ∧ t.kind ≤ 3 ∧ t.n = 0 ∧ t.s = [] ∧ t.ents.length = 0 ∧ t.rest.length = 0)
def kdV (y : Ty) : Int := if y.kind = 1 ∨ y.kind = 2 ∨ y.kind = 3 ∨ y.kind = 6 then 1 else if y.kind = 4 ∨ y.kind = 5 then 2 else 3
theorem kdV_3 {y : Ty} (h1 : 1 ≤ y.kind) (h2 : y.kind ≤ 7) : kdV y = 3 ↔ y.kind = 7 := by
 unfold kdV
 by_cases a : y.kind = 4 ∨ y.kind = 5
 ·rw [if_neg (by omega), if_pos a]; omega
 by_cases b : y.kind = 7
 ·rw [if_neg (by omega), if_neg a]; omega
 ·rw [if_pos (by omega)]; omega
def valS (s : List UInt8) : Bool := (runesO s 0).isSome
def fitV (y : Ty) (t : Tr) : Int := if t.kind ≠ kdV y then 8 else if t.kind = 1 ∧ numV y t.n = false then 11 else if y.kind = 4 ∧ valS t.s = false then 9 else 0
def fldOf (m : Ms) (g : Int) : Fd × Bool := firstP (fun x => x.tag == g) zFd m.fields
def msOf (S : Sc) (k : List UInt8) : Ms × Bool := firstP (fun x => x.name == k) zMs S.msgs
mutual
def bareT : Tr → Tr
 | .mk k n s es _ => .mk k n s (bareE es) []
def bareE : List (Int × List Tr) → List (Int × List Tr)
 | [] => []
 | (g, l) :: es => (g, bareTs l) :: bareE es
def bareTs : List Tr → List Tr
 | [] => []
 | t :: l => bareT t :: bareTs l
end
theorem bareTs_map : ∀ l : List Tr, bareTs l = l.map bareT
 | [] => by rw [bareTs]; rfl
 | t :: l => by rw [bareTs, bareTs_map l]; rfl
theorem bareE_map : ∀ es : List (Int × List Tr), bareE es = es.map fun e => (e.1, e.2.map bareT)
 | [] => by rw [bareE]; rfl
 | (g, l) :: es => by rw [bareE, bareE_map es, bareTs_map]; rfl
theorem bareT_mk (t : Tr) : bareT t = .mk t.kind t.n t.s (t.ents.map fun e => (e.1, e.2.map bareT)) [] := by
 cases t
 rw [bareT, bareE_map]
 rfl
def orE (a b : Int) : Int := if a ≠ 0 then a else b
mutual
def msgV (S : Sc) (m : Ms) : Tr → Int
 | .mk _ _ _ es r => orE (entV S m es) (if r.any (fun x => (fldOf m x.tag).2) then 7 else 0)
def entV (S : Sc) (m : Ms) : List (Int × List Tr) → Int
 | [] => 0
 | (g, l) :: es => if (fldOf m g).2 = false then 7 else if (fldOf m g).1.label ≠ 3 ∧ 1 < l.length then 4 else orE (oneL S (fldOf m g).1 l) (entV S m es)
def oneL (S : Sc) (f : Fd) : List Tr → Int
 | [] => 0
 | t :: l => orE (orE (fitV f.ty t) (orE (if f.ty.kind = 7 then msgV S (msOf S f.ty.name).1 t else 0) (if f.label = 1 ∧ zeroV t = true then 12 else 0))) (oneL S f l)
end
def oneV (S : Sc) (f : Fd) (t : Tr) : Int := orE (fitV f.ty t) (orE (if f.ty.kind = 7 then msgV S (msOf S f.ty.name).1 t else 0) (if f.label = 1 ∧ zeroV t = true then 12 else 0))
theorem oneL_cons (S : Sc) (f : Fd) (t : Tr) (l : List Tr) : oneL S f (t :: l) = orE (oneV S f t) (oneL S f l) := by rw [oneL]; rfl
theorem msgV_mk (S : Sc) (m : Ms) (t : Tr) : msgV S m t = orE (entV S m t.ents) (if t.rest.any (fun x => (fldOf m x.tag).2) then 7 else 0) := by
 cases t
 rw [msgV]
 rfl
theorem orE_0 (b : Int) : orE 0 b = b := rfl
theorem orE_r (a : Int) : orE a 0 = a := by unfold orE; split <;> omega
theorem orE_eq {a b : Int} : orE a b = 0 ↔ a = 0 ∧ b = 0 := by
 unfold orE
 by_cases h : a = 0 <;> simp [h]
mutual
/-- All texts of a tree are short. -/
def strT : Tr → Bool
 | .mk _ _ s es _ => decide (s.length ≤ 1000000) && strE es
def strE : List (Int × List Tr) → Bool
 | [] => true
 | (_, l) :: es => strTs l && strE es
def strTs : List Tr → Bool
 | [] => true
 | x :: l => strT x && strTs l
end
theorem strTs_iff : ∀ {l : List Tr}, strTs l = true ↔ ∀ x ∈ l, strT x = true
 | [] => by simp [strTs]
 | x :: l => by rw [strTs, Bool.and_eq_true, strTs_iff]; simp
theorem strE_iff : ∀ {es : List (Int × List Tr)}, strE es = true ↔ ∀ e ∈ es, strTs e.2 = true
 | [] => by simp [strE]
 | (_, l) :: es => by rw [strE, Bool.and_eq_true, strE_iff]; simp
def validV (S : Sc) (k : List UInt8) (t : Tr) : Int := if checkC S ≠ 0 then 1 else if (msOf S k).2 = false then 14 else if t.kind ≠ 3 ∨ okT t = false then 1 else msgV S (msOf S k).1 t
end Go.Aw.T
namespace Go.Aw.T
open Go.Proofs
theorem eqb {a b : Int} (h : a = b) : (a == b) = true := by simp [h]
theorem ref10_Zero (t : Tr) : PFn Tryd.prog 38 [.agg (encTr t)] (.bool (zeroV t)) := by
 refine PFn.of Tryd.func38 rfl (by decide) Tryd.ntmps38 Tryd.results38 (Nat.le_of_ble_eq_true rfl) ?_
 simp only [argsT]
 refine AW.rT (by rfl) fun K hK => ?_
 simp -implicitDefEqProofs only [go_sem, Nat.reduceAdd, encTr_eq]
 apply hK; clear hK K
 by_cases h0 : 1 ≤ t.kind
 case neg =>
  have q0 : (t.kind ≥ 1) = False := eq_false h0
  have HH : zeroV t = false := by unfold zeroV; simp only [decide_eq_false_iff_not]; rintro ⟨a1, a2, a3, a4, a5, a6⟩; exact h0 a1
  refine AW.rT (by rfl) fun K hK => ?_
  simp -implicitDefEqProofs only [go_sem, ↓reduceIte, Nat.reduceAdd, Nat.reduceEqDiff, q0]
  apply hK; clear hK K
  refine AW.ret ?_
  simp -implicitDefEqProofs only [go_sem, HH]
 have q0 : (t.kind ≥ 1) = True := eq_true h0
 by_cases h1 : t.kind ≤ 3
 case neg =>
  have q1 : (t.kind ≤ 3) = False := eq_false h1
  have HH : zeroV t = false := by unfold zeroV; simp only [decide_eq_false_iff_not]; rintro ⟨a1, a2, a3, a4, a5, a6⟩; exact h1 a2
  refine AW.rT (by rfl) fun K hK => ?_
  simp -implicitDefEqProofs only [go_sem, ↓reduceIte, Nat.reduceAdd, Nat.reduceEqDiff, q0, q1]
  apply hK; clear hK K
  refine AW.ret ?_
  simp -implicitDefEqProofs only [go_sem, HH]
 have q1 : (t.kind ≤ 3) = True := eq_true h1
 by_cases h2 : t.n = 0
 case neg =>
  have q2 : (t.n == 0) = false := by simp [h2]
  have HH : zeroV t = false := by unfold zeroV; simp only [decide_eq_false_iff_not]; rintro ⟨a1, a2, a3, a4, a5, a6⟩; exact h2 a3
  refine AW.rT (by rfl) fun K hK => ?_
  simp -implicitDefEqProofs only [go_sem, ↓reduceIte, Nat.reduceAdd, Nat.reduceEqDiff, q0, q1, q2]
  apply hK; clear hK K
  refine AW.ret ?_
  simp -implicitDefEqProofs only [go_sem, HH]
 have q2 : (t.n == 0) = true := by simp [h2]
 by_cases h3 : t.s = []
 case neg =>
  have q3 : (t.s == []) = false := by simp [h3]
  have HH : zeroV t = false := by unfold zeroV; simp only [decide_eq_false_iff_not]; rintro ⟨a1, a2, a3, a4, a5, a6⟩; exact h3 a4
  refine AW.rT (by rfl) fun K hK => ?_
  simp -implicitDefEqProofs only [go_sem, ↓reduceIte, Nat.reduceAdd, Nat.reduceEqDiff, q0, q1, q2, q3]
  apply hK; clear hK K
  refine AW.ret ?_
  simp -implicitDefEqProofs only [go_sem, HH]
 have q3 : (t.s == []) = true := by simp [h3]
 by_cases h4 : t.ents.length = 0
 case neg =>
  have q4 : ((t.ents.length : Int) == 0) = false := by simp only [beq_eq_false_iff_ne]; omega
  have HH : zeroV t = false := by unfold zeroV; simp only [decide_eq_false_iff_not]; rintro ⟨a1, a2, a3, a4, a5, a6⟩; exact h4 a5
  refine AW.rT (by rfl) fun K hK => ?_
  simp -implicitDefEqProofs only [go_sem, ↓reduceIte, Nat.reduceAdd, Nat.reduceEqDiff, q0, q1, q2, q3, q4, List.length_map]
  apply hK; clear hK K
  refine AW.ret ?_
  simp -implicitDefEqProofs only [go_sem, HH]
 have q4 : ((t.ents.length : Int) == 0) = true := by simp [h4]
 by_cases h5 : t.rest.length = 0
 case neg =>
  have q5 : ((t.rest.length : Int) == 0) = false := by simp only [beq_eq_false_iff_ne]; omega
  have HH : zeroV t = false := by unfold zeroV; simp only [decide_eq_false_iff_not]; rintro ⟨a1, a2, a3, a4, a5, a6⟩; exact h5 a6
  refine AW.rT (by rfl) fun K hK => ?_
  simp -implicitDefEqProofs only [go_sem, ↓reduceIte, Nat.reduceAdd, Nat.reduceEqDiff, q0, q1, q2, q3, q4, q5, List.length_map]
  apply hK; clear hK K
  refine AW.ret ?_
  simp -implicitDefEqProofs only [go_sem, HH]
 have q5 : ((t.rest.length : Int) == 0) = true := by simp [h5]
 have HH : zeroV t = true := by unfold zeroV; simp only [decide_eq_true_eq]; exact ⟨h0, h1, h2, h3, h4, h5⟩
 refine AW.rT (by rfl) fun K hK => ?_
 simp -implicitDefEqProofs only [go_sem, ↓reduceIte, Nat.reduceAdd, Nat.reduceEqDiff, q0, q1, q2, q3, q4, q5, List.length_map]
 apply hK; clear hK K
 refine AW.ret ?_
 simp -implicitDefEqProofs only [go_sem, HH]
end Go.Aw.T
namespace Go.Aw.T
open Go.Proofs
theorem right_ent {t : Tr} (h : rightT t = true) : ∀ e ∈ t.ents, 1 ≤ e.2.length ∧ ∀ x ∈ e.2, rightT x = true := by
 have all : ∀ {l : List Tr} {k : Int}, rightTs l k = true → ∀ x ∈ l, rightT x = true := fun {l} => by
  induction l with
  | nil => intro k _ x hx; cases hx
  | cons a l ih =>
   intro k h x hx
   rw [rightTs] at h
   split at h
   ·cases h
   split at h
   ·rename_i h2
    rcases List.mem_cons.1 hx with rfl | hx
    ·exact h2
    ·exact ih h x hx
   ·cases h
 have ent : ∀ {es : List (Int × List Tr)} {last : Int}, rightE es last = true → ∀ e ∈ es, 1 ≤ e.2.length ∧ ∀ x ∈ e.2, rightT x = true := fun {es} => by
  induction es with
  | nil => intro k _ x hx; cases hx
  | cons a es ih =>
   obtain ⟨g, l⟩ := a
   intro k h x hx
   rw [rightE] at h
   split at h
   ·cases h
   rename_i h1
   split at h
   ·rename_i h2
    rcases List.mem_cons.1 hx with rfl | hx
    ·exact ⟨by simp only; omega, all h2⟩
    ·exact ih h x hx
   ·cases h
 rw [rightT_mk] at h
 intro e he
 split at h
 ·simp only [Bool.and_eq_true, List.isEmpty_iff] at h
  rw [h.1.2] at he; cases he
 split at h
 ·simp only [Bool.and_eq_true, List.isEmpty_iff] at h
  rw [h.1.2] at he; cases he
 split at h
 ·simp only [Bool.and_eq_true] at h
  exact ent h.1.2 e he
 ·cases h
structure SizS (S : Sc) : Prop where
 msgs : S.msgs.length ≤ 1000000
 flds : ∀ m ∈ S.msgs, m.fields.length ≤ 1000000
theorem siz_of {S : Sc} (h : SizS S) (k : List UInt8) : (msOf S k).1.fields.length ≤ 1000000 := by
 unfold msOf firstP
 split
 ·rename_i m hm
  exact h.flds m (List.mem_of_find?_eq_some hm)
 ·simp [zMs]
end Go.Aw.T
namespace Go.Aw.T
open Go.Proofs
theorem and62 (n : Int) : 0 ≤ andI .i64 n 4611686018427387903 ∧ andI .i64 n 4611686018427387903 ≤ 4611686018427387903 := by
 unfold andI
 have h : (BitVec.ofInt (IntKind.bits .i64) n &&& BitVec.ofInt (IntKind.bits .i64) 4611686018427387903).toNat ≤ 4611686018427387903 := by
  rw [BitVec.toNat_and]
  exact Nat.and_le_right
 generalize (BitVec.ofInt (IntKind.bits .i64) n &&& BitVec.ofInt (IntKind.bits .i64) 4611686018427387903).toNat = q at h
 rw [w64 (by omega) (by omega)]
 omega
def nextF (l : List Int) (a : Nat) : Int × Nat := if l = [] then (0, a) else (andI .i64 (l.getD (((a + 1) * 7 + (a + 1) / l.length) % l.length) 0) 4611686018427387903, a + 1)
theorem nextF_pos (l : List Int) (a : Nat) : 0 ≤ (nextF l a).1 ∧ (nextF l a).1 ≤ 4611686018427387903 ∧ (nextF l a).2 ≤ a + 1 ∧ a ≤ (nextF l a).2 := by
 unfold nextF
 split
 ·simp
 ·have := and62 (l.getD (((a + 1) * 7 + (a + 1) / l.length) % l.length) 0)
  refine ⟨this.1, this.2, by simp, by simp⟩
def grN : List UInt8 := [103, 114, 195, 182, 195, 159, 101]
def cutF (v : Int) : Nat := [0, 1, 2, 4, 6, 7].getD (v % 6).toNat 0
def leafF (k : Int) (v : Int) : Tr := if k = 1 then .mk 1 (v % 4294967296 - 2147483648) [] [] [] else if k = 2 then .mk 1 (v - 2305843009213693952) [] [] [] else if k = 3 then .mk 1 (v % 2) [] [] [] else if k = 6 then .mk 1 (v % 5) [] [] [] else .mk 2 0 (grN.take (cutF v)) [] []
def oneF (l : List Int) (sub : List UInt8 → Nat → Tr × Nat) (f : Fd) (a : Nat) : Tr × Nat := if 1 ≤ f.ty.kind ∧ f.ty.kind ≤ 6 then (leafF f.ty.kind (nextF l a).1, (nextF l a).2) else sub f.ty.name (nextF l a).2
def repF (l : List Int) (sub : List UInt8 → Nat → Tr × Nat) (f : Fd) (x : List Tr × Nat) : List Tr × Nat := (if f.label ≠ 1 ∨ zeroV (oneF l sub f x.2).1 = false then x.1 ++ [(oneF l sub f x.2).1] else x.1, (oneF l sub f x.2).2)
def itS {α : Type} (g : Nat → α → α) : Nat → α → α
 | 0, x => x
 | n + 1, x => g n (itS g n x)
def cntF (l : List Int) (f : Fd) (a : Nat) : Nat × Nat := if f.label = 3 then (1 + ((nextF l a).1 % 3).toNat, (nextF l a).2) else (1, a)
def treesF (l : List Int) (sub : List UInt8 → Nat → Tr × Nat) (f : Fd) (a : Nat) : List Tr × Nat := itS (fun _ => repF l sub f) (cntF l f a).1 ([], (cntF l f a).2)
def tagF (m : Ms) (l : List Int) (sub : List UInt8 → Nat → Tr × Nat) (ok : Bool) (n : Nat) (x : List (Int × List Tr) × Nat) : List (Int × List Tr) × Nat :=
 if 150 ≤ x.2 then x else if (fldOf m ((n : Int) + 1)).2 = false then x else
 if (nextF l x.2).1 % 3 = 0 then (x.1, (nextF l x.2).2) else if (fldOf m ((n : Int) + 1)).1.ty.kind = 7 ∧ ok = false then (x.1, (nextF l x.2).2) else
 if (treesF l sub (fldOf m ((n : Int) + 1)).1 (nextF l x.2).2).1 = [] then (x.1, (treesF l sub (fldOf m ((n : Int) + 1)).1 (nextF l x.2).2).2) else
 (x.1 ++ [((n : Int) + 1, (treesF l sub (fldOf m ((n : Int) + 1)).1 (nextF l x.2).2).1)], (treesF l sub (fldOf m ((n : Int) + 1)).1 (nextF l x.2).2).2)
def nowhere (_ : List UInt8) (a : Nat) : Tr × Nat := (.mk 3 0 [] [] [], a)
def fitF (S : Sc) (l : List Int) : Nat → List UInt8 → Nat → Tr × Nat
 | 0, k, a => (.mk 3 0 [] (itS (tagF (msOf S k).1 l nowhere false) 500 ([], a)).1 [], (itS (tagF (msOf S k).1 l nowhere false) 500 ([], a)).2)
 | d + 1, k, a => (.mk 3 0 [] (itS (tagF (msOf S k).1 l (fitF S l d) true) 500 ([], a)).1 [], (itS (tagF (msOf S k).1 l (fitF S l d) true) 500 ([], a)).2)
def subF (S : Sc) (l : List Int) : Nat → List UInt8 → Nat → Tr × Nat
 | 0 => nowhere
 | d + 1 => fitF S l d
theorem fitF_eq (S : Sc) (l : List Int) (d : Nat) (k : List UInt8) (a : Nat) : fitF S l d k a = (.mk 3 0 [] (itS (tagF (msOf S k).1 l (subF S l d) (d != 0)) 500 ([], a)).1 [], (itS (tagF (msOf S k).1 l (subF S l d) (d != 0)) 500 ([], a)).2) := by
 cases d <;> rfl
theorem tagF_end {m : Ms} {l : List Int} {sub : List UInt8 → Nat → Tr × Nat} {ok : Bool} {n : Nat} {x : List (Int × List Tr) × Nat} (h : 150 ≤ x.2) : tagF m l sub ok n x = x := by
 unfold tagF
 rw [if_pos h]
theorem itS_end {m : Ms} {l : List Int} {sub : List UInt8 → Nat → Tr × Nat} {ok : Bool} {x : List (Int × List Tr) × Nat} {i : Nat} (h : 150 ≤ (itS (tagF m l sub ok) i x).2) : ∀ j, itS (tagF m l sub ok) (i + j) x = itS (tagF m l sub ok) i x
 | 0 => rfl
 | j + 1 => by
  rw [← Nat.add_assoc, itS, itS_end h j, tagF_end h]
theorem rightE_snoc {g : Int} {l : List Tr} (hg : g ≤ 500) (h1 : 1 ≤ l.length) (h2 : l.length ≤ 64) (h3 : rightTs l (headK l) = true) : ∀ (es : List (Int × List Tr)) (last : Int), rightE es last = true → (∀ e ∈ es, e.1 < g) → last < g → rightE (es ++ [(g, l)]) last = true
 | [], last, _, _, hl => by
  rw [List.nil_append, rightE, if_neg (by omega), if_pos h3, rightE]
 | (q, r) :: es, last, hr, he, hl => by
  rw [rightE] at hr
  split at hr
  ·cases hr
  rename_i hq
  split at hr
  ·rename_i hq2
   rw [List.cons_append, rightE, if_neg hq, if_pos hq2]
   exact rightE_snoc hg h1 h2 h3 es q hr (fun e h => he e (List.mem_cons_of_mem _ h)) (he (q, r) (List.mem_cons_self))
  ·cases hr
theorem rightTs_all {k : Int} : ∀ {l : List Tr}, (∀ x ∈ l, x.kind = k ∧ rightT x = true) → rightTs l k = true
 | [], _ => by rw [rightTs]
 | x :: l, h => by
  have := h x (List.mem_cons_self)
  rw [rightTs, if_neg (by simp [this.1]), if_pos this.2]
  exact rightTs_all fun y hy => h y (List.mem_cons_of_mem _ hy)
theorem entV_snoc {S : Sc} {m : Ms} {g : Int} {l : List Tr} (h : entV S m [(g, l)] = 0) : ∀ (es : List (Int × List Tr)), entV S m es = 0 → entV S m (es ++ [(g, l)]) = 0
 | [], _ => h
 | (q, r) :: es, he => by
  rw [entV] at he
  rw [List.cons_append, entV]
  split at he
  ·cases he
  rename_i h1
  rw [if_neg h1]
  split at he
  ·cases he
  rename_i h2
  rw [if_neg h2]
  obtain ⟨e1, e2⟩ := orE_eq.1 he
  rw [e1, orE_0]
  exact entV_snoc h es e2
theorem oneL_all {S : Sc} {f : Fd} : ∀ {l : List Tr}, (∀ x ∈ l, oneV S f x = 0) → oneL S f l = 0
 | [], _ => by rw [oneL]
 | x :: l, h => by
  rw [oneL_cons, h x (List.mem_cons_self), orE_0]
  exact oneL_all fun y hy => h y (List.mem_cons_of_mem _ hy)
theorem dE_snoc {g : Int} {l : List Tr} {m : Nat} : ∀ (es : List (Int × List Tr)) (d : Nat), dE (es ++ [(g, l)]) m d = dTs l m (dE es m d)
 | [], d => by rw [List.nil_append, dE, dE, dE]
 | (q, r) :: es, d => by rw [List.cons_append, dE, dE, dE_snoc es]
theorem dTs_bound {b m : Nat} : ∀ {l : List Tr} {d : Nat}, (∀ x ∈ l, dT x m ≤ b) → d ≤ b → dTs l m d ≤ b
 | [], d, _, h => by rw [dTs]; exact h
 | x :: l, d, hl, h => by
  rw [dTs]
  have := hl x (List.mem_cons_self)
  exact dTs_bound (fun y hy => hl y (List.mem_cons_of_mem _ hy)) (by omega)
structure GoodF (S : Sc) (f : Fd) (d : Nat) (t : Tr) : Prop where
 one : oneV S f t = 0
 kind : t.kind = kdV f.ty
 right : rightT t = true
 deep : ∀ m, dT t m ≤ d
 lens : lensT t = true
 str : strT t = true
structure GoodE (S : Sc) (m : Ms) (d n : Nat) (es : List (Int × List Tr)) : Prop where
 right : rightE es 0 = true
 ent : entV S m es = 0
 tags : ∀ e ∈ es, e.1 ≤ n
 deep : ∀ q, dE es q 0 ≤ d
 lens : es.length ≤ n ∧ lensE es = true
 str : strE es = true
 some : ∀ e ∈ es, (fldOf m e.1).2 = true ∧ 1 ≤ e.2.length ∧ ∀ x ∈ e.2, GoodF S (fldOf m e.1).1 d x
structure GoodM (S : Sc) (m : Ms) (d : Nat) (t : Tr) : Prop where
 kind : t.kind = 3
 right : rightT t = true
 msg : msgV S m t = 0
 deep : ∀ q, dT t q ≤ d
 lens : lensT t = true
 str : strT t = true
 rest : t.rest = []
 some : ∀ e ∈ t.ents, (fldOf m e.1).2 = true ∧ 1 ≤ e.2.length ∧ ∀ x ∈ e.2, GoodF S (fldOf m e.1).1 (d - 1) x
theorem valS_cut (v : Int) : valS (grN.take (cutF v)) = true := by
 unfold cutF
 have h1 : (v % 6).toNat < 6 := by omega
 generalize (v % 6).toNat = q at h1
 match q, h1 with
 | 0, _ => decide +kernel
 | 1, _ => decide +kernel
 | 2, _ => decide +kernel
 | 3, _ => decide +kernel
 | 4, _ => decide +kernel
 | 5, _ => decide +kernel
theorem num_right {n : Int} : rightT (.mk 1 n [] [] []) = true := by rw [rightT]; rfl
theorem txt_right {s : List UInt8} : rightT (.mk 2 0 s [] []) = true := by rw [rightT]; rfl
theorem leaf_good {S : Sc} {f : Fd} {v : Int} (hv : 0 ≤ v) (hv2 : v ≤ 4611686018427387903) (h1 : 1 ≤ f.ty.kind) (h6 : f.ty.kind ≤ 6) (h : f.label = 1 → zeroV (leafF f.ty.kind v) = false) (d : Nat) : GoodF S f d (leafF f.ty.kind v) := by
 have h7 : ¬ f.ty.kind = 7 := by omega
 have hz : ¬ (f.label = 1 ∧ zeroV (leafF f.ty.kind v) = true) := by rintro ⟨a, b⟩; rw [h a] at b; cases b
 have num : ∀ n, kdV f.ty = 1 → numV f.ty n = true → leafF f.ty.kind v = .mk 1 n [] [] [] → GoodF S f d (leafF f.ty.kind v) := fun n h2 h3 h4 => by
  refine ⟨?_, ?_, ?_, fun m => ?_, ?_, ?_⟩
  ·unfold oneV
   rw [if_neg h7, if_neg hz, orE_0, orE_r, h4]
   unfold fitV
   rw [if_neg (by simp [Tr.kind, h2]), if_neg (by simp [Tr.n, h3]), if_neg]
   rintro ⟨a, _⟩
   unfold kdV at h2
   rw [if_neg (by omega), if_pos (by omega)] at h2
   cases h2
  ·rw [h4, h2]; rfl
  ·rw [h4]; exact num_right
  ·rw [h4, dT, if_pos (by omega)]; exact Nat.zero_le _
  ·rw [h4, lensT, lensE]; rfl
  ·rw [h4, strT, strE]; rfl
 have e1 : ∀ k : Int, f.ty.kind = k → leafF f.ty.kind v = leafF k v := fun k h => by rw [h]
 by_cases k1 : f.ty.kind = 1
 ·refine num (v % 4294967296 - 2147483648) (by unfold kdV; rw [if_pos (by omega)]) ?_ (by unfold leafF; rw [if_pos k1])
  unfold numV
  rw [if_pos k1]
  simp only [decide_eq_true_eq]
  omega
 by_cases k2 : f.ty.kind = 2
 ·refine num (v - 2305843009213693952) (by unfold kdV; rw [if_pos (by omega)]) ?_ (by unfold leafF; rw [if_neg k1, if_pos k2])
  unfold numV
  rw [if_neg k1, if_neg (by omega), if_neg (by omega)]
  simp [k2]
 by_cases k3 : f.ty.kind = 3
 ·refine num (v % 2) (by unfold kdV; rw [if_pos (by omega)]) ?_ (by unfold leafF; rw [if_neg k1, if_neg k2, if_pos k3])
  unfold numV
  rw [if_neg k1, if_pos k3]
  simp only [decide_eq_true_eq]
  omega
 by_cases k6 : f.ty.kind = 6
 ·refine num (v % 5) (by unfold kdV; rw [if_pos (by omega)]) ?_ (by unfold leafF; rw [if_neg k1, if_neg k2, if_neg k3, if_pos k6])
  unfold numV
  rw [if_neg k1, if_neg k3, if_pos k6]
  simp only [decide_eq_true_eq]
  omega
 have h4 : leafF f.ty.kind v = .mk 2 0 (grN.take (cutF v)) [] [] := by unfold leafF; rw [if_neg k1, if_neg k2, if_neg k3, if_neg k6]
 have hk : kdV f.ty = 2 := by unfold kdV; rw [if_neg (by omega), if_pos (by omega)]
 refine ⟨?_, ?_, ?_, fun m => ?_, ?_, ?_⟩
 ·unfold oneV
  rw [if_neg h7, if_neg hz, orE_0, orE_r, h4]
  unfold fitV
  rw [if_neg (by simp [Tr.kind, hk]), if_neg (by simp [Tr.kind]), if_neg]
  rintro ⟨_, a⟩
  simp only [Tr.s] at a
  rw [valS_cut] at a
  cases a
 ·rw [h4, hk]; rfl
 ·rw [h4]; exact txt_right
 ·rw [h4, dT, if_pos (by omega)]; exact Nat.zero_le _
 ·rw [h4, lensT, lensE]; rfl
 ·rw [h4, strT, strE]
  simp only [Bool.and_true, decide_eq_true_eq, List.length_take]
  have : grN.length = 7 := rfl
  omega
end Go.Aw.T
namespace Go.Aw.T
open Go.Proofs
def FldsOK (S : Sc) (m : Ms) : Prop := ∀ g, (fldOf m g).2 = true → (1 ≤ (fldOf m g).1.ty.kind ∧ (fldOf m g).1.ty.kind ≤ 7) ∧ ((fldOf m g).1.ty.kind = 7 → (msOf S (fldOf m g).1.ty.name).2 = true)
def SubGood (S : Sc) (d : Nat) (sub : List UInt8 → Nat → Tr × Nat) : Prop := ∀ k a, (msOf S k).2 = true → GoodM S (msOf S k).1 d (sub k a).1
theorem one_good {S : Sc} {l : List Int} {sub : List UInt8 → Nat → Tr × Nat} {f : Fd} {d a : Nat} (h1 : 1 ≤ f.ty.kind) (h7 : f.ty.kind ≤ 7) (hm : f.ty.kind = 7 → (msOf S f.ty.name).2 = true ∧ SubGood S d sub) (hz : f.label = 1 → zeroV (oneF l sub f a).1 = false) : GoodF S f d (oneF l sub f a).1 := by
 have np := nextF_pos l a
 unfold oneF at hz ⊢
 by_cases h6 : f.ty.kind ≤ 6
 ·rw [if_pos ⟨h1, h6⟩] at hz ⊢
  exact leaf_good np.1 np.2.1 h1 h6 hz d
 ·have k7 : f.ty.kind = 7 := by omega
  obtain ⟨q1, q2⟩ := hm k7
  rw [if_neg (by omega)] at hz ⊢
  have g := q2 f.ty.name (nextF l a).2 q1
  have kv : kdV f.ty = 3 := (kdV_3 h1 h7).2 k7
  refine ⟨?_, by rw [g.kind, kv], g.right, g.deep, g.lens, g.str⟩
  have hz' : ¬ (f.label = 1 ∧ zeroV (sub f.ty.name (nextF l a).2).1 = true) := by
   rintro ⟨a', b⟩
   have := hz a'
   rw [this] at b
   cases b
  unfold oneV fitV
  rw [if_neg (by simp [g.kind, kv]), if_neg (by simp [g.kind]), if_neg (by omega), orE_0, if_pos k7, g.msg, orE_0, if_neg hz']
theorem reps_good {S : Sc} {l : List Int} {sub : List UInt8 → Nat → Tr × Nat} {f : Fd} {d : Nat} (h1 : 1 ≤ f.ty.kind) (h7 : f.ty.kind ≤ 7) (hm : f.ty.kind = 7 → (msOf S f.ty.name).2 = true ∧ SubGood S d sub) (a : Nat) :
  ∀ n, (∀ x ∈ (itS (fun _ => repF l sub f) n ([], a)).1, GoodF S f d x) ∧ (itS (fun _ => repF l sub f) n ([], a)).1.length ≤ n
 | 0 => by simp [itS]
 | n + 1 => by
  obtain ⟨g1, g2⟩ := reps_good h1 h7 hm a n
  rw [itS]
  generalize itS (fun _ => repF l sub f) n ([], a) = y at g1 g2
  unfold repF
  by_cases hz : f.label ≠ 1 ∨ zeroV (oneF l sub f y.2).1 = false
  ·rw [if_pos hz]
   refine ⟨fun x hx => ?_, by simp; omega⟩
   rcases List.mem_append.1 hx with hx | hx
   ·exact g1 x hx
   ·simp only [List.mem_singleton] at hx
    subst hx
    exact one_good h1 h7 hm fun hl => by
     rcases hz with q | q
     ·exact absurd hl q
     ·exact q
  ·rw [if_neg hz]
   exact ⟨g1, by simp only; omega⟩
theorem cntF_le (l : List Int) (f : Fd) (a : Nat) : 1 ≤ (cntF l f a).1 ∧ (cntF l f a).1 ≤ 3 ∧ (f.label ≠ 3 → (cntF l f a).1 = 1) ∧ (cntF l f a).2 ≤ a + 1 ∧ a ≤ (cntF l f a).2 := by
 have np := nextF_pos l a
 unfold cntF
 split
 ·rename_i h
  refine ⟨by simp only; omega, by simp only; omega, fun h' => absurd h h', np.2.2.1, np.2.2.2⟩
 ·exact ⟨by simp, by simp, fun _ => rfl, by simp, by simp⟩
theorem trees_good {S : Sc} {l : List Int} {sub : List UInt8 → Nat → Tr × Nat} {f : Fd} {d : Nat} (h1 : 1 ≤ f.ty.kind) (h7 : f.ty.kind ≤ 7) (hm : f.ty.kind = 7 → (msOf S f.ty.name).2 = true ∧ SubGood S d sub) (a : Nat) :
  (∀ x ∈ (treesF l sub f a).1, GoodF S f d x) ∧ (treesF l sub f a).1.length ≤ 3 ∧ (f.label ≠ 3 → (treesF l sub f a).1.length ≤ 1) := by
 have c := cntF_le l f a
 have r := reps_good (l := l) h1 h7 hm (cntF l f a).2 (cntF l f a).1
 unfold treesF
 exact ⟨r.1, by omega, fun h => by have := c.2.2.1 h; omega⟩
theorem GoodE.up {S : Sc} {m : Ms} {d n : Nat} {es : List (Int × List Tr)} (h : GoodE S m d n es) : GoodE S m d (n + 1) es :=
 ⟨h.right, h.ent, fun e he => by have := h.tags e he; omega, h.deep, ⟨by have := h.lens.1; omega, h.lens.2⟩, h.str, h.some⟩
theorem lensE_snoc {g : Int} {l : List Tr} (h1 : l.length ≤ 1000) (h2 : lensTs l = true) : ∀ {es : List (Int × List Tr)}, lensE es = true → lensE (es ++ [(g, l)]) = true
 | [], _ => by rw [List.nil_append, lensE, lensE, h2]; simp [h1]
 | (q, r) :: es, h => by
  rw [lensE, Bool.and_eq_true] at h
  rw [List.cons_append, lensE, h.1, lensE_snoc h1 h2 h.2]
  rfl
theorem lensTs_all : ∀ {l : List Tr}, (∀ x ∈ l, lensT x = true) → lensTs l = true
 | [], _ => by rw [lensTs]
 | x :: l, h => by
  rw [lensTs, h x (List.mem_cons_self), lensTs_all fun y hy => h y (List.mem_cons_of_mem _ hy)]
  rfl
theorem tag_good {S : Sc} {m : Ms} {l : List Int} {sub : List UInt8 → Nat → Tr × Nat} {ok : Bool} {d n : Nat} (FO : FldsOK S m) (hs : ok = true → SubGood S d sub) (hn : n + 1 ≤ 500) {x : List (Int × List Tr) × Nat} (G : GoodE S m d n x.1) : GoodE S m d (n + 1) (tagF m l sub ok n x).1 := by
 unfold tagF
 split
 ·exact G.up
 split
 ·exact G.up
 rename_i hf
 split
 ·exact G.up
 split
 ·exact G.up
 rename_i hk
 split
 ·exact G.up
 rename_i hne
 have hf' : (fldOf m ((n : Int) + 1)).2 = true := by simpa using hf
 obtain ⟨⟨k1, k7⟩, km⟩ := FO _ hf'
 obtain ⟨t1, t2, t3⟩ := trees_good (l := l) (sub := sub) (d := d) k1 k7 (fun h => ⟨km h, hs (by simp only [not_and, Bool.not_eq_false] at hk; exact hk h)⟩) (nextF l x.2).2
 generalize (treesF l sub (fldOf m ((n : Int) + 1)).1 (nextF l x.2).2).1 = ts at t1 t2 t3 hne
 have hl : 1 ≤ ts.length := by cases ts with
  | nil => exact absurd rfl hne
  | cons a b => simp
 have hrt : rightTs ts (headK ts) = true := by
  refine rightTs_all fun y hy => ⟨?_, (t1 y hy).right⟩
  rw [(t1 y hy).kind]
  cases ts with
  | nil => cases hy
  | cons a b => rw [headK, (t1 a (List.mem_cons_self)).kind]
 refine ⟨?_, ?_, ?_, ?_, ?_, ?_, ?_⟩
 ·exact rightE_snoc (by omega) hl (by omega) hrt x.1 0 G.right (fun e he => by have := G.tags e he; omega) (by omega)
 ·refine entV_snoc ?_ x.1 G.ent
  rw [entV, if_neg (by simp [hf']), if_neg (by rintro ⟨a, b⟩; have := t3 a; omega), oneL_all fun y hy => (t1 y hy).one, orE_0, entV]
 ·intro e he
  rcases List.mem_append.1 he with he | he
  ·have := G.tags e he; omega
  ·simp only [List.mem_singleton] at he
   subst he
   simp
 ·intro q
  show dE (x.1 ++ [((n : Int) + 1, ts)]) q 0 ≤ d
  rw [dE_snoc]
  exact dTs_bound (fun y hy => (t1 y hy).deep q) (G.deep q)
 ·exact ⟨by simp; exact G.lens.1, lensE_snoc (by omega) (lensTs_all fun y hy => (t1 y hy).lens) G.lens.2⟩
 ·refine strE_iff.2 fun e he => ?_
  rcases List.mem_append.1 he with he | he
  ·exact strE_iff.1 G.str e he
  ·simp only [List.mem_singleton] at he
   subst he
   exact strTs_iff.2 fun y hy => (t1 y hy).str
 ·intro e he
  rcases List.mem_append.1 he with he | he
  ·exact G.some e he
  ·simp only [List.mem_singleton] at he
   subst he
   exact ⟨hf', hl, t1⟩
theorem tags_good {S : Sc} {m : Ms} {l : List Int} {sub : List UInt8 → Nat → Tr × Nat} {ok : Bool} {d : Nat} (FO : FldsOK S m) (hs : ok = true → SubGood S d sub) (a : Nat) : ∀ n, n ≤ 500 → GoodE S m d n (itS (tagF m l sub ok) n ([], a)).1
 | 0, _ => by
  refine ⟨by rw [itS, rightE], by rw [itS, entV], by simp [itS], fun q => by rw [itS, dE]; omega, ⟨by simp [itS], by rw [itS, lensE]⟩, by rw [itS, strE], by simp [itS]⟩
 | n + 1, h => by
  rw [itS]
  exact tag_good FO hs h (tags_good FO hs a n (by omega))
theorem good_tree {S : Sc} {m : Ms} {d n : Nat} {es : List (Int × List Tr)} (G : GoodE S m d n es) (hn : n ≤ 500) : GoodM S m (d + 1) (.mk 3 0 [] es []) := by
 refine ⟨rfl, ?_, ?_, fun q => ?_, ?_, ?_, rfl, G.some⟩
 ·rw [rightT_mk]
  simp only [Tr.kind, Tr.n, Tr.s, Tr.ents, Tr.rest]
  rw [G.right]
  rfl
 ·rw [msgV_mk]
  simp only [Tr.ents, Tr.rest]
  rw [G.ent]
  rfl
 ·rw [dT]
  split
  ·omega
  ·have := G.deep (q - 1); omega
 ·rw [lensT, G.lens.2]
  have := G.lens.1
  simp; omega
 ·rw [strT, G.str]
  simp
theorem fit_good {S : Sc} (FO : ∀ k, (msOf S k).2 = true → FldsOK S (msOf S k).1) (l : List Int) : ∀ (d : Nat) (k : List UInt8) (a : Nat), (msOf S k).2 = true → GoodM S (msOf S k).1 (d + 1) (fitF S l d k a).1
 | 0, k, a, h => by
  rw [fitF]
  exact good_tree (tags_good (FO k h) (fun h => by cases h) a 500 (by omega)) (by omega)
 | d + 1, k, a, h => by
  rw [fitF]
  exact good_tree (tags_good (FO k h) (fun _ k a h => fit_good FO l d k a h) a 500 (by omega)) (by omega)
def SubAt (B : Nat) (sub : List UInt8 → Nat → Tr × Nat) : Prop := ∀ k a, (sub k a).2 ≤ max a B ∧ a ≤ (sub k a).2
theorem one_at {l : List Int} {sub : List UInt8 → Nat → Tr × Nat} {f : Fd} {B a : Nat} (h : SubAt B sub) : (oneF l sub f a).2 ≤ max (a + 1) B ∧ a ≤ (oneF l sub f a).2 := by
 have np := nextF_pos l a
 unfold oneF
 split
 ·simp only; omega
 ·have := h f.ty.name (nextF l a).2; omega
theorem reps_at {l : List Int} {sub : List UInt8 → Nat → Tr × Nat} {f : Fd} {B : Nat} (h : SubAt B sub) (x : List Tr × Nat) : ∀ n, (itS (fun _ => repF l sub f) n x).2 ≤ max x.2 B + n ∧ x.2 ≤ (itS (fun _ => repF l sub f) n x).2
 | 0 => by simp only [itS]; omega
 | n + 1 => by
  have g := reps_at h x n (l := l) (f := f)
  have o := one_at (l := l) (f := f) (a := (itS (fun _ => repF l sub f) n x).2) h
  rw [itS]
  unfold repF at g o ⊢
  simp only at g o ⊢
  omega
theorem trees_at {l : List Int} {sub : List UInt8 → Nat → Tr × Nat} {f : Fd} {B a : Nat} (h : SubAt B sub) : (treesF l sub f a).2 ≤ max (a + 1) B + 3 ∧ a ≤ (treesF l sub f a).2 := by
 have c := cntF_le l f a
 have r := reps_at (l := l) (f := f) h ([], (cntF l f a).2) (cntF l f a).1
 unfold treesF
 simp only at r
 omega
theorem tag_at {m : Ms} {l : List Int} {sub : List UInt8 → Nat → Tr × Nat} {ok : Bool} {B n : Nat} (h : SubAt B sub) (x : List (Int × List Tr) × Nat) : (tagF m l sub ok n x).2 ≤ max x.2 (max 151 B + 3) ∧ x.2 ≤ (tagF m l sub ok n x).2 := by
 have np := nextF_pos l x.2
 have t := trees_at (l := l) (f := (fldOf m ((n : Int) + 1)).1) (a := (nextF l x.2).2) h
 unfold tagF
 repeat' split
 all_goals first | omega | (simp only; omega)
theorem tags_at {m : Ms} {l : List Int} {sub : List UInt8 → Nat → Tr × Nat} {ok : Bool} {B : Nat} (h : SubAt B sub) (x : List (Int × List Tr) × Nat) : ∀ n, (itS (tagF m l sub ok) n x).2 ≤ max x.2 (max 151 B + 3) ∧ x.2 ≤ (itS (tagF m l sub ok) n x).2
 | 0 => by simp only [itS]; omega
 | n + 1 => by
  have g := tags_at h x n (m := m) (l := l) (ok := ok)
  have o := tag_at (m := m) (l := l) (ok := ok) (n := n) h (itS (tagF m l sub ok) n x)
  rw [itS]
  omega
theorem fit_at (S : Sc) (l : List Int) : ∀ d, SubAt (154 + 3 * d) (fitF S l d)
 | 0, k, a => by
  have := tags_at (m := (msOf S k).1) (l := l) (ok := false) (B := 0) (sub := nowhere) (fun k a => by simp [nowhere]) ([], a) 500
  rw [fitF]
  simp only at this ⊢
  omega
 | d + 1, k, a => by
  have := tags_at (m := (msOf S k).1) (l := l) (ok := true) (fit_at S l d) ([], a) 500
  rw [fitF]
  simp only at this ⊢
  omega
theorem sub_at (S : Sc) (l : List Int) (d : Nat) : SubAt (154 + 3 * d) (subF S l d) := by
 cases d with
 | zero => intro k a; simp [subF, nowhere]; omega
 | succ d => intro k a; have := fit_at S l d k a; rw [subF]; omega
end Go.Aw.T
namespace Go.Aw.T
open Go.Proofs
end Go.Aw.T
namespace Go.Aw.T
open Go.Proofs
end Go.Aw.T
namespace Go.Aw
open Go.Proofs Go.RowKit
def rp1 (S : Sc) (i : Nat) : St := ⟨ofL [(1, .ptr 0 0 0), (3, .own 1), (4, .p (.int .i64 (i : Int)))], ofH [(0, .row 4 [cellsSc S]), (1, .row 1 (liftE (((S.msgs.take i).map Ms.name).map encS)))], 2⟩
def rp2 (S : Sc) (i : Nat) : St := ⟨ofL [(1, .ptr 0 0 0), (3, .own 1), (6, .p (.int .i64 (i : Int)))], ofH [(0, .row 4 [cellsSc S]), (1, .row 1 (liftE ((S.msgs.map Ms.name ++ (S.enums.take i).map En.name).map encS)))], 2⟩
def rp3 (S : Sc) (i : Nat) : St := ⟨ofL [(1, .ptr 0 0 0), (4, .own 1), (5, .p (.int .i64 (i : Int)))], ofH [(0, .row 4 [cellsSc S]), (1, .row 1 (liftE (((S.meths.take i).map Mt.name).map encS)))], 2⟩
theorem ref07_parts (S : Sc) (L : LensS S) : PFn Tryd.prog 58 [.agg (encSc S)] (.int .i64 (partsC S)) := by
 refine PFn.of Tryd.func58 rfl (by decide) Tryd.ntmps58 Tryd.results58 (Nat.le_of_ble_eq_true rfl) ?_
 simp only [argsT, encSc]
 have Lm := L.m
 have Le := L.e
 refine AW.rT (by rfl) fun K hK => ?_
 simp -implicitDefEqProofs only [go_sem, Nat.reduceAdd]
 apply hK; clear hK K
 refine AW.rT (by rfl) fun K hK => ?_
 simp -implicitDefEqProofs only [go_sem, Nat.reduceAdd]
 apply hK; clear hK K
 refine AW.seq ?_
 refine AW.rT (by rfl) fun K hK => ?_
 simp -implicitDefEqProofs only [go_sem, Nat.reduceAdd]
 apply hK; clear hK K
 refine AW.block ?_
 refine AW.loop (rp1 S) (fun i => i ≤ S.msgs.length ∧ partsC S = msgsC S (fun ns => enumsC ns S.enums) ((S.msgs.take i).map Ms.name) (S.msgs.drop i)) (fun i => S.msgs.length - i) 0 ?_ ⟨by omega, by simp [partsC]⟩ fun i hi => ?_
 ·refine Ghost.trans (Ghost.nil (t := 3) (sz := 1) rfl) ?_
  simp only [rp1, cellsSc]
  refine Ghost.ent (fun l => if l = 0 then 0 else 4) ?_ ?_ ?_ <;> simp -implicitDefEqProofs only [go_sem, ↓reduceIte, Nat.reduceEqDiff, reduceCtorEq, List.take_zero, List.map_nil, liftE_nil, List.forall_mem_cons, List.not_mem_nil, false_implies, implies_true, and_self, List.all_cons, List.all_nil, Nat.reduceLT, labsInL, AV.labsIn]
  all_goals first | rfl | decide | skip
 obtain ⟨i1, i2⟩ := hi
 simp only [rp1, cellsSc]
 refine AW.seq ?_
 by_cases hil : i < S.msgs.length
 ·obtain ⟨m, hm⟩ : ∃ m, S.msgs[i]? = some m := ⟨_, List.getElem?_eq_getElem hil⟩
  have ⟨hm1, hm2, hm3⟩ := at_map' encMs hm
  have hm2' : (i : Int) < (S.msgs.length : Int) := by omega
  have hc1 : ((i : Int) < (S.msgs.length : Int)) = True := eq_true (by omega)
  have w1 : IntKind.wrap .i64 ((i : Int) + 1) = ((i + 1 : Nat) : Int) := by rw [w64] <;> omega
  rw [msgsC_at hm] at i2
  have hnx := take_map_next Ms.name hm
  have hNl : ((S.msgs.take i).map Ms.name).length ≤ 1000000 := by rw [List.length_map, List.length_take]; omega
  generalize hN : (S.msgs.take i).map Ms.name = N at *
  have FR := ref07_fresh N m.name (by omega) (L.msgs m (List.mem_of_getElem? hm)).1
  have CM := ref07_message S m L.m L.e (L.msgs m (List.mem_of_getElem? hm))
  simp only [encSc, encMs] at CM
  refine AW.rT (by rfl) fun K hK => ?_
  simp -implicitDefEqProofs only [go_sem, ↓reduceIte, Nat.reduceAdd, Nat.reduceEqDiff, hc1, List.length_map]
  apply hK; clear hK K
  refine AW.cT rfl ?_
  refine AW.skip ?_
  simp only [andThen]
  refine AW.seq ?_
  refine AW.block ?_
  refine AW.seq ?_
  cases ht : takesB N m.name with
  | false =>
   have hv : msgC S N m = 6 := by unfold msgC; rw [ht]; rfl
   rw [hv, if_neg (by decide)] at i2
   rw [ht] at FR
   refine AW.rT (by rfl) fun K hK => ?_
   simp -implicitDefEqProofs only [go_sem, ↓reduceIte, Nat.reduceAdd, Nat.reduceEqDiff, hm1, hm2', hm3, encMs, List.length_map]
   refine ⟨.peek _, ⟨FR, rfl⟩, ?_⟩
   try simp -implicitDefEqProofs only [go_sem, Nat.reduceAdd]
   apply hK; clear hK K
   refine AW.cT rfl ?_
   refine AW.rT (by rfl) fun K hK => ?_
   simp -implicitDefEqProofs only [go_sem, Nat.reduceAdd]
   apply hK; clear hK K
   refine AW.ret ?_
   simp -implicitDefEqProofs only [go_sem, i2]
  | true =>
  have hv : msgC S N m = bodyC S m := by unfold msgC; rw [ht]; rfl
  rw [hv] at i2
  rw [ht] at FR
  refine AW.rT (by rfl) fun K hK => ?_
  simp -implicitDefEqProofs only [go_sem, ↓reduceIte, Nat.reduceAdd, Nat.reduceEqDiff, hm1, hm2', hm3, encMs, List.length_map]
  refine ⟨.peek _, ⟨FR, rfl⟩, ?_⟩
  try simp -implicitDefEqProofs only [go_sem, Nat.reduceAdd]
  apply hK; clear hK K
  refine AW.cF rfl ?_
  refine AW.skip ?_
  simp only [andThen]
  refine AW.rT (by rfl) fun K hK => ?_
  simp -implicitDefEqProofs only [go_sem, ↓reduceIte, Nat.reduceAdd, Nat.reduceMul, Nat.reduceEqDiff, Nat.reduceLeDiff, reduceCtorEq, hm1, hm2', hm3, encMs, List.length_map]
  refine ⟨⟨by simp, by simp [oneAll, AV.one, PV.one], by simp⟩, by simp [liftE_length]; omega, ?_⟩
  apply hK; clear hK K
  refine AW.dT mixed (by rfl) (by decide +kernel) fun K hK => ?_
  simp -implicitDefEqProofs only [go_sem, ↓reduceIte, Nat.reduceAdd, Nat.reduceEqDiff, Nat.reduceLeDiff, reduceCtorEq, hm1, hm2', hm3, encMs, List.length_map]
  refine ⟨.pure _, CM, ?_⟩
  try simp -implicitDefEqProofs only [go_sem, ↓reduceIte, Nat.reduceAdd]
  refine ⟨heapOK_nil rfl, ?_⟩
  apply hK; clear hK K
  by_cases hz : bodyC S m = 0
  ·have bz : (bodyC S m != 0) = false := by simp [hz]
   rw [if_pos hz] at i2
   refine AW.rT (by rfl) fun K hK => ?_
   simp -implicitDefEqProofs only [go_sem, ↓reduceIte, Nat.reduceAdd, bz]
   apply hK; clear hK K
   refine AW.cF rfl ?_
   refine AW.skip ?_
   simp only [andThen, inBlk]
   refine AW.rE (by rfl) fun K hK => ?_
   simp -implicitDefEqProofs only [go_sem, ↓reduceIte, Nat.reduceAdd, Nat.reduceEqDiff, w1]
   apply hK; clear hK K
   refine ⟨i + 1, ⟨by omega, by rw [hnx]; exact i2⟩, by omega, ?_⟩
   rw [hnx]
   refine Ghost.ent (fun l => if l = 0 then 0 else 24) ?_ ?_ ?_ <;> simp -implicitDefEqProofs only [go_sem, ↓reduceIte, Nat.reduceEqDiff, reduceCtorEq, encS, List.map_append, liftE_append, liftE_cons, liftE_nil, List.forall_mem_cons, List.not_mem_nil, false_implies, implies_true, and_self, map_renL_lift, labsIn_lift, List.all_append, List.all_cons, List.all_nil, List.map_append, Nat.reduceLT, labsInL, AV.labsIn]
  ·have bz : (bodyC S m != 0) = true := by simp [hz]
   rw [if_neg hz] at i2
   refine AW.rT (by rfl) fun K hK => ?_
   simp -implicitDefEqProofs only [go_sem, ↓reduceIte, Nat.reduceAdd, bz]
   apply hK; clear hK K
   refine AW.cT rfl ?_
   refine AW.rT (by rfl) fun K hK => ?_
   simp -implicitDefEqProofs only [go_sem, ↓reduceIte, Nat.reduceAdd, Nat.reduceEqDiff]
   apply hK; clear hK K
   refine AW.ret ?_
   simp -implicitDefEqProofs only [go_sem, i2]
 have hc1 : ((i : Int) < (S.msgs.length : Int)) = False := eq_false (by omega)
 have ea : S.msgs.take i = S.msgs := List.take_of_length_le (by omega)
 rw [List.drop_of_length_le (by omega), msgsC, ea] at i2
 rw [ea]
 clear ea hil
 refine AW.rT (by rfl) fun K hK => ?_
 simp -implicitDefEqProofs only [go_sem, ↓reduceIte, Nat.reduceAdd, Nat.reduceEqDiff, hc1, List.length_map]
 apply hK; clear hK K
 refine AW.cF rfl ?_
 refine AW.exit ?_
 simp only [andThen, inBlk, ↓reduceIte]
 refine AW.seq ?_
 refine AW.rT (by rfl) fun K hK => ?_
 simp -implicitDefEqProofs only [go_sem, Nat.reduceAdd]
 apply hK; clear hK K
 refine AW.block ?_
 refine AW.loop (rp2 S) (fun i => i ≤ S.enums.length ∧ partsC S = enumsC (S.msgs.map Ms.name ++ (S.enums.take i).map En.name) (S.enums.drop i)) (fun i => S.enums.length - i) 0 ?_ ⟨by omega, by simpa using i2⟩ fun j hj => ?_
 ·simp only [rp2, cellsSc]
  refine Ghost.sub ?_ ?_ <;> simp -implicitDefEqProofs only [go_sem, ↓reduceIte, Nat.reduceEqDiff, List.take_zero, List.map_nil, List.append_nil, List.forall_mem_cons, List.not_mem_nil, false_implies, implies_true, and_self, labsIn_lift, List.all_cons, List.all_nil, Nat.reduceLT, labsInL, AV.labsIn]
  all_goals first | rfl | decide | skip
 clear i2 i1 hc1
 obtain ⟨j1, j2⟩ := hj
 simp only [rp2, cellsSc]
 refine AW.seq ?_
 by_cases hjl : j < S.enums.length
 case neg =>
  have hc1 : ((j : Int) < (S.enums.length : Int)) = False := eq_false (by omega)
  rw [List.drop_of_length_le (by omega), enumsC] at j2
  refine AW.rT (by rfl) fun K hK => ?_
  simp -implicitDefEqProofs only [go_sem, ↓reduceIte, Nat.reduceAdd, Nat.reduceEqDiff, hc1, List.length_map]
  apply hK; clear hK K
  refine AW.cF rfl ?_
  refine AW.exit ?_
  simp only [andThen, inBlk, ↓reduceIte]
  refine AW.rT (by rfl) fun K hK => ?_
  simp -implicitDefEqProofs only [go_sem, Nat.reduceAdd]
  apply hK; clear hK K
  refine AW.ret ?_
  simp -implicitDefEqProofs only [go_sem, j2]
 obtain ⟨m, hm⟩ : ∃ m, S.enums[j]? = some m := ⟨_, List.getElem?_eq_getElem hjl⟩
 have ⟨hm1, hm2, hm3⟩ := at_map' encEn hm
 have hm2' : (j : Int) < (S.enums.length : Int) := by omega
 have hc1 : ((j : Int) < (S.enums.length : Int)) = True := eq_true (by omega)
 have w1 : IntKind.wrap .i64 ((j : Int) + 1) = ((j + 1 : Nat) : Int) := by rw [w64] <;> omega
 rw [enumsC_at hm] at j2
 have hnx : S.msgs.map Ms.name ++ (S.enums.take (j + 1)).map En.name = (S.msgs.map Ms.name ++ (S.enums.take j).map En.name) ++ [m.name] := by rw [take_map_next En.name hm, List.append_assoc]
 have hNl : (S.msgs.map Ms.name ++ (S.enums.take j).map En.name).length ≤ 2000000 := by simp; omega
 generalize hN : S.msgs.map Ms.name ++ (S.enums.take j).map En.name = N at *
 have FR := ref07_fresh N m.name (by omega) (L.enums m (List.mem_of_getElem? hm)).1
 have CM := ref07_enum m (L.enums m (List.mem_of_getElem? hm))
 simp only [encEn] at CM
 refine AW.rT (by rfl) fun K hK => ?_
 simp -implicitDefEqProofs only [go_sem, ↓reduceIte, Nat.reduceAdd, Nat.reduceEqDiff, hc1, List.length_map]
 apply hK; clear hK K
 refine AW.cT rfl ?_
 refine AW.skip ?_
 simp only [andThen]
 refine AW.seq ?_
 refine AW.block ?_
 refine AW.seq ?_
 cases ht : takesB N m.name with
 | false =>
  have hv : enumC N m = 6 := by unfold enumC; rw [ht]; rfl
  rw [hv, if_neg (by decide)] at j2
  rw [ht] at FR
  refine AW.rT (by rfl) fun K hK => ?_
  simp -implicitDefEqProofs only [go_sem, ↓reduceIte, Nat.reduceAdd, Nat.reduceEqDiff, hm1, hm2', hm3, encEn, List.length_map]
  refine ⟨.peek _, ⟨FR, rfl⟩, ?_⟩
  try simp -implicitDefEqProofs only [go_sem, Nat.reduceAdd]
  apply hK; clear hK K
  refine AW.cT rfl ?_
  refine AW.rT (by rfl) fun K hK => ?_
  simp -implicitDefEqProofs only [go_sem, Nat.reduceAdd]
  apply hK; clear hK K
  refine AW.ret ?_
  simp -implicitDefEqProofs only [go_sem, j2]
 | true =>
 have hv : enumC N m = enumBody m := by unfold enumC; rw [ht]; rfl
 rw [hv] at j2
 rw [ht] at FR
 refine AW.rT (by rfl) fun K hK => ?_
 simp -implicitDefEqProofs only [go_sem, ↓reduceIte, Nat.reduceAdd, Nat.reduceEqDiff, hm1, hm2', hm3, encEn, List.length_map]
 refine ⟨.peek _, ⟨FR, rfl⟩, ?_⟩
 try simp -implicitDefEqProofs only [go_sem, Nat.reduceAdd]
 apply hK; clear hK K
 refine AW.cF rfl ?_
 refine AW.skip ?_
 simp only [andThen]
 refine AW.rT (by rfl) fun K hK => ?_
 simp -implicitDefEqProofs only [go_sem, ↓reduceIte, Nat.reduceAdd, Nat.reduceMul, Nat.reduceEqDiff, Nat.reduceLeDiff, reduceCtorEq, hm1, hm2', hm3, encEn, List.length_map]
 refine ⟨⟨by simp, by simp [oneAll, AV.one, PV.one], by simp⟩, by simp [liftE_length]; omega, ?_⟩
 apply hK; clear hK K
 refine AW.rT (by rfl) fun K hK => ?_
 simp -implicitDefEqProofs only [go_sem, ↓reduceIte, Nat.reduceAdd, Nat.reduceEqDiff, Nat.reduceLeDiff, reduceCtorEq, hm1, hm2', hm3, encEn, List.length_map]
 refine ⟨.pure _, CM, ?_⟩
 try simp -implicitDefEqProofs only [go_sem, Nat.reduceAdd]
 apply hK; clear hK K
 by_cases hz : enumBody m = 0
 ·have bz : (enumBody m != 0) = false := by simp [hz]
  rw [if_pos hz] at j2
  refine AW.rT (by rfl) fun K hK => ?_
  simp -implicitDefEqProofs only [go_sem, ↓reduceIte, Nat.reduceAdd, bz]
  apply hK; clear hK K
  refine AW.cF rfl ?_
  refine AW.skip ?_
  simp only [andThen, inBlk]
  refine AW.rE (by rfl) fun K hK => ?_
  simp -implicitDefEqProofs only [go_sem, ↓reduceIte, Nat.reduceAdd, Nat.reduceEqDiff, w1]
  apply hK; clear hK K
  refine ⟨j + 1, ⟨by omega, by rw [hnx]; exact j2⟩, by omega, ?_⟩
  rw [hnx]
  refine Ghost.ent (fun l => if l = 0 then 0 else 24) ?_ ?_ ?_ <;> simp -implicitDefEqProofs only [go_sem, ↓reduceIte, Nat.reduceEqDiff, reduceCtorEq, encS, List.map_append, liftE_append, liftE_cons, liftE_nil, List.forall_mem_cons, List.not_mem_nil, false_implies, implies_true, and_self, map_renL_lift, labsIn_lift, List.all_append, List.all_cons, List.all_nil, List.map_append, Nat.reduceLT, labsInL, AV.labsIn]
 ·have bz : (enumBody m != 0) = true := by simp [hz]
  rw [if_neg hz] at j2
  refine AW.rT (by rfl) fun K hK => ?_
  simp -implicitDefEqProofs only [go_sem, ↓reduceIte, Nat.reduceAdd, bz]
  apply hK; clear hK K
  refine AW.cT rfl ?_
  refine AW.rT (by rfl) fun K hK => ?_
  simp -implicitDefEqProofs only [go_sem, ↓reduceIte, Nat.reduceAdd, Nat.reduceEqDiff]
  apply hK; clear hK K
  refine AW.ret ?_
  simp -implicitDefEqProofs only [go_sem, j2]
theorem ref07_Check (S : Sc) (L : LensS S) : PFn Tryd.prog 20 [.agg (encSc S)] (.int .i64 (checkC S)) := by
 refine PFn.of Tryd.func20 rfl (by decide) Tryd.ntmps20 Tryd.results20 (Nat.le_of_ble_eq_true rfl) ?_
 simp only [argsT, encSc]
 have Lt := L.t
 refine AW.rT (by rfl) fun K hK => ?_
 simp -implicitDefEqProofs only [go_sem, Nat.reduceAdd]
 apply hK; clear hK K
 refine AW.seq ?_
 refine AW.block ?_
 cases hn : nameB S.name with
 | false =>
  have e : checkC S = 6 := by unfold checkC; rw [hn]; rfl
  refine AW.rT (by rfl) fun K hK => ?_
  simp -implicitDefEqProofs only [go_sem, ↓reduceIte, Nat.reduceAdd, Nat.reduceEqDiff]
  refine ⟨.pure _, ref01_Name S.name L.name, ?_⟩
  try simp -implicitDefEqProofs only [go_sem, Nat.reduceAdd, hn]
  apply hK; clear hK K
  refine AW.cT rfl ?_
  refine AW.rT (by rfl) fun K hK => ?_
  simp -implicitDefEqProofs only [go_sem, Nat.reduceAdd]
  apply hK; clear hK K
  refine AW.ret ?_
  simp -implicitDefEqProofs only [go_sem, e]
 | true =>
 have e0 : checkC S = if S.msgs.length = 0 then 12 else if S.msgs.length > 10 ∨ S.enums.length > 6 ∨ S.meths.length > 6 then 4 else if partsC S = 0 then methsC S [] S.meths else partsC S := by unfold checkC; rw [hn, if_pos rfl]
 refine AW.rT (by rfl) fun K hK => ?_
 simp -implicitDefEqProofs only [go_sem, ↓reduceIte, Nat.reduceAdd, Nat.reduceEqDiff]
 refine ⟨.pure _, ref01_Name S.name L.name, ?_⟩
 try simp -implicitDefEqProofs only [go_sem, Nat.reduceAdd, hn]
 apply hK; clear hK K
 refine AW.cF rfl ?_
 by_cases c0 : S.msgs.length = 0
 ·have b0 : ((S.msgs.length : Int) == 0) = true := by rw [beq_iff_eq]; omega
  rw [if_pos c0] at e0
  refine AW.rT (by rfl) fun K hK => ?_
  simp -implicitDefEqProofs only [go_sem, ↓reduceIte, Nat.reduceAdd, Nat.reduceEqDiff, b0, List.length_map]
  apply hK; clear hK K
  refine AW.cT rfl ?_
  refine AW.rT (by rfl) fun K hK => ?_
  simp -implicitDefEqProofs only [go_sem, Nat.reduceAdd]
  apply hK; clear hK K
  refine AW.ret ?_
  simp -implicitDefEqProofs only [go_sem, e0]
 rw [if_neg c0] at e0
 have b0 : ((S.msgs.length : Int) == 0) = false := beq_eq_false_iff_ne.2 (by omega)
 refine AW.rT (by rfl) fun K hK => ?_
 simp -implicitDefEqProofs only [go_sem, ↓reduceIte, Nat.reduceAdd, Nat.reduceEqDiff, b0, List.length_map]
 apply hK; clear hK K
 refine AW.cF rfl ?_
 by_cases c1 : S.msgs.length > 10
 ·have b1 : ((S.msgs.length : Int) > 10) = True := eq_true (by omega)
  rw [if_pos (.inl c1)] at e0
  refine AW.rT (by rfl) fun K hK => ?_
  simp -implicitDefEqProofs only [go_sem, ↓reduceIte, Nat.reduceAdd, Nat.reduceEqDiff, b1, List.length_map]
  apply hK; clear hK K
  refine AW.cT rfl ?_
  refine AW.rT (by rfl) fun K hK => ?_
  simp -implicitDefEqProofs only [go_sem, Nat.reduceAdd]
  apply hK; clear hK K
  refine AW.ret ?_
  simp -implicitDefEqProofs only [go_sem, e0]
 have b1 : ((S.msgs.length : Int) > 10) = False := eq_false (by omega)
 by_cases c2 : S.enums.length > 6
 ·have b2 : ((S.enums.length : Int) > 6) = True := eq_true (by omega)
  rw [if_pos (.inr (.inl c2))] at e0
  refine AW.rT (by rfl) fun K hK => ?_
  simp -implicitDefEqProofs only [go_sem, ↓reduceIte, Nat.reduceAdd, Nat.reduceEqDiff, b1, b2, List.length_map]
  apply hK; clear hK K
  refine AW.cT rfl ?_
  refine AW.rT (by rfl) fun K hK => ?_
  simp -implicitDefEqProofs only [go_sem, Nat.reduceAdd]
  apply hK; clear hK K
  refine AW.ret ?_
  simp -implicitDefEqProofs only [go_sem, e0]
 have b2 : ((S.enums.length : Int) > 6) = False := eq_false (by omega)
 by_cases c3 : S.meths.length > 6
 ·have b3 : ((S.meths.length : Int) > 6) = True := eq_true (by omega)
  rw [if_pos (.inr (.inr c3))] at e0
  refine AW.rT (by rfl) fun K hK => ?_
  simp -implicitDefEqProofs only [go_sem, ↓reduceIte, Nat.reduceAdd, Nat.reduceEqDiff, b1, b2, b3, List.length_map]
  apply hK; clear hK K
  refine AW.cT rfl ?_
  refine AW.rT (by rfl) fun K hK => ?_
  simp -implicitDefEqProofs only [go_sem, Nat.reduceAdd]
  apply hK; clear hK K
  refine AW.ret ?_
  simp -implicitDefEqProofs only [go_sem, e0]
 have b3 : ((S.meths.length : Int) > 6) = False := eq_false (by omega)
 rw [if_neg (by omega)] at e0
 refine AW.rT (by rfl) fun K hK => ?_
 simp -implicitDefEqProofs only [go_sem, ↓reduceIte, Nat.reduceAdd, Nat.reduceEqDiff, b1, b2, b3, List.length_map]
 apply hK; clear hK K
 refine AW.cF rfl ?_
 refine AW.skip ?_
 simp only [andThen, inBlk]
 clear b1 b2 b3
 have PP := ref07_parts S L
 simp only [encSc] at PP
 refine AW.seq ?_
 refine AW.rT (by rfl) fun K hK => ?_
 simp -implicitDefEqProofs only [go_sem, ↓reduceIte, Nat.reduceAdd, Nat.reduceEqDiff, Nat.reduceLeDiff]
 refine ⟨.pure _, PP, ?_⟩
 try simp -implicitDefEqProofs only [go_sem, Nat.reduceAdd]
 apply hK; clear hK K
 by_cases hz : partsC S = 0
 case neg =>
  have bz : (partsC S != 0) = true := by simp [hz]
  rw [if_neg hz] at e0
  refine AW.rT (by rfl) fun K hK => ?_
  simp -implicitDefEqProofs only [go_sem, ↓reduceIte, Nat.reduceAdd, bz]
  apply hK; clear hK K
  refine AW.cT rfl ?_
  refine AW.rT (by rfl) fun K hK => ?_
  simp -implicitDefEqProofs only [go_sem, ↓reduceIte, Nat.reduceAdd, Nat.reduceEqDiff]
  apply hK; clear hK K
  refine AW.ret ?_
  simp -implicitDefEqProofs only [go_sem, e0]
 have bz : (partsC S != 0) = false := by simp [hz]
 rw [if_pos hz] at e0
 refine AW.rT (by rfl) fun K hK => ?_
 simp -implicitDefEqProofs only [go_sem, ↓reduceIte, Nat.reduceAdd, bz]
 apply hK; clear hK K
 refine AW.cF rfl ?_
 refine AW.skip ?_
 simp only [andThen]
 refine AW.rT (by rfl) fun K hK => ?_
 simp -implicitDefEqProofs only [go_sem, Nat.reduceAdd]
 apply hK; clear hK K
 refine AW.seq ?_
 refine AW.rT (by rfl) fun K hK => ?_
 simp -implicitDefEqProofs only [go_sem, Nat.reduceAdd]
 apply hK; clear hK K
 refine AW.block ?_
 refine AW.loop (rp3 S) (fun i => i ≤ S.meths.length ∧ methsC S [] S.meths = methsC S ((S.meths.take i).map Mt.name) (S.meths.drop i)) (fun i => S.meths.length - i) 0 ?_ ⟨by omega, by simp⟩ fun k hk => ?_
 ·refine Ghost.trans (Ghost.nil (t := 4) (sz := 1) rfl) ?_
  simp only [rp3, cellsSc]
  refine Ghost.ent (fun l => if l = 0 then 0 else 36) ?_ ?_ ?_ <;> simp -implicitDefEqProofs only [go_sem, ↓reduceIte, Nat.reduceEqDiff, reduceCtorEq, List.take_zero, List.map_nil, liftE_nil, List.forall_mem_cons, List.not_mem_nil, false_implies, implies_true, and_self, List.all_cons, List.all_nil, Nat.reduceLT, labsInL, AV.labsIn]
  all_goals first | rfl | decide | skip
 obtain ⟨k1, k2⟩ := hk
 simp only [rp3, cellsSc]
 refine AW.seq ?_
 by_cases hkl : k < S.meths.length
 case neg =>
  have hc1 : ((k : Int) < (S.meths.length : Int)) = False := eq_false (by omega)
  rw [List.drop_of_length_le (by omega), methsC] at k2
  rw [k2] at e0
  refine AW.rT (by rfl) fun K hK => ?_
  simp -implicitDefEqProofs only [go_sem, ↓reduceIte, Nat.reduceAdd, Nat.reduceEqDiff, hc1, List.length_map]
  apply hK; clear hK K
  refine AW.cF rfl ?_
  refine AW.exit ?_
  simp only [andThen, inBlk, ↓reduceIte]
  refine AW.rT (by rfl) fun K hK => ?_
  simp -implicitDefEqProofs only [go_sem, Nat.reduceAdd]
  apply hK; clear hK K
  refine AW.ret ?_
  simp -implicitDefEqProofs only [go_sem, e0]
 obtain ⟨m, hm⟩ : ∃ m, S.meths[k]? = some m := ⟨_, List.getElem?_eq_getElem hkl⟩
 have ⟨hm1, hm2, hm3⟩ := at_map' encMt hm
 have hm2' : (k : Int) < (S.meths.length : Int) := by omega
 have hc1 : ((k : Int) < (S.meths.length : Int)) = True := eq_true (by omega)
 have w1 : IntKind.wrap .i64 ((k : Int) + 1) = ((k + 1 : Nat) : Int) := by rw [w64] <;> omega
 rw [methsC_at hm] at k2
 have hnx := take_map_next Mt.name hm
 have hNl : ((S.meths.take k).map Mt.name).length ≤ 1000000 := by rw [List.length_map, List.length_take]; omega
 generalize hN : (S.meths.take k).map Mt.name = N at *
 have FR := ref07_fresh N m.name (by omega) (L.meths m (List.mem_of_getElem? hm))
 have M1 := ref07_Message S m.inn L.m
 have M2 := ref07_Message S m.out L.m
 simp only [encSc, encMs] at M1 M2
 have h1 : hasM S m.inn = (firstP (fun x => x.name == m.inn) zMs S.msgs).2 := rfl
 have h2 : hasM S m.out = (firstP (fun x => x.name == m.out) zMs S.msgs).2 := rfl
 rw [← h1] at M1
 rw [← h2] at M2
 refine AW.rT (by rfl) fun K hK => ?_
 simp -implicitDefEqProofs only [go_sem, ↓reduceIte, Nat.reduceAdd, Nat.reduceEqDiff, hc1, List.length_map]
 apply hK; clear hK K
 refine AW.cT rfl ?_
 refine AW.skip ?_
 simp only [andThen]
 refine AW.seq ?_
 refine AW.block ?_
 refine AW.rT (by rfl) fun K hK => ?_
 simp -implicitDefEqProofs only [go_sem, ↓reduceIte, Nat.reduceAdd, Nat.reduceEqDiff, Nat.reduceLeDiff, hm1, hm2', hm3, encMt, List.length_map]
 apply hK; clear hK K
 refine AW.seq ?_
 cases ht : takesB N m.name with
 | false =>
  rw [ht, if_neg (by simp)] at k2
  rw [k2] at e0
  rw [ht] at FR
  refine AW.rT (by rfl) fun K hK => ?_
  simp -implicitDefEqProofs only [go_sem, ↓reduceIte, Nat.reduceAdd, Nat.reduceEqDiff]
  refine ⟨.peek _, ⟨FR, rfl⟩, ?_⟩
  try simp -implicitDefEqProofs only [go_sem, Nat.reduceAdd]
  apply hK; clear hK K
  refine AW.cT rfl ?_
  refine AW.rT (by rfl) fun K hK => ?_
  simp -implicitDefEqProofs only [go_sem, Nat.reduceAdd]
  apply hK; clear hK K
  refine AW.ret ?_
  simp -implicitDefEqProofs only [go_sem, e0]
 | true =>
 rw [ht, if_pos rfl] at k2
 rw [ht] at FR
 refine AW.rT (by rfl) fun K hK => ?_
 simp -implicitDefEqProofs only [go_sem, ↓reduceIte, Nat.reduceAdd, Nat.reduceEqDiff]
 refine ⟨.peek _, ⟨FR, rfl⟩, ?_⟩
 try simp -implicitDefEqProofs only [go_sem, Nat.reduceAdd]
 apply hK; clear hK K
 refine AW.cF rfl ?_
 refine AW.skip ?_
 simp only [andThen]
 refine AW.rT (by rfl) fun K hK => ?_
 simp -implicitDefEqProofs only [go_sem, ↓reduceIte, Nat.reduceAdd, Nat.reduceMul, Nat.reduceEqDiff, Nat.reduceLeDiff, reduceCtorEq]
 refine ⟨⟨by simp, by simp [oneAll, AV.one, PV.one], by simp⟩, by simp [liftE_length]; omega, ?_⟩
 apply hK; clear hK K
 refine AW.rT (by rfl) fun K hK => ?_
 simp -implicitDefEqProofs only [go_sem, ↓reduceIte, Nat.reduceAdd, Nat.reduceEqDiff, Nat.reduceLeDiff, reduceCtorEq]
 refine ⟨.pure _, M1, ?_⟩
 try simp -implicitDefEqProofs only [go_sem, ↓reduceIte, Nat.reduceAdd, Nat.reduceEqDiff, Nat.reduceLeDiff]
 apply hK; clear hK K
 refine AW.rT (by rfl) fun K hK => ?_
 simp -implicitDefEqProofs only [go_sem, ↓reduceIte, Nat.reduceAdd, Nat.reduceEqDiff, Nat.reduceLeDiff, reduceCtorEq]
 refine ⟨.pure _, M2, ?_⟩
 try simp -implicitDefEqProofs only [go_sem, ↓reduceIte, Nat.reduceAdd, Nat.reduceEqDiff, Nat.reduceLeDiff]
 apply hK; clear hK K
 cases hi : hasM S m.inn with
 | false =>
  rw [hi, Bool.false_and, if_neg (by simp)] at k2
  rw [k2] at e0
  refine AW.rT (by rfl) fun K hK => ?_
  simp -implicitDefEqProofs only [go_sem, ↓reduceIte, Nat.reduceAdd, Nat.reduceEqDiff]
  apply hK; clear hK K
  refine AW.cT rfl ?_
  refine AW.rT (by rfl) fun K hK => ?_
  simp -implicitDefEqProofs only [go_sem, Nat.reduceAdd]
  apply hK; clear hK K
  refine AW.ret ?_
  simp -implicitDefEqProofs only [go_sem, e0]
 | true =>
 cases ho : hasM S m.out with
 | false =>
  rw [hi, ho, if_neg (by simp)] at k2
  rw [k2] at e0
  refine AW.rT (by rfl) fun K hK => ?_
  simp -implicitDefEqProofs only [go_sem, ↓reduceIte, Nat.reduceAdd, Nat.reduceEqDiff]
  apply hK; clear hK K
  refine AW.cT rfl ?_
  refine AW.rT (by rfl) fun K hK => ?_
  simp -implicitDefEqProofs only [go_sem, Nat.reduceAdd]
  apply hK; clear hK K
  refine AW.ret ?_
  simp -implicitDefEqProofs only [go_sem, e0]
 | true =>
  rw [hi, ho, if_pos (by rfl)] at k2
  refine AW.rT (by rfl) fun K hK => ?_
  simp -implicitDefEqProofs only [go_sem, ↓reduceIte, Nat.reduceAdd, Nat.reduceEqDiff]
  apply hK; clear hK K
  refine AW.cF rfl ?_
  refine AW.skip ?_
  simp only [andThen, inBlk]
  refine AW.rE (by rfl) fun K hK => ?_
  simp -implicitDefEqProofs only [go_sem, ↓reduceIte, Nat.reduceAdd, Nat.reduceEqDiff, w1]
  apply hK; clear hK K
  refine ⟨k + 1, ⟨by omega, by rw [hnx]; exact k2⟩, by omega, ?_⟩
  rw [hnx]
  refine Ghost.ent (fun l => if l = 0 then 0 else 23) ?_ ?_ ?_ <;> simp -implicitDefEqProofs only [go_sem, ↓reduceIte, Nat.reduceEqDiff, reduceCtorEq, encS, List.map_append, liftE_append, liftE_cons, liftE_nil, List.forall_mem_cons, List.not_mem_nil, false_implies, implies_true, and_self, map_renL_lift, labsIn_lift, List.all_append, List.all_cons, List.all_nil, List.map_append, Nat.reduceLT, labsInL, AV.labsIn]
end Go.Aw
namespace Go.Aw.T
open Go.Proofs
theorem ms_mem {S : Sc} {k : List UInt8} (h : (msOf S k).2 = true) : (msOf S k).1 ∈ S.msgs ∧ (msOf S k).1.name = k := by
 unfold msOf firstP at h ⊢
 split at h
 ·rename_i m hm
  exact ⟨List.mem_of_find?_eq_some hm, by simpa using List.find?_some hm⟩
 ·cases h
theorem fld_mem {m : Ms} {g : Int} (h : (fldOf m g).2 = true) : (fldOf m g).1 ∈ m.fields ∧ (fldOf m g).1.tag = g := by
 unfold fldOf firstP at h ⊢
 split at h
 ·rename_i m hm
  exact ⟨List.mem_of_find?_eq_some hm, by simpa using List.find?_some hm⟩
 ·cases h
theorem flds_ok {S : Sc} (R : RightS S) {m : Ms} (hm : m ∈ S.msgs) : FldsOK S m := by
 intro g hg
 obtain ⟨i, hi⟩ := List.getElem?_of_mem (fld_mem hg).1
 have := (R.fld m hm i _ hi).2.2.1
 unfold fieldB kindB at this
 rw [Bool.and_eq_true] at this
 have h2 := this.2
 split at h2
 ·exact ⟨by omega, fun h => by omega⟩
 split at h2
 ·exact ⟨by omega, fun _ => h2⟩
 ·simp only [Bool.and_eq_true, decide_eq_true_eq] at h2
  exact ⟨by omega, fun h => by omega⟩
theorem siz_right {S : Sc} (R : RightS S) : SizS S := ⟨by have := R.len; omega, fun m hm => by have := R.no m hm; omega⟩
theorem flds_all {S : Sc} (R : RightS S) (k : List UInt8) (h : (msOf S k).2 = true) : FldsOK S (msOf S k).1 := flds_ok R (ms_mem h).1
theorem ok_right {t : Tr} (h : okT t = true) : rightT t = true := by
 unfold okT at h
 rw [Bool.and_eq_true] at h
 exact h.2
end Go.Aw.T
namespace Go.Aw.T
open Go.Proofs
end Go.Aw.T
namespace Go.Aw.T
open Go.Proofs
end Go.Aw.T
namespace Go.Aw.T
open Go.Proofs
def bareN (e : Int × List Tr) : Int × List Tr := (e.1, e.2.map bareT)
def bx (t : Tr) (i : Nat) : St := ⟨ofL [(1, .ptr 0 0 0), (2, .ptr 1 0 0), (3, .ptr 2 0 0), (4, .p (.int .i64 (i : Int)))],
 ofH [(0, .row 5 [cellsT t]), (1, .row 5 [[.p (.int .i64 0), .p (.int .i64 0), .p (.str []), .ex [], .ex []]]), (2, .row 5 [[.p (.int .i64 t.kind), .p (.int .i64 t.n), .p (.str t.s), .own 3, .ex []]]),
  (3, .row 2 (liftE (((t.ents.map bareN).take i).map encEn)))], 4⟩
def bz (t : Tr) (i : Nat) (e : Int × List Tr) : St := ⟨ofL [(1, .ptr 0 0 0), (2, .ptr 1 0 0), (3, .ptr 2 0 0), (4, .p (.int .i64 (i : Int))), (5, .ptr 4 0 0)],
 ofH [(0, .row 5 [cellsT t]), (1, .row 5 [[.p (.int .i64 0), .p (.int .i64 0), .p (.str []), .ex [], .ex []]]), (2, .row 5 [[.p (.int .i64 t.kind), .p (.int .i64 t.n), .p (.str t.s), .own 3, .ex []]]),
  (3, .row 2 (liftE (((t.ents.map bareN).take i).map encEn))), (4, .row 2 [[.p (.int .i64 e.1), .p (.slice ((e.2.map bareT).map encTr))]])], 5⟩
theorem map_at {α β : Type} {f : α → β} {l : List α} {i : Nat} {x : α} (h : l[i]? = some x) : (l.map f)[i]? = some (f x) := by rw [List.getElem?_map, h]; rfl
end Go.Aw.T
namespace Go.Aw.T
open Go.Proofs
def cx (t : Tr) (i : Nat) (l : List (Nat × AV)) (h : List (Nat × Blk)) (n : Nat) : St := ⟨ofL ((1, .ptr 0 0 0) :: (2, .ptr 1 0 0) :: (3, .own 2) :: (11, .p (.slice (t.ents.map encEn))) :: (12, .p (.int .i64 (t.ents.length : Int))) :: (13, .p (.int .i64 (i : Int))) :: l),
 ofH ((0, .row 5 [[.p (.int .i64 t.kind), .p (.int .i64 t.n), .p (.str t.s), .p (.slice (t.ents.map encEn)), .ex []]]) :: (1, .row 5 [[.p (.int .i64 0), .p (.int .i64 0), .p (.str []), .ex [], .ex []]]) ::
  (2, .row 2 (liftE (((t.ents.map bareN).take i).map encEn))) :: h), n⟩
end Go.Aw.T
namespace Go.Aw.T
open Go.Proofs
theorem same_self (t : Tr) : sameT t t = true := (sameT_iff t t).2 rfl
theorem same_of {a b : Tr} {f : FuncId} (h : PFn Tryd.prog f [.agg (encTr a), .agg (encTr b)] (.bool (sameT a b))) (e : a = b) : PFn Tryd.prog f [.agg (encTr a), .agg (encTr b)] (.bool true) := by
 rw [e] at h ⊢
 rwa [same_self] at h
end Go.Aw.T
namespace Go.Aw.T
theorem big_of {S : Sc} (G : GSc S) : bigS S := ⟨G.name, fun m hm => (G.msgs.2 m hm).name⟩
end Go.Aw.T
namespace Go.Aw.T
open Go.Proofs
theorem bare_kind (t : Tr) : (bareT t).kind = t.kind ∧ (bareT t).n = t.n ∧ (bareT t).s = t.s ∧ (bareT t).rest = [] := by
 rw [bareT_mk]
 exact ⟨rfl, rfl, rfl, rfl⟩
theorem bare_ents (t : Tr) : (bareT t).ents = t.ents.map fun e => (e.1, e.2.map bareT) := by
 rw [bareT_mk]
 rfl
end Go.Aw.T
namespace Go.Aw.T
open Go.Proofs
def clampV (n : Int) : Int := if n < -2147483648 then -2147483648 else if 2147483647 < n then 2147483647 else n
def pfit (y : Ty) (t : Tr) : Bool := if y.kind = 1 ∨ y.kind = 2 then decide (t.kind = 1) else if y.kind = 3 ∨ y.kind = 6 then decide (t.kind = 1) && numV y t.n else if y.kind = 4 then decide (t.kind = 2) && valS t.s else if y.kind = 5 then decide (t.kind = 2) else decide (t.kind = 3)
def selL {α : Type} (f : Fd) (l : List α) : List α := if f.label = 3 then l else l.drop (l.length - 1)
theorem selL_map {α β : Type} (f : Fd) (g : α → β) (l : List α) : selL f (l.map g) = (selL f l).map g := by
 unfold selL
 split
 ·rfl
 ·rw [List.map_drop, List.length_map]
def keepL (f : Fd) (l : List Tr) : Bool := f.label != 1 || !(l.head?.any zeroV)
mutual
def prM (S : Sc) (m : Ms) : Tr → Tr
 | .mk _ _ _ es _ => .mk 3 0 [] (prE S m es) []
def prE (S : Sc) (m : Ms) : List (Int × List Tr) → List (Int × List Tr)
 | [] => []
 | (g, l) :: es => if ((fldOf m g).2 && l.all (pfit (fldOf m g).1.ty) && keepL (fldOf m g).1 (selL (fldOf m g).1 (prL S (fldOf m g).1 l))) = true then (g, selL (fldOf m g).1 (prL S (fldOf m g).1 l)) :: prE S m es else prE S m es
def prL (S : Sc) (f : Fd) : List Tr → List Tr
 | [] => []
 | t :: l => (if f.ty.kind = 1 then .mk t.kind (clampV t.n) t.s t.ents t.rest else if f.ty.kind = 7 then prM S (msOf S f.ty.name).1 t else t) :: prL S f l
end
def pr1 (S : Sc) (f : Fd) (t : Tr) : Tr := if f.ty.kind = 1 then .mk t.kind (clampV t.n) t.s t.ents t.rest else if f.ty.kind = 7 then prM S (msOf S f.ty.name).1 t else t
theorem prL_map (S : Sc) (f : Fd) : ∀ l : List Tr, prL S f l = l.map (pr1 S f)
 | [] => by rw [prL]; rfl
 | t :: l => by rw [prL, prL_map S f l]; rfl
theorem prM_mk (S : Sc) (m : Ms) (t : Tr) : prM S m t = .mk 3 0 [] (prE S m t.ents) [] := by
 cases t
 rw [prM]
 rfl
def fieldP (S : Sc) (f : Fd) (l : List Tr) : List Tr × Bool := if l.all (pfit f.ty) = false then ([], false) else ((selL f l).map (pr1 S f), keepL f ((selL f l).map (pr1 S f)))
def entP (S : Sc) (m : Ms) (e : Int × List Tr) : List (Int × List Tr) := if (fldOf m e.1).2 = true ∧ (fieldP S (fldOf m e.1).1 e.2).2 = true then [(e.1, (fieldP S (fldOf m e.1).1 e.2).1)] else []
theorem prE_cons (S : Sc) (m : Ms) (e : Int × List Tr) (es : List (Int × List Tr)) : prE S m (e :: es) = entP S m e ++ prE S m es := by
 obtain ⟨g, l⟩ := e
 rw [prE]
 unfold entP fieldP
 simp only
 rw [prL_map, selL_map]
 cases h1 : (fldOf m g).2
 ·simp
 cases h2 : l.all (pfit (fldOf m g).1.ty)
 ·simp
 cases h3 : keepL (fldOf m g).1 ((selL (fldOf m g).1 l).map (pr1 S (fldOf m g).1))
 ·simp
 ·simp
theorem prE_flat (S : Sc) (m : Ms) : ∀ es : List (Int × List Tr), prE S m es = es.flatMap (entP S m)
 | [] => by rw [prE]; rfl
 | e :: es => by rw [prE_cons, prE_flat S m es]; rfl
def zeroTr : Tr := .mk 0 0 [] [] []
end Go.Aw.T
namespace Go.Aw
open Go.Proofs Go.RowKit
end Go.Aw
namespace Go.Aw
open Go.Proofs Go.RowKit
theorem msgsC_back {S : Sc} {K : List (List UInt8) → Int} : ∀ {l : List Ms} {ns : List (List UInt8)}, (∀ (i : Nat) m, l[i]? = some m → msgC S (ns ++ (l.take i).map Ms.name) m = 0) → K (ns ++ l.map Ms.name) = 0 → msgsC S K ns l = 0
 | [], ns, _, h => by simpa [msgsC] using h
 | a :: l, ns, h1, h2 => by
  have h0 := h1 0 a rfl
  rw [msgsC, if_pos (by simpa using h0)]
  exact msgsC_back (fun i m hm => by have := h1 (i + 1) m (by simpa using hm); simpa [List.append_assoc] using this) (by simpa [List.append_assoc] using h2)
theorem enumsC_back : ∀ {l : List En} {ns : List (List UInt8)}, (∀ (i : Nat) m, l[i]? = some m → enumC (ns ++ (l.take i).map En.name) m = 0) → enumsC ns l = 0
 | [], ns, _ => rfl
 | a :: l, ns, h1 => by
  have h0 := h1 0 a rfl
  rw [enumsC, if_pos (by simpa using h0)]
  exact enumsC_back (fun i m hm => by have := h1 (i + 1) m (by simpa using hm); simpa [List.append_assoc] using this)
theorem methsC_back {S : Sc} : ∀ {l : List Mt} {ns : List (List UInt8)}, (∀ (i : Nat) m, l[i]? = some m → takesB (ns ++ (l.take i).map Mt.name) m.name = true ∧ hasM S m.inn = true ∧ hasM S m.out = true) → methsC S ns l = 0
 | [], ns, _ => rfl
 | a :: l, ns, h1 => by
  obtain ⟨q1, q2, q3⟩ := h1 0 a rfl
  rw [methsC, if_pos (by simpa using q1), if_pos (by rw [q2, q3]; rfl)]
  exact methsC_back (fun i m hm => by have := h1 (i + 1) m (by simpa using hm); simpa [List.append_assoc] using this)
theorem takes_iff {ns : List (List UInt8)} {k : List UInt8} : takesB ns k = true ↔ nameB k = true ∧ k ∉ ns := by
 unfold takesB
 rw [Bool.and_eq_true, Bool.not_eq_true', ← Bool.not_eq_true, List.contains_iff_mem]
theorem takes_all {α : Type} {f : α → List UInt8} : ∀ {l : List α} {ns : List (List UInt8)}, ns.Nodup → ((∀ (i : Nat) a, l[i]? = some a → takesB (ns ++ (l.take i).map f) (f a) = true) ↔ (∀ a ∈ l, nameB (f a) = true) ∧ (ns ++ l.map f).Nodup)
 | [], ns, hn => by simp [hn]
 | a :: l, ns, hn => by
  constructor
  ·intro h
   have h0 := takes_iff.1 (h 0 a rfl)
   have hn' : (ns ++ [f a]).Nodup := by
    rw [List.nodup_append]
    refine ⟨hn, by simp, fun x hx y hy => ?_⟩
    simp at hy
    subst hy
    rintro rfl
    exact h0.2 (by simpa using hx)
   have := (takes_all (f := f) (l := l) hn').1 fun i b hb => by
    have := h (i + 1) b (by simpa using hb)
    simpa [List.append_assoc] using this
   refine ⟨fun b hb => ?_, by simpa [List.append_assoc] using this.2⟩
   rcases List.mem_cons.1 hb with rfl | hb
   ·exact h0.1
   ·exact this.1 b hb
  ·rintro ⟨h1, h2⟩ i b hb
   have h2' : ((ns ++ [f a]) ++ l.map f).Nodup := by simpa [List.append_assoc] using h2
   cases i with
   | zero =>
    simp at hb
    subst hb
    refine takes_iff.2 ⟨h1 _ List.mem_cons_self, fun hm => ?_⟩
    have q := (List.nodup_append.1 h2').1
    rw [List.nodup_append] at q
    exact q.2.2 (f a) (by simpa using hm) (f a) (by simp) rfl
   | succ i =>
    have hn' := (List.nodup_append.1 h2').1
    have := (takes_all (f := f) (l := l) hn').2 ⟨fun c hc => h1 c (List.mem_cons_of_mem _ hc), h2'⟩ i b (by simpa using hb)
    simpa [List.append_assoc] using this
def namesS (S : Sc) : List (List UInt8) := S.msgs.map Ms.name ++ S.enums.map En.name
structure FitS (S : Sc) : Prop where
 name : nameB S.name = true
 lens : S.msgs.length ≠ 0 ∧ S.msgs.length ≤ 10 ∧ S.enums.length ≤ 6 ∧ S.meths.length ≤ 6
 mn : ∀ m ∈ S.msgs, nameB m.name = true
 en : ∀ m ∈ S.enums, nameB m.name = true
 nd : (namesS S).Nodup
 body : ∀ m ∈ S.msgs, bodyC S m = 0
 ebody : ∀ m ∈ S.enums, enumBody m = 0
 tn : ∀ t ∈ S.meths, nameB t.name = true
 tnd : (S.meths.map Mt.name).Nodup
 tio : ∀ t ∈ S.meths, hasM S t.inn = true ∧ hasM S t.out = true
theorem msgC_zero {S : Sc} {ns : List (List UInt8)} {m : Ms} : msgC S ns m = 0 ↔ takesB ns m.name = true ∧ bodyC S m = 0 := by
 unfold msgC
 split
 ·rename_i h; simp [h]
 ·rename_i h; simp [h]
theorem enumC_zero {ns : List (List UInt8)} {m : En} : enumC ns m = 0 ↔ takesB ns m.name = true ∧ enumBody m = 0 := by
 unfold enumC
 split
 ·rename_i h; simp [h]
 ·rename_i h; simp [h]
theorem check_fit {S : Sc} : checkC S = 0 ↔ FitS S := by
 constructor
 ·intro h
  have R := right_of h
  unfold checkC at h
  split at h
  case isFalse => cases h
  rename_i hn
  split at h
  ·cases h
  split at h
  ·cases h
  split at h
  case isFalse h0 => exact absurd h h0
  rename_i h0
  obtain ⟨h1, h2⟩ := msgsC_zero h0
  have h3 := enumsC_zero h2
  have h4 := methsC_zero h
  rw [List.nil_append] at h3
  have a1 := (takes_all (f := Ms.name) (l := S.msgs) (ns := []) List.nodup_nil).1 fun i m hm => (msgC_zero.1 (h1 i m hm)).1
  rw [List.nil_append] at a1
  have a2 := (takes_all (f := En.name) (l := S.enums) a1.2).1 fun i m hm => (enumC_zero.1 (h3 i m hm)).1
  have a3 := (takes_all (f := Mt.name) (l := S.meths) (ns := []) List.nodup_nil).1 fun i m hm => (h4 i m hm).1
  refine ⟨hn, R.len, a1.1, a2.1, a2.2, fun m hm => ?_, fun m hm => ?_, a3.1, by simpa using a3.2, fun t ht => ?_⟩
  ·obtain ⟨i, hi⟩ := List.getElem?_of_mem hm
   exact (msgC_zero.1 (h1 i m hi)).2
  ·obtain ⟨i, hi⟩ := List.getElem?_of_mem hm
   exact (enumC_zero.1 (h3 i m hi)).2
  ·obtain ⟨i, hi⟩ := List.getElem?_of_mem ht
   exact (h4 i t hi).2
 ·intro F
  have nd := F.nd
  unfold namesS at nd
  have nd1 := (List.nodup_append.1 nd).1
  have a1 := (takes_all (f := Ms.name) (l := S.msgs) (ns := []) List.nodup_nil).2 ⟨F.mn, by simpa using nd1⟩
  have a2 := (takes_all (f := En.name) (l := S.enums) nd1).2 ⟨F.en, nd⟩
  have a3 := (takes_all (f := Mt.name) (l := S.meths) (ns := []) List.nodup_nil).2 ⟨F.tn, by simpa using F.tnd⟩
  have hp : partsC S = 0 := by
   refine msgsC_back (fun i m hm => msgC_zero.2 ⟨a1 i m hm, F.body m (List.mem_of_getElem? hm)⟩) ?_
   rw [List.nil_append]
   exact enumsC_back fun i m hm => enumC_zero.2 ⟨a2 i m hm, F.ebody m (List.mem_of_getElem? hm)⟩
  have hm : methsC S [] S.meths = 0 := methsC_back fun i m hm => ⟨a3 i m hm, F.tio m (List.mem_of_getElem? hm)⟩
  have l := F.lens
  unfold checkC
  rw [if_pos F.name, if_neg l.1, if_neg (by omega), if_pos hp, hm]
theorem found_any {α : Type} {p : α → Bool} {z : α} {l : List α} : (firstP p z l).2 = l.any p := by
 unfold firstP
 cases h : l.find? p with
 | none =>
  symm
  rw [List.find?_eq_none] at h
  rw [List.any_eq_false]
  exact h
 | some a =>
  symm
  rw [List.any_eq_true]
  exact ⟨a, List.mem_of_find?_eq_some h, List.find?_some h⟩
end Go.Aw
namespace Go.Aw
open Go.Proofs Go.RowKit
end Go.Aw
namespace Go.Aw
open Go.Proofs Go.RowKit
structure Pr where
 o : List UInt8
 n : List UInt8
 deriving DecidableEq
def encPr (p : Pr) : List PV := [.str p.o, .str p.n]
end Go.Aw
namespace Go.Aw
open Go.RowKit
variable {P : Program}
theorem seq_part {w0 : World} {X I0 : Nat → Prop} {nt : Fm} {ops : Array Oper} {Q : Exit → Act → World → Prop} {K : (Nat → Option AV) → (Nat → Option Blk) → Nat → Prop} (hd : ops.toList.all (dstOK nt) = true) (tx : TabX w0 X I0) {r' : List Oper} :
  ∀ (r : List Oper) (i nx : Nat) (T : Nat → Option AV) (H : Nat → Option Blk) (σ : Lab) (I : Nat → Prop) (a : Act) (w : World), ops.toList.drop i = r ++ r' → Match nt w0 X I0 σ I T H a w → (∀ l, nx ≤ l → σ l = none) → seqW P ops.toList nx r T H K →
   (∀ T H n σ I a w, Match nt w0 X I0 σ I T H a w → (∀ l, n ≤ l → σ l = none) → K T H n → wpOps P ops Q (List.range' (i + r.length) r'.length) a w) → wpOps P ops Q (List.range' i (r ++ r').length) a w := by
 intro r
 induction r with
 | nil => intro i nx T H σ I a w _ m hn hk hK; exact hK T H nx σ I a w m hn hk
 | cons o r ih =>
  intro i nx T H σ I a w hr m hn hk hK
  have hi : ops[i]? = some o := by
   rw [← Array.getElem?_toList, show i = i + 0 from rfl, ← List.getElem?_drop, hr]; rfl
  have hdr : ops.toList.drop (i + 1) = r ++ r' := by rw [← List.drop_drop, hr]; rfl
  have hdo : dstOK nt o = true := List.all_eq_true.1 hd o (List.mem_of_getElem? (by rw [Array.getElem?_toList]; exact hi))
  have hK' : ∀ T H n σ I a w, Match nt w0 X I0 σ I T H a w → (∀ l, n ≤ l → σ l = none) → K T H n → wpOps P ops Q (List.range' (i + 1 + r.length) r'.length) a w := by
   intro T H n σ I a w h1 h2 h3
   have := hK T H n σ I a w h1 h2 h3
   rwa [List.length_cons, show i + (r.length + 1) = i + 1 + r.length by omega] at this
  rw [List.cons_append, List.length_cons, List.range'_succ]
  simp only [wpOps, hi]
  simp only [seqW] at hk
  have run : (opW P nx o.op T H fun e => seqW P ops.toList (nx + 1) r (putT T o.dst e.val) (putH H e.upd) K) → o.wp P a w (wpOps P ops Q (List.range' (i + 1) (r ++ r').length)) Q := by
   intro hop
   refine snd_op (w0 := w0) (X := X) (I0 := I0) ⟨m.heap, m.tmps, hn nx (Nat.le_refl _), tx⟩ hop _ _ fun e v w' σ' I' hk' out => ?_
   refine ih (i + 1) (nx + 1) _ _ σ' I' _ w' hdr (m.put hdo out.heap out.ext out.imm out.same out.val) (fun l hl => ?_) hk' hK'
   rw [out.lab l (by omega)]
   exact hn l (by omega)
  have skip : seqW P ops.toList (nx + 1) r (putT T o.dst (some (.p (.cst undef)))) H K → wpOps P ops Q (List.range' (i + 1) (r ++ r').length) (a.put o.dst undef) w := by
   intro hk'
   exact ih (i + 1) (nx + 1) _ _ σ I _ w hdr (m.put hdo m.heap (fun _ _ h => h) (fun _ h => h) (fun _ _ => rfl) (fun y hy => by injection hy with hy; subst hy; exact .p (.cst undef))) (fun l hl => hn l (by omega)) hk' hK'
  unfold guardS at hk
  cases hg : o.guard with
  | none =>
   rw [hg] at hk
   have : Region.wanted o (yielded ops a.tmps) = true := by simp [Region.wanted, hg]
   rw [if_pos this]
   exact .inl (run hk)
  | some jw =>
   obtain ⟨j, want⟩ := jw
   rw [hg] at hk
   simp only at hk
   split at hk
   ·rename_i b hb
    obtain ⟨d, hd1, hd2⟩ := Option.bind_eq_some_iff.1 hb
    rw [Array.getElem?_toList] at hd1
    obtain ⟨u, hu, hru⟩ := m.tmps d _ hd2
    have hy : yielded ops a.tmps j = some b := by
     cases hru with
     | p h => cases h; simp [yielded, hd1, hu]
    have hw : Region.wanted o (yielded ops a.tmps) = (b == want) := by
     simp only [Region.wanted, hg, hy]
     cases b <;> cases want <;> rfl
    split at hk
    ·rename_i hbw
     rw [hw, if_pos (by simp [hbw])]
     exact .inl (run hk)
    ·rename_i hbw
     rw [hw, if_neg (by simp [hbw])]
     exact skip hk
   ·rename_i x hb
    obtain ⟨d, hd1, hd2⟩ := Option.bind_eq_some_iff.1 hb
    rw [Array.getElem?_toList] at hd1
    obtain ⟨u, hu, hru⟩ := m.tmps d _ hd2
    have hy : yielded ops a.tmps j = none := by
     cases hru with
     | p h =>
      cases h
      simp only [yielded, hd1, Option.bind_some, hu]
      have := hk.1
      cases x <;> first | rfl | exact this.elim
    have hw : Region.wanted o (yielded ops a.tmps) = false := by
     simp only [Region.wanted, hg, hy]
     cases want <;> rfl
    rw [hw, if_neg (by simp)]
    exact skip hk.2
   ·exact hk.elim
end Go.Aw
namespace Go.Aw
open Go.RowKit
variable {P : Program}
def SeqR (P : Program) (nt : Fm) (ops : Array Oper) (i : Nat) (s : St) (K : St → Prop) : Prop :=
 ∀ w0 X I0 a w (Q : Exit → Act → World → Prop), TabX w0 X I0 → Matches nt w0 X I0 s a w → (∀ s' a' w', Matches nt w0 X I0 s' a' w' → K s' → Q .normal a' w') → wpOps P ops Q (List.range' i (ops.size - i)) a w
theorem SeqR.ghost {nt : Fm} {ops : Array Oper} {i : Nat} {s s' : St} {K : St → Prop} (g : Ghost nt s s') (h : SeqR P nt ops i s' K) : SeqR P nt ops i s K :=
 fun w0 X I0 a w Q tx m hQ => h w0 X I0 a w Q tx (g w0 X I0 a w m) hQ
theorem SeqR.last {nt : Fm} {ops : Array Oper} {i : Nat} {s : St} {K : St → Prop} (hi : ops.size = i) (h : K s) : SeqR P nt ops i s K := by
 intro w0 X I0 a w Q tx m hQ
 subst hi
 rw [Nat.sub_self]
 exact hQ s a w m h
theorem SeqR.ev {nt : Fm} {ops : Array Oper} {i : Nat} {s : St} {K : St → Prop} (k : Nat) (hd : ops.toList.all (dstOK nt) = true) (hk : i + k ≤ ops.size) (h : seqO P ops.toList s.nx ((ops.toList.drop i).take k) s.T s.H fun T H n => SeqR P nt ops (i + k) ⟨T, H, n⟩ K) : SeqR P nt ops i s K := by
 intro w0 X I0 a w Q tx ⟨σ, I, hn, m⟩ hQ
 rw [seqO_eq] at h
 have hl : ops.toList.length = ops.size := Array.length_toList
 have main := seq_part (P := P) (w0 := w0) (X := X) (I0 := I0) (r' := ops.toList.drop (i + k)) (Q := Q) hd tx ((ops.toList.drop i).take k) i s.nx s.T s.H σ I a w (by rw [← List.drop_drop, List.take_append_drop]) m hn h
  (fun T H n σ I a w m hn hq => by
   have := hq w0 X I0 a w Q tx ⟨σ, I, hn, m⟩ hQ
   rw [List.length_take, List.length_drop, Nat.min_eq_left (by omega), List.length_drop, hl]
   exact this)
 rw [← List.drop_drop, List.take_append_drop, List.length_drop, hl] at main
 exact main
def CallD (P : Program) (nt : Fm) (o : Oper) (s : St) (K : St → Prop) : Prop :=
 ∀ w0 X I0 a w (next : Act → World → Prop) (Q : Exit → Act → World → Prop), TabX w0 X I0 → Matches nt w0 X I0 s a w → (∀ s' a' w', Matches nt w0 X I0 s' a' w' → K s' → next a' w') → o.wp P a w next Q
theorem SeqR.op {nt : Fm} {ops : Array Oper} {i : Nat} {s : St} {K : St → Prop} {o : Oper} (ho : ops[i]? = some o) (hg : o.guard = none) (h : CallD P nt o s fun s' => SeqR P nt ops (i + 1) s' K) : SeqR P nt ops i s K := by
 intro w0 X I0 a w Q tx m hQ
 have hi : i < ops.size := (Array.getElem?_eq_some_iff.1 ho).1
 rw [show ops.size - i = (ops.size - (i + 1)) + 1 by omega, List.range'_succ]
 simp only [wpOps, ho]
 have : Region.wanted o (yielded ops a.tmps) = true := by simp [Region.wanted, hg]
 rw [if_pos this]
 exact .inl (h w0 X I0 a w _ Q tx m fun s' a' w' m' k => k w0 X I0 a' w' Q tx m' hQ)
theorem AW.rR {nt : Fm} {id : Nat} {ops : Array Oper} {y : Code} {s : St} {Q : Exit → St → Prop} (h : SeqR P nt ops 0 s fun s' => AW P nt y s' Q) : AW P nt (.seq (.region id ops false) y) s Q := by
 refine AW.seq ?_
 intro w0 X I0 a w tx m
 refine wp_region ?_
 have := h w0 X I0 a w (fun e a' w' => ∃ s', Matches nt w0 X I0 s' a' w' ∧ andThen (fun s' => AW P nt y s' Q) Q e s') tx m fun s' a' w' m' k => ⟨s', m', k⟩
 rw [List.range_eq_range']
 simpa using this
mutual
def AV.labsBy (p : Nat → Bool) : AV → Bool
 | .p _ | .ex _ | .vw _ _ => true
 | .own l | .cut l _ _ | .ptr l _ _ | .map l | .it l => p l
 | .agg cs | .tuple cs | .fn _ cs => labsByL p cs
 | .iface _ x => x.labsBy p
def labsByL (p : Nat → Bool) : List AV → Bool
 | [] => true
 | x :: l => x.labsBy p && labsByL p l
end
theorem labsByL_mem {p : Nat → Bool} {l : List AV} (h : labsByL p l = true) {x : AV} (hx : x ∈ l) : x.labsBy p = true := by
 induction l with
 | nil => cases hx
 | cons y l ih =>
  rw [labsByL, Bool.and_eq_true] at h
  rcases List.mem_cons.1 hx with rfl | hx
  ·exact h.1
  ·exact ih h.2 hx
def Blk.labsBy (p : Nat → Bool) : Blk → Bool
 | .row _ es => es.all (labsByL p)
 | .map es => es.all fun e => e.2.labsBy p
 | .iter _ _ => true
theorem repA_by {σ σ' : Lab} {w : World} {I : Nat → Prop} {ρ : Nat → Nat} {p : Nat → Bool} (hp : ∀ l, p l = true → ∀ s, σ l = some s → σ' (ρ l) = some s) {u : Value} {x : AV} (h : repA σ w I u x) : x.labsBy p = true → repA σ' w I u (x.ren ρ) := by
 induction h with
 | p h => intro _; exact .p h
 | ex hn h => intro _; exact .ex hn h
 | vw hn hm hc h => intro _; exact .vw hn hm hc h
 | ownE h => intro q; exact .ownE (hp _ q _ h)
 | own h => intro q; exact .own (hp _ q _ h)
 | cut h hm hc => intro q; exact .cut (hp _ q _ h) hm hc
 | ptr h => intro q; exact .ptr (hp _ q _ h)
 | map h => intro q; exact .map (hp _ q _ h)
 | it h => intro q; exact .it (hp _ q _ h)
 | agg hs hr ih =>
  intro q
  refine .agg (by rw [renL_length]; exact hs) fun j u y h1 h2 => ?_
  rw [renL_get, Option.map_eq_some_iff] at h2
  obtain ⟨z, hz, rfl⟩ := h2
  exact ih j u z h1 hz (labsByL_mem q (List.mem_of_getElem? hz))
 | tuple hs hr ih =>
  intro q
  refine .tuple (by rw [renL_length]; exact hs) fun j u y h1 h2 => ?_
  rw [renL_get, Option.map_eq_some_iff] at h2
  obtain ⟨z, hz, rfl⟩ := h2
  exact ih j u z h1 hz (labsByL_mem q (List.mem_of_getElem? hz))
 | iface t h ih => intro q; exact .iface t (ih q)
 | fn f hs hr ih =>
  intro q
  refine .fn f (by rw [renL_length]; exact hs) fun j u y h1 h2 => ?_
  rw [renL_get, Option.map_eq_some_iff] at h2
  obtain ⟨z, hz, rfl⟩ := h2
  exact ih j u z h1 hz (labsByL_mem q (List.mem_of_getElem? hz))
theorem repB_by {σ σ' : Lab} {w : World} {I : Nat → Prop} {ρ : Nat → Nat} {p : Nat → Bool} (hp : ∀ l, p l = true → ∀ s, σ l = some s → σ' (ρ l) = some s) {l : Nat} {b : Blk} (hl : p l = true) (h : repB σ w I l b) (hb : b.labsBy p = true) : repB σ' w I (ρ l) (b.ren ρ) := by
 cases h with
 | emp h => exact .emp (hp _ hl _ h)
 | row h hg hcur hc hs ho hr =>
  rename_i g c sz cur et es
  refine .row (by rw [List.length_map]; exact hp _ hl _ h) hg hcur (by rw [List.length_map]; exact hc) (fun e he => ?_) (fun e he x hx => ?_) fun i e j x q1 q2 => ?_
  ·obtain ⟨e', he', rfl⟩ := List.mem_map.1 he
   rw [renL_length]
   exact hs e' he'
  ·obtain ⟨e', he', rfl⟩ := List.mem_map.1 he
   obtain ⟨j, hj⟩ := List.getElem?_of_mem hx
   rw [renL_get, Option.map_eq_some_iff] at hj
   obtain ⟨x', hx', rfl⟩ := hj
   rw [AV.one_ren]
   exact ho e' he' x' (List.mem_of_getElem? hx')
  ·rw [List.getElem?_map, Option.map_eq_some_iff] at q1
   obtain ⟨e', he', rfl⟩ := q1
   rw [renL_get, Option.map_eq_some_iff] at q2
   obtain ⟨x', hx', rfl⟩ := q2
   obtain ⟨u, hu, hru⟩ := hr i e' j x' he' hx'
   exact ⟨u, hu, repA_by hp hru (labsByL_mem (List.all_eq_true.1 hb e' (List.mem_of_getElem? he')) (List.mem_of_getElem? hx'))⟩
 | map h hg hn hr =>
  rename_i g k ms es
  refine .map (hp _ hl _ h) hg (by rw [List.length_map]; exact hn) fun i m e q1 q2 => ?_
  rw [List.getElem?_map, Option.map_eq_some_iff] at q2
  obtain ⟨e', he', rfl⟩ := q2
  obtain ⟨r1, r2⟩ := hr i m e' q1 he'
  exact ⟨r1, repA_by hp r2 (List.all_eq_true.1 hb e' (List.mem_of_getElem? he'))⟩
 | iter h hg => exact .iter (hp _ hl _ h) hg
def DFn (P : Program) (f : FuncId) (args : List AV) (h : List (Nat × Blk)) (n : Nat) (rt : List Nat) (r : AV) (h' : List (Nat × Blk)) (m : Nat) : Prop :=
 enters P f = true ∧ ∀ (w : World) (I : Nat → Prop) (σ : Lab) (vals : Array Value), vals.size = args.length → (∀ l, n ≤ l → σ l = none) → (∀ (j : Nat) u x, vals[j]? = some u → args[j]? = some x → repA σ w I u x) →
  HOK σ w I (ofH h) w (lentX σ (ofH h)) I → tabOK w I →
  Calls P f vals w fun e w' => ∃ v σ' I', e = .returned v ∧ HOK σ' w' I' (ofH h') w (lentX σ (ofH h)) I ∧ repA σ' w' I' v r ∧ (∀ l ∈ rt, σ' l = σ l) ∧ (∀ l, n + m ≤ l → σ' l = none)
def avT : List AV → Nat → Nat → Option AV
 | [], _ => fun _ => none
 | x :: l, i => upd (avT l (i + 1)) i (some x)
theorem avT_at : ∀ (l : List AV) (i j : Nat), avT l i j = if j < i then none else l[j - i]? := by
 intro l
 induction l with
 | nil => intro i j; simp [avT]
 | cons a l ih =>
  intro i j
  rw [avT]
  by_cases h : j = i
  ·subst h; rw [upd_same, if_neg (by omega), Nat.sub_self]; rfl
  ·rw [upd_ne _ _ h, ih]
   by_cases h2 : j < i
   ·rw [if_pos (by omega), if_pos h2]
   ·rw [if_neg (by omega), if_neg h2, show j - i = (j - (i + 1)) + 1 by omega, List.getElem?_cons_succ]
def resD (P : Program) (s : St) : List ResultVar → List AV → Prop
 | [], [] => True
 | .tmp t :: r, x :: l => s.T t = some x ∧ resD P s r l
 | .cell t ty :: r, x :: l => loadW P ty (s.T t) s.H (fun e => e = ⟨some x, []⟩) ∧ resD P s r l
 | _, _ => False
def oneOrA : List AV → AV
 | [x] => x
 | l => .tuple l
def rootOK (s : St) (args : List AV) (h h' : List (Nat × Blk)) (pins : List Nat) (ρ : Nat → Nat) (l : Nat) : Prop :=
 (∃ j i off sz es es', j ∈ pins ∧ args[j]? = some (.ptr l i off) ∧ s.T j = some (.ptr (ρ l) i off) ∧ ofH h l = some (.row sz es) ∧ ofH h' l = some (.row sz es') ∧ es'.length = es.length ∧ 0 < sz) ∨
 (∃ j es, j ∈ pins ∧ args[j]? = some (.map l) ∧ s.T j = some (.map (ρ l)) ∧ ofH h l = some (.map es)) ∨
 (∃ (j k : Nat) (cs cs' : List AV) (sz : Nat) (es es' : List (List AV)), j ∈ pins ∧ args[j]? = some (.agg cs) ∧ cs[k]? = some (AV.own l) ∧ s.T j = some (.agg cs') ∧ cs'[k]? = some (AV.own (ρ l)) ∧ ofH h l = some (.row sz es) ∧ ofH h' l = some (.row sz es') ∧ es ≠ [] ∧ es' ≠ [])
def EndD (P : Program) (rs : Array ResultVar) (args : List AV) (h : List (Nat × Blk)) (n : Nat) (rt : List Nat) (r : AV) (h' : List (Nat × Blk)) (m : Nat) (pins : List Nat) : Exit → St → Prop
 | .normal, s | .ret, s => ∃ (ρ : Nat → Nat) (l : List AV), resD P s rs.toList l ∧ oneOrA l = r.ren ρ ∧ r.labsIn (n + m) = true ∧ (∀ x ∈ h', s.H (ρ x.1) = some (x.2.ren ρ) ∧ x.1 < n + m ∧ x.2.labsIn (n + m) = true) ∧
   (∀ x ∈ h', ∀ y ∈ h', ρ x.1 = ρ y.1 → x.1 = y.1) ∧ ∀ l ∈ rt, l < n ∧ rootOK s args h h' pins ρ l
 | _, _ => False
theorem slot_kept {σ0 σ1 : Lab} {w0 w1 : World} {I0 I1 : Nat → Prop} {v : Value} {l l1 i off sz : Nat} {es es1 : List (List AV)} (h0 : repA σ0 w0 I0 v (.ptr l i off)) (h1 : repA σ1 w1 I1 v (.ptr l1 i off)) (b0 : repB σ0 w0 I0 l (.row sz es)) (b1 : repB σ1 w1 I1 l1 (.row sz es1))
  (hl : es1.length = es.length) (hz : 0 < sz) (hfr : ∀ (b : Nat) (cur : Array Value) (et : TypeId) (p : Nat × Nat), w0.heap[b]? = some (Obj.cells cur et p) → ∃ (cur' : Array Value) (et' : TypeId) (p' : Nat × Nat), w1.heap[b]? = some (Obj.cells cur' et' p') ∧ cur'.size = cur.size) : σ1 l1 = σ0 l := by
 cases h0 with
 | ptr s0 =>
  rename_i g n c sz0
  generalize hxe : Value.pointer (some ⟨g, i * sz0 + off, none⟩) = xv at h1
  cases h1 with
  | ptr s1 =>
   rename_i g1 n1 c1 sz1
   injection hxe with hxe
   injection hxe with hxe
   injection hxe with hg _ _
   subst hg
   obtain ⟨cur0, et0, p0, e0, f0⟩ := cells_slot b0 s0
   obtain ⟨cur1, et1, p1, e1, f1⟩ := cells_slot b1 s1
   obtain ⟨cur2, et2, p2, e2, f2⟩ := hfr g cur0 et0 p0 e0
   rw [e1] at e2
   injection e2 with e2
   injection e2 with e2
   subst e2
   have n0 : n = es.length ∧ sz0 = sz := by
    cases b0 with
    | emp h => rw [s0] at h; cases h
    | row h => rw [s0] at h; injection h with h; injection h with _ h2 _ h4; exact ⟨h2, h4⟩
   have n1' : n1 = es1.length ∧ sz1 = sz := by
    cases b1 with
    | emp h => rw [s1] at h; cases h
    | row h => rw [s1] at h; injection h with h; injection h with _ h2 _ h4; exact ⟨h2, h4⟩
   obtain ⟨rfl, rfl⟩ := n0
   obtain ⟨rfl, rfl⟩ := n1'
   have hc : c1 = c := Nat.eq_of_mul_eq_mul_right hz (by rw [← f1, f2, f0])
   rw [s0, s1, hc, hl]
theorem own_kept {σ0 σ1 : Lab} {w0 w1 : World} {I0 I1 : Nat → Prop} {v : Value} {l l1 sz : Nat} {es es1 : List (List AV)} (h0 : repA σ0 w0 I0 v (.own l)) (h1 : repA σ1 w1 I1 v (.own l1)) (b0 : repB σ0 w0 I0 l (.row sz es)) (b1 : repB σ1 w1 I1 l1 (.row sz es1))
  (hz : es ≠ []) (hz1 : es1 ≠ []) : σ1 l1 = σ0 l := by
 cases b0 with
 | emp h => exact absurd rfl hz
 | row s0 =>
  cases b1 with
  | emp h => exact absurd rfl hz1
  | row s1 =>
   cases h0 with
   | ownE q => rw [s0] at q; cases q
   | own q0 =>
    rw [s0] at q0
    injection q0 with q0
    injection q0 with a1 a2 a3 a4
    subst a1 a2 a3 a4
    generalize hxe : Value.slice _ _ _ = xv at h1
    cases h1 with
    | ownE q => rw [s1] at q; cases q
    | own q1 =>
     rw [s1] at q1
     injection q1 with q1
     injection q1 with c1 c2 c3 c4
     subst c1 c2 c3 c4
     injection hxe with e1 e2 e3
     injection e1 with e1
     injection e1 with e1 _ _
     rw [s0, s1, e1, e2, e3]
theorem aggA {σ : Lab} {w : World} {I : Nat → Prop} {v : Value} {cs : List AV} (h : repA σ w I v (.agg cs)) : ∃ vs : Array Value, v = .agg vs ∧ vs.size = cs.length ∧ ∀ (j : Nat) u p, vs[j]? = some u → cs[j]? = some p → repA σ w I u p := by
 cases h with
 | agg h hr => exact ⟨_, rfl, h, hr⟩
theorem resD_run {nt : Fm} {w0 : World} {X I0 : Nat → Prop} {σ : Lab} {I : Nat → Prop} {s : St} {a : Act} {w : World} (tx : TabX w0 X I0) (m : Match nt w0 X I0 σ I s.T s.H a w) (hlab : σ s.nx = none) (f : ResultVar → Sem Value) (hf : ∀ t, f (.tmp t) = pure (a.tmps.getD t undef)) (hf' : ∀ t ty, f (.cell t ty) = (do loadVar ty (← asAddr (a.tmps.getD t undef)))) : ∀ (rs : List ResultVar) (l : List AV), resD P s rs l →
  ∃ vs : List Value, (rs.mapM f).run P w = .ok vs w ∧ vs.length = l.length ∧ ∀ (j : Nat) u x, vs[j]? = some u → l[j]? = some x → repA σ w I u x := by
 intro rs
 induction rs with
 | nil =>
  intro l h
  cases l with
  | nil => exact ⟨[], rfl, rfl, fun j u p h _ => by simp at h⟩
  | cons x l => simp [resD] at h
 | cons r rs ih =>
  intro l h
  cases l with
  | nil => cases r <;> simp [resD] at h
  | cons x l =>
   cases r with
   | cell t ty =>
    obtain ⟨hx, hl⟩ := h
    obtain ⟨ad, v, y, q1, q2, q3, q4⟩ := load_run (P := P) (lab := s.nx) (t := ty) (x := .tmp t) (k := fun e => e = ⟨some x, []⟩) ⟨m.heap, m.tmps, hlab, tx⟩ hx
    simp only [Eff.mk.injEq, Option.some.injEq, and_true] at q4
    subst q4
    obtain ⟨vs, h1, h2, h3⟩ := ih l hl
    refine ⟨v :: vs, ?_, by simp [h2], fun j u p r1 r2 => ?_⟩
    ·have q1' : a.tmps.getD t undef = .pointer (some ad) := q1
     rw [List.mapM_cons, hf', q1']
     simp [asAddr, q2, h1]
    ·rcases j with _ | j
     ·simp at r1 r2; subst r1 r2; exact q3
     ·exact h3 j u p (by simpa using r1) (by simpa using r2)
   | tmp t =>
    obtain ⟨hx, hl⟩ := h
    obtain ⟨u, hu, hru⟩ := m.tmps t x hx
    obtain ⟨vs, h1, h2, h3⟩ := ih l hl
    refine ⟨u :: vs, ?_, by simp [h2], fun j u' p r1 r2 => ?_⟩
    ·rw [List.mapM_cons, hf]
     have : a.tmps.getD t undef = u := by simp [Array.getD_eq_getD_getElem?, hu]
     rw [this]
     simp [h1]
    ·rcases j with _ | j
     ·simp at r1 r2; subst r1 r2; exact hru
     ·exact h3 j u' p (by simpa using r1) (by simpa using r2)
end Go.Aw
