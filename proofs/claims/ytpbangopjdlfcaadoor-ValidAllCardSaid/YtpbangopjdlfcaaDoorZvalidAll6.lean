/- What the law LawValidAll leans on, joined (part 6). -/
import Derived.Test.YtpbangopjdlfcaaDoorZvalidAll5
set_option linter.unusedSimpArgs false
set_option linter.unusedVariables false
namespace Go.Aw.T
open Go.Proofs
set_option linter.unusedSimpArgs false
set_option linter.unusedVariables false
theorem ms_mem {S : Sc} {k : List UInt8} (h : (msOf S k).2 = true) : (msOf S k).1 ∈ S.msgs ∧ (msOf S k).1.name = k := by
 unfold msOf firstP at h ⊢
 split at h
 ·rename_i m hm
  exact ⟨List.mem_of_find?_eq_some hm, by simpa using List.find?_some hm⟩
 ·cases h
theorem fld_mem {m : Ms} {g : Int} (h : (fldOf m g).2 = true) : (fldOf m g).1 ∈ m.fields ∧ (fldOf m g).1.tag = g := by
 unfold fldOf firstP at h ⊢
 split at h
 ·rename_i m hm
  exact ⟨List.mem_of_find?_eq_some hm, by simpa using List.find?_some hm⟩
 ·cases h
theorem flds_ok {S : Sc} (R : RightS S) {m : Ms} (hm : m ∈ S.msgs) : FldsOK S m := by
 intro g hg
 obtain ⟨i, hi⟩ := List.getElem?_of_mem (fld_mem hg).1
 have := (R.fld m hm i _ hi).2.2.1
 unfold fieldB kindB at this
 rw [Bool.and_eq_true] at this
 have h2 := this.2
 split at h2
 ·exact ⟨by omega, fun h => by omega⟩
 split at h2
 ·exact ⟨by omega, fun _ => h2⟩
 ·simp only [Bool.and_eq_true, decide_eq_true_eq] at h2
  exact ⟨by omega, fun h => by omega⟩
theorem siz_right {S : Sc} (R : RightS S) : SizS S := ⟨by have := R.len; omega, fun m hm => by have := R.no m hm; omega⟩
theorem flds_all {S : Sc} (R : RightS S) (k : List UInt8) (h : (msOf S k).2 = true) : FldsOK S (msOf S k).1 := flds_ok R (ms_mem h).1
theorem ok_right {t : Tr} (h : okT t = true) : rightT t = true := by
 unfold okT at h
 rw [Bool.and_eq_true] at h
 exact h.2
set_option maxRecDepth 100000 in
set_option maxHeartbeats 4000000 in
theorem valid_Valid (S : Sc) (k : List UInt8) (t : Tr) (L : LensS S) (hlt : lensT t = true) (hst : strT t = true) : PFn Tryd.prog 24 [.agg (encSc S), .str k, .agg (encTr t)] (.int .i64 (validV S k t)) := by
 have C1 := check_Check S L
 have C2 : PFn Tryd.prog 62 [.agg (encSc S), .str k] (.tuple [.agg (encMs (msOf S k).1), .bool (msOf S k).2]) := check_Message S k L.m
 have C3 := value_Check t hlt
 have C4 := fun h0 : checkC S = 0 => fun hr : rightT t = true => valid_message S (siz_right (right_of h0)) t (msOf S k).1 (siz_of (siz_right (right_of h0)) k) hlt hst hr
 simp only [encSc, encMs, encTr_eq] at C1 C2 C3 C4
 refine PFn.of Tryd.func24 rfl (by decide) Tryd.ntmps24 Tryd.results24 (Nat.le_of_ble_eq_true rfl) ?_
 simp only [argsT]
 refine AW.rT (by rfl) fun K hK => ?_
 simp -implicitDefEqProofs only [go_sem, ↓reduceIte, Nat.reduceAdd, Nat.reduceEqDiff, reduceCtorEq, encSc, encTr_eq]
 refine hK _ ?_; clear hK K
 refine AW.seq ?_
 by_cases h0 : checkC S = 0
 case neg =>
  have b0 : (checkC S != 0) = true := by simpa using h0
  have HH : validV S k t = 1 := by unfold validV; rw [if_pos h0]
  refine AW.rT (by rfl) fun K hK => ?_
  simp -implicitDefEqProofs only [go_sem, ↓reduceIte, Nat.reduceAdd, Nat.reduceEqDiff, Nat.reduceLeDiff, reduceCtorEq]
  refine ⟨.pure _, C1, ?_⟩
  try simp -implicitDefEqProofs only [go_sem, ↓reduceIte, Nat.reduceAdd, b0]
  refine hK _ ?_; clear hK K
  refine AW.cond _ (by simp -implicitDefEqProofs only [go_sem]; rfl) (fun hc => ?_) (fun hc => ?_)
  rotate_left
  ·simp at hc
  refine AW.rT (by rfl) fun K hK => ?_
  simp -implicitDefEqProofs only [go_sem, Nat.reduceAdd]
  refine hK _ ?_; clear hK K
  refine AW.ret ?_
  simp -implicitDefEqProofs only [go_sem, HH]
 have b0 : (checkC S != 0) = false := by simp [h0]
 have C4 := C4 h0
 refine AW.rT (by rfl) fun K hK => ?_
 simp -implicitDefEqProofs only [go_sem, ↓reduceIte, Nat.reduceAdd, Nat.reduceEqDiff, Nat.reduceLeDiff, reduceCtorEq]
 refine ⟨.pure _, C1, ?_⟩
 try simp -implicitDefEqProofs only [go_sem, ↓reduceIte, Nat.reduceAdd, b0]
 refine hK _ ?_; clear hK K
 refine AW.cond _ (by simp -implicitDefEqProofs only [go_sem]; rfl) (fun hc => ?_) (fun hc => ?_)
 ·simp at hc
 refine AW.skip ?_
 simp only [andThen]
 rcases hmo : msOf S k with ⟨m, b⟩
 rw [hmo] at C2 C4
 simp only at C2 C4
 have V1 : validV S k t = if b = false then 14 else if t.kind ≠ 3 ∨ okT t = false then 1 else msgV S m t := by unfold validV; rw [if_neg (by simpa using h0), hmo]
 refine AW.rT (by rfl) fun K hK => ?_
 simp -implicitDefEqProofs only [go_sem, ↓reduceIte, Nat.reduceAdd, Nat.reduceEqDiff, Nat.reduceLeDiff, reduceCtorEq]
 refine ⟨.pure _, C2, ?_⟩
 try simp -implicitDefEqProofs only [go_sem, ↓reduceIte, Nat.reduceAdd, Nat.reduceEqDiff, Nat.reduceLeDiff]
 refine hK _ ?_; clear hK K
 refine AW.seq ?_
 refine AW.block ?_
 refine AW.rT (by rfl) fun K hK => ?_
 simp -implicitDefEqProofs only [go_sem, Nat.reduceAdd]
 refine hK _ ?_; clear hK K
 cases b with
 | false =>
  have HH : validV S k t = 14 := by rw [V1, if_pos rfl]
  refine AW.cond _ (by simp -implicitDefEqProofs only [go_sem]; rfl) (fun hc => ?_) (fun hc => ?_)
  rotate_left
  ·simp at hc
  refine AW.rT (by rfl) fun K hK => ?_
  simp -implicitDefEqProofs only [go_sem, Nat.reduceAdd]
  refine hK _ ?_; clear hK K
  refine AW.ret ?_
  simp -implicitDefEqProofs only [go_sem, HH]
 | true =>
 rw [if_neg (by simp)] at V1
 refine AW.cond _ (by simp -implicitDefEqProofs only [go_sem]; rfl) (fun hc => ?_) (fun hc => ?_)
 ·simp at hc
 by_cases h3 : t.kind = 3
 case neg =>
  have b3 : (t.kind != 3) = true := by simpa using h3
  have HH : validV S k t = 1 := by rw [V1, if_pos (.inl h3)]
  refine AW.rT (by rfl) fun K hK => ?_
  simp -implicitDefEqProofs only [go_sem, ↓reduceIte, Nat.reduceAdd, Nat.reduceEqDiff, b3]
  refine hK _ ?_; clear hK K
  refine AW.cond _ (by simp -implicitDefEqProofs only [go_sem]; rfl) (fun hc => ?_) (fun hc => ?_)
  rotate_left
  ·simp at hc
  refine AW.rT (by rfl) fun K hK => ?_
  simp -implicitDefEqProofs only [go_sem, Nat.reduceAdd]
  refine hK _ ?_; clear hK K
  refine AW.ret ?_
  simp -implicitDefEqProofs only [go_sem, HH]
 have b3 : (t.kind != 3) = false := by simp [h3]
 cases ho : okT t with
 | false =>
  rw [ho] at C3
  have HH : validV S k t = 1 := by rw [V1, if_pos (.inr ho)]
  refine AW.rT (by rfl) fun K hK => ?_
  simp -implicitDefEqProofs only [go_sem, ↓reduceIte, Nat.reduceAdd, Nat.reduceEqDiff, Nat.reduceLeDiff, b3]
  refine ⟨.pure _, C3, ?_⟩
  try simp -implicitDefEqProofs only [go_sem, ↓reduceIte, Nat.reduceAdd, Nat.reduceEqDiff]
  refine hK _ ?_; clear hK K
  refine AW.cond _ (by simp -implicitDefEqProofs only [go_sem]; rfl) (fun hc => ?_) (fun hc => ?_)
  rotate_left
  ·simp at hc
  refine AW.rT (by rfl) fun K hK => ?_
  simp -implicitDefEqProofs only [go_sem, Nat.reduceAdd]
  refine hK _ ?_; clear hK K
  refine AW.ret ?_
  simp -implicitDefEqProofs only [go_sem, HH]
 | true =>
  rw [ho] at C3
  have HH : validV S k t = msgV S m t := by rw [V1, if_neg (by rintro (a | a); exact a h3; rw [ho] at a; cases a)]
  refine AW.rT (by rfl) fun K hK => ?_
  simp -implicitDefEqProofs only [go_sem, ↓reduceIte, Nat.reduceAdd, Nat.reduceEqDiff, Nat.reduceLeDiff, b3]
  refine ⟨.pure _, C3, ?_⟩
  try simp -implicitDefEqProofs only [go_sem, ↓reduceIte, Nat.reduceAdd, Nat.reduceEqDiff]
  refine hK _ ?_; clear hK K
  refine AW.cond _ (by simp -implicitDefEqProofs only [go_sem]; rfl) (fun hc => ?_) (fun hc => ?_)
  ·simp at hc
  refine AW.skip ?_
  simp only [andThen, inBlk]
  refine AW.rT (by rfl) fun K hK => ?_
  simp -implicitDefEqProofs only [go_sem, ↓reduceIte, Nat.reduceAdd, Nat.reduceEqDiff, Nat.reduceLeDiff, reduceCtorEq]
  refine ⟨.pure _, C4 (ok_right ho), ?_⟩
  try simp -implicitDefEqProofs only [go_sem, Nat.reduceAdd]
  refine hK _ ?_; clear hK K
  refine AW.ret ?_
  simp -implicitDefEqProofs only [go_sem, HH]
set_option maxRecDepth 100000 in
set_option maxHeartbeats 4000000 in
theorem ref10_Valid (S : Sc) (k : List UInt8) (t : Tr) (L : LensS S) (hlt : lensT t = true) (hst : strT t = true) : PFn Tryd.prog 36 [.agg (encSc S), .str k, .agg (encTr t)] (.int .i64 (validV S k t)) := by
 have C1 := ref07_Check S L
 have C2 : PFn Tryd.prog 55 [.agg (encSc S), .str k] (.tuple [.agg (encMs (msOf S k).1), .bool (msOf S k).2]) := ref07_Message S k L.m
 have C3 := ref_Check t hlt
 have C4 := fun h0 : checkC S = 0 => fun hm : (msOf S k).2 = true => ref10_message S (siz_right (right_of h0)) (flds_all (right_of h0)) t (msOf S k).1 (siz_of (siz_right (right_of h0)) k) (flds_all (right_of h0) k hm) hlt hst
 simp only [encSc, encMs, encTr_eq] at C1 C2 C3 C4
 refine PFn.of Tryd.func36 rfl (by decide) Tryd.ntmps36 Tryd.results36 (Nat.le_of_ble_eq_true rfl) ?_
 simp only [argsT]
 refine AW.rT (by rfl) fun K hK => ?_
 simp -implicitDefEqProofs only [go_sem, ↓reduceIte, Nat.reduceAdd, Nat.reduceEqDiff, reduceCtorEq, encSc, encTr_eq]
 refine hK _ ?_; clear hK K
 refine AW.seq ?_
 by_cases h0 : checkC S = 0
 case neg =>
  have b0 : (checkC S != 0) = true := by simpa using h0
  have HH : validV S k t = 1 := by unfold validV; rw [if_pos h0]
  refine AW.rT (by rfl) fun K hK => ?_
  simp -implicitDefEqProofs only [go_sem, ↓reduceIte, Nat.reduceAdd, Nat.reduceEqDiff, Nat.reduceLeDiff, reduceCtorEq]
  refine ⟨.pure _, C1, ?_⟩
  try simp -implicitDefEqProofs only [go_sem, ↓reduceIte, Nat.reduceAdd, b0]
  refine hK _ ?_; clear hK K
  refine AW.cond _ (by simp -implicitDefEqProofs only [go_sem]; rfl) (fun hc => ?_) (fun hc => ?_)
  rotate_left
  ·simp at hc
  refine AW.rT (by rfl) fun K hK => ?_
  simp -implicitDefEqProofs only [go_sem, Nat.reduceAdd]
  refine hK _ ?_; clear hK K
  refine AW.ret ?_
  simp -implicitDefEqProofs only [go_sem, HH]
 have b0 : (checkC S != 0) = false := by simp [h0]
 have C4 := C4 h0
 refine AW.rT (by rfl) fun K hK => ?_
 simp -implicitDefEqProofs only [go_sem, ↓reduceIte, Nat.reduceAdd, Nat.reduceEqDiff, Nat.reduceLeDiff, reduceCtorEq]
 refine ⟨.pure _, C1, ?_⟩
 try simp -implicitDefEqProofs only [go_sem, ↓reduceIte, Nat.reduceAdd, b0]
 refine hK _ ?_; clear hK K
 refine AW.cond _ (by simp -implicitDefEqProofs only [go_sem]; rfl) (fun hc => ?_) (fun hc => ?_)
 ·simp at hc
 refine AW.skip ?_
 simp only [andThen]
 rcases hmo : msOf S k with ⟨m, b⟩
 rw [hmo] at C2 C4
 simp only at C2 C4
 have V1 : validV S k t = if b = false then 14 else if t.kind ≠ 3 ∨ okT t = false then 1 else msgV S m t := by unfold validV; rw [if_neg (by simpa using h0), hmo]
 refine AW.rT (by rfl) fun K hK => ?_
 simp -implicitDefEqProofs only [go_sem, ↓reduceIte, Nat.reduceAdd, Nat.reduceEqDiff, Nat.reduceLeDiff, reduceCtorEq]
 refine ⟨.pure _, C2, ?_⟩
 try simp -implicitDefEqProofs only [go_sem, ↓reduceIte, Nat.reduceAdd, Nat.reduceEqDiff, Nat.reduceLeDiff]
 refine hK _ ?_; clear hK K
 refine AW.seq ?_
 refine AW.rT (by rfl) fun K hK => ?_
 simp -implicitDefEqProofs only [go_sem, Nat.reduceAdd]
 refine hK _ ?_; clear hK K
 cases b with
 | false =>
  have HH : validV S k t = 14 := by rw [V1, if_pos rfl]
  refine AW.cond _ (by simp -implicitDefEqProofs only [go_sem]; rfl) (fun hc => ?_) (fun hc => ?_)
  rotate_left
  ·simp at hc
  refine AW.rT (by rfl) fun K hK => ?_
  simp -implicitDefEqProofs only [go_sem, Nat.reduceAdd]
  refine hK _ ?_; clear hK K
  refine AW.ret ?_
  simp -implicitDefEqProofs only [go_sem, HH]
 | true =>
 rw [if_neg (by simp)] at V1
 have C4 := C4 rfl
 refine AW.cond _ (by simp -implicitDefEqProofs only [go_sem]; rfl) (fun hc => ?_) (fun hc => ?_)
 ·simp at hc
 refine AW.skip ?_
 simp only [andThen]
 refine AW.seq ?_
 by_cases h3 : t.kind = 3
 case neg =>
  have b3 : (t.kind != 3) = true := by simpa using h3
  have HH : validV S k t = 1 := by rw [V1, if_pos (.inl h3)]
  refine AW.rT (by rfl) fun K hK => ?_
  simp -implicitDefEqProofs only [go_sem, ↓reduceIte, Nat.reduceAdd, Nat.reduceEqDiff, b3]
  refine hK _ ?_; clear hK K
  refine AW.cond _ (by simp -implicitDefEqProofs only [go_sem]; rfl) (fun hc => ?_) (fun hc => ?_)
  rotate_left
  ·simp at hc
  refine AW.rT (by rfl) fun K hK => ?_
  simp -implicitDefEqProofs only [go_sem, Nat.reduceAdd]
  refine hK _ ?_; clear hK K
  refine AW.ret ?_
  simp -implicitDefEqProofs only [go_sem, HH]
 have b3 : (t.kind != 3) = false := by simp [h3]
 cases ho : okT t with
 | false =>
  rw [ho] at C3
  have HH : validV S k t = 1 := by rw [V1, if_pos (.inr ho)]
  refine AW.rT (by rfl) fun K hK => ?_
  simp -implicitDefEqProofs only [go_sem, ↓reduceIte, Nat.reduceAdd, Nat.reduceEqDiff, Nat.reduceLeDiff, b3]
  refine ⟨.pure _, C3, ?_⟩
  try simp -implicitDefEqProofs only [go_sem, ↓reduceIte, Nat.reduceAdd, Nat.reduceEqDiff]
  refine hK _ ?_; clear hK K
  refine AW.cond _ (by simp -implicitDefEqProofs only [go_sem]; rfl) (fun hc => ?_) (fun hc => ?_)
  rotate_left
  ·simp at hc
  refine AW.rT (by rfl) fun K hK => ?_
  simp -implicitDefEqProofs only [go_sem, Nat.reduceAdd]
  refine hK _ ?_; clear hK K
  refine AW.ret ?_
  simp -implicitDefEqProofs only [go_sem, HH]
 | true =>
  rw [ho] at C3
  have HH : validV S k t = msgV S m t := by rw [V1, if_neg (by rintro (a | a); exact a h3; rw [ho] at a; cases a)]
  refine AW.rT (by rfl) fun K hK => ?_
  simp -implicitDefEqProofs only [go_sem, ↓reduceIte, Nat.reduceAdd, Nat.reduceEqDiff, Nat.reduceLeDiff, b3]
  refine ⟨.pure _, C3, ?_⟩
  try simp -implicitDefEqProofs only [go_sem, ↓reduceIte, Nat.reduceAdd, Nat.reduceEqDiff]
  refine hK _ ?_; clear hK K
  refine AW.cond _ (by simp -implicitDefEqProofs only [go_sem]; rfl) (fun hc => ?_) (fun hc => ?_)
  ·simp at hc
  refine AW.skip ?_
  simp only [andThen]
  refine AW.rT (by rfl) fun K hK => ?_
  simp -implicitDefEqProofs only [go_sem, ↓reduceIte, Nat.reduceAdd, Nat.reduceEqDiff, Nat.reduceLeDiff, reduceCtorEq]
  refine ⟨.pure _, C4, ?_⟩
  try simp -implicitDefEqProofs only [go_sem, Nat.reduceAdd]
  refine hK _ ?_; clear hK K
  refine AW.ret ?_
  simp -implicitDefEqProofs only [go_sem, HH]
end Go.Aw.T
namespace Go.Aw.T
open Go.Proofs
set_option linter.unusedSimpArgs false
set_option linter.unusedVariables false
theorem find_none {es : List (Int × List Tr)} {g : Int} (h : es.all (fun e => e.1 != g) = true) : es.find? (fun e => e.1 == g) = none := by
 rw [List.find?_eq_none]
 intro e he
 have := List.all_eq_true.1 h e he
 simpa using this
theorem find_some {es : List (Int × List Tr)} {g : Int} {i : Nat} {e : Int × List Tr} (h : (es.take i).all (fun e => e.1 != g) = true) (he : es[i]? = some e) (hg : e.1 = g) : es.find? (fun e => e.1 == g) = some e := by
 have hl := (List.getElem?_eq_some_iff.1 he).1
 have e1 : es = es.take i ++ e :: es.drop (i + 1) := by
  conv => lhs; rw [← List.take_append_drop i es, List.drop_eq_getElem_cons hl, (List.getElem?_eq_some_iff.1 he).2]
 rw [e1, List.find?_append, find_none h]
 simp [hg]
theorem all_take {es : List (Int × List Tr)} {g : Int} {i : Nat} {e : Int × List Tr} (he : es[i]? = some e) (h : (es.take i).all (fun e => e.1 != g) = true) (hg : e.1 ≠ g) : (es.take (i + 1)).all (fun e => e.1 != g) = true := by
 rw [List.take_add_one, he, List.all_append, h]
 simpa using hg
def vu (t : Tr) (g : Int) (i : Nat) : St := ⟨ofL [(1, .p (.int .i64 g)), (2, .ptr 0 0 0), (5, .p (.int .i64 (i : Int)))], ofH [(0, .row 5 [cellsT t])], 1⟩
set_option maxRecDepth 100000 in
set_option maxHeartbeats 4000000 in
theorem ref_Under (t : Tr) (hlt : lensT t = true) (g : Int) : PFn Tryd.prog 32 [.agg (encTr t), .int .i64 g] (.slice ((undV t g).map encTr)) := by
 obtain ⟨la1, la2, la3⟩ := lensT_mk hlt
 refine PFn.of Tryd.func32 rfl (by decide) Tryd.ntmps32 Tryd.results32 (Nat.le_of_ble_eq_true rfl) ?_
 simp only [argsT]
 refine AW.rT (by rfl) fun K hK => ?_
 simp -implicitDefEqProofs only [go_sem, Nat.reduceAdd, encTr_eq]
 refine hK _ ?_; clear hK K
 refine AW.seq ?_
 refine AW.rT (by rfl) fun K hK => ?_
 simp -implicitDefEqProofs only [go_sem, Nat.reduceAdd]
 refine hK _ ?_; clear hK K
 refine AW.block ?_
 refine AW.loop (fun i : Nat => vu t g i) (fun i => i ≤ t.ents.length ∧ (t.ents.take i).all (fun e => e.1 != g) = true) (fun i => t.ents.length - i) 0 ?_ ⟨by simp, by simp⟩ fun i hi => ?_
 ·simp only [vu, cellsT]
  refine Ghost.sub ?_ ?_ <;> simp -implicitDefEqProofs only [go_sem, ↓reduceIte, Nat.reduceEqDiff, List.forall_mem_cons, List.not_mem_nil, false_implies, implies_true, and_self, List.all_cons, List.all_nil, Nat.reduceLT, labsInL, AV.labsIn]
  rfl
 obtain ⟨g1, g2⟩ := hi
 simp only [vu, cellsT]
 refine AW.seq ?_
 by_cases hil : i < t.ents.length
 case neg =>
  have hc1 : ((i : Int) < (t.ents.length : Int)) = False := eq_false (by omega)
  rw [List.take_of_length_le (by omega)] at g2
  have HH : undV t g = [] := by unfold undV; rw [find_none g2]
  refine AW.rT (by rfl) fun K hK => ?_
  simp -implicitDefEqProofs only [go_sem, ↓reduceIte, Nat.reduceAdd, Nat.reduceEqDiff, hc1, List.length_map]
  refine hK _ ?_; clear hK K
  refine AW.cond _ (by simp -implicitDefEqProofs only [go_sem]; rfl) (fun hc => ?_) (fun hc => ?_)
  ·simp at hc
  refine AW.exit ?_
  simp only [andThen, inBlk, ↓reduceIte]
  refine AW.rT (by rfl) fun K hK => ?_
  simp -implicitDefEqProofs only [go_sem, Nat.reduceAdd]
  refine hK _ ?_; clear hK K
  refine AW.ret ?_
  simp -implicitDefEqProofs only [go_sem, HH, List.map_nil]
 obtain ⟨e, he⟩ : ∃ e, t.ents[i]? = some e := ⟨_, List.getElem?_eq_getElem hil⟩
 have ⟨he1, he2, he3⟩ := at_map' encEn he
 have hc1 : ((i : Int) < (t.ents.length : Int)) = True := eq_true (by omega)
 refine AW.rT (by rfl) fun K hK => ?_
 simp -implicitDefEqProofs only [go_sem, ↓reduceIte, Nat.reduceAdd, Nat.reduceEqDiff, hc1, List.length_map]
 refine hK _ ?_; clear hK K
 refine AW.cond _ (by simp -implicitDefEqProofs only [go_sem]; rfl) (fun hc => ?_) (fun hc => ?_)
 rotate_left
 ·simp at hc
 refine AW.skip ?_
 simp only [andThen]
 refine AW.seq ?_
 refine AW.block ?_
 by_cases hg : e.1 = g
 ·have b1 := eqb hg
  have HH : undV t g = e.2 := by unfold undV; rw [find_some g2 he hg]
  refine AW.rT (by rfl) fun K hK => ?_
  simp -implicitDefEqProofs only [go_sem, ↓reduceIte, Nat.reduceAdd, Nat.reduceEqDiff, he1, he3, hc1, encEn, List.length_map, b1]
  refine hK _ ?_; clear hK K
  refine AW.cond _ (by simp -implicitDefEqProofs only [go_sem]; rfl) (fun hc => ?_) (fun hc => ?_)
  rotate_left
  ·simp at hc
  refine AW.rT (by rfl) fun K hK => ?_
  simp -implicitDefEqProofs only [go_sem, ↓reduceIte, Nat.reduceAdd, Nat.reduceEqDiff, he1, he3, hc1, encEn, List.length_map]
  refine hK _ ?_; clear hK K
  refine AW.ret ?_
  simp -implicitDefEqProofs only [go_sem, HH]
 ·have b1 := beqf hg
  have w1 : IntKind.wrap .i64 ((i : Int) + 1) = ((i + 1 : Nat) : Int) := by rw [w64] <;> omega
  refine AW.rT (by rfl) fun K hK => ?_
  simp -implicitDefEqProofs only [go_sem, ↓reduceIte, Nat.reduceAdd, Nat.reduceEqDiff, he1, he3, hc1, encEn, List.length_map, b1]
  refine hK _ ?_; clear hK K
  refine AW.cond _ (by simp -implicitDefEqProofs only [go_sem]; rfl) (fun hc => ?_) (fun hc => ?_)
  ·simp at hc
  refine AW.skip ?_
  simp only [andThen, inBlk]
  refine AW.rE (by rfl) fun K hK => ?_
  simp -implicitDefEqProofs only [go_sem, ↓reduceIte, Nat.reduceAdd, Nat.reduceEqDiff, w1]
  refine hK _ ?_; clear hK K
  refine ⟨i + 1, ⟨by omega, all_take he g2 hg⟩, by omega, ?_⟩
  show Ghost _ _ (vu t g (i + 1))
  simp only [vu, cellsT]
  refine Ghost.sub ?_ ?_ <;> simp -implicitDefEqProofs only [go_sem, ↓reduceIte, Nat.reduceEqDiff, List.forall_mem_cons, List.not_mem_nil, false_implies, implies_true, and_self, List.all_cons, List.all_nil, Nat.reduceLT, labsInL, AV.labsIn]
  done
def vk (f : Fd) (t : Tr) (g : Int) (i : Nat) : St := ⟨ofL [(3, .p (.int .i64 g)), (12, .ptr 1 0 0), (40, .p (.slice (t.ents.map encEn))), (41, .p (.int .i64 (t.ents.length : Int))), (42, .p (.int .i64 (i : Int)))], ofH [(1, .row 5 [cellsFd f])], 2⟩
set_option maxRecDepth 100000 in
set_option maxHeartbeats 4000000 in
theorem valid_Get (S : Sc) (k : List UInt8) (t : Tr) (g : Int) (hS : SizS S) (hlt : lensT t = true) : PFn Tryd.prog 30 [.agg (encSc S), .str k, .agg (encTr t), .int .i64 g] (.tuple [.slice ((getV S k t g).1.map encTr), .bool (getV S k t g).2]) := by
 obtain ⟨la1, la2, la3⟩ := lensT_mk hlt
 have C2 : PFn Tryd.prog 62 [.agg (encSc S), .str k] (.tuple [.agg (encMs (msOf S k).1), .bool (msOf S k).2]) := check_Message S k hS.msgs
 have C3 : PFn Tryd.prog 67 [.agg (encMs (msOf S k).1), .int .i64 g] (.tuple [.agg (encFd (fldOf (msOf S k).1 g).1), .bool (fldOf (msOf S k).1 g).2]) := check_Field (msOf S k).1 g (siz_of hS k)
 have GV : getV S k t g = if (msOf S k).2 = false ∨ (fldOf (msOf S k).1 g).2 = false ∨ t.kind ≠ 3 then ([], false) else
  match t.ents.find? (fun e => e.1 == g) with
  | some e => (e.2, true)
  | none => if (fldOf (msOf S k).1 g).1.label = 1 then ([.mk (kdV (fldOf (msOf S k).1 g).1.ty) 0 [] [] []], true) else ([], true) := rfl
 have C4 := valid_kind (fldOf (msOf S k).1 g).1.ty
 rcases hmo : msOf S k with ⟨m, b⟩
 rw [hmo] at C2 C3 C4 GV
 simp only at C2 C3 C4 GV
 rcases hfo : fldOf m g with ⟨f, c⟩
 rw [hfo] at C3 C4 GV
 simp only [encSc, encMs, encFd, encTy] at C2 C3 C4 GV
 refine PFn.of Tryd.func30 rfl (by decide) Tryd.ntmps30 Tryd.results30 (Nat.le_of_ble_eq_true rfl) ?_
 simp only [argsT]
 refine AW.rT (by rfl) fun K hK => ?_
 simp -implicitDefEqProofs only [go_sem, ↓reduceIte, Nat.reduceAdd, Nat.reduceEqDiff, reduceCtorEq, encSc, encTr_eq]
 refine hK _ ?_; clear hK K
 refine AW.rT (by rfl) fun K hK => ?_
 simp -implicitDefEqProofs only [go_sem, ↓reduceIte, Nat.reduceAdd, Nat.reduceEqDiff, Nat.reduceLeDiff, reduceCtorEq]
 refine ⟨.pure _, C2, ?_⟩
 try simp -implicitDefEqProofs only [go_sem, ↓reduceIte, Nat.reduceAdd, Nat.reduceEqDiff, Nat.reduceLeDiff]
 refine hK _ ?_; clear hK K
 refine AW.rT (by rfl) fun K hK => ?_
 simp -implicitDefEqProofs only [go_sem, ↓reduceIte, Nat.reduceAdd, Nat.reduceEqDiff, Nat.reduceLeDiff, reduceCtorEq]
 refine ⟨.pure _, C3, ?_⟩
 try simp -implicitDefEqProofs only [go_sem, ↓reduceIte, Nat.reduceAdd, Nat.reduceEqDiff, Nat.reduceLeDiff]
 refine hK _ ?_; clear hK K
 refine AW.seq ?_
 cases b with
 | false =>
  have HH : getV S k t g = ([], false) := by rw [GV, if_pos (.inl rfl)]
  refine AW.rT (by rfl) fun K hK => ?_
  simp -implicitDefEqProofs only [go_sem, ↓reduceIte, Nat.reduceAdd, Nat.reduceEqDiff]
  refine hK _ ?_; clear hK K
  refine AW.cond _ (by simp -implicitDefEqProofs only [go_sem]; rfl) (fun hc => ?_) (fun hc => ?_)
  rotate_left
  ·simp at hc
  refine AW.rT (by rfl) fun K hK => ?_
  simp -implicitDefEqProofs only [go_sem, Nat.reduceAdd]
  refine hK _ ?_; clear hK K
  refine AW.ret ?_
  simp -implicitDefEqProofs only [go_sem, ↓reduceIte, Nat.reduceEqDiff, HH, List.map_nil]
 | true =>
 cases c with
 | false =>
  have HH : getV S k t g = ([], false) := by rw [GV, if_pos (.inr (.inl rfl))]
  refine AW.rT (by rfl) fun K hK => ?_
  simp -implicitDefEqProofs only [go_sem, ↓reduceIte, Nat.reduceAdd, Nat.reduceEqDiff]
  refine hK _ ?_; clear hK K
  refine AW.cond _ (by simp -implicitDefEqProofs only [go_sem]; rfl) (fun hc => ?_) (fun hc => ?_)
  rotate_left
  ·simp at hc
  refine AW.rT (by rfl) fun K hK => ?_
  simp -implicitDefEqProofs only [go_sem, Nat.reduceAdd]
  refine hK _ ?_; clear hK K
  refine AW.ret ?_
  simp -implicitDefEqProofs only [go_sem, ↓reduceIte, Nat.reduceEqDiff, HH, List.map_nil]
 | true =>
 by_cases h3 : t.kind = 3
 case neg =>
  have b3 : (t.kind != 3) = true := by simpa using h3
  have HH : getV S k t g = ([], false) := by rw [GV, if_pos (.inr (.inr h3))]
  refine AW.rT (by rfl) fun K hK => ?_
  simp -implicitDefEqProofs only [go_sem, ↓reduceIte, Nat.reduceAdd, Nat.reduceEqDiff, b3]
  refine hK _ ?_; clear hK K
  refine AW.cond _ (by simp -implicitDefEqProofs only [go_sem]; rfl) (fun hc => ?_) (fun hc => ?_)
  rotate_left
  ·simp at hc
  refine AW.rT (by rfl) fun K hK => ?_
  simp -implicitDefEqProofs only [go_sem, Nat.reduceAdd]
  refine hK _ ?_; clear hK K
  refine AW.ret ?_
  simp -implicitDefEqProofs only [go_sem, ↓reduceIte, Nat.reduceEqDiff, HH, List.map_nil]
 have b3 : (t.kind != 3) = false := by simp [h3]
 rw [if_neg (by simp [h3])] at GV
 refine AW.rT (by rfl) fun K hK => ?_
 simp -implicitDefEqProofs only [go_sem, ↓reduceIte, Nat.reduceAdd, Nat.reduceEqDiff, b3]
 refine hK _ ?_; clear hK K
 refine AW.cond _ (by simp -implicitDefEqProofs only [go_sem]; rfl) (fun hc => ?_) (fun hc => ?_)
 ·simp at hc
 refine AW.skip ?_
 simp only [andThen]
 refine AW.seq ?_
 refine AW.rT (by rfl) fun K hK => ?_
 simp -implicitDefEqProofs only [go_sem, ↓reduceIte, Nat.reduceAdd, Nat.reduceEqDiff, List.length_map]
 refine hK _ ?_; clear hK K
 refine AW.block ?_
 refine AW.loop (fun i : Nat => vk f t g i) (fun i => i ≤ t.ents.length ∧ (t.ents.take i).all (fun e => e.1 != g) = true) (fun i => t.ents.length - i) 0 ?_ ⟨by simp, by simp⟩ fun i hi => ?_
 ·simp only [vk, cellsFd]
  refine Ghost.ent (fun l => if l = 1 then 19 else l) ?_ ?_ ?_ <;> simp -implicitDefEqProofs only [go_sem, ↓reduceIte, Nat.reduceEqDiff, reduceCtorEq, List.forall_mem_cons, List.not_mem_nil, false_implies, implies_true, and_self, List.all_cons, List.all_nil, Nat.reduceLT, labsInL, AV.labsIn]
  all_goals first | rfl | simp
 obtain ⟨g1, g2⟩ := hi
 simp only [vk, cellsFd]
 by_cases hil : i < t.ents.length
 case neg =>
  have hc1 : ((i : Int) < (t.ents.length : Int)) = False := eq_false (by omega)
  rw [List.take_of_length_le (by omega)] at g2
  rw [find_none g2] at GV
  simp only at GV
  refine AW.rT (by rfl) fun K hK => ?_
  simp -implicitDefEqProofs only [go_sem, ↓reduceIte, Nat.reduceAdd, Nat.reduceEqDiff, hc1]
  refine hK _ ?_; clear hK K
  refine AW.seq ?_
  refine AW.cond _ (by simp -implicitDefEqProofs only [go_sem]; rfl) (fun hc => ?_) (fun hc => ?_)
  ·simp at hc
  refine AW.exit ?_
  simp only [andThen, inBlk, ↓reduceIte]
  refine AW.seq ?_
  by_cases hb : f.label = 1
  ·have b1 := eqb hb
   rw [if_pos hb] at GV
   have HH : getV S k t g = ([.mk (kdV f.ty) 0 [] [] []], true) := GV
   refine AW.rT (by rfl) fun K hK => ?_
   simp -implicitDefEqProofs only [go_sem, ↓reduceIte, Nat.reduceAdd, Nat.reduceEqDiff, b1]
   refine hK _ ?_; clear hK K
   refine AW.cond _ (by simp -implicitDefEqProofs only [go_sem]; rfl) (fun hc => ?_) (fun hc => ?_)
   rotate_left
   ·simp at hc
   refine AW.rT (by rfl) fun K hK => ?_
   simp -implicitDefEqProofs only [go_sem, ↓reduceIte, Nat.reduceAdd, Nat.reduceEqDiff, Nat.reduceLeDiff]
   refine ⟨.pure _, C4, ?_⟩
   try simp -implicitDefEqProofs only [go_sem, ↓reduceIte, Nat.reduceAdd, Nat.reduceMul, Nat.reduceLeDiff]
   refine hK _ ?_; clear hK K
   refine AW.ret ?_
   simp -implicitDefEqProofs only [go_sem, ↓reduceIte, Nat.reduceEqDiff, HH, List.map_nil, List.map_cons, encTr, encEs]
   done
  ·have b1 := beqf hb
   rw [if_neg hb] at GV
   have HH : getV S k t g = ([], true) := GV
   refine AW.rT (by rfl) fun K hK => ?_
   simp -implicitDefEqProofs only [go_sem, ↓reduceIte, Nat.reduceAdd, Nat.reduceEqDiff, b1]
   refine hK _ ?_; clear hK K
   refine AW.cond _ (by simp -implicitDefEqProofs only [go_sem]; rfl) (fun hc => ?_) (fun hc => ?_)
   ·simp at hc
   refine AW.skip ?_
   simp only [andThen]
   refine AW.rT (by rfl) fun K hK => ?_
   simp -implicitDefEqProofs only [go_sem, Nat.reduceAdd]
   refine hK _ ?_; clear hK K
   refine AW.ret ?_
   simp -implicitDefEqProofs only [go_sem, ↓reduceIte, Nat.reduceEqDiff, HH, List.map_nil]
 obtain ⟨e, he⟩ : ∃ e, t.ents[i]? = some e := ⟨_, List.getElem?_eq_getElem hil⟩
 have ⟨he1, he2, he3⟩ := at_map' encEn he
 have ⟨le1, le2⟩ := lensE_at la3 he
 have hc1 : ((i : Int) < (t.ents.length : Int)) = True := eq_true (by omega)
 refine AW.rT (by rfl) fun K hK => ?_
 simp -implicitDefEqProofs only [go_sem, ↓reduceIte, Nat.reduceAdd, Nat.reduceEqDiff, hc1]
 refine hK _ ?_; clear hK K
 refine AW.seq ?_
 refine AW.cond _ (by simp -implicitDefEqProofs only [go_sem]; rfl) (fun hc => ?_) (fun hc => ?_)
 rotate_left
 ·simp at hc
 refine AW.skip ?_
 simp only [andThen]
 refine AW.seq ?_
 refine AW.block ?_
 refine AW.rT (by rfl) fun K hK => ?_
 simp -implicitDefEqProofs only [go_sem, ↓reduceIte, Nat.reduceAdd, Nat.reduceEqDiff, Nat.reduceLeDiff, he1, he3, hc1, encEn, List.length_map]
 refine hK _ ?_; clear hK K
 by_cases hg : e.1 = g
 ·have b1 := eqb hg
  have HH : getV S k t g = (e.2, true) := by rw [GV, find_some g2 he hg]
  refine AW.rT (by rfl) fun K hK => ?_
  simp -implicitDefEqProofs only [go_sem, ↓reduceIte, Nat.reduceAdd, Nat.reduceEqDiff, b1]
  refine hK _ ?_; clear hK K
  refine AW.cond _ (by simp -implicitDefEqProofs only [go_sem]; rfl) (fun hc => ?_) (fun hc => ?_)
  rotate_left
  ·simp at hc
  refine AW.rT (by rfl) fun K hK => ?_
  simp -implicitDefEqProofs only [go_sem, ↓reduceIte, Nat.reduceAdd, Nat.reduceEqDiff, Nat.reduceLeDiff, reduceCtorEq]
  refine ⟨⟨liftE_len fun e he => by
    obtain ⟨x, _, rfl⟩ := List.mem_map.1 he
    rw [encTr_eq]
    rfl, liftE_one fun e he p hp => by
    obtain ⟨x, _, rfl⟩ := List.mem_map.1 he
    rw [encTr_eq] at hp
    simp at hp
    rcases hp with rfl | rfl | rfl | rfl | rfl <;> rfl, by simp⟩, ⟨.inl trivial, by simp, by simp [liftE_length]; omega⟩, ?_⟩
  refine hK _ ?_; clear hK K
  refine AW.ret ?_
  simp -implicitDefEqProofs only [go_sem, ↓reduceIte, Nat.reduceEqDiff, HH]
  done
 ·have b1 := beqf hg
  have w1 : IntKind.wrap .i64 ((i : Int) + 1) = ((i + 1 : Nat) : Int) := by rw [w64] <;> omega
  refine AW.rT (by rfl) fun K hK => ?_
  simp -implicitDefEqProofs only [go_sem, ↓reduceIte, Nat.reduceAdd, Nat.reduceEqDiff, b1]
  refine hK _ ?_; clear hK K
  refine AW.cond _ (by simp -implicitDefEqProofs only [go_sem]; rfl) (fun hc => ?_) (fun hc => ?_)
  ·simp at hc
  refine AW.skip ?_
  simp only [andThen, inBlk]
  refine AW.rE (by rfl) fun K hK => ?_
  simp -implicitDefEqProofs only [go_sem, ↓reduceIte, Nat.reduceAdd, Nat.reduceEqDiff, w1]
  refine hK _ ?_; clear hK K
  refine ⟨i + 1, ⟨by omega, all_take he g2 hg⟩, by omega, ?_⟩
  show Ghost _ _ (vk f t g (i + 1))
  simp only [vk, cellsFd]
  refine Ghost.sub ?_ ?_ <;> simp -implicitDefEqProofs only [go_sem, ↓reduceIte, Nat.reduceEqDiff, List.forall_mem_cons, List.not_mem_nil, false_implies, implies_true, and_self, List.all_cons, List.all_nil, Nat.reduceLT, labsInL, AV.labsIn]
  done
set_option maxRecDepth 100000 in
set_option maxHeartbeats 4000000 in
theorem ref10_Get (S : Sc) (k : List UInt8) (t : Tr) (g : Int) (hS : SizS S) (FO : ∀ k, (msOf S k).2 = true → FldsOK S (msOf S k).1) (hlt : lensT t = true) : PFn Tryd.prog 42 [.agg (encSc S), .str k, .agg (encTr t), .int .i64 g] (.tuple [.slice ((getV S k t g).1.map encTr), .bool (getV S k t g).2]) := by
 have C2 : PFn Tryd.prog 55 [.agg (encSc S), .str k] (.tuple [.agg (encMs (msOf S k).1), .bool (msOf S k).2]) := ref07_Message S k hS.msgs
 have C3 : PFn Tryd.prog 27 [.agg (encMs (msOf S k).1), .int .i64 g] (.tuple [.agg (encFd (fldOf (msOf S k).1 g).1), .bool (fldOf (msOf S k).1 g).2]) := ref07_Field (msOf S k).1 g (siz_of hS k)
 have GV : getV S k t g = if (msOf S k).2 = false ∨ (fldOf (msOf S k).1 g).2 = false ∨ t.kind ≠ 3 then ([], false) else
  match t.ents.find? (fun e => e.1 == g) with
  | some e => (e.2, true)
  | none => if (fldOf (msOf S k).1 g).1.label = 1 then ([.mk (kdV (fldOf (msOf S k).1 g).1.ty) 0 [] [] []], true) else ([], true) := rfl
 have C4 := ref10_Kind (fldOf (msOf S k).1 g).1.ty
 have FK := fun h : (msOf S k).2 = true => FO k h g
 have C5 := ref_Has t hlt g
 have C6 := ref_Under t hlt g
 rcases hmo : msOf S k with ⟨m, b⟩
 rw [hmo] at C2 C3 C4 GV FK
 simp only at C2 C3 C4 GV FK
 rcases hfo : fldOf m g with ⟨f, c⟩
 rw [hfo] at C3 C4 GV FK
 simp only [encSc, encMs, encFd, encTy, encTr_eq] at C2 C3 C4 C5 C6 GV FK
 refine PFn.of Tryd.func42 rfl (by decide) Tryd.ntmps42 Tryd.results42 (Nat.le_of_ble_eq_true rfl) ?_
 simp only [argsT]
 refine AW.rT (by rfl) fun K hK => ?_
 simp -implicitDefEqProofs only [go_sem, ↓reduceIte, Nat.reduceAdd, Nat.reduceEqDiff, reduceCtorEq, encSc, encTr_eq]
 refine hK _ ?_; clear hK K
 refine AW.rT (by rfl) fun K hK => ?_
 simp -implicitDefEqProofs only [go_sem, ↓reduceIte, Nat.reduceAdd, Nat.reduceEqDiff, Nat.reduceLeDiff, reduceCtorEq]
 refine ⟨.pure _, C2, ?_⟩
 try simp -implicitDefEqProofs only [go_sem, ↓reduceIte, Nat.reduceAdd, Nat.reduceEqDiff, Nat.reduceLeDiff]
 refine hK _ ?_; clear hK K
 refine AW.seq ?_
 cases b with
 | false =>
  have HH : getV S k t g = ([], false) := by rw [GV, if_pos (.inl rfl)]
  refine AW.rT (by rfl) fun K hK => ?_
  simp -implicitDefEqProofs only [go_sem, ↓reduceIte, Nat.reduceAdd, Nat.reduceEqDiff]
  refine hK _ ?_; clear hK K
  refine AW.cond _ (by simp -implicitDefEqProofs only [go_sem]; rfl) (fun hc => ?_) (fun hc => ?_)
  rotate_left
  ·simp at hc
  refine AW.rT (by rfl) fun K hK => ?_
  simp -implicitDefEqProofs only [go_sem, Nat.reduceAdd]
  refine hK _ ?_; clear hK K
  refine AW.ret ?_
  simp -implicitDefEqProofs only [go_sem, ↓reduceIte, Nat.reduceEqDiff, HH, List.map_nil]
 | true =>
 by_cases h3 : t.kind = 3
 case neg =>
  have b3 : (t.kind != 3) = true := by simpa using h3
  have HH : getV S k t g = ([], false) := by rw [GV, if_pos (.inr (.inr h3))]
  refine AW.rT (by rfl) fun K hK => ?_
  simp -implicitDefEqProofs only [go_sem, ↓reduceIte, Nat.reduceAdd, Nat.reduceEqDiff, b3]
  refine hK _ ?_; clear hK K
  refine AW.cond _ (by simp -implicitDefEqProofs only [go_sem]; rfl) (fun hc => ?_) (fun hc => ?_)
  rotate_left
  ·simp at hc
  refine AW.rT (by rfl) fun K hK => ?_
  simp -implicitDefEqProofs only [go_sem, Nat.reduceAdd]
  refine hK _ ?_; clear hK K
  refine AW.ret ?_
  simp -implicitDefEqProofs only [go_sem, ↓reduceIte, Nat.reduceEqDiff, HH, List.map_nil]
 have b3 : (t.kind != 3) = false := by simp [h3]
 refine AW.rT (by rfl) fun K hK => ?_
 simp -implicitDefEqProofs only [go_sem, ↓reduceIte, Nat.reduceAdd, Nat.reduceEqDiff, b3]
 refine hK _ ?_; clear hK K
 refine AW.cond _ (by simp -implicitDefEqProofs only [go_sem]; rfl) (fun hc => ?_) (fun hc => ?_)
 ·simp at hc
 refine AW.skip ?_
 simp only [andThen]
 refine AW.rT (by rfl) fun K hK => ?_
 simp -implicitDefEqProofs only [go_sem, ↓reduceIte, Nat.reduceAdd, Nat.reduceEqDiff, Nat.reduceLeDiff, reduceCtorEq]
 refine ⟨.pure _, C3, ?_⟩
 try simp -implicitDefEqProofs only [go_sem, ↓reduceIte, Nat.reduceAdd, Nat.reduceEqDiff, Nat.reduceLeDiff]
 refine hK _ ?_; clear hK K
 refine AW.seq ?_
 refine AW.rT (by rfl) fun K hK => ?_
 simp -implicitDefEqProofs only [go_sem, Nat.reduceAdd]
 refine hK _ ?_; clear hK K
 cases c with
 | false =>
  have HH : getV S k t g = ([], false) := by rw [GV, if_pos (.inr (.inl rfl))]
  refine AW.cond _ (by simp -implicitDefEqProofs only [go_sem]; rfl) (fun hc => ?_) (fun hc => ?_)
  rotate_left
  ·simp at hc
  refine AW.rT (by rfl) fun K hK => ?_
  simp -implicitDefEqProofs only [go_sem, Nat.reduceAdd]
  refine hK _ ?_; clear hK K
  refine AW.ret ?_
  simp -implicitDefEqProofs only [go_sem, ↓reduceIte, Nat.reduceEqDiff, HH, List.map_nil]
 | true =>
 rw [if_neg (by simp [h3])] at GV
 rw [kd_same (FK rfl rfl).1.1 (FK rfl rfl).1.2] at C4
 refine AW.cond _ (by simp -implicitDefEqProofs only [go_sem]; rfl) (fun hc => ?_) (fun hc => ?_)
 ·simp at hc
 refine AW.skip ?_
 simp only [andThen]
 refine AW.seq ?_
 cases hfi : t.ents.find? (fun e => e.1 == g) with
 | some e =>
  rw [hfi] at GV
  have hun : undV t g = e.2 := by unfold undV; rw [hfi]
  have hany : t.ents.any (fun e => e.1 == g) = true := List.any_eq_true.2 ⟨e, List.mem_of_find?_eq_some hfi, List.find?_some (p := fun e : Int × List Tr => e.1 == g) hfi⟩
  have HH : getV S k t g = (e.2, true) := GV
  rw [hany] at C5
  rw [hun] at C6
  refine AW.rT (by rfl) fun K hK => ?_
  simp -implicitDefEqProofs only [go_sem, ↓reduceIte, Nat.reduceAdd, Nat.reduceEqDiff, Nat.reduceLeDiff, reduceCtorEq]
  refine ⟨.pure _, C5, ?_⟩
  try simp -implicitDefEqProofs only [go_sem, Nat.reduceAdd]
  refine hK _ ?_; clear hK K
  refine AW.cond _ (by simp -implicitDefEqProofs only [go_sem]; rfl) (fun hc => ?_) (fun hc => ?_)
  rotate_left
  ·simp at hc
  refine AW.rT (by rfl) fun K hK => ?_
  simp -implicitDefEqProofs only [go_sem, ↓reduceIte, Nat.reduceAdd, Nat.reduceEqDiff, Nat.reduceLeDiff, reduceCtorEq]
  refine ⟨.pure _, C6, ?_⟩
  try simp -implicitDefEqProofs only [go_sem, Nat.reduceAdd]
  refine hK _ ?_; clear hK K
  refine AW.ret ?_
  simp -implicitDefEqProofs only [go_sem, ↓reduceIte, Nat.reduceEqDiff, HH]
 | none =>
  rw [hfi] at GV
  have hany : t.ents.any (fun e => e.1 == g) = false := by
   rw [List.any_eq_false]
   intro e he
   exact List.find?_eq_none.1 hfi e he
  rw [hany] at C5
  refine AW.rT (by rfl) fun K hK => ?_
  simp -implicitDefEqProofs only [go_sem, ↓reduceIte, Nat.reduceAdd, Nat.reduceEqDiff, Nat.reduceLeDiff, reduceCtorEq]
  refine ⟨.pure _, C5, ?_⟩
  try simp -implicitDefEqProofs only [go_sem, Nat.reduceAdd]
  refine hK _ ?_; clear hK K
  refine AW.cond _ (by simp -implicitDefEqProofs only [go_sem]; rfl) (fun hc => ?_) (fun hc => ?_)
  ·simp at hc
  refine AW.skip ?_
  simp only [andThen]
  refine AW.seq ?_
  by_cases hb : f.label = 1
  ·have b1 : (f.label != 1) = false := by simp [hb]
   simp only at GV
   rw [if_pos hb] at GV
   have HH : getV S k t g = ([.mk (kdV f.ty) 0 [] [] []], true) := GV
   refine AW.rT (by rfl) fun K hK => ?_
   simp -implicitDefEqProofs only [go_sem, ↓reduceIte, Nat.reduceAdd, Nat.reduceEqDiff, b1]
   refine hK _ ?_; clear hK K
   refine AW.cond _ (by simp -implicitDefEqProofs only [go_sem]; rfl) (fun hc => ?_) (fun hc => ?_)
   ·simp at hc
   refine AW.skip ?_
   simp only [andThen]
   refine AW.rT (by rfl) fun K hK => ?_
   simp -implicitDefEqProofs only [go_sem, ↓reduceIte, Nat.reduceAdd, Nat.reduceEqDiff, Nat.reduceLeDiff]
   refine ⟨.pure _, C4, ?_⟩
   try simp -implicitDefEqProofs only [go_sem, ↓reduceIte, Nat.reduceAdd, Nat.reduceMul, Nat.reduceLeDiff]
   refine hK _ ?_; clear hK K
   refine AW.ret ?_
   simp -implicitDefEqProofs only [go_sem, ↓reduceIte, Nat.reduceEqDiff, HH, List.map_nil, List.map_cons, encTr, encEs]
   done
  ·have b1 : (f.label != 1) = true := by simpa using hb
   simp only at GV
   rw [if_neg hb] at GV
   have HH : getV S k t g = ([], true) := GV
   refine AW.rT (by rfl) fun K hK => ?_
   simp -implicitDefEqProofs only [go_sem, ↓reduceIte, Nat.reduceAdd, Nat.reduceEqDiff, b1]
   refine hK _ ?_; clear hK K
   refine AW.cond _ (by simp -implicitDefEqProofs only [go_sem]; rfl) (fun hc => ?_) (fun hc => ?_)
   rotate_left
   ·simp at hc
   refine AW.rT (by rfl) fun K hK => ?_
   simp -implicitDefEqProofs only [go_sem, Nat.reduceAdd]
   refine hK _ ?_; clear hK K
   refine AW.ret ?_
   simp -implicitDefEqProofs only [go_sem, ↓reduceIte, Nat.reduceEqDiff, HH, List.map_nil]
end Go.Aw.T
namespace Go.Aw.T
open Go.Proofs
set_option linter.unusedSimpArgs false
set_option linter.unusedVariables false
def nF : Fd := ⟨[120], 1, 1, ⟨1, []⟩⟩
def nM : Ms := ⟨[109], [nF], []⟩
def nS : Sc := ⟨[97], [nM], [], []⟩
def nE : Tr := .mk 3 0 [] [] []
def nN : Tr := .mk 1 0 [] [] []
def nZ : Tr := .mk 3 0 [] [(1, [nN])] []
theorem lens_few {S : Sc} (h : fewB S = true) : LensS S := (few_spec h).lens
theorem nS_lens : LensS nS := lens_few (by decide +kernel)
theorem nS_check : checkC nS = 0 := by decide +kernel
theorem n_zero : validV nS [109] nZ = 12 := by decide +kernel
theorem n_ok : validV nS [109] nE = 0 := by decide +kernel
theorem n_get : getV nS [109] nE 1 = ([nN], true) := by rfl
def nk0 : St := ⟨ofL [(1, .ptr 0 0 0), (2, .ptr 1 0 0)], ofH [(0, .row 4 [[.p (.str [97]), .own 2, .ex [], .ex []]]), (1, .row 5 [[.p (.int .i64 3), .p (.int .i64 0), .p (.str []), .own 4, .ex []]]), (2, .row 3 [[.p (.str [109]), .own 3, .ex []]]), (3, .row 5 (liftE ([nF].map encFd))), (4, .row 2 [[.p (.int .i64 1), .own 5]]), (5, .row 5 [[.p (.int .i64 1), .p (.int .i64 0), .p (.str []), .ex [], .ex []]])], 6⟩
def nk1 : St := ⟨ofL [(1, .ptr 0 0 0), (2, .ptr 1 0 0)], ofH [(0, .row 4 [[.p (.str [97]), .own 2, .ex [], .ex []]]), (1, .row 5 [[.p (.int .i64 3), .p (.int .i64 0), .p (.str []), .own 4, .ex []]]), (2, .row 3 [[.p (.str [109]), .p (.slice ([nF].map encFd)), .ex []]]), (4, .row 2 [[.p (.int .i64 1), .own 5]]), (5, .row 5 [[.p (.int .i64 1), .p (.int .i64 0), .p (.str []), .ex [], .ex []]])], 6⟩
def nk2 : St := ⟨ofL [(1, .ptr 0 0 0), (2, .ptr 1 0 0)], ofH [(0, .row 4 [[.p (.str [97]), .p (.slice [encMs nM]), .ex [], .ex []]]), (1, .row 5 [[.p (.int .i64 3), .p (.int .i64 0), .p (.str []), .own 4, .ex []]]), (4, .row 2 [[.p (.int .i64 1), .own 5]]), (5, .row 5 [[.p (.int .i64 1), .p (.int .i64 0), .p (.str []), .ex [], .ex []]])], 6⟩
def nk3 : St := ⟨ofL [(1, .ptr 0 0 0), (2, .ptr 1 0 0)], ofH [(0, .row 4 [[.p (.str [97]), .p (.slice [encMs nM]), .ex [], .ex []]]), (1, .row 5 [[.p (.int .i64 3), .p (.int .i64 0), .p (.str []), .own 4, .ex []]]), (4, .row 2 [[.p (.int .i64 1), .p (.slice [encTr nN])]])], 6⟩
def nk4 : St := ⟨ofL [(1, .ptr 0 0 0), (2, .ptr 1 0 0)], ofH [(0, .row 4 [[.p (.str [97]), .p (.slice [encMs nM]), .ex [], .ex []]]), (1, .row 5 [[.p (.int .i64 3), .p (.int .i64 0), .p (.str []), .p (.slice [encEn (1, [nN])]), .ex []]])], 6⟩
set_option maxRecDepth 100000 in
set_option maxHeartbeats 4000000 in
theorem law10_awake : PFn Tryd.prog 21 [] (.bool true) := by
 have C1 := valid_Get nS [109] nE 1 (siz_right (right_of nS_check)) (by decide +kernel)
 have C2 := valid_Valid nS [109] nZ nS_lens (by decide +kernel) (by decide +kernel)
 have C3 := valid_Valid nS [109] nE nS_lens (by decide +kernel) (by decide +kernel)
 rw [n_get] at C1
 rw [n_zero] at C2
 rw [n_ok] at C3
 simp only [encSc, nS, List.map_cons, List.map_nil, encTr_eq, nE, nZ, nN, Tr.kind, Tr.n, Tr.s, Tr.ents, Tr.rest, encEn] at C1 C2 C3
 refine PFn.of Tryd.func21 rfl (by decide) Tryd.ntmps21 Tryd.results21 (Nat.le_of_ble_eq_true rfl) ?_
 simp only [argsT]
 refine AW.rT (by rfl) fun K hK => ?_
 simp -implicitDefEqProofs only [go_sem]
 refine hK _ ?_; clear hK K
 refine AW.rT (by rfl) fun K hK => ?_
 simp -implicitDefEqProofs only [go_sem, ↓reduceIte, Nat.reduceAdd, Nat.reduceMul, Nat.reduceEqDiff, Nat.reduceLeDiff]
 refine hK _ ?_; clear hK K
 refine AW.rT (by rfl) fun K hK => ?_
 simp -implicitDefEqProofs only [go_sem, ↓reduceIte, Nat.reduceAdd, Nat.reduceMul, Nat.reduceEqDiff, Nat.reduceLeDiff]
 refine hK _ ?_; clear hK K
 refine AW.ghost (s' := nk0) ?_ ?_
 ·simp only [nk0]
  refine Ghost.ent (fun l => if l = 0 then 7 else if l = 1 then 14 else if l = 2 then 5 else if l = 3 then 3 else if l = 4 then 12 else 10) ?_ ?_ ?_ <;> simp -implicitDefEqProofs only [go_sem, ↓reduceIte, Nat.reduceEqDiff, reduceCtorEq, nF, encFd, liftE_cons, liftE_nil, List.map_cons, List.map_nil, List.forall_mem_cons, List.not_mem_nil, false_implies, implies_true, and_self, List.all_cons, List.all_nil, Nat.reduceLT, labsInL, AV.labsIn]
  all_goals first | rfl | decide | skip
 refine AW.ghost (s' := nk1) (Ghost.trans (Ghost.freeze (lb := 3) (ps := [nF].map encFd) rfl (unlift_liftE _)) ?_) ?_
 ·simp only [nk0, nk1]
  refine Ghost.sub ?_ ?_ <;> simp -implicitDefEqProofs only [go_sem, ↓reduceIte, Nat.reduceEqDiff, reduceCtorEq, thaw, thaw1, Option.map_some, List.map_cons, List.map_nil, nF, encFd, liftE_cons, liftE_nil, List.forall_mem_cons, List.not_mem_nil, false_implies, implies_true, and_self, List.all_cons, List.all_nil, Nat.reduceLT, labsInL, AV.labsIn]
  all_goals first | rfl | decide | skip
 refine AW.ghost (s' := nk2) (Ghost.trans (Ghost.freeze (lb := 2) (ps := [encMs nM]) rfl (by rfl)) ?_) ?_
 ·simp only [nk1, nk2]
  refine Ghost.sub ?_ ?_ <;> simp -implicitDefEqProofs only [go_sem, ↓reduceIte, Nat.reduceEqDiff, reduceCtorEq, thaw, thaw1, Option.map_some, List.map_cons, List.map_nil, nF, nM, encFd, encMs, List.forall_mem_cons, List.not_mem_nil, false_implies, implies_true, and_self, List.all_cons, List.all_nil, Nat.reduceLT, labsInL, AV.labsIn]
  all_goals first | rfl | decide | skip
 refine AW.ghost (s' := nk3) (Ghost.trans (Ghost.freeze (lb := 5) (ps := [encTr nN]) rfl (by rfl)) ?_) ?_
 ·simp only [nk2, nk3]
  refine Ghost.sub ?_ ?_ <;> simp -implicitDefEqProofs only [go_sem, ↓reduceIte, Nat.reduceEqDiff, reduceCtorEq, thaw, thaw1, Option.map_some, List.map_cons, List.map_nil, List.forall_mem_cons, List.not_mem_nil, false_implies, implies_true, and_self, List.all_cons, List.all_nil, Nat.reduceLT, labsInL, AV.labsIn]
  all_goals first | rfl | decide | skip
 refine AW.ghost (s' := nk4) (Ghost.trans (Ghost.freeze (lb := 4) (ps := [encEn (1, [nN])]) rfl (by rfl)) ?_) ?_
 ·simp only [nk3, nk4]
  refine Ghost.sub ?_ ?_ <;> simp -implicitDefEqProofs only [go_sem, ↓reduceIte, Nat.reduceEqDiff, reduceCtorEq, thaw, thaw1, Option.map_some, List.map_cons, List.map_nil, List.forall_mem_cons, List.not_mem_nil, false_implies, implies_true, and_self, List.all_cons, List.all_nil, Nat.reduceLT, labsInL, AV.labsIn]
  all_goals first | rfl | decide | skip
 simp only [nk4, encEn, encTr_eq, nN, List.map_cons, List.map_nil, Tr.kind, Tr.n, Tr.s, Tr.ents, Tr.rest]
 refine AW.rT (by rfl) fun K hK => ?_
 simp -implicitDefEqProofs only [go_sem, ↓reduceIte, Nat.reduceAdd, Nat.reduceEqDiff, Nat.reduceLeDiff]
 refine ⟨.pure _, C1, ?_⟩
 try simp -implicitDefEqProofs only [go_sem, ↓reduceIte, Nat.reduceAdd, Nat.reduceEqDiff]
 refine hK _ ?_; clear hK K
 refine AW.rT (by rfl) fun K hK => ?_
 simp -implicitDefEqProofs only [go_sem, ↓reduceIte, Nat.reduceAdd, Nat.reduceEqDiff, Nat.reduceLeDiff]
 refine ⟨.pure _, C2, ?_⟩
 try simp -implicitDefEqProofs only [go_sem, ↓reduceIte, Nat.reduceAdd, Nat.reduceEqDiff, Nat.reduceLeDiff]
 refine ⟨.pure _, C3, ?_⟩
 try simp -implicitDefEqProofs only [go_sem, ↓reduceIte, Nat.reduceAdd, Nat.reduceEqDiff, Int.reduceToNat]
 have w1 : (((1 : Nat) : Int) == 1) = true := rfl
 have w2 : (0 : Int) < ((1 : Nat) : Int) := by decide
 simp -implicitDefEqProofs only [go_sem, ↓reduceIte, Nat.reduceAdd, w1, w2, Int.le_refl, true_and, List.getD_cons_zero, List.length_cons, List.length_nil, List.getElem?_cons_zero]
 refine hK _ ?_; clear hK K
 refine AW.ret ?_
 simp -implicitDefEqProofs only [go_sem]
end Go.Aw.T
namespace Go.Aw.T
open Go.Proofs
set_option linter.unusedSimpArgs false
set_option linter.unusedVariables false
def bareN (e : Int × List Tr) : Int × List Tr := (e.1, e.2.map bareT)
theorem bare_enc (x : Tr) : encTr (bareT x) = [.int .i64 x.kind, .int .i64 x.n, .str x.s, .slice ((x.ents.map bareN).map encEn), .slice []] := by
 rw [bareT_mk, encTr_eq]
 rfl
def bx (t : Tr) (i : Nat) : St := ⟨ofL [(1, .ptr 0 0 0), (2, .ptr 1 0 0), (3, .ptr 2 0 0), (4, .p (.int .i64 (i : Int)))],
 ofH [(0, .row 5 [cellsT t]), (1, .row 5 [[.p (.int .i64 0), .p (.int .i64 0), .p (.str []), .ex [], .ex []]]), (2, .row 5 [[.p (.int .i64 t.kind), .p (.int .i64 t.n), .p (.str t.s), .own 3, .ex []]]),
  (3, .row 2 (liftE (((t.ents.map bareN).take i).map encEn)))], 4⟩
def byy (t : Tr) (i : Nat) (e : Int × List Tr) (k : Nat) : St := ⟨ofL [(1, .ptr 0 0 0), (2, .ptr 1 0 0), (3, .ptr 2 0 0), (4, .p (.int .i64 (i : Int))), (5, .ptr 4 0 0), (6, .p (.int .i64 (k : Int)))],
 ofH [(0, .row 5 [cellsT t]), (1, .row 5 [[.p (.int .i64 0), .p (.int .i64 0), .p (.str []), .ex [], .ex []]]), (2, .row 5 [[.p (.int .i64 t.kind), .p (.int .i64 t.n), .p (.str t.s), .own 3, .ex []]]),
  (3, .row 2 (liftE (((t.ents.map bareN).take i).map encEn))), (4, .row 2 [[.p (.int .i64 e.1), .own 5]]), (5, .row 5 (liftE (((e.2.map bareT).take k).map encTr)))], 6⟩
def bz (t : Tr) (i : Nat) (e : Int × List Tr) : St := ⟨ofL [(1, .ptr 0 0 0), (2, .ptr 1 0 0), (3, .ptr 2 0 0), (4, .p (.int .i64 (i : Int))), (5, .ptr 4 0 0)],
 ofH [(0, .row 5 [cellsT t]), (1, .row 5 [[.p (.int .i64 0), .p (.int .i64 0), .p (.str []), .ex [], .ex []]]), (2, .row 5 [[.p (.int .i64 t.kind), .p (.int .i64 t.n), .p (.str t.s), .own 3, .ex []]]),
  (3, .row 2 (liftE (((t.ents.map bareN).take i).map encEn))), (4, .row 2 [[.p (.int .i64 e.1), .p (.slice ((e.2.map bareT).map encTr))]])], 5⟩
def bw (t : Tr) : St := ⟨ofL [(2, .ptr 1 0 0), (3, .ptr 2 0 0)],
 ofH [(1, .row 5 [[.p (.int .i64 0), .p (.int .i64 0), .p (.str []), .ex [], .ex []]]), (2, .row 5 [[.p (.int .i64 t.kind), .p (.int .i64 t.n), .p (.str t.s), .p (.slice ((t.ents.map bareN).map encEn)), .ex []]])], 3⟩
theorem map_at {α β : Type} {f : α → β} {l : List α} {i : Nat} {x : α} (h : l[i]? = some x) : (l.map f)[i]? = some (f x) := by rw [List.getElem?_map, h]; rfl
set_option maxRecDepth 100000 in
set_option maxHeartbeats 4000000 in
theorem ref10_Bare : ∀ (t : Tr), lensT t = true → PFn Tryd.prog 40 [.agg (encTr t)] (.agg (encTr (bareT t))) := by
 intro t
 induction h : SizeOf.sizeOf t using Nat.strongRecOn generalizing t with
 | _ sz ih =>
 subst h
 intro hlt
 obtain ⟨la1, la2, la3⟩ := lensT_mk hlt
 refine PFn.of Tryd.func40 rfl (by decide) Tryd.ntmps40 Tryd.results40 (Nat.le_of_ble_eq_true rfl) ?_
 simp only [argsT]
 refine AW.rT (by rfl) fun K hK => ?_
 simp -implicitDefEqProofs only [go_sem, Nat.reduceAdd, encTr_eq]
 refine hK _ ?_; clear hK K
 refine AW.rT (by rfl) fun K hK => ?_
 simp -implicitDefEqProofs only [go_sem, ↓reduceIte, Nat.reduceAdd, Nat.reduceEqDiff, Nat.reduceLeDiff, reduceCtorEq]
 refine hK _ ?_; clear hK K
 refine AW.seq ?_
 refine AW.rT (by rfl) fun K hK => ?_
 simp -implicitDefEqProofs only [go_sem, Nat.reduceAdd]
 refine hK _ ?_; clear hK K
 refine AW.block ?_
 refine AW.loop (bx t) (fun i => i ≤ t.ents.length) (fun i => t.ents.length - i) 0 ?_ (by simp) fun i hi => ?_
 ·refine Ghost.trans (Ghost.nilH (l := 9) (i := 0) (j := 3) (sz' := 2) rfl rfl rfl) ?_
  simp only [bx, cellsT]
  refine Ghost.ent (fun l => if l = 2 then 9 else if l = 3 then 12 else l) ?_ ?_ ?_ <;> simp -implicitDefEqProofs only [go_sem, ↓reduceIte, Nat.reduceEqDiff, reduceCtorEq, List.take_zero, List.map_nil, liftE_nil, List.set_cons_zero, List.set_cons_succ, List.forall_mem_cons, List.not_mem_nil, false_implies, implies_true, and_self, List.all_cons, List.all_nil, Nat.reduceLT, labsInL, AV.labsIn]
  all_goals first | rfl | skip
 simp only [bx, cellsT]
 refine AW.seq ?_
 by_cases hil : i < t.ents.length
 ·obtain ⟨e, he⟩ : ∃ e, t.ents[i]? = some e := ⟨_, List.getElem?_eq_getElem hil⟩
  have ⟨he1, he2, he3⟩ := at_map' encEn he
  have ⟨le1, le2⟩ := lensE_at la3 he
  have hc1 : ((i : Int) < (t.ents.length : Int)) = True := by simp; omega
  refine AW.rT (by rfl) fun K hK => ?_
  simp -implicitDefEqProofs only [go_sem, ↓reduceIte, Nat.reduceAdd, Nat.reduceEqDiff, List.length_map, hc1]
  refine hK _ ?_; clear hK K
  refine AW.cond _ (by simp -implicitDefEqProofs only [go_sem]; rfl) (fun hc => ?_) (fun hc => ?_)
  rotate_left
  ·simp at hc
  refine AW.skip ?_
  simp only [andThen]
  refine AW.seq ?_
  refine AW.block ?_
  refine AW.rT (by rfl) fun K hK => ?_
  simp -implicitDefEqProofs only [go_sem, ↓reduceIte, Nat.reduceAdd, Nat.reduceEqDiff, Nat.reduceLeDiff, he1, he3, hc1, encEn, List.length_map]
  refine hK _ ?_; clear hK K
  refine AW.seq ?_
  refine AW.rT (by rfl) fun K hK => ?_
  simp -implicitDefEqProofs only [go_sem, Nat.reduceAdd]
  refine hK _ ?_; clear hK K
  refine AW.block ?_
  refine AW.loop (byy t i e) (fun k => k ≤ e.2.length) (fun k => e.2.length - k) 0 ?_ (by simp) fun k hk => ?_
  ·refine Ghost.trans (Ghost.nilH (l := 16) (i := 0) (j := 1) (sz' := 5) rfl rfl rfl) ?_
   simp only [byy, cellsT]
   refine Ghost.ent (fun l => if l = 4 then 16 else if l = 5 then 19 else l) ?_ ?_ ?_ <;> simp -implicitDefEqProofs only [go_sem, ↓reduceIte, Nat.reduceEqDiff, reduceCtorEq, List.take_zero, List.map_nil, liftE_nil, List.set_cons_zero, List.set_cons_succ, List.forall_mem_cons, List.not_mem_nil, false_implies, implies_true, and_self, map_renL_lift, labsIn_lift, List.all_cons, List.all_nil, Nat.reduceLT, labsInL, AV.labsIn]
   all_goals first | rfl | skip
  simp only [byy, cellsT]
  refine AW.seq ?_
  by_cases hkl : k < e.2.length
  ·obtain ⟨x, hx⟩ : ∃ x, e.2[k]? = some x := ⟨_, List.getElem?_eq_getElem hkl⟩
   have ⟨hx1, hx2, hx3⟩ := at_map' encTr hx
   have hc2 : ((k : Int) < (e.2.length : Int)) = True := by simp; omega
   have IH := ih _ (size_ent he hx) x rfl (lensTs_at le2 hx)
   rw [encTr_eq x, bare_enc] at IH
   refine AW.rT (by rfl) fun K hK => ?_
   simp -implicitDefEqProofs only [go_sem, ↓reduceIte, Nat.reduceAdd, Nat.reduceEqDiff, he1, he3, hc1, encEn, List.length_map, hc2]
   refine hK _ ?_; clear hK K
   refine AW.cond _ (by simp -implicitDefEqProofs only [go_sem]; rfl) (fun hc => ?_) (fun hc => ?_)
   rotate_left
   ·simp at hc
   refine AW.skip ?_
   simp only [andThen]
   refine AW.seq ?_
   refine AW.block ?_
   refine AW.dE mixed (by rfl) (by decide +kernel) fun K hK => ?_
   simp -implicitDefEqProofs only [go_sem, ↓reduceIte, Nat.reduceAdd, Nat.reduceEqDiff, Nat.reduceLeDiff, reduceCtorEq, he1, he3, hc1, encEn, List.length_map, hc2, hx1, hx3, encTr_eq]
   refine ⟨.pure _, IH, ?_⟩
   try simp -implicitDefEqProofs only [go_sem, ↓reduceIte, Nat.reduceAdd, Nat.reduceMul, Nat.reduceEqDiff, Nat.reduceLeDiff, reduceCtorEq]
   refine ⟨⟨by simp, by simp [oneAll, AV.one, PV.one], by simp⟩, by simp [liftE_length]; omega, by decide +kernel, ?_⟩
   refine hK _ ?_; clear hK K
   have w1 : IntKind.wrap .i64 ((k : Int) + 1) = ((k + 1 : Nat) : Int) := by rw [w64] <;> omega
   have e7 : liftE (((e.2.map bareT).take k).map encTr) ++ [[AV.p (.int .i64 x.kind), .p (.int .i64 x.n), .p (.str x.s), .p (.slice ((x.ents.map bareN).map encEn)), .p (.slice [])]] = liftE (((e.2.map bareT).take (k + 1)).map encTr) := by
    rw [List.take_add_one, map_at hx]
    simp [liftE, bare_enc]
   refine AW.rE (by rfl) fun K hK => ?_
   simp -implicitDefEqProofs only [go_sem, ↓reduceIte, Nat.reduceAdd, Nat.reduceEqDiff, w1]
   refine hK _ ?_; clear hK K
   refine ⟨k + 1, by omega, by omega, ?_⟩
   show Ghost _ _ (byy t i e (k + 1))
   simp only [byy, cellsT]
   rw [← e7]
   refine Ghost.ent (fun l => if l = 5 then 28 else l) ?_ ?_ ?_ <;> simp -implicitDefEqProofs only [go_sem, ↓reduceIte, Nat.reduceEqDiff, reduceCtorEq, List.forall_mem_cons, List.not_mem_nil, false_implies, implies_true, and_self, map_renL_lift, labsIn_lift, List.all_append, List.all_cons, List.all_nil, List.map_append, Nat.reduceLT, labsInL, AV.labsIn]
   all_goals first | rfl | skip
  ·have hc2 : ((k : Int) < (e.2.length : Int)) = False := by simp; omega
   have hk' : k = e.2.length := by omega
   subst hk'
   refine AW.rT (by rfl) fun K hK => ?_
   simp -implicitDefEqProofs only [go_sem, ↓reduceIte, Nat.reduceAdd, Nat.reduceEqDiff, he1, he3, hc1, encEn, List.length_map, hc2]
   refine hK _ ?_; clear hK K
   refine AW.cond _ (by simp -implicitDefEqProofs only [go_sem]; rfl) (fun hc => ?_) (fun hc => ?_)
   ·simp at hc
   refine AW.exit ?_
   simp only [andThen, inBlk, ↓reduceIte]
   refine AW.ghost (s' := bz t i e) (Ghost.trans (Ghost.freeze (lb := 5) (ps := ((e.2.map bareT).take e.2.length).map encTr) rfl (unlift_liftE _)) ?_) ?_
   ·rw [List.take_of_length_le (by simp)]
    simp only [bz, cellsT]
    refine Ghost.sub ?_ ?_ <;> simp -implicitDefEqProofs only [go_sem, ↓reduceIte, Nat.reduceEqDiff, reduceCtorEq, thaw, thaw1, Option.map_some, List.map_cons, List.map_nil, thaw_lift, List.forall_mem_cons, List.not_mem_nil, false_implies, implies_true, and_self, labsIn_lift, List.all_cons, List.all_nil, Nat.reduceLT, labsInL, AV.labsIn]
    done
   simp only [bz, cellsT]
   refine AW.rE (by rfl) fun K hK => ?_
   simp -implicitDefEqProofs only [go_sem, ↓reduceIte, Nat.reduceAdd, Nat.reduceMul, Nat.reduceEqDiff, Nat.reduceLeDiff, reduceCtorEq]
   refine ⟨⟨by simp, by simp [oneAll, AV.one, PV.one], by simp⟩, by simp [liftE_length]; omega, ?_⟩
   refine hK _ ?_; clear hK K
   simp only [andThen, inBlk]
   have w1 : IntKind.wrap .i64 ((i : Int) + 1) = ((i + 1 : Nat) : Int) := by rw [w64] <;> omega
   have e8 : liftE (((t.ents.map bareN).take i).map encEn) ++ [[AV.p (.int .i64 e.1), .p (.slice ((e.2.map bareT).map encTr))]] = liftE (((t.ents.map bareN).take (i + 1)).map encEn) := by
    rw [List.take_add_one, map_at he]
    simp [liftE, encEn, bareN]
   refine AW.rE (by rfl) fun K hK => ?_
   simp -implicitDefEqProofs only [go_sem, ↓reduceIte, Nat.reduceAdd, Nat.reduceEqDiff, w1]
   refine hK _ ?_; clear hK K
   refine ⟨i + 1, by omega, by omega, ?_⟩
   show Ghost _ _ (bx t (i + 1))
   simp only [bx, cellsT]
   rw [← e8]
   refine Ghost.ent (fun l => if l = 3 then 9 else l) ?_ ?_ ?_ <;> simp -implicitDefEqProofs only [go_sem, ↓reduceIte, Nat.reduceEqDiff, reduceCtorEq, List.forall_mem_cons, List.not_mem_nil, false_implies, implies_true, and_self, map_renL_lift, labsIn_lift, List.all_append, List.all_cons, List.all_nil, List.map_append, Nat.reduceLT, labsInL, AV.labsIn]
   all_goals first | rfl | skip
 ·have hc1 : ((i : Int) < (t.ents.length : Int)) = False := by simp; omega
  have hi' : i = t.ents.length := by omega
  subst hi'
  refine AW.rT (by rfl) fun K hK => ?_
  simp -implicitDefEqProofs only [go_sem, ↓reduceIte, Nat.reduceAdd, Nat.reduceEqDiff, List.length_map, hc1]
  refine hK _ ?_; clear hK K
  refine AW.cond _ (by simp -implicitDefEqProofs only [go_sem]; rfl) (fun hc => ?_) (fun hc => ?_)
  ·simp at hc
  refine AW.exit ?_
  simp only [andThen, inBlk, ↓reduceIte]
  refine AW.ghost (s' := bw t) (Ghost.trans (Ghost.freeze (lb := 3) (ps := ((t.ents.map bareN).take t.ents.length).map encEn) rfl (unlift_liftE _)) ?_) ?_
  ·rw [List.take_of_length_le (by simp)]
   simp only [bw]
   refine Ghost.sub ?_ ?_ <;> simp -implicitDefEqProofs only [go_sem, ↓reduceIte, Nat.reduceEqDiff, reduceCtorEq, thaw, thaw1, Option.map_some, List.map_cons, List.map_nil, List.forall_mem_cons, List.not_mem_nil, false_implies, implies_true, and_self, List.all_cons, List.all_nil, Nat.reduceLT, labsInL, AV.labsIn]
   done
  simp only [bw]
  refine AW.rT (by rfl) fun K hK => ?_
  simp -implicitDefEqProofs only [go_sem, ↓reduceIte, Nat.reduceAdd, Nat.reduceEqDiff, Nat.reduceLeDiff]
  refine hK _ ?_; clear hK K
  refine AW.ret ?_
  simp -implicitDefEqProofs only [go_sem, ↓reduceIte, Nat.reduceAdd, Nat.reduceEqDiff, Nat.reduceLeDiff, bare_enc]
  done
end Go.Aw.T
namespace Go.Aw.T
open Go.Proofs
set_option linter.unusedSimpArgs false
set_option linter.unusedVariables false
def cx (t : Tr) (i : Nat) (l : List (Nat × AV)) (h : List (Nat × Blk)) (n : Nat) : St := ⟨ofL ((1, .ptr 0 0 0) :: (2, .ptr 1 0 0) :: (3, .own 2) :: (11, .p (.slice (t.ents.map encEn))) :: (12, .p (.int .i64 (t.ents.length : Int))) :: (13, .p (.int .i64 (i : Int))) :: l),
 ofH ((0, .row 5 [[.p (.int .i64 t.kind), .p (.int .i64 t.n), .p (.str t.s), .p (.slice (t.ents.map encEn)), .ex []]]) :: (1, .row 5 [[.p (.int .i64 0), .p (.int .i64 0), .p (.str []), .ex [], .ex []]]) ::
  (2, .row 2 (liftE (((t.ents.map bareN).take i).map encEn))) :: h), n⟩
def cyL (e : Int × List Tr) (k : Nat) : List (Nat × AV) := [(6, .ptr 3 0 0), (21, .p (.slice (e.2.map encTr))), (22, .p (.int .i64 (e.2.length : Int))), (23, .p (.int .i64 (k : Int)))]
def cyH (e : Int × List Tr) (k : Nat) : List (Nat × Blk) := [(3, .row 2 [[.p (.int .i64 e.1), .own 4]]), (4, .row 5 (liftE (((e.2.map bareT).take k).map encTr)))]
def czH (e : Int × List Tr) : List (Nat × Blk) := [(3, .row 2 [[.p (.int .i64 e.1), .p (.slice ((e.2.map bareT).map encTr))]])]
def cw (t : Tr) : St := ⟨ofL [(1, .ptr 0 0 0), (2, .ptr 1 0 0), (3, .p (.slice ((t.ents.map bareN).map encEn)))],
 ofH [(0, .row 5 [[.p (.int .i64 t.kind), .p (.int .i64 t.n), .p (.str t.s), .p (.slice (t.ents.map encEn)), .ex []]]), (1, .row 5 [[.p (.int .i64 0), .p (.int .i64 0), .p (.str []), .ex [], .ex []]])], 3⟩
set_option maxRecDepth 100000 in
set_option maxHeartbeats 4000000 in
theorem valid_Bare : ∀ (t : Tr), lensT t = true → PFn Tryd.prog 39 [.agg (encTr t)] (.agg (encTr (bareT t))) := by
 intro t
 induction h : SizeOf.sizeOf t using Nat.strongRecOn generalizing t with
 | _ sz ih =>
 subst h
 intro hlt
 obtain ⟨la1, la2, la3⟩ := lensT_mk hlt
 refine PFn.of Tryd.func39 rfl (by decide) Tryd.ntmps39 Tryd.results39 (Nat.le_of_ble_eq_true rfl) ?_
 simp only [argsT]
 refine AW.rT (by rfl) fun K hK => ?_
 simp -implicitDefEqProofs only [go_sem, Nat.reduceAdd, encTr_eq]
 refine hK _ ?_; clear hK K
 refine AW.rT (by rfl) fun K hK => ?_
 simp -implicitDefEqProofs only [go_sem, ↓reduceIte, Nat.reduceAdd, Nat.reduceEqDiff, Nat.reduceLeDiff, reduceCtorEq, List.set_cons_zero]
 refine hK _ ?_; clear hK K
 refine AW.rT (by rfl) fun K hK => ?_
 simp -implicitDefEqProofs only [go_sem, Nat.reduceAdd]
 refine hK _ ?_; clear hK K
 refine AW.seq ?_
 refine AW.rT (by rfl) fun K hK => ?_
 simp -implicitDefEqProofs only [go_sem, ↓reduceIte, Nat.reduceAdd, Nat.reduceEqDiff, List.length_map]
 refine hK _ ?_; clear hK K
 refine AW.block ?_
 refine AW.loop (fun i => cx t i [] [] 3) (fun i => i ≤ t.ents.length) (fun i => t.ents.length - i) 0 ?_ (by simp) fun i hi => ?_
 ·refine Ghost.trans (Ghost.nil (t := 3) (sz := 2) rfl) ?_
  simp only [cx]
  refine Ghost.ent (fun l => if l = 2 then 9 else l) ?_ ?_ ?_ <;> simp -implicitDefEqProofs only [go_sem, ↓reduceIte, Nat.reduceEqDiff, reduceCtorEq, List.take_zero, List.map_nil, liftE_nil, List.forall_mem_cons, List.not_mem_nil, false_implies, implies_true, and_self, List.all_cons, List.all_nil, Nat.reduceLT, labsInL, AV.labsIn]
  all_goals first | rfl | simp | skip
 simp only [cx]
 by_cases hil : i < t.ents.length
 ·obtain ⟨e, he⟩ : ∃ e, t.ents[i]? = some e := ⟨_, List.getElem?_eq_getElem hil⟩
  have ⟨he1, he2, he3⟩ := at_map' encEn he
  have ⟨le1, le2⟩ := lensE_at la3 he
  have hc1 : ((i : Int) < (t.ents.length : Int)) = True := by simp; omega
  refine AW.rT (by rfl) fun K hK => ?_
  simp -implicitDefEqProofs only [go_sem, ↓reduceIte, Nat.reduceAdd, Nat.reduceEqDiff, hc1]
  refine hK _ ?_; clear hK K
  refine AW.seq ?_
  refine AW.cond _ (by simp -implicitDefEqProofs only [go_sem]; rfl) (fun hc => ?_) (fun hc => ?_)
  rotate_left
  ·simp at hc
  refine AW.skip ?_
  simp only [andThen]
  refine AW.seq ?_
  refine AW.block ?_
  refine AW.rT (by rfl) fun K hK => ?_
  simp -implicitDefEqProofs only [go_sem, ↓reduceIte, Nat.reduceAdd, Nat.reduceEqDiff, Nat.reduceLeDiff, he1, he3, hc1, encEn, List.length_map]
  refine hK _ ?_; clear hK K
  refine AW.rT (by rfl) fun K hK => ?_
  simp -implicitDefEqProofs only [go_sem, ↓reduceIte, Nat.reduceAdd, Nat.reduceEqDiff, Nat.reduceLeDiff]
  refine hK _ ?_; clear hK K
  refine AW.seq ?_
  refine AW.rT (by rfl) fun K hK => ?_
  simp -implicitDefEqProofs only [go_sem, ↓reduceIte, Nat.reduceAdd, Nat.reduceEqDiff, List.length_map]
  refine hK _ ?_; clear hK K
  refine AW.block ?_
  refine AW.loop (fun k => cx t i (cyL e k) (cyH e k) 5) (fun k => k ≤ e.2.length) (fun k => e.2.length - k) 0 ?_ (by simp) fun k hk => ?_
  ·refine Ghost.trans (Ghost.nilH (l := 11) (i := 0) (j := 1) (sz' := 5) rfl rfl rfl) ?_
   simp only [cx, cyL, cyH]
   refine Ghost.ent (fun l => if l = 3 then 11 else if l = 4 then 17 else l) ?_ ?_ ?_ <;> simp -implicitDefEqProofs only [go_sem, ↓reduceIte, Nat.reduceEqDiff, reduceCtorEq, List.take_zero, List.map_nil, liftE_nil, List.set_cons_zero, List.set_cons_succ, List.forall_mem_cons, List.not_mem_nil, false_implies, implies_true, and_self, map_renL_lift, labsIn_lift, List.all_cons, List.all_nil, Nat.reduceLT, labsInL, AV.labsIn]
   all_goals first | rfl | simp | skip
  simp only [cx, cyL, cyH]
  by_cases hkl : k < e.2.length
  ·obtain ⟨x, hx⟩ : ∃ x, e.2[k]? = some x := ⟨_, List.getElem?_eq_getElem hkl⟩
   have ⟨hx1, hx2, hx3⟩ := at_map' encTr hx
   have hc2 : ((k : Int) < (e.2.length : Int)) = True := by simp; omega
   have IH := ih _ (size_ent he hx) x rfl (lensTs_at le2 hx)
   rw [encTr_eq x, bare_enc] at IH
   refine AW.rT (by rfl) fun K hK => ?_
   simp -implicitDefEqProofs only [go_sem, ↓reduceIte, Nat.reduceAdd, Nat.reduceEqDiff, hc2]
   refine hK _ ?_; clear hK K
   refine AW.seq ?_
   refine AW.cond _ (by simp -implicitDefEqProofs only [go_sem]; rfl) (fun hc => ?_) (fun hc => ?_)
   rotate_left
   ·simp at hc
   refine AW.skip ?_
   simp only [andThen]
   refine AW.seq ?_
   refine AW.block ?_
   refine AW.rT (by rfl) fun K hK => ?_
   simp -implicitDefEqProofs only [go_sem, ↓reduceIte, Nat.reduceAdd, Nat.reduceEqDiff, Nat.reduceLeDiff, hc2, hx1, hx3, encTr_eq, List.length_map]
   refine hK _ ?_; clear hK K
   refine AW.dE mixed (by rfl) (by decide +kernel) fun K hK => ?_
   simp -implicitDefEqProofs only [go_sem, ↓reduceIte, Nat.reduceAdd, Nat.reduceEqDiff, Nat.reduceLeDiff, reduceCtorEq]
   refine ⟨.pure _, IH, ?_⟩
   try simp -implicitDefEqProofs only [go_sem, ↓reduceIte, Nat.reduceAdd, Nat.reduceMul, Nat.reduceEqDiff, Nat.reduceLeDiff, reduceCtorEq]
   refine ⟨⟨by simp, by simp [oneAll, AV.one, PV.one], by simp⟩, by simp [liftE_length]; omega, by decide +kernel, ?_⟩
   refine hK _ ?_; clear hK K
   simp only [andThen, inBlk]
   have w1 : IntKind.wrap .i64 ((k : Int) + 1) = ((k + 1 : Nat) : Int) := by rw [w64] <;> omega
   have e7 : liftE (((e.2.map bareT).take k).map encTr) ++ [[AV.p (.int .i64 x.kind), .p (.int .i64 x.n), .p (.str x.s), .p (.slice ((x.ents.map bareN).map encEn)), .p (.slice [])]] = liftE (((e.2.map bareT).take (k + 1)).map encTr) := by
    rw [List.take_add_one, map_at hx]
    simp [liftE, bare_enc]
   refine AW.rE (by rfl) fun K hK => ?_
   simp -implicitDefEqProofs only [go_sem, ↓reduceIte, Nat.reduceAdd, Nat.reduceEqDiff, w1]
   refine hK _ ?_; clear hK K
   refine ⟨k + 1, by omega, by omega, ?_⟩
   show Ghost _ _ (cx t i (cyL e (k + 1)) (cyH e (k + 1)) 5)
   simp only [cx, cyL, cyH]
   rw [← e7]
   refine Ghost.ent (fun l => if l = 4 then 15 else l) ?_ ?_ ?_ <;> simp -implicitDefEqProofs only [go_sem, ↓reduceIte, Nat.reduceEqDiff, reduceCtorEq, List.forall_mem_cons, List.not_mem_nil, false_implies, implies_true, and_self, map_renL_lift, labsIn_lift, List.all_append, List.all_cons, List.all_nil, List.map_append, Nat.reduceLT, labsInL, AV.labsIn]
   all_goals first | rfl | skip
  ·have hc2 : ((k : Int) < (e.2.length : Int)) = False := by simp; omega
   have hk' : k = e.2.length := by omega
   subst hk'
   refine AW.rT (by rfl) fun K hK => ?_
   simp -implicitDefEqProofs only [go_sem, ↓reduceIte, Nat.reduceAdd, Nat.reduceEqDiff, hc2]
   refine hK _ ?_; clear hK K
   refine AW.seq ?_
   refine AW.cond _ (by simp -implicitDefEqProofs only [go_sem]; rfl) (fun hc => ?_) (fun hc => ?_)
   ·simp at hc
   refine AW.exit ?_
   simp only [andThen, inBlk, ↓reduceIte]
   refine AW.ghost (s' := cx t i [(6, .ptr 3 0 0)] (czH e) 4) (Ghost.trans (Ghost.freeze (lb := 4) (ps := ((e.2.map bareT).take e.2.length).map encTr) rfl (unlift_liftE _)) ?_) ?_
   ·rw [List.take_of_length_le (by simp)]
    simp only [cx, czH]
    refine Ghost.sub ?_ ?_ <;> simp -implicitDefEqProofs only [go_sem, ↓reduceIte, Nat.reduceEqDiff, reduceCtorEq, thaw, thaw1, Option.map_some, List.map_cons, List.map_nil, thaw_lift, List.forall_mem_cons, List.not_mem_nil, false_implies, implies_true, and_self, labsIn_lift, List.all_cons, List.all_nil, Nat.reduceLT, labsInL, AV.labsIn]
    done
   simp only [cx, czH]
   refine AW.rE (by rfl) fun K hK => ?_
   simp -implicitDefEqProofs only [go_sem, ↓reduceIte, Nat.reduceAdd, Nat.reduceMul, Nat.reduceEqDiff, Nat.reduceLeDiff, reduceCtorEq]
   refine ⟨⟨by simp, by simp [oneAll, AV.one, PV.one], by simp⟩, by simp [liftE_length]; omega, ?_⟩
   refine hK _ ?_; clear hK K
   simp only [andThen, inBlk]
   have w1 : IntKind.wrap .i64 ((i : Int) + 1) = ((i + 1 : Nat) : Int) := by rw [w64] <;> omega
   have e8 : liftE (((t.ents.map bareN).take i).map encEn) ++ [[AV.p (.int .i64 e.1), .p (.slice ((e.2.map bareT).map encTr))]] = liftE (((t.ents.map bareN).take (i + 1)).map encEn) := by
    rw [List.take_add_one, map_at he]
    simp [liftE, encEn, bareN]
   refine AW.rE (by rfl) fun K hK => ?_
   simp -implicitDefEqProofs only [go_sem, ↓reduceIte, Nat.reduceAdd, Nat.reduceEqDiff, w1]
   refine hK _ ?_; clear hK K
   refine ⟨i + 1, by omega, by omega, ?_⟩
   show Ghost _ _ (cx t (i + 1) [] [] 3)
   simp only [cx]
   rw [← e8]
   refine Ghost.ent (fun l => if l = 2 then 7 else l) ?_ ?_ ?_ <;> simp -implicitDefEqProofs only [go_sem, ↓reduceIte, Nat.reduceEqDiff, reduceCtorEq, List.forall_mem_cons, List.not_mem_nil, false_implies, implies_true, and_self, map_renL_lift, labsIn_lift, List.all_append, List.all_cons, List.all_nil, List.map_append, Nat.reduceLT, labsInL, AV.labsIn]
   all_goals first | rfl | skip
 ·have hc1 : ((i : Int) < (t.ents.length : Int)) = False := by simp; omega
  have hi' : i = t.ents.length := by omega
  subst hi'
  refine AW.rT (by rfl) fun K hK => ?_
  simp -implicitDefEqProofs only [go_sem, ↓reduceIte, Nat.reduceAdd, Nat.reduceEqDiff, hc1]
  refine hK _ ?_; clear hK K
  refine AW.seq ?_
  refine AW.cond _ (by simp -implicitDefEqProofs only [go_sem]; rfl) (fun hc => ?_) (fun hc => ?_)
  ·simp at hc
  refine AW.exit ?_
  simp only [andThen, inBlk, ↓reduceIte]
  refine AW.ghost (s' := cw t) (Ghost.trans (Ghost.freeze (lb := 2) (ps := ((t.ents.map bareN).take t.ents.length).map encEn) rfl (unlift_liftE _)) ?_) ?_
  ·rw [List.take_of_length_le (by simp)]
   simp only [cw]
   refine Ghost.sub ?_ ?_ <;> simp -implicitDefEqProofs only [go_sem, ↓reduceIte, Nat.reduceEqDiff, reduceCtorEq, thaw, thaw1, Option.map_some, List.map_cons, List.map_nil, List.forall_mem_cons, List.not_mem_nil, false_implies, implies_true, and_self, List.all_cons, List.all_nil, Nat.reduceLT, labsInL, AV.labsIn]
   done
  simp only [cw]
  refine AW.rT (by rfl) fun K hK => ?_
  simp -implicitDefEqProofs only [go_sem, ↓reduceIte, Nat.reduceAdd, Nat.reduceEqDiff, Nat.reduceLeDiff, List.set_cons_zero]
  refine hK _ ?_; clear hK K
  refine AW.rT (by rfl) fun K hK => ?_
  simp -implicitDefEqProofs only [go_sem, ↓reduceIte, Nat.reduceAdd, Nat.reduceEqDiff, Nat.reduceLeDiff]
  refine hK _ ?_; clear hK K
  refine AW.ret ?_
  simp -implicitDefEqProofs only [go_sem, ↓reduceIte, Nat.reduceAdd, Nat.reduceEqDiff, Nat.reduceLeDiff, bare_enc]
  done
end Go.Aw.T
namespace Go.Aw.T
open Go.Proofs
set_option linter.unusedSimpArgs false
set_option linter.unusedVariables false
theorem lensTs_iff : ∀ {l : List Tr}, lensTs l = true ↔ ∀ x ∈ l, lensT x = true
 | [] => by simp [lensTs]
 | x :: l => by rw [lensTs, Bool.and_eq_true, lensTs_iff]; simp
theorem lensE_iff : ∀ {es : List (Int × List Tr)}, lensE es = true ↔ ∀ e ∈ es, e.2.length ≤ 1000 ∧ lensTs e.2 = true
 | [] => by simp [lensE]
 | (g, l) :: es => by
  rw [lensE, Bool.and_eq_true, Bool.and_eq_true, decide_eq_true_eq, lensE_iff]
  simp
theorem bare_lens : ∀ (t : Tr), lensT t = true → lensT (bareT t) = true := by
 intro t
 induction h : SizeOf.sizeOf t using Nat.strongRecOn generalizing t with
 | _ sz ih =>
 subst h
 intro hl
 obtain ⟨l1, l2, l3⟩ := lensT_mk hl
 rw [bareT_mk, lensT]
 simp only [List.length_nil, Nat.zero_le, decide_true, Bool.true_and, Bool.and_eq_true, decide_eq_true_eq, List.length_map]
 refine ⟨l2, lensE_iff.2 fun e he => ?_⟩
 obtain ⟨e, hm, rfl⟩ := List.mem_map.1 he
 obtain ⟨a1, a2⟩ := lensE_iff.1 l3 e hm
 refine ⟨by simpa using a1, lensTs_iff.2 fun x hx => ?_⟩
 simp only at hx
 obtain ⟨x, hn, rfl⟩ := List.mem_map.1 hx
 obtain ⟨i, hi⟩ := List.getElem?_of_mem hm
 obtain ⟨j, hj⟩ := List.getElem?_of_mem hn
 exact ih _ (size_ent hi hj) x rfl (lensTs_iff.1 a2 x hn)
theorem eqB (b : Bool) : EqP Tryd.prog 4 (.bool b) (.bool b) true := by
 have := eqP_bool b b
 rwa [beq_self_eq_true] at this
theorem same_self (t : Tr) : sameT t t = true := (sameT_iff t t).2 rfl
theorem same_of {a b : Tr} {f : FuncId} (h : PFn Tryd.prog f [.agg (encTr a), .agg (encTr b)] (.bool (sameT a b))) (e : a = b) : PFn Tryd.prog f [.agg (encTr a), .agg (encTr b)] (.bool true) := by
 rw [e] at h ⊢
 rwa [same_self] at h
def vo (S : Sc) (t : Tr) (l : List Tr) (i : Nat) : St := ⟨ofL [(8, .ptr 1 0 0), (14, .ptr 4 0 0), (15, .p (.slice (l.map encTr))), (17, .p (.slice (l.map encTr))), (19, .p (.int .i64 (i : Int)))], ofH [(1, .row 5 [cellsT t]), (4, .row 5 [cellsT t])], 5⟩
set_option maxRecDepth 100000 in
set_option maxHeartbeats 8000000 in
theorem law10_ValidAll (S : Sc) (k : List UInt8) (t : Tr) (g : Int) (y : Ty) (n : Int) (B : bigS S) : PFn Tryd.prog 7 [.agg (encSc S), .str k, .agg (encTr t), .int .i64 g, .agg (encTy y), .int .i64 n] (.bool true) := by
 have CF := law00_Few S B
 have CS := law00_Small t
 simp only [encSc, encTr_eq] at CF CS
 refine PFn.of Tryd.func7 rfl (by decide) Tryd.ntmps7 Tryd.results7 (Nat.le_of_ble_eq_true rfl) ?_
 simp only [argsT]
 refine AW.rT (by rfl) fun K hK => ?_
 simp -implicitDefEqProofs only [go_sem, ↓reduceIte, Nat.reduceAdd, Nat.reduceEqDiff, reduceCtorEq, encSc, encTr_eq, encTy]
 refine hK _ ?_; clear hK K
 refine AW.seq ?_
 cases hf : fewB S with
 | false =>
  rw [hf] at CF
  refine AW.rT (by rfl) fun K hK => ?_
  simp -implicitDefEqProofs only [go_sem, ↓reduceIte, Nat.reduceAdd, Nat.reduceEqDiff, Nat.reduceLeDiff, reduceCtorEq]
  refine ⟨.pure _, CF, ?_⟩
  try simp -implicitDefEqProofs only [go_sem, ↓reduceIte, Nat.reduceAdd, Nat.reduceEqDiff]
  refine hK _ ?_; clear hK K
  refine AW.cond _ (by simp -implicitDefEqProofs only [go_sem]; rfl) (fun hc => ?_) (fun hc => ?_)
  rotate_left
  ·simp at hc
  refine AW.rT (by rfl) fun K hK => ?_
  simp -implicitDefEqProofs only [go_sem]
  refine ⟨.pure _, law10_awake, ?_⟩
  try simp -implicitDefEqProofs only [go_sem, Nat.reduceAdd]
  refine hK _ ?_; clear hK K
  refine AW.ret ?_
  simp -implicitDefEqProofs only [go_sem]
 | true =>
 rw [hf] at CF
 cases hs : smallB t with
 | false =>
  rw [hs] at CS
  refine AW.rT (by rfl) fun K hK => ?_
  simp -implicitDefEqProofs only [go_sem, ↓reduceIte, Nat.reduceAdd, Nat.reduceEqDiff, Nat.reduceLeDiff, reduceCtorEq]
  refine ⟨.pure _, CF, ?_⟩
  try simp -implicitDefEqProofs only [go_sem, ↓reduceIte, Nat.reduceAdd, Nat.reduceEqDiff, Nat.reduceLeDiff]
  refine ⟨.pure _, CS, ?_⟩
  try simp -implicitDefEqProofs only [go_sem, ↓reduceIte, Nat.reduceAdd, Nat.reduceEqDiff]
  refine hK _ ?_; clear hK K
  refine AW.cond _ (by simp -implicitDefEqProofs only [go_sem]; rfl) (fun hc => ?_) (fun hc => ?_)
  rotate_left
  ·simp at hc
  refine AW.rT (by rfl) fun K hK => ?_
  simp -implicitDefEqProofs only [go_sem]
  refine ⟨.pure _, law10_awake, ?_⟩
  try simp -implicitDefEqProofs only [go_sem, Nat.reduceAdd]
  refine hK _ ?_; clear hK K
  refine AW.ret ?_
  simp -implicitDefEqProofs only [go_sem]
 | true =>
 rw [hs] at CS
 by_cases hy : y.name.length > 200
 ·have b1 : ((y.name.length : Int) > 200) = True := eq_true (by omega)
  refine AW.rT (by rfl) fun K hK => ?_
  simp -implicitDefEqProofs only [go_sem, ↓reduceIte, Nat.reduceAdd, Nat.reduceEqDiff, Nat.reduceLeDiff, reduceCtorEq]
  refine ⟨.pure _, CF, ?_⟩
  try simp -implicitDefEqProofs only [go_sem, ↓reduceIte, Nat.reduceAdd, Nat.reduceEqDiff, Nat.reduceLeDiff]
  refine ⟨.pure _, CS, ?_⟩
  try simp -implicitDefEqProofs only [go_sem, ↓reduceIte, Nat.reduceAdd, Nat.reduceEqDiff, b1]
  refine hK _ ?_; clear hK K
  refine AW.cond _ (by simp -implicitDefEqProofs only [go_sem]; rfl) (fun hc => ?_) (fun hc => ?_)
  rotate_left
  ·simp at hc
  refine AW.rT (by rfl) fun K hK => ?_
  simp -implicitDefEqProofs only [go_sem]
  refine ⟨.pure _, law10_awake, ?_⟩
  try simp -implicitDefEqProofs only [go_sem, Nat.reduceAdd]
  refine hK _ ?_; clear hK K
  refine AW.ret ?_
  simp -implicitDefEqProofs only [go_sem]
 have b1 : ((y.name.length : Int) > 200) = False := eq_false (by omega)
 refine AW.rT (by rfl) fun K hK => ?_
 simp -implicitDefEqProofs only [go_sem, ↓reduceIte, Nat.reduceAdd, Nat.reduceEqDiff, Nat.reduceLeDiff, reduceCtorEq]
 refine ⟨.pure _, CF, ?_⟩
 try simp -implicitDefEqProofs only [go_sem, ↓reduceIte, Nat.reduceAdd, Nat.reduceEqDiff, Nat.reduceLeDiff]
 refine ⟨.pure _, CS, ?_⟩
 try simp -implicitDefEqProofs only [go_sem, ↓reduceIte, Nat.reduceAdd, Nat.reduceEqDiff, b1]
 refine hK _ ?_; clear hK K
 refine AW.cond _ (by simp -implicitDefEqProofs only [go_sem]; rfl) (fun hc => ?_) (fun hc => ?_)
 ·simp at hc
 refine AW.skip ?_
 simp only [andThen]
 have F := few_spec hf
 have L := F.lens
 have hl : lensT t = true := lens_small t 0 0 hs
 have hst : strT t = true := str_small t 0 0 hs
 obtain ⟨la1, la2, la3⟩ := lensT_mk hl
 have C1 := law00_Schema S F
 have C2 := law00_Tree t hl
 have C3 := valid_Valid S k t L hl hst
 have C4 := ref10_Valid S k t L hl hst
 have C5 := valid_Number y n
 have C6 := ref10_Number y n
 have C7 := valid_Zero t
 have C8 := ref10_Zero t
 have C9 := valid_Bare t hl
 have C10 := ref10_Bare t hl
 have C11 := same_of (ref09_Same (bareT t) (bareT t) (bare_lens t hl)) rfl
 have C12 := same_of (ref09_Same t t hl) rfl
 have C13 := ref07_Check S L
 have C14 := ref_Check t hl
 have CG := fun h0 : checkC S = 0 => valid_Get S k t g (siz_right (right_of h0)) hl
 have CH := fun h0 : checkC S = 0 => ref10_Get S k t g (siz_right (right_of h0)) (flds_all (right_of h0)) hl
 rw [bare_enc] at C11
 generalize numV y n = nv at C5 C6
 generalize zeroV t = zv at C7 C8
 generalize validV S k t = vv at C3 C4
 simp only [encSc, encTr_eq t, encTy, bare_enc] at C1 C2 C3 C4 C5 C6 C7 C8 C9 C10 C11 C12 C13 C14 CG CH
 have n1 : (vv != vv) = false := by simp
 have n2 : (nv != nv) = false := by simp
 have n3 : (zv != zv) = false := by simp
 refine AW.dT mixed (by rfl) (by decide +kernel) fun K hK => ?_
 simp -implicitDefEqProofs only [go_sem, ↓reduceIte, Nat.reduceAdd, Nat.reduceEqDiff, Nat.reduceLeDiff, reduceCtorEq]
 refine ⟨.pure _, C1, ?_⟩
 try simp -implicitDefEqProofs only [go_sem, ↓reduceIte, Nat.reduceAdd, Nat.reduceEqDiff, Nat.reduceLeDiff]
 refine ⟨.pure _, C2, ?_⟩
 try simp -implicitDefEqProofs only [go_sem, ↓reduceIte, Nat.reduceAdd, Nat.reduceEqDiff, Nat.reduceLeDiff]
 refine ⟨by decide +kernel, ?_⟩
 refine hK _ ?_; clear hK K
 refine AW.seq ?_
 refine AW.dT mixed (by rfl) (by decide +kernel) fun K hK => ?_
 simp -implicitDefEqProofs only [go_sem, ↓reduceIte, Nat.reduceAdd, Nat.reduceEqDiff, Nat.reduceLeDiff]
 refine ⟨.pure _, C3, ?_⟩
 try simp -implicitDefEqProofs only [go_sem, ↓reduceIte, Nat.reduceAdd, Nat.reduceEqDiff, Nat.reduceLeDiff, reduceCtorEq]
 refine ⟨.pure _, C4, ?_⟩
 try simp -implicitDefEqProofs only [go_sem, ↓reduceIte, Nat.reduceAdd, Nat.reduceEqDiff, Nat.reduceLeDiff, reduceCtorEq, n1]
 refine ⟨.pure _, C5, ?_⟩
 try simp -implicitDefEqProofs only [go_sem, ↓reduceIte, Nat.reduceAdd, Nat.reduceEqDiff, Nat.reduceLeDiff, reduceCtorEq]
 refine ⟨.pure _, C6, ?_⟩
 try simp -implicitDefEqProofs only [go_sem, ↓reduceIte, Nat.reduceAdd, Nat.reduceEqDiff]
 refine ⟨true, eqB nv, ?_⟩
 try simp -implicitDefEqProofs only [go_sem, ↓reduceIte, Nat.reduceAdd, Nat.reduceEqDiff, Nat.reduceLeDiff, Bool.not_true]
 refine ⟨.pure _, C7, ?_⟩
 try simp -implicitDefEqProofs only [go_sem, ↓reduceIte, Nat.reduceAdd, Nat.reduceEqDiff, Nat.reduceLeDiff]
 refine ⟨.pure _, C8, ?_⟩
 try simp -implicitDefEqProofs only [go_sem, ↓reduceIte, Nat.reduceAdd, Nat.reduceEqDiff]
 refine ⟨true, eqB zv, ?_⟩
 try simp -implicitDefEqProofs only [go_sem, ↓reduceIte, Nat.reduceAdd, Nat.reduceEqDiff, Nat.reduceLeDiff, Bool.not_true]
 refine ⟨.pure _, C9, ?_⟩
 try simp -implicitDefEqProofs only [go_sem, ↓reduceIte, Nat.reduceAdd, Nat.reduceEqDiff, Nat.reduceLeDiff]
 refine ⟨.pure _, C10, ?_⟩
 try simp -implicitDefEqProofs only [go_sem, ↓reduceIte, Nat.reduceAdd, Nat.reduceEqDiff]
 refine ⟨.pure _, C11, ?_⟩
 try simp -implicitDefEqProofs only [go_sem, ↓reduceIte, Nat.reduceAdd, Nat.reduceEqDiff]
 refine ⟨heapOK_nil rfl, ?_⟩
 refine hK _ ?_; clear hK K
 refine AW.cond _ (by simp -implicitDefEqProofs only [go_sem]; rfl) (fun hc => ?_) (fun hc => ?_)
 ·simp at hc
 refine AW.skip ?_
 simp only [andThen]
 refine AW.seq ?_
 by_cases h0 : checkC S = 0
 case neg =>
  have b0 : (checkC S != 0) = true := by simpa using h0
  refine AW.rT (by rfl) fun K hK => ?_
  simp -implicitDefEqProofs only [go_sem, ↓reduceIte, Nat.reduceAdd, Nat.reduceEqDiff, Nat.reduceLeDiff, reduceCtorEq]
  refine ⟨.pure _, C13, ?_⟩
  try simp -implicitDefEqProofs only [go_sem, ↓reduceIte, Nat.reduceAdd, Nat.reduceEqDiff, b0]
  refine hK _ ?_; clear hK K
  refine AW.cond _ (by simp -implicitDefEqProofs only [go_sem]; rfl) (fun hc => ?_) (fun hc => ?_)
  rotate_left
  ·simp at hc
  refine AW.rT (by rfl) fun K hK => ?_
  simp -implicitDefEqProofs only [go_sem]
  refine ⟨.pure _, law10_awake, ?_⟩
  try simp -implicitDefEqProofs only [go_sem, Nat.reduceAdd]
  refine hK _ ?_; clear hK K
  refine AW.ret ?_
  simp -implicitDefEqProofs only [go_sem]
 have b0 : (checkC S != 0) = false := by simp [h0]
 have CG := CG h0
 have CH := CH h0
 cases ho : okT t with
 | false =>
  rw [ho] at C14
  refine AW.rT (by rfl) fun K hK => ?_
  simp -implicitDefEqProofs only [go_sem, ↓reduceIte, Nat.reduceAdd, Nat.reduceEqDiff, Nat.reduceLeDiff, reduceCtorEq]
  refine ⟨.pure _, C13, ?_⟩
  try simp -implicitDefEqProofs only [go_sem, ↓reduceIte, Nat.reduceAdd, Nat.reduceEqDiff, Nat.reduceLeDiff, b0]
  refine ⟨.pure _, C14, ?_⟩
  try simp -implicitDefEqProofs only [go_sem, ↓reduceIte, Nat.reduceAdd, Nat.reduceEqDiff]
  refine hK _ ?_; clear hK K
  refine AW.cond _ (by simp -implicitDefEqProofs only [go_sem]; rfl) (fun hc => ?_) (fun hc => ?_)
  rotate_left
  ·simp at hc
  refine AW.rT (by rfl) fun K hK => ?_
  simp -implicitDefEqProofs only [go_sem]
  refine ⟨.pure _, law10_awake, ?_⟩
  try simp -implicitDefEqProofs only [go_sem, Nat.reduceAdd]
  refine hK _ ?_; clear hK K
  refine AW.ret ?_
  simp -implicitDefEqProofs only [go_sem]
 | true =>
 rw [ho] at C14
 refine AW.rT (by rfl) fun K hK => ?_
 simp -implicitDefEqProofs only [go_sem, ↓reduceIte, Nat.reduceAdd, Nat.reduceEqDiff, Nat.reduceLeDiff, reduceCtorEq]
 refine ⟨.pure _, C13, ?_⟩
 try simp -implicitDefEqProofs only [go_sem, ↓reduceIte, Nat.reduceAdd, Nat.reduceEqDiff, Nat.reduceLeDiff, b0]
 refine ⟨.pure _, C14, ?_⟩
 try simp -implicitDefEqProofs only [go_sem, ↓reduceIte, Nat.reduceAdd, Nat.reduceEqDiff]
 refine hK _ ?_; clear hK K
 refine AW.cond _ (by simp -implicitDefEqProofs only [go_sem]; rfl) (fun hc => ?_) (fun hc => ?_)
 ·simp at hc
 refine AW.skip ?_
 simp only [andThen]
 have hgl : (getV S k t g).1.length ≤ 1000 ∧ ∀ x ∈ (getV S k t g).1, lensT x = true := by
  unfold getV
  split
  ·simp
  split
  ·rename_i e hfi
   have := lensE_iff.1 la3 e (List.mem_of_find?_eq_some hfi)
   exact ⟨this.1, lensTs_iff.1 this.2⟩
  ·split
   ·refine ⟨by simp, fun x hx => ?_⟩
    simp only [List.mem_singleton] at hx
    subst hx
    rw [lensT, lensE]
    rfl
   ·simp
 rcases hgv : getV S k t g with ⟨l, b⟩
 rw [hgv] at CG CH hgl
 simp only at CG CH hgl
 have n4 : (b != b) = false := by simp
 have n5 : ((l.length : Int) != (l.length : Int)) = false := by simp
 refine AW.rT (by rfl) fun K hK => ?_
 simp -implicitDefEqProofs only [go_sem, ↓reduceIte, Nat.reduceAdd, Nat.reduceEqDiff, Nat.reduceLeDiff, reduceCtorEq]
 refine ⟨.pure _, CG, ?_⟩
 try simp -implicitDefEqProofs only [go_sem, ↓reduceIte, Nat.reduceAdd, Nat.reduceEqDiff]
 refine hK _ ?_; clear hK K
 refine AW.rT (by rfl) fun K hK => ?_
 simp -implicitDefEqProofs only [go_sem, ↓reduceIte, Nat.reduceAdd, Nat.reduceEqDiff, Nat.reduceLeDiff, reduceCtorEq]
 refine ⟨.pure _, CH, ?_⟩
 try simp -implicitDefEqProofs only [go_sem, ↓reduceIte, Nat.reduceAdd, Nat.reduceEqDiff]
 refine hK _ ?_; clear hK K
 refine AW.seq ?_
 refine AW.rT (by rfl) fun K hK => ?_
 simp -implicitDefEqProofs only [go_sem, ↓reduceIte, Nat.reduceAdd, Nat.reduceEqDiff]
 refine ⟨true, eqB b, ?_⟩
 try simp -implicitDefEqProofs only [go_sem, ↓reduceIte, Nat.reduceAdd, Nat.reduceEqDiff, Bool.not_true, n5, List.length_map]
 refine hK _ ?_; clear hK K
 refine AW.cond _ (by simp -implicitDefEqProofs only [go_sem]; rfl) (fun hc => ?_) (fun hc => ?_)
 ·simp at hc
 refine AW.skip ?_
 simp only [andThen]
 refine AW.seq ?_
 refine AW.rT (by rfl) fun K hK => ?_
 simp -implicitDefEqProofs only [go_sem, Nat.reduceAdd]
 refine hK _ ?_; clear hK K
 refine AW.block ?_
 refine AW.loop (fun i : Nat => vo S t l i) (fun i => i ≤ l.length) (fun i => l.length - i) 0 ?_ (by simp) fun i hi => ?_
 ·simp only [vo, cellsT]
  refine Ghost.ent (fun l => if l = 1 then 1 else if l = 4 then 23 else l) ?_ ?_ ?_ <;> simp -implicitDefEqProofs only [go_sem, ↓reduceIte, Nat.reduceEqDiff, List.forall_mem_cons, List.not_mem_nil, false_implies, implies_true, and_self, List.all_cons, List.all_nil, Nat.reduceLT, labsInL, AV.labsIn]
  all_goals first | rfl | simp | skip
 simp only [vo, cellsT]
 refine AW.seq ?_
 by_cases hil : i < l.length
 case neg =>
  have hc1 : ((i : Int) < (l.length : Int)) = False := eq_false (by omega)
  refine AW.rT (by rfl) fun K hK => ?_
  simp -implicitDefEqProofs only [go_sem, ↓reduceIte, Nat.reduceAdd, Nat.reduceEqDiff, hc1, List.length_map]
  refine hK _ ?_; clear hK K
  refine AW.cond _ (by simp -implicitDefEqProofs only [go_sem]; rfl) (fun hc => ?_) (fun hc => ?_)
  ·simp at hc
  refine AW.exit ?_
  simp only [andThen, inBlk, ↓reduceIte]
  refine AW.rT (by rfl) fun K hK => ?_
  simp -implicitDefEqProofs only [go_sem, ↓reduceIte, Nat.reduceAdd, Nat.reduceEqDiff, Nat.reduceLeDiff]
  refine ⟨.pure _, C12, ?_⟩
  try simp -implicitDefEqProofs only [go_sem, ↓reduceIte, Nat.reduceAdd]
  refine ⟨.pure _, law10_awake, ?_⟩
  try simp -implicitDefEqProofs only [go_sem, ↓reduceIte, Nat.reduceAdd, Nat.reduceEqDiff]
  refine hK _ ?_; clear hK K
  refine AW.ret ?_
  simp -implicitDefEqProofs only [go_sem]
 obtain ⟨x, hx⟩ : ∃ x, l[i]? = some x := ⟨_, List.getElem?_eq_getElem hil⟩
 have ⟨hx1, hx2, hx3⟩ := at_map' encTr hx
 have hc1 : ((i : Int) < (l.length : Int)) = True := eq_true (by omega)
 have CX := same_of (ref09_Same x x (hgl.2 x (List.mem_of_getElem? hx))) rfl
 rw [encTr_eq] at CX
 refine AW.rT (by rfl) fun K hK => ?_
 simp -implicitDefEqProofs only [go_sem, ↓reduceIte, Nat.reduceAdd, Nat.reduceEqDiff, hc1, List.length_map]
 refine hK _ ?_; clear hK K
 refine AW.cond _ (by simp -implicitDefEqProofs only [go_sem]; rfl) (fun hc => ?_) (fun hc => ?_)
 rotate_left
 ·simp at hc
 refine AW.skip ?_
 simp only [andThen]
 refine AW.seq ?_
 refine AW.block ?_
 refine AW.dT mixed (by rfl) (by decide +kernel) fun K hK => ?_
 simp -implicitDefEqProofs only [go_sem, ↓reduceIte, Nat.reduceAdd, Nat.reduceEqDiff, Nat.reduceLeDiff, hx1, hx3, hc1, encTr_eq, List.length_map]
 refine ⟨.pure _, CX, ?_⟩
 try simp -implicitDefEqProofs only [go_sem, ↓reduceIte, Nat.reduceAdd]
 refine ⟨heapOK_nil rfl, ?_⟩
 refine hK _ ?_; clear hK K
 refine AW.cond _ (by simp -implicitDefEqProofs only [go_sem]; rfl) (fun hc => ?_) (fun hc => ?_)
 ·simp at hc
 refine AW.skip ?_
 simp only [andThen, inBlk]
 have w1 : IntKind.wrap .i64 ((i : Int) + 1) = ((i + 1 : Nat) : Int) := by rw [w64] <;> omega
 refine AW.rE (by rfl) fun K hK => ?_
 simp -implicitDefEqProofs only [go_sem, ↓reduceIte, Nat.reduceAdd, Nat.reduceEqDiff, w1]
 refine hK _ ?_; clear hK K
 refine ⟨i + 1, by omega, by omega, ?_⟩
 show Ghost _ _ (vo S t l (i + 1))
 simp only [vo, cellsT]
 refine Ghost.sub ?_ ?_ <;> simp -implicitDefEqProofs only [go_sem, ↓reduceIte, Nat.reduceEqDiff, List.forall_mem_cons, List.not_mem_nil, false_implies, implies_true, and_self, List.all_cons, List.all_nil, Nat.reduceLT, labsInL, AV.labsIn]
 done
end Go.Aw.T
namespace Go.Aw.T
theorem big_of {S : Sc} (G : GSc S) : bigS S := ⟨G.name, fun m hm => (G.msgs.2 m hm).name⟩
end Go.Aw.T
namespace Go.Aw.T
open Go.RowKit Go.ChangeShapes
open Go.Proofs
variable {P : Program} {w : World}
def OpnB (B : Nat → Prop) (P : Program) (w : World) (t : TypeId) {α : Type} (e : α → List PV) (G : α → Prop) : Prop :=
 (∀ a, ∀ p ∈ e a, p.one = true) ∧ ∀ (H : Type) (enc : TypeId × Value → H) (fuel : Nat), B fuel → ∀ (cs : List Value) (d : DataW H × List MemPlace), DataW.trod enc P w 0 (fun _ => true) true fuel t cs = some d →
  ∃ a, G a ∧ cs.length = (e a).length ∧ ∀ (j : Nat) u p, cs[j]? = some u → (e a)[j]? = some p → rep w (old w) u p
theorem OpnB.mapG {B : Nat → Prop} {t : TypeId} {α β : Type} {e : α → List PV} {G : α → Prop} {e' : β → List PV} {G' : β → Prop} (h : OpnB B P w t e G) (f : α → β) (he : ∀ a, e' (f a) = e a) (h1 : ∀ b, ∀ p ∈ e' b, p.one = true) (hg : ∀ a, G a → G' (f a)) : OpnB B P w t e' G' := by
 refine ⟨h1, fun H enc fuel hB cs d hd => ?_⟩
 obtain ⟨a, g, l, r⟩ := h.2 H enc fuel hB cs d hd
 exact ⟨f a, hg a g, by rw [he]; exact l, by rw [he]; exact r⟩
theorem OpnB.mono {B B' : Nat → Prop} {t : TypeId} {α : Type} {e : α → List PV} {G : α → Prop} (h : OpnB B P w t e G) (hb : ∀ n, B' n → B n) : OpnB B' P w t e G := ⟨h.1, fun H enc fuel hB cs d hd => h.2 H enc fuel (hb _ hB) cs d hd⟩
theorem Opn.toB {B : Nat → Prop} {t : TypeId} {α : Type} {e : α → List PV} {G : α → Prop} (h : Opn P w t e G) : OpnB B P w t e G := ⟨h.1, fun H enc fuel _ cs d hd => h.2 H enc fuel cs d hd⟩
theorem opn_of_B {t : TypeId} {α : Type} {e : α → List PV} {G : α → Prop} (h : ∀ N, OpnB (fun n => n < N) P w t e G) : Opn P w t e G := ⟨(h 0).1, fun H enc fuel cs d hd => (h (fuel + 1)).2 H enc fuel (Nat.lt_succ_self _) cs d hd⟩
theorem opnB_slice {B : Nat → Prop} {t te : TypeId} {sz : Nat} {α : Type} {e : α → List PV} {G : α → Prop} (hu : P.underlying t = some (.slice te)) (hz : P.cellsOf te = sz) (hp : 0 < sz) (h : OpnB (fun n => B (n + 1)) P w te e G) (hs : ∀ a, (e a).length = sz) :
  OpnB B P w t (fun l : List α => [.slice (l.map e)]) (fun l => l.length ≤ maxLen ∧ ∀ a ∈ l, G a) := by
 refine ⟨fun a p hp => by simp at hp; subst hp; rfl, fun H enc fuel hB cs d hd => ?_⟩
 have one : ∀ (v : Value) (l : List α), rep w (old w) v (.slice (l.map e)) → ∀ (j : Nat) u p, [v][j]? = some u → ([PV.slice (l.map e)])[j]? = some p → rep w (old w) u p := by
  intro v l hr j u p h1 h2
  cases j with
  | zero => simp at h1 h2; subst h1; subst h2; exact hr
  | succ j => simp at h1
 cases fuel with
 | zero => simp [DataW.trod] at hd
 | succ n =>
  unfold DataW.trod at hd
  rw [hu] at hd
  split at hd <;> rename_i hh <;> try (cases hh; done)
  all_goals try cases hh
  ·exact ⟨[], ⟨by simp, by simp⟩, rfl, one _ [] (.empty _ _)⟩
  ·rename_i a len cap
   dsimp only at hd
   split at hd
   ·rename_i hc
    obtain ⟨_, hlc, hcm⟩ := hc
    simp only [Option.bind_eq_some_iff] at hd
    obtain ⟨els, he, _⟩ := hd
    obtain ⟨hl, hg⟩ := mapM_get he
    have each : ∀ i, i < len → ∃ x : List Value × α, w.cells? 0 (a.add (i * sz)) sz = some x.1 ∧ G x.2 ∧ x.1.length = (e x.2).length ∧ ∀ (j : Nat) u p, x.1[j]? = some u → (e x.2)[j]? = some p → rep w (old w) u p := by
     intro i hi
     obtain ⟨y, _, hy⟩ := hg i i (by simp [hi])
     obtain ⟨c, hc1, hc2⟩ := Option.bind_eq_some_iff.1 hy
     rw [hz] at hc1
     obtain ⟨b, g, l, r⟩ := h.2 H enc n hB c y hc2
     exact ⟨(c, b), hc1, g, l, r⟩
    obtain ⟨xs, hxl, hx⟩ := list_choose len each
    have hgl : (xs.map (·.2)).length ≤ maxLen ∧ ∀ b ∈ xs.map (·.2), G b := by
     refine ⟨by rw [List.length_map, hxl]; exact Nat.le_trans hlc hcm, fun b hb => ?_⟩
     obtain ⟨x, hx1, rfl⟩ := List.mem_map.1 hb
     obtain ⟨i, hi⟩ := List.getElem?_of_mem hx1
     exact (hx i x hi).2.1
    refine ⟨xs.map (·.2), hgl, rfl, one _ _ ?_⟩
    rcases Nat.eq_zero_or_pos len with h0 | h0
    ·subst h0
     have : xs = [] := List.eq_nil_of_length_eq_zero hxl
     subst this
     exact .empty _ _
    ·obtain ⟨x0, hx0⟩ : ∃ x, xs[0]? = some x := ⟨_, List.getElem?_eq_getElem (by omega)⟩
     obtain ⟨c0, _, l0, _⟩ := hx 0 x0 hx0
     obtain ⟨_, cl0, cg0⟩ := World.cells?_some c0
     have q0 := cg0 0 hp
     rw [Nat.zero_mul] at q0
     have hadd : (a.add 0).add 0 = a := by simp [Addr.add]
     rw [hadd, List.getElem?_eq_getElem (by omega)] at q0
     have hsp : a.spot = none ∧ a.block < w.heap.size := by
      unfold World.cell? at q0
      split at q0
      ·rename_i hb
       split at q0
       ·cases q0
       ·rename_i hs'
        refine ⟨by simpa using hs', ?_⟩
        rcases Nat.lt_or_ge a.block w.heap.size with h' | h'
        ·exact h'
        ·rw [Array.getElem?_eq_none h'] at hb; cases hb
      ·cases q0
     obtain ⟨b, o, sp⟩ := a
     obtain ⟨hsp, hbl⟩ := hsp
     dsimp only at hsp hbl
     subst hsp
     refine rep.slice (I := old w) b o len cap sz ((xs.map (·.2)).map e) (fun i j => ((xs.getD i ([], x0.2)).1.getD j .nilIface)) (by simp [hxl]) hlc ?_ hbl ?_ ?_ ?_
     ·intro x hx
      simp only [List.map_map, List.mem_map] at hx
      obtain ⟨y, _, rfl⟩ := hx
      exact hs _
     ·intro x hx p hp'
      simp only [List.map_map, List.mem_map] at hx
      obtain ⟨y, _, rfl⟩ := hx
      exact h.1 _ _ hp'
     ·intro i x j p hi hj
      simp only [List.map_map, List.getElem?_map, Option.map_eq_some_iff] at hi
      obtain ⟨y, hy, rfl⟩ := hi
      obtain ⟨c1, _, l1, r1⟩ := hx i y hy
      obtain ⟨_, cl1, cg1⟩ := World.cells?_some c1
      have hjl : j < sz := by rw [← hs y.2]; exact (List.getElem?_eq_some_iff.1 hj).1
      have := cg1 j hjl
      have ea : ((⟨b, o, none⟩ : Addr).add (i * sz)).add j = ⟨b, o + (i * sz + j), none⟩ := by
       unfold Addr.add
       repeat' split
       all_goals simp <;> omega
      rw [ea, List.getElem?_eq_getElem (by omega)] at this
      rw [this]
      simp [List.getD, hy, List.getElem?_eq_getElem (show j < y.1.length by omega)]
     ·intro i x j p hi hj
      simp only [List.map_map, List.getElem?_map, Option.map_eq_some_iff] at hi
      obtain ⟨y, hy, rfl⟩ := hi
      obtain ⟨c1, _, l1, r1⟩ := hx i y hy
      obtain ⟨_, cl1, cg1⟩ := World.cells?_some c1
      have hjl : j < sz := by rw [← hs y.2]; exact (List.getElem?_eq_some_iff.1 hj).1
      refine r1 j _ p ?_ hj
      simp [List.getD, hy, List.getElem?_eq_getElem (show j < y.1.length by omega)]
   ·cases hd
  all_goals cases hd
def OpnFB (B : Nat → Prop) (P : Program) (w : World) (off : Nat) (fs : List Field) {α : Type} (e : α → List PV) (G : α → Prop) : Prop :=
 (∀ a, ∀ p ∈ e a, p.one = true) ∧ (∀ a, (e a).length = (fs.map fun f => P.cellsOf f.type).sum) ∧ ∀ (H : Type) (enc : TypeId × Value → H) (n : Nat), B n → ∀ (cs : List Value) (xs : List (DataW H × List MemPlace)),
  fs.mapM (fun f => DataW.trod enc P w 0 (fun _ => true) true n f.type ((cs.drop f.offset).take (P.cellsOf f.type))) = some xs →
  ∃ a, G a ∧ ∀ (j : Nat) u p, cs[off + j]? = some u → (e a)[j]? = some p → rep w (old w) u p
theorem opnFB_nil {B : Nat → Prop} {off : Nat} : OpnFB B P w off [] (fun _ : Unit => []) (fun _ => True) :=
 ⟨fun a p hp => by simp at hp, fun a => rfl, fun H enc n hB cs xs h => ⟨(), trivial, fun j u p h1 h2 => by simp at h2⟩⟩
theorem opnFB_cons {B : Nat → Prop} {off sz : Nat} {f : Field} {fs : List Field} {α β : Type} {e : α → List PV} {G : α → Prop} {e' : β → List PV} {G' : β → Prop} (ho : f.offset = off) (hz : P.cellsOf f.type = sz) (h : OpnB B P w f.type e G) (hs : ∀ a, (e a).length = sz) (h' : OpnFB B P w (off + sz) fs e' G') :
  OpnFB B P w off (f :: fs) (fun x : α × β => e x.1 ++ e' x.2) (fun x => G x.1 ∧ G' x.2) := by
 refine ⟨fun a p hp => ?_, fun a => by simp [hs, hz, h'.2.1], fun H enc n hB cs xs hx => ?_⟩
 ·rcases List.mem_append.1 hp with hp | hp
  ·exact h.1 _ _ hp
  ·exact h'.1 _ _ hp
 ·simp only [List.mapM_cons, Option.bind_eq_bind, Option.bind_eq_some_iff, Option.pure_def, Option.some.injEq] at hx
  obtain ⟨y, hy, ys, hys, rfl⟩ := hx
  obtain ⟨a, ga, la, ra⟩ := h.2 H enc n hB _ y hy
  obtain ⟨b, gb, rb⟩ := h'.2.2 H enc n hB cs ys hys
  refine ⟨(a, b), ⟨ga, gb⟩, fun j u p h1 h2 => ?_⟩
  rcases Nat.lt_or_ge j sz with hj | hj
  ·rw [List.getElem?_append_left (by rw [hs]; exact hj)] at h2
   refine ra j u p ?_ h2
   rw [ho, hz, List.getElem?_take, if_pos hj, List.getElem?_drop]
   exact h1
  ·rw [List.getElem?_append_right (by rw [hs]; exact hj), hs] at h2
   exact rb (j - sz) u p (by rw [← h1]; congr 1; omega) h2
theorem opnB_struct {B : Nat → Prop} {t : TypeId} {fs : Array Field} {α : Type} {e : α → List PV} {G : α → Prop} (hu : P.underlying t = some (.struct fs)) (hz : P.cellsOf t = (fs.toList.map fun f => P.cellsOf f.type).sum) (h : OpnFB (fun n => B (n + 1)) P w 0 fs.toList e G) : OpnB B P w t e G := by
 refine ⟨h.1, fun H enc fuel hB cs d hd => ?_⟩
 cases fuel with
 | zero => simp [DataW.trod] at hd
 | succ n =>
  unfold DataW.trod at hd
  rw [hu] at hd
  split at hd <;> rename_i hh <;> try (cases hh; done)
  all_goals try cases hh
  all_goals try (cases hd; done)
  all_goals
   split at hd
   ·rename_i hl
    obtain ⟨xs, hx, _⟩ := Option.map_eq_some_iff.1 hd
    obtain ⟨a, ga, ra⟩ := h.2.2 H enc n hB _ xs hx
    exact ⟨a, ga, by rw [hl, hz, h.2.1], fun j u p h1 h2 => ra j u p (by rw [Nat.zero_add]; exact h1) h2⟩
   ·cases hd
inductive okTr : Tr → Prop
 | mk (k n : Int) (s : List UInt8) (es : List (Int × List Tr)) (rest : List Raw) : i64ok k → i64ok n → strOK s → es.length ≤ maxLen → (∀ e ∈ es, i64ok e.1) → (∀ e ∈ es, e.2.length ≤ maxLen) → (∀ e ∈ es, ∀ x ∈ e.2, okTr x) → rest.length ≤ maxLen → (∀ r ∈ rest, rawOK r) → okTr (.mk k n s es rest)
theorem opn_tree (W : World) : Opn Tryd.prog W 39 encTr okTr := by
 refine opn_of_B fun N => ?_
 induction N with
 | zero => exact ⟨fun a p hp => by rw [encTr_eq] at hp; simp at hp; rcases hp with rfl | rfl | rfl | rfl | rfl <;> rfl, fun H enc fuel hB => absurd hB (Nat.not_lt_zero _)⟩
 | succ N ih => 
  have i3 : ∀ B : Nat → Prop, OpnB B Tryd.prog W 3 (fun n : Int => [.int .i64 n]) i64ok := fun B => Opn.toB (opn_i64 W)
  have s9 : ∀ B : Nat → Prop, OpnB B Tryd.prog W 9 (fun s : List UInt8 => [.str s]) strOK := fun B => Opn.toB (opn_str Tryd.underlying9)
  have r22 : ∀ B : Nat → Prop, OpnB B Tryd.prog W 37 (fun l : List Raw => [.slice (l.map encRaw)]) (fun l => l.length ≤ maxLen ∧ ∀ a ∈ l, rawOK a) := fun B => Opn.toB (opn_raws W)
  have c3 : Tryd.prog.cellsOf 3 = 1 := by kernel_rfl
  have c9 : Tryd.prog.cellsOf 9 = 1 := by kernel_rfl
  have c22 : Tryd.prog.cellsOf 37 = 1 := by kernel_rfl
  have c44 : Tryd.prog.cellsOf 36 = 1 := by kernel_rfl
  have c51 : Tryd.prog.cellsOf 50 = 1 := by kernel_rfl
  have ts : OpnB (fun n => n + 1 + 1 + 1 < N + 1) Tryd.prog W 50 (fun l : List Tr => [.slice (l.map encTr)]) (fun l => l.length ≤ maxLen ∧ ∀ a ∈ l, okTr a) :=
   opnB_slice (sz := 5) Tryd.underlying50 (by kernel_rfl) (by decide) (ih.mono fun n h => by omega) (fun a => by rw [encTr_eq]; rfl)
  have en : OpnB (fun n => n + 1 + 1 < N + 1) Tryd.prog W 52 encEn (fun e => i64ok e.1 ∧ e.2.length ≤ maxLen ∧ ∀ a ∈ e.2, okTr a) := by
   refine OpnB.mapG (G := fun x : Int × List Tr × Unit => i64ok x.1 ∧ (x.2.1.length ≤ maxLen ∧ ∀ a ∈ x.2.1, okTr a) ∧ True) (opnB_struct Tryd.underlying52 (by kernel_rfl) ?_) (fun x : Int × List Tr × Unit => ((x.1, x.2.1) : Int × List Tr)) (fun a => rfl) (fun b p hp => by simp [encEn] at hp; rcases hp with rfl | rfl <;> rfl) (fun a h => ⟨h.1, h.2.1.1, h.2.1.2⟩)
   have f1 := opnFB_cons (B := fun n => n + 1 + 1 + 1 < N + 1) (P := Tryd.prog) (w := W) (off := 1) (f := { name := "Trees", type := 50, offset := 1, embedded := false, tag := "", pkgPath := "", byteOffset := 8 }) rfl c51 ts (fun _ => rfl) opnFB_nil
   have f0 := opnFB_cons (B := fun n => n + 1 + 1 + 1 < N + 1) (P := Tryd.prog) (w := W) (off := 0) (f := { name := "Tag", type := 3, offset := 0, embedded := false, tag := "", pkgPath := "", byteOffset := 0 }) rfl c3 (i3 _) (fun _ => rfl) f1
   exact f0
  have es : OpnB (fun n => n + 1 < N + 1) Tryd.prog W 36 (fun l : List (Int × List Tr) => [.slice (l.map encEn)]) (fun l => l.length ≤ maxLen ∧ ∀ e ∈ l, i64ok e.1 ∧ e.2.length ≤ maxLen ∧ ∀ a ∈ e.2, okTr a) :=
   opnB_slice (sz := 2) Tryd.underlying36 (by kernel_rfl) (by decide) en (fun a => rfl)
  refine OpnB.mapG (G := fun x : Int × Int × List UInt8 × List (Int × List Tr) × List Raw × Unit => i64ok x.1 ∧ i64ok x.2.1 ∧ strOK x.2.2.1 ∧ (x.2.2.2.1.length ≤ maxLen ∧ ∀ e ∈ x.2.2.2.1, i64ok e.1 ∧ e.2.length ≤ maxLen ∧ ∀ a ∈ e.2, okTr a) ∧ (x.2.2.2.2.1.length ≤ maxLen ∧ ∀ a ∈ x.2.2.2.2.1, rawOK a) ∧ True) (opnB_struct Tryd.underlying39 (by kernel_rfl) ?_)
   (fun x : Int × Int × List UInt8 × List (Int × List Tr) × List Raw × Unit => Tr.mk x.1 x.2.1 x.2.2.1 x.2.2.2.1 x.2.2.2.2.1) (fun a => encTr_eq _) (fun b p hp => by rw [encTr_eq] at hp; simp at hp; rcases hp with rfl | rfl | rfl | rfl | rfl <;> rfl) ?_
  ·have f4 := opnFB_cons (B := fun n => n + 1 < N + 1) (P := Tryd.prog) (w := W) (off := 4) (f := { name := "Rest", type := 37, offset := 4, embedded := false, tag := "", pkgPath := "", byteOffset := 56 }) rfl c22 (r22 _) (fun _ => rfl) opnFB_nil
   have f3 := opnFB_cons (B := fun n => n + 1 < N + 1) (P := Tryd.prog) (w := W) (off := 3) (f := { name := "Entries", type := 36, offset := 3, embedded := false, tag := "", pkgPath := "", byteOffset := 32 }) rfl c44 es (fun _ => rfl) f4
   have f2 := opnFB_cons (B := fun n => n + 1 < N + 1) (P := Tryd.prog) (w := W) (off := 2) (f := { name := "S", type := 9, offset := 2, embedded := false, tag := "", pkgPath := "", byteOffset := 16 }) rfl c9 (s9 _) (fun _ => rfl) f3
   have f1 := opnFB_cons (B := fun n => n + 1 < N + 1) (P := Tryd.prog) (w := W) (off := 1) (f := { name := "N", type := 3, offset := 1, embedded := false, tag := "", pkgPath := "", byteOffset := 8 }) rfl c3 (i3 _) (fun _ => rfl) f2
   have f0 := opnFB_cons (B := fun n => n + 1 < N + 1) (P := Tryd.prog) (w := W) (off := 0) (f := { name := "Kind", type := 3, offset := 0, embedded := false, tag := "", pkgPath := "", byteOffset := 0 }) rfl c3 (i3 _) (fun _ => rfl) f1
   exact f0
  ·intro x h
   obtain ⟨h1, h2, h3, ⟨h4, h5⟩, ⟨h6, h7⟩, _⟩ := h
   exact .mk _ _ _ _ _ h1 h2 h3 h4 (fun e he => (h5 e he).1) (fun e he => (h5 e he).2.1) (fun e he => (h5 e he).2.2) h6 h7
end Go.Aw.T
namespace Go.Aw.T
open Go.Proofs Go.RowKit Go.ChangeShapes
theorem opnW_tree (W : World) : OpnW Tryd.prog W 39 encTr okTr := Opn.toW (opn_tree W)
end Go.Aw.T
