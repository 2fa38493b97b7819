/- The document's encode: raws, encode, Raws, Encode; the layer's example. -/
import Derived.Test.YtmeplhcfjihafaaAwE2
import Derived.Test.YtmeplhcfjihafaaAwS1
namespace Go.Aw
open Go.Proofs
set_option linter.unusedSimpArgs false
set_option linter.unusedVariables false
theorem fldR_tag (g : Int) (x : Tr) (h : (fldR g x).2 = 0) : (fldR g x).1.tag = g := by
  rw [fldR_mk] at h ⊢
  split
  · rfl
  · rename_i h1
    rw [if_neg h1] at h
    split
    · rename_i h2
      rw [if_pos h2] at h
      split
      · rename_i h3; rw [if_pos h3] at h; cases h
      · rfl
    · rename_i h2
      rw [if_neg h2] at h
      split
      · rename_i h3; rw [if_pos h3] at h; exact absurd h h3
      · rfl
theorem fldL_all {g : Int} {P : Raw → Prop} : ∀ {l : List Tr}, (∀ x ∈ l, (fldR g x).2 = 0 → P (fldR g x).1) → ∀ r ∈ (fldL g l).1, P r := by
  intro l
  induction l with
  | nil => intro _ r h; simp [fldL] at h
  | cons x l ih =>
    intro h r hr
    rw [fldL] at hr
    split at hr
    · cases hr
    · rename_i h1
      split at hr
      · cases hr
      · rcases List.mem_cons.1 hr with rfl | hr
        · exact h x List.mem_cons_self (by simpa using h1)
        · exact ih (fun y hy => h y (List.mem_cons_of_mem _ hy)) r hr
theorem fldE_all {P : Raw → Prop} : ∀ {es : List (Int × List Tr)}, (∀ e ∈ es, ∀ x ∈ e.2, (fldR e.1 x).2 = 0 → P (fldR e.1 x).1) → ∀ r ∈ (fldE es).1, P r := by
  intro es
  induction es with
  | nil => intro _ r h; simp [fldE] at h
  | cons e es ih =>
    intro h r hr
    obtain ⟨g, l⟩ := e
    rw [fldE] at hr
    split at hr
    · cases hr
    · split at hr
      · cases hr
      · rcases List.mem_append.1 hr with hr | hr
        · exact fldL_all (h (g, l) List.mem_cons_self) r hr
        · exact ih (fun e he => h e (List.mem_cons_of_mem _ he)) r hr
theorem fldE_tags {es : List (Int × List Tr)} : ∀ r ∈ (fldE es).1, ∃ e ∈ es, r.tag = e.1 := by
  have h : ∀ (es' : List (Int × List Tr)), (∀ e ∈ es', e ∈ es) → ∀ r ∈ (fldE es').1, ∃ e ∈ es, r.tag = e.1 := fun es' hs => fldE_all fun e he x hx h => ⟨e, hs e he, fldR_tag e.1 x h⟩
  exact h es fun e he => he
theorem fld_apart {es : List (Int × List Tr)} {rest : List Raw} (h : restT es rest = true) : ∀ x ∈ rest, ∀ y ∈ (fldE es).1, x.tag ≠ y.tag := by
  intro x hx y hy
  rw [restT, Bool.and_eq_true, List.all_eq_true] at h
  have h1 := h.1 x hx
  rw [Bool.and_eq_true, List.all_eq_true] at h1
  obtain ⟨e, he, h2⟩ := fldE_tags y hy
  have := h1.2 e he
  rw [h2]
  intro q
  rw [q] at this
  simp at this
theorem fldR_n (g : Int) (x : Tr) (hx : i64ok x.n) : nOK (fldR g x).1 := by
  rw [fldR_mk]
  have z : nOK zeroR := ⟨by decide, by decide⟩
  split
  · exact i64ok_iff.1 hx
  · split
    · split
      · exact z
      · exact z
    · split
      · exact z
      · exact z
theorem okTr_n {x : Tr} (h : okTr x) : i64ok x.n := by
  cases h; assumption
theorem okTr_sub {t : Tr} (h : okTr t) {e : Int × List Tr} (he : e ∈ t.ents) {x : Tr} (hx : x ∈ e.2) : okTr x := by
  cases h with
  | mk k n s es rest h1 h2 h3 h4 h5 h6 h7 h8 h9 => exact h7 e he x hx
theorem okTr_rest {t : Tr} (h : okTr t) : ∀ r ∈ t.rest, nOK r := by
  cases h with
  | mk k n s es rest h1 h2 h3 h4 h5 h6 h7 h8 h9 => exact fun r hr => nok (h9 r hr)
theorem mem_sort {l : List Raw} {x : Raw} (h : x ∈ sortL [] l) : x ∈ l := by
  have : x ∈ (sortL [] l).filter (fun y => y.tag == x.tag) := by rw [List.mem_filter]; exact ⟨h, by simp⟩
  rw [sortL_filter, List.nil_append, List.mem_filter] at this
  exact this.1
theorem rawsT_n {t : Tr} (h : okTr t) : ∀ r ∈ (rawsT t).1, nOK r := by
  intro r hr
  unfold rawsT at hr
  split at hr
  · cases hr
  · rcases List.mem_append.1 (mem_sort hr) with hr | hr
    · exact okTr_rest h r hr
    · exact fldE_all (fun e he x hx _ => fldR_n e.1 x (okTr_n (okTr_sub h he hx))) r hr
def preR (g : Int) (x : Tr) : Raw := if x.kind = 1 then ⟨g, 0, x.n, []⟩ else if x.kind = 2 then ⟨g, 1, 0, x.s⟩ else ⟨g, 1, 0, (bytesT x).1⟩
theorem fldR_pre (g : Int) (x : Tr) (h : x.kind = 1 ∨ x.kind = 2 ∨ (bytesT x).2 = 0) : fldR g x = if 4096 < (preR g x).b.length then (zeroR, 4) else (preR g x, 0) := by
  rw [fldR_mk]
  unfold preR
  by_cases h1 : x.kind = 1
  · simp [h1]
  by_cases h2 : x.kind = 2
  · simp [h1, h2]
  have h3 : (bytesT x).2 = 0 := by rcases h with h | h | h <;> first | exact absurd h h1 | exact absurd h h2 | exact h
  have := bytes_len x
  simp [h1, h2, h3]
  omega
theorem ref_encode (t : Tr) (hl : (rawsT t).1.length ≤ 1000000) (hn : okTr t) (R : PFn Try.prog 93 [.agg (encTr t)] (.tuple [.slice ((rawsT t).1.map encRaw), .int .i64 (rawsT t).2])) :
    PFn Try.prog 92 [.agg (encTr t)] (.tuple [.slice ((bytesT t).1.map encB), .int .i64 (bytesT t).2]) := by
  rw [encTr_eq] at R
  refine PFn.of Try.func92 rfl (by decide) Try.ntmps92 Try.results92 (Nat.le_of_ble_eq_true rfl) ?_
  simp only [argsT]
  refine AW.rT (by rfl) fun K hK => ?_
  simp -implicitDefEqProofs only [go_sem, ↓reduceIte, Nat.reduceAdd, Nat.reduceMul, Nat.reduceEqDiff, Nat.reduceLeDiff, reduceCtorEq, Int.reduceToNat, encTr_eq]
  refine hK _ ?_; clear hK K
  refine AW.rT (by rfl) fun K hK => ?_
  simp -implicitDefEqProofs only [go_sem, ↓reduceIte, Nat.reduceAdd, Nat.reduceMul, Nat.reduceEqDiff, Nat.reduceLeDiff, reduceCtorEq, Int.reduceToNat]
  refine ⟨.pure _, R, ?_⟩
  try simp -implicitDefEqProofs only [go_sem, ↓reduceIte, Nat.reduceAdd, Nat.reduceMul, Nat.reduceEqDiff, Nat.reduceLeDiff, reduceCtorEq, Int.reduceToNat]
  refine hK _ ?_; clear hK K
  refine AW.seq ?_
  by_cases he : (rawsT t).2 = 0
  · have b : ((rawsT t).2 != 0) = false := by simp [he]
    have eb : bytesT t = wirePut (rawsT t).1 := by rw [bytesT, if_neg (by simpa using he)]
    refine AW.rT (by rfl) fun K hK => ?_
    simp -implicitDefEqProofs only [go_sem, ↓reduceIte, Nat.reduceAdd, Nat.reduceMul, Nat.reduceEqDiff, Nat.reduceLeDiff, reduceCtorEq, Int.reduceToNat, b]
    refine hK _ ?_; clear hK K
    refine AW.cond _ (by simp -implicitDefEqProofs only [go_sem, ↓reduceIte, Nat.reduceAdd, Nat.reduceMul, Nat.reduceEqDiff, Nat.reduceLeDiff, reduceCtorEq, Int.reduceToNat]; rfl) (fun hc => ?_) (fun hc => ?_)
    · simp at hc
    refine AW.skip ?_
    simp only [andThen, inBlk, reduceCtorEq, ↓reduceIte, if_t, if_f]
    refine AW.rT (by rfl) fun K hK => ?_
    simp -implicitDefEqProofs only [go_sem, ↓reduceIte, Nat.reduceAdd, Nat.reduceMul, Nat.reduceEqDiff, Nat.reduceLeDiff, reduceCtorEq, Int.reduceToNat]
    refine ⟨.pure _, ref04_PutAll (rawsT t).1 hl (rawsT_n hn), ?_⟩
    try simp -implicitDefEqProofs only [go_sem, ↓reduceIte, Nat.reduceAdd, Nat.reduceMul, Nat.reduceEqDiff, Nat.reduceLeDiff, reduceCtorEq, Int.reduceToNat]
    refine hK _ ?_; clear hK K
    refine AW.ret ?_
    simp -implicitDefEqProofs only [go_sem, ↓reduceIte, Nat.reduceAdd, Nat.reduceMul, Nat.reduceEqDiff, Nat.reduceLeDiff, reduceCtorEq, Int.reduceToNat, eb]
  · have b : ((rawsT t).2 != 0) = true := by simp [he]
    have eb : bytesT t = ([], (rawsT t).2) := by rw [bytesT, if_pos he]
    refine AW.rT (by rfl) fun K hK => ?_
    simp -implicitDefEqProofs only [go_sem, ↓reduceIte, Nat.reduceAdd, Nat.reduceMul, Nat.reduceEqDiff, Nat.reduceLeDiff, reduceCtorEq, Int.reduceToNat, b]
    refine hK _ ?_; clear hK K
    refine AW.cond _ (by simp -implicitDefEqProofs only [go_sem, ↓reduceIte, Nat.reduceAdd, Nat.reduceMul, Nat.reduceEqDiff, Nat.reduceLeDiff, reduceCtorEq, Int.reduceToNat]; rfl) (fun hc => ?_) (fun hc => ?_)
    rotate_left
    · simp at hc
    refine AW.rT (by rfl) fun K hK => ?_
    simp -implicitDefEqProofs only [go_sem, ↓reduceIte, Nat.reduceAdd, Nat.reduceMul, Nat.reduceEqDiff, Nat.reduceLeDiff, reduceCtorEq, Int.reduceToNat]
    refine hK _ ?_; clear hK K
    refine AW.ret ?_
    simp -implicitDefEqProofs only [go_sem, ↓reduceIte, Nat.reduceAdd, Nat.reduceMul, Nat.reduceEqDiff, Nat.reduceLeDiff, reduceCtorEq, Int.reduceToNat, eb]
def dS1 (t : Tr) (acc : List Raw) (i : Nat) : St := ⟨ofL [(1, .ptr 0 0 0), (4, .own 1), (5, .p (.int .i64 (i : Int)))], ofH [(0, .row 5 [cellsT t]), (1, .row 4 (liftE (acc.map encRaw)))], 2⟩
def dS2 (t : Tr) (acc : List Raw) (i k : Nat) : St := ⟨ofL [(1, .ptr 0 0 0), (4, .own 1), (5, .p (.int .i64 (i : Int))), (6, .p (.int .i64 (k : Int)))], ofH [(0, .row 5 [cellsT t]), (1, .row 4 (liftE (acc.map encRaw)))], 2⟩
def dS3 (t : Tr) (acc : List Raw) (i k : Nat) (r : Raw) : St := ⟨ofL [(1, .ptr 0 0 0), (4, .own 1), (5, .p (.int .i64 (i : Int))), (6, .p (.int .i64 (k : Int))), (8, .ptr 2 0 0)],
  ofH [(0, .row 5 [cellsT t]), (1, .row 4 (liftE (acc.map encRaw))), (2, .row 4 [[.p (.int .i64 r.tag), .p (.int .i64 r.wire), .p (.int .i64 r.n), .p (.str r.b)]])], 3⟩
set_option maxRecDepth 100000 in
set_option maxHeartbeats 4000000 in
theorem ref_raws1 (t : Tr) (hlt : lensT t = true) (hre : rightE t.ents 0 = true) (hrs : restT t.ents t.rest = true)
    (ENC : ∀ (i : Nat) e (k : Nat) x, t.ents[i]? = some e → e.2[k]? = some x → (x.kind = 1 ∨ x.kind = 2) ∨ (¬ x.kind = 1 ∧ ¬ x.kind = 2 ∧ PFn Try.prog 92 [.agg (encTr x)] (.tuple [.slice ((bytesT x).1.map encB), .int .i64 (bytesT x).2]))) :
    PFn Try.prog 93 [.agg (encTr t)] (.tuple [.slice ((rawsT t).1.map encRaw), .int .i64 (rawsT t).2]) := by
  obtain ⟨la1, la2, la3⟩ := lensT_mk hlt
  have eR : rawsT t = if (addR [] (fldE t.ents)).2 ≠ 0 then ([], (addR [] (fldE t.ents)).2) else (sortL [] ((addR [] (fldE t.ents)).1 ++ t.rest), 0) := by
    unfold rawsT addR
    by_cases h : (fldE t.ents).2 = 0
    · simp [h, sort_swap (fld_apart hrs)]
    · simp [h]
  refine PFn.of Try.func93 rfl (by decide) Try.ntmps93 Try.results93 (Nat.le_of_ble_eq_true rfl) ?_
  simp only [argsT]
  refine AW.rT (by rfl) fun K hK => ?_
  simp -implicitDefEqProofs only [go_sem, ↓reduceIte, Nat.reduceAdd, Nat.reduceMul, Nat.reduceEqDiff, Nat.reduceLeDiff, reduceCtorEq, Int.reduceToNat, encTr_eq]
  refine hK _ ?_; clear hK K
  refine AW.rT (by rfl) fun K hK => ?_
  simp -implicitDefEqProofs only [go_sem, ↓reduceIte, Nat.reduceAdd, Nat.reduceMul, Nat.reduceEqDiff, Nat.reduceLeDiff, reduceCtorEq, Int.reduceToNat]
  refine hK _ ?_; clear hK K
  refine AW.seq ?_
  refine AW.rT (by rfl) fun K hK => ?_
  simp -implicitDefEqProofs only [go_sem, ↓reduceIte, Nat.reduceAdd, Nat.reduceMul, Nat.reduceEqDiff, Nat.reduceLeDiff, reduceCtorEq, Int.reduceToNat]
  refine hK _ ?_; clear hK K
  refine AW.block ?_
  refine AW.loop (fun x : List Raw × Nat => dS1 t x.1 x.2) (fun x => x.2 ≤ t.ents.length ∧ x.1.length ≤ 64 * x.2 ∧ addR [] (fldE t.ents) = addR x.1 (fldE (t.ents.drop x.2))) (fun x => t.ents.length - x.2) ([], 0) ?_ ⟨by simp, by simp, by rw [List.drop_zero]⟩ fun x hx => ?_
  · refine Ghost.trans (Ghost.nil (t := 4) (sz := 4) rfl) ?_
    simp only [dS1, cellsT]
    refine Ghost.ent (fun l => if l = 1 then 5 else l) ?_ ?_ ?_ <;> simp -implicitDefEqProofs only [go_sem, ↓reduceIte, Nat.reduceAdd, Nat.reduceMul, Nat.reduceEqDiff, Nat.reduceLeDiff, reduceCtorEq, Int.reduceToNat, List.map_nil, liftE_nil, List.forall_mem_cons, List.not_mem_nil, false_implies, implies_true, and_self, map_renL_lift, labsIn_lift, List.all_append, List.all_cons, List.all_nil, List.map_append, Nat.reduceLT, labsInL, AV.labsIn]
    rfl
  obtain ⟨acc, i⟩ := x
  obtain ⟨e1, e2, e3⟩ := hx
  dsimp only at e1 e2 e3
  simp only [dS1, cellsT]
  refine AW.seq ?_
  by_cases hil : i < t.ents.length
  case neg =>
    have hc1 : ((i : Int) < (t.ents.length : Int)) = False := by simp; omega
    rw [List.drop_of_length_le (by omega), fldE, addR_nil] at e3
    rw [e3, if_neg (by simp)] at eR
    refine AW.rT (by rfl) fun K hK => ?_
    simp -implicitDefEqProofs only [go_sem, ↓reduceIte, Nat.reduceAdd, Nat.reduceMul, Nat.reduceEqDiff, Nat.reduceLeDiff, reduceCtorEq, Int.reduceToNat, hc1, List.length_map]
    refine hK _ ?_; clear hK K
    refine AW.cond _ (by simp -implicitDefEqProofs only [go_sem, ↓reduceIte, Nat.reduceAdd, Nat.reduceMul, Nat.reduceEqDiff, Nat.reduceLeDiff, reduceCtorEq, Int.reduceToNat]; rfl) (fun hc => ?_) (fun hc => ?_)
    · simp at hc
    refine AW.exit ?_
    simp only [andThen, inBlk, reduceCtorEq, ↓reduceIte, if_t, if_f]
    refine AW.rT (by rfl) fun K hK => ?_
    simp -implicitDefEqProofs only [go_sem, ↓reduceIte, Nat.reduceAdd, Nat.reduceMul, Nat.reduceEqDiff, Nat.reduceLeDiff, reduceCtorEq, Int.reduceToNat]
    refine ⟨⟨raws_len t.rest, raws_one t.rest, by simp⟩, by simp [liftE_length]; omega, ?_⟩
    have e9 : liftE (acc.map encRaw) ++ liftE (t.rest.map encRaw) = liftE ((acc ++ t.rest).map encRaw) := by simp [liftE]
    try simp -implicitDefEqProofs only [go_sem, ↓reduceIte, Nat.reduceAdd, Nat.reduceMul, Nat.reduceEqDiff, Nat.reduceLeDiff, reduceCtorEq, Int.reduceToNat, e9]
    have RS := ref04_Sorted (acc ++ t.rest) (by simp; omega)
    rw [List.map_append] at RS
    refine ⟨.pure _, RS, ?_⟩
    try simp -implicitDefEqProofs only [go_sem, ↓reduceIte, Nat.reduceAdd, Nat.reduceMul, Nat.reduceEqDiff, Nat.reduceLeDiff, reduceCtorEq, Int.reduceToNat]
    refine hK _ ?_; clear hK K
    refine AW.ret ?_
    simp -implicitDefEqProofs only [go_sem, ↓reduceIte, Nat.reduceAdd, Nat.reduceMul, Nat.reduceEqDiff, Nat.reduceLeDiff, reduceCtorEq, Int.reduceToNat, eR]
  obtain ⟨e, he⟩ : ∃ e, t.ents[i]? = some e := ⟨_, List.getElem?_eq_getElem hil⟩
  have ⟨he1, he2, he3⟩ := at_map' encEn he
  have ⟨le1, le2⟩ := lensE_at la3 he
  have l64 := (right_len hre e (List.mem_of_getElem? he)).2.2.2
  have hc1 : ((i : Int) < (t.ents.length : Int)) = True := by simp; omega
  rw [addR_at he] at e3
  refine AW.rT (by rfl) fun K hK => ?_
  simp -implicitDefEqProofs only [go_sem, ↓reduceIte, Nat.reduceAdd, Nat.reduceMul, Nat.reduceEqDiff, Nat.reduceLeDiff, reduceCtorEq, Int.reduceToNat, hc1, List.length_map]
  refine hK _ ?_; clear hK K
  refine AW.cond _ (by simp -implicitDefEqProofs only [go_sem, ↓reduceIte, Nat.reduceAdd, Nat.reduceMul, Nat.reduceEqDiff, Nat.reduceLeDiff, reduceCtorEq, Int.reduceToNat]; rfl) (fun hc => ?_) (fun hc => ?_)
  rotate_left
  · simp at hc
  refine AW.skip ?_
  simp only [andThen, inBlk, reduceCtorEq, ↓reduceIte, if_t, if_f]
  refine AW.seq ?_
  refine AW.block ?_
  refine AW.rT (by rfl) fun K hK => ?_
  simp -implicitDefEqProofs only [go_sem, ↓reduceIte, Nat.reduceAdd, Nat.reduceMul, Nat.reduceEqDiff, Nat.reduceLeDiff, reduceCtorEq, Int.reduceToNat]
  refine hK _ ?_; clear hK K
  refine AW.block ?_
  refine AW.loop (fun x : List Raw × Nat => dS2 t x.1 i x.2) (fun x => x.2 ≤ e.2.length ∧ x.1.length ≤ 64 * i + x.2 ∧ addR [] (fldE t.ents) = addR2 x.1 (fldL e.1 (e.2.drop x.2)) (fldE (t.ents.drop (i + 1)))) (fun x => e.2.length - x.2) (acc, 0) ?_ ⟨by simp, by simp; omega, by rw [List.drop_zero]; exact e3⟩ fun x hx => ?_
  · simp only [dS2, cellsT]
    refine Ghost.sub ?_ ?_ <;> simp -implicitDefEqProofs only [go_sem, ↓reduceIte, Nat.reduceAdd, Nat.reduceMul, Nat.reduceEqDiff, Nat.reduceLeDiff, reduceCtorEq, Int.reduceToNat,  List.forall_mem_cons, List.not_mem_nil, false_implies, implies_true, and_self, labsIn_lift, List.all_append, List.all_cons, List.all_nil, Nat.reduceLT, labsInL, AV.labsIn]
    rfl
  obtain ⟨acc', k⟩ := x
  obtain ⟨f1, f2, f3⟩ := hx
  dsimp only at f1 f2 f3
  simp only [dS2, cellsT]
  refine AW.seq ?_
  by_cases hkl : k < e.2.length
  case neg =>
    have hc2 : ((k : Int) < (e.2.length : Int)) = False := by simp; omega
    rw [List.drop_of_length_le (by omega), fldL, addR2_nil] at f3
    refine AW.rT (by rfl) fun K hK => ?_
    simp -implicitDefEqProofs only [go_sem, ↓reduceIte, Nat.reduceAdd, Nat.reduceMul, Nat.reduceEqDiff, Nat.reduceLeDiff, reduceCtorEq, Int.reduceToNat, he1, he2, he3, hc1, encEn, List.length_map, hc2]
    refine hK _ ?_; clear hK K
    refine AW.cond _ (by simp -implicitDefEqProofs only [go_sem, ↓reduceIte, Nat.reduceAdd, Nat.reduceMul, Nat.reduceEqDiff, Nat.reduceLeDiff, reduceCtorEq, Int.reduceToNat]; rfl) (fun hc => ?_) (fun hc => ?_)
    · simp at hc
    refine AW.exit ?_
    simp only [andThen, inBlk, reduceCtorEq, ↓reduceIte, if_t, if_f]
    have w1 : IntKind.wrap .i64 ((i : Int) + 1) = ((i + 1 : Nat) : Int) := by rw [w64] <;> omega
    refine AW.rE (by rfl) fun K hK => ?_
    simp -implicitDefEqProofs only [go_sem, ↓reduceIte, Nat.reduceAdd, Nat.reduceMul, Nat.reduceEqDiff, Nat.reduceLeDiff, reduceCtorEq, Int.reduceToNat, w1]
    refine hK _ ?_; clear hK K
    refine ⟨(acc', i + 1), ⟨by show i + 1 ≤ t.ents.length; omega, by show acc'.length ≤ 64 * (i + 1); omega, f3⟩, by show t.ents.length - (i + 1) < t.ents.length - i; omega, ?_⟩
    simp only [dS1, cellsT]
    refine Ghost.sub ?_ ?_ <;> simp -implicitDefEqProofs only [go_sem, ↓reduceIte, Nat.reduceAdd, Nat.reduceMul, Nat.reduceEqDiff, Nat.reduceLeDiff, reduceCtorEq, Int.reduceToNat,  List.forall_mem_cons, List.not_mem_nil, false_implies, implies_true, and_self, labsIn_lift, List.all_append, List.all_cons, List.all_nil, Nat.reduceLT, labsInL, AV.labsIn]
  obtain ⟨x, hx⟩ : ∃ x, e.2[k]? = some x := ⟨_, List.getElem?_eq_getElem hkl⟩
  have ⟨hx1, hx2, hx3⟩ := at_map' encTr hx
  have hc2 : ((k : Int) < (e.2.length : Int)) = True := by simp; omega
  rw [addL_at hx] at f3
  have fp := fldR_pre e.1 x
  have fm := fldR_mk e.1 x
  have pp : preR e.1 x = if x.kind = 1 then ⟨e.1, 0, x.n, []⟩ else if x.kind = 2 then ⟨e.1, 1, 0, x.s⟩ else ⟨e.1, 1, 0, (bytesT x).1⟩ := rfl
  refine AW.rT (by rfl) fun K hK => ?_
  simp -implicitDefEqProofs only [go_sem, ↓reduceIte, Nat.reduceAdd, Nat.reduceMul, Nat.reduceEqDiff, Nat.reduceLeDiff, reduceCtorEq, Int.reduceToNat, he1, he2, he3, hc1, encEn, List.length_map, hc2]
  refine hK _ ?_; clear hK K
  refine AW.cond _ (by simp -implicitDefEqProofs only [go_sem, ↓reduceIte, Nat.reduceAdd, Nat.reduceMul, Nat.reduceEqDiff, Nat.reduceLeDiff, reduceCtorEq, Int.reduceToNat]; rfl) (fun hc => ?_) (fun hc => ?_)
  rotate_left
  · simp at hc
  refine AW.skip ?_
  simp only [andThen, inBlk, reduceCtorEq, ↓reduceIte, if_t, if_f]
  refine AW.seq ?_
  refine AW.block ?_
  refine AW.rT (by rfl) fun K hK => ?_
  simp -implicitDefEqProofs only [go_sem, ↓reduceIte, Nat.reduceAdd, Nat.reduceMul, Nat.reduceEqDiff, Nat.reduceLeDiff, reduceCtorEq, Int.reduceToNat, he1, he2, he3, hc1, encEn, List.length_map, hc2, hx1, hx2, hx3, encTr_eq]
  refine hK _ ?_; clear hK K
  refine AW.rT (by rfl) fun K hK => ?_
  simp -implicitDefEqProofs only [go_sem, ↓reduceIte, Nat.reduceAdd, Nat.reduceMul, Nat.reduceEqDiff, Nat.reduceLeDiff, reduceCtorEq, Int.reduceToNat, he1, he2, he3, hc1, encEn, List.length_map]
  refine hK _ ?_; clear hK K
  refine AW.cut (fun _ : Unit => dS3 t acc' i k (preR e.1 x)) (fun _ => x.kind = 1 ∨ x.kind = 2 ∨ (bytesT x).2 = 0) ?_ fun _ hp => ?_
  · refine AW.rT (by rfl) fun K hK => ?_
    simp -implicitDefEqProofs only [go_sem, ↓reduceIte, Nat.reduceAdd, Nat.reduceMul, Nat.reduceEqDiff, Nat.reduceLeDiff, reduceCtorEq, Int.reduceToNat]
    refine hK _ ?_; clear hK K
    refine AW.block ?_
    rcases ENC i e k x he hx with (c1 | c2) | ⟨c1, c2, EN⟩
    · have b1 : (x.kind == 1) = true := by simpa using c1
      rw [if_pos c1] at pp
      refine AW.rT (by rfl) fun K hK => ?_
      simp -implicitDefEqProofs only [go_sem, ↓reduceIte, Nat.reduceAdd, Nat.reduceMul, Nat.reduceEqDiff, Nat.reduceLeDiff, reduceCtorEq, Int.reduceToNat, b1]
      refine hK _ ?_; clear hK K
      refine AW.cond _ (by simp -implicitDefEqProofs only [go_sem, ↓reduceIte, Nat.reduceAdd, Nat.reduceMul, Nat.reduceEqDiff, Nat.reduceLeDiff, reduceCtorEq, Int.reduceToNat]; rfl) (fun hc => ?_) (fun hc => ?_)
      rotate_left
      · simp at hc
      refine AW.rT (by rfl) fun K hK => ?_
      simp -implicitDefEqProofs only [go_sem, ↓reduceIte, Nat.reduceAdd, Nat.reduceMul, Nat.reduceEqDiff, Nat.reduceLeDiff, reduceCtorEq, Int.reduceToNat]
      refine hK _ ?_; clear hK K
      refine AW.rE (by rfl) fun K hK => ?_
      simp -implicitDefEqProofs only [go_sem, ↓reduceIte, Nat.reduceAdd, Nat.reduceMul, Nat.reduceEqDiff, Nat.reduceLeDiff, reduceCtorEq, Int.reduceToNat]
      refine hK _ ?_; clear hK K
      simp only [andThen, inBlk, reduceCtorEq, ↓reduceIte, if_t, if_f]
      refine ⟨(), .inl c1, ?_⟩
      simp only [dS3, cellsT]
      refine Ghost.ent (fun l => if l = 2 then 29 else l) ?_ ?_ ?_ <;> simp -implicitDefEqProofs only [go_sem, ↓reduceIte, Nat.reduceAdd, Nat.reduceMul, Nat.reduceEqDiff, Nat.reduceLeDiff, reduceCtorEq, Int.reduceToNat, pp, List.forall_mem_cons, List.not_mem_nil, false_implies, implies_true, and_self, map_renL_lift, labsIn_lift, List.all_append, List.all_cons, List.all_nil, List.map_append, Nat.reduceLT, labsInL, AV.labsIn]
    · have c1 : ¬ x.kind = 1 := by omega
      have b1 : (x.kind == 1) = false := beqf c1
      have b2 : (x.kind == 2) = true := by simpa using c2
      rw [if_neg c1, if_pos c2] at pp
      refine AW.rT (by rfl) fun K hK => ?_
      simp -implicitDefEqProofs only [go_sem, ↓reduceIte, Nat.reduceAdd, Nat.reduceMul, Nat.reduceEqDiff, Nat.reduceLeDiff, reduceCtorEq, Int.reduceToNat, b1]
      refine hK _ ?_; clear hK K
      refine AW.cond _ (by simp -implicitDefEqProofs only [go_sem, ↓reduceIte, Nat.reduceAdd, Nat.reduceMul, Nat.reduceEqDiff, Nat.reduceLeDiff, reduceCtorEq, Int.reduceToNat]; rfl) (fun hc => ?_) (fun hc => ?_)
      · simp at hc
      refine AW.rT (by rfl) fun K hK => ?_
      simp -implicitDefEqProofs only [go_sem, ↓reduceIte, Nat.reduceAdd, Nat.reduceMul, Nat.reduceEqDiff, Nat.reduceLeDiff, reduceCtorEq, Int.reduceToNat, b2]
      refine hK _ ?_; clear hK K
      refine AW.cond _ (by simp -implicitDefEqProofs only [go_sem, ↓reduceIte, Nat.reduceAdd, Nat.reduceMul, Nat.reduceEqDiff, Nat.reduceLeDiff, reduceCtorEq, Int.reduceToNat]; rfl) (fun hc => ?_) (fun hc => ?_)
      rotate_left
      · simp at hc
      refine AW.rE (by rfl) fun K hK => ?_
      simp -implicitDefEqProofs only [go_sem, ↓reduceIte, Nat.reduceAdd, Nat.reduceMul, Nat.reduceEqDiff, Nat.reduceLeDiff, reduceCtorEq, Int.reduceToNat]
      refine hK _ ?_; clear hK K
      simp only [andThen, inBlk, reduceCtorEq, ↓reduceIte, if_t, if_f]
      refine ⟨(), .inr (.inl c2), ?_⟩
      simp only [dS3, cellsT]
      refine Ghost.ent (fun l => if l = 2 then 29 else l) ?_ ?_ ?_ <;> simp -implicitDefEqProofs only [go_sem, ↓reduceIte, Nat.reduceAdd, Nat.reduceMul, Nat.reduceEqDiff, Nat.reduceLeDiff, reduceCtorEq, Int.reduceToNat, pp, List.forall_mem_cons, List.not_mem_nil, false_implies, implies_true, and_self, map_renL_lift, labsIn_lift, List.all_append, List.all_cons, List.all_nil, List.map_append, Nat.reduceLT, labsInL, AV.labsIn]
    · have b1 : (x.kind == 1) = false := beqf c1
      have b2 : (x.kind == 2) = false := beqf c2
      rw [if_neg c1, if_neg c2] at pp fm
      rw [encTr_eq] at EN
      refine AW.rT (by rfl) fun K hK => ?_
      simp -implicitDefEqProofs only [go_sem, ↓reduceIte, Nat.reduceAdd, Nat.reduceMul, Nat.reduceEqDiff, Nat.reduceLeDiff, reduceCtorEq, Int.reduceToNat, b1]
      refine hK _ ?_; clear hK K
      refine AW.cond _ (by simp -implicitDefEqProofs only [go_sem, ↓reduceIte, Nat.reduceAdd, Nat.reduceMul, Nat.reduceEqDiff, Nat.reduceLeDiff, reduceCtorEq, Int.reduceToNat]; rfl) (fun hc => ?_) (fun hc => ?_)
      · simp at hc
      refine AW.rT (by rfl) fun K hK => ?_
      simp -implicitDefEqProofs only [go_sem, ↓reduceIte, Nat.reduceAdd, Nat.reduceMul, Nat.reduceEqDiff, Nat.reduceLeDiff, reduceCtorEq, Int.reduceToNat, b2]
      refine hK _ ?_; clear hK K
      refine AW.cond _ (by simp -implicitDefEqProofs only [go_sem, ↓reduceIte, Nat.reduceAdd, Nat.reduceMul, Nat.reduceEqDiff, Nat.reduceLeDiff, reduceCtorEq, Int.reduceToNat]; rfl) (fun hc => ?_) (fun hc => ?_)
      · simp at hc
      refine AW.rT (by rfl) fun K hK => ?_
      simp -implicitDefEqProofs only [go_sem, ↓reduceIte, Nat.reduceAdd, Nat.reduceMul, Nat.reduceEqDiff, Nat.reduceLeDiff, reduceCtorEq, Int.reduceToNat]
      refine ⟨.pure _, EN, ?_⟩
      try simp -implicitDefEqProofs only [go_sem, ↓reduceIte, Nat.reduceAdd, Nat.reduceMul, Nat.reduceEqDiff, Nat.reduceLeDiff, reduceCtorEq, Int.reduceToNat]
      refine hK _ ?_; clear hK K
      refine AW.seq ?_
      by_cases hz : (bytesT x).2 = 0
      · have b : ((bytesT x).2 != 0) = false := by simp [hz]
        have eb : bytesOf (liftE ((bytesT x).1.map encB)) = some (bytesT x).1 := bytesOf_lift _
        refine AW.rT (by rfl) fun K hK => ?_
        simp -implicitDefEqProofs only [go_sem, ↓reduceIte, Nat.reduceAdd, Nat.reduceMul, Nat.reduceEqDiff, Nat.reduceLeDiff, reduceCtorEq, Int.reduceToNat, b]
        refine hK _ ?_; clear hK K
        refine AW.cond _ (by simp -implicitDefEqProofs only [go_sem, ↓reduceIte, Nat.reduceAdd, Nat.reduceMul, Nat.reduceEqDiff, Nat.reduceLeDiff, reduceCtorEq, Int.reduceToNat]; rfl) (fun hc => ?_) (fun hc => ?_)
        · simp at hc
        refine AW.skip ?_
        simp only [andThen, inBlk, reduceCtorEq, ↓reduceIte, if_t, if_f]
        refine AW.rE (by rfl) fun K hK => ?_
        simp -implicitDefEqProofs only [go_sem, ↓reduceIte, Nat.reduceAdd, Nat.reduceMul, Nat.reduceEqDiff, Nat.reduceLeDiff, reduceCtorEq, Int.reduceToNat, eb]
        refine hK _ ?_; clear hK K
        simp only [andThen, inBlk, reduceCtorEq, ↓reduceIte, if_t, if_f]
        refine ⟨(), .inr (.inr hz), ?_⟩
        simp only [dS3, cellsT]
        refine Ghost.ent (fun l => if l = 2 then 29 else l) ?_ ?_ ?_ <;> simp -implicitDefEqProofs only [go_sem, ↓reduceIte, Nat.reduceAdd, Nat.reduceMul, Nat.reduceEqDiff, Nat.reduceLeDiff, reduceCtorEq, Int.reduceToNat, pp, List.forall_mem_cons, List.not_mem_nil, false_implies, implies_true, and_self, map_renL_lift, labsIn_lift, List.all_append, List.all_cons, List.all_nil, List.map_append, Nat.reduceLT, labsInL, AV.labsIn]
      · have b : ((bytesT x).2 != 0) = true := by simp [hz]
        rw [if_pos hz] at fm
        rw [fm, if_pos (by exact hz)] at f3
        rw [f3, if_pos (by exact hz)] at eR
        refine AW.rT (by rfl) fun K hK => ?_
        simp -implicitDefEqProofs only [go_sem, ↓reduceIte, Nat.reduceAdd, Nat.reduceMul, Nat.reduceEqDiff, Nat.reduceLeDiff, reduceCtorEq, Int.reduceToNat, b]
        refine hK _ ?_; clear hK K
        refine AW.cond _ (by simp -implicitDefEqProofs only [go_sem, ↓reduceIte, Nat.reduceAdd, Nat.reduceMul, Nat.reduceEqDiff, Nat.reduceLeDiff, reduceCtorEq, Int.reduceToNat]; rfl) (fun hc => ?_) (fun hc => ?_)
        rotate_left
        · simp at hc
        refine AW.rT (by rfl) fun K hK => ?_
        simp -implicitDefEqProofs only [go_sem, ↓reduceIte, Nat.reduceAdd, Nat.reduceMul, Nat.reduceEqDiff, Nat.reduceLeDiff, reduceCtorEq, Int.reduceToNat]
        refine hK _ ?_; clear hK K
        refine AW.ret ?_
        simp -implicitDefEqProofs only [go_sem, ↓reduceIte, Nat.reduceAdd, Nat.reduceMul, Nat.reduceEqDiff, Nat.reduceLeDiff, reduceCtorEq, Int.reduceToNat, eR]
  simp only [dS3, cellsT]
  have fq := fp hp
  generalize preR e.1 x = r at fq
  refine AW.seq ?_
  by_cases hl : 4096 < r.b.length
  · rw [if_pos hl] at fq
    have b : ((r.b.length : Int) > 4096) = True := by simp; omega
    rw [fq, if_pos (by simp)] at f3
    rw [f3, if_pos (by simp)] at eR
    refine AW.rT (by rfl) fun K hK => ?_
    simp -implicitDefEqProofs only [go_sem, ↓reduceIte, Nat.reduceAdd, Nat.reduceMul, Nat.reduceEqDiff, Nat.reduceLeDiff, reduceCtorEq, Int.reduceToNat, b]
    refine hK _ ?_; clear hK K
    refine AW.cond _ (by simp -implicitDefEqProofs only [go_sem, ↓reduceIte, Nat.reduceAdd, Nat.reduceMul, Nat.reduceEqDiff, Nat.reduceLeDiff, reduceCtorEq, Int.reduceToNat]; rfl) (fun hc => ?_) (fun hc => ?_)
    rotate_left
    · simp at hc
    refine AW.rT (by rfl) fun K hK => ?_
    simp -implicitDefEqProofs only [go_sem, ↓reduceIte, Nat.reduceAdd, Nat.reduceMul, Nat.reduceEqDiff, Nat.reduceLeDiff, reduceCtorEq, Int.reduceToNat]
    refine hK _ ?_; clear hK K
    refine AW.ret ?_
    simp -implicitDefEqProofs only [go_sem, ↓reduceIte, Nat.reduceAdd, Nat.reduceMul, Nat.reduceEqDiff, Nat.reduceLeDiff, reduceCtorEq, Int.reduceToNat, eR]
  · rw [if_neg hl] at fq
    have b : ((r.b.length : Int) > 4096) = False := by simp; omega
    rw [fq, if_neg (by simp)] at f3
    refine AW.rT (by rfl) fun K hK => ?_
    simp -implicitDefEqProofs only [go_sem, ↓reduceIte, Nat.reduceAdd, Nat.reduceMul, Nat.reduceEqDiff, Nat.reduceLeDiff, reduceCtorEq, Int.reduceToNat, b]
    refine hK _ ?_; clear hK K
    refine AW.cond _ (by simp -implicitDefEqProofs only [go_sem, ↓reduceIte, Nat.reduceAdd, Nat.reduceMul, Nat.reduceEqDiff, Nat.reduceLeDiff, reduceCtorEq, Int.reduceToNat]; rfl) (fun hc => ?_) (fun hc => ?_)
    · simp at hc
    refine AW.skip ?_
    simp only [andThen, inBlk, reduceCtorEq, ↓reduceIte, if_t, if_f]
    refine AW.rE (by rfl) fun K hK => ?_
    simp -implicitDefEqProofs only [go_sem, ↓reduceIte, Nat.reduceAdd, Nat.reduceMul, Nat.reduceEqDiff, Nat.reduceLeDiff, reduceCtorEq, Int.reduceToNat]
    refine ⟨⟨by simp, by simp [oneAll, AV.one, PV.one], by simp⟩, by simp [liftE_length]; omega, ?_⟩
    refine hK _ ?_; clear hK K
    simp only [andThen, inBlk, reduceCtorEq, ↓reduceIte, if_t, if_f]
    have w1 : IntKind.wrap .i64 ((k : Int) + 1) = ((k + 1 : Nat) : Int) := by rw [w64] <;> omega
    have e7 : liftE (acc'.map encRaw) ++ [[AV.p (.int .i64 r.tag), .p (.int .i64 r.wire), .p (.int .i64 r.n), .p (.str r.b)]] = liftE ((acc' ++ [r]).map encRaw) := by
      simp [liftE, encRaw]
    refine AW.rE (by rfl) fun K hK => ?_
    simp -implicitDefEqProofs only [go_sem, ↓reduceIte, Nat.reduceAdd, Nat.reduceMul, Nat.reduceEqDiff, Nat.reduceLeDiff, reduceCtorEq, Int.reduceToNat, w1]
    refine hK _ ?_; clear hK K
    refine ⟨(acc' ++ [r], k + 1), ⟨by show k + 1 ≤ e.2.length; omega, by simp; omega, f3⟩, by show e.2.length - (k + 1) < e.2.length - k; omega, ?_⟩
    simp only [dS2, cellsT]
    refine Ghost.ent (fun l => if l = 1 then 10 else l) ?_ ?_ ?_ <;> simp -implicitDefEqProofs only [go_sem, ↓reduceIte, Nat.reduceAdd, Nat.reduceMul, Nat.reduceEqDiff, Nat.reduceLeDiff, reduceCtorEq, Int.reduceToNat, e7, List.forall_mem_cons, List.not_mem_nil, false_implies, implies_true, and_self, map_renL_lift, labsIn_lift, List.all_append, List.all_cons, List.all_nil, List.map_append, Nat.reduceLT, labsInL, AV.labsIn]
theorem ref_all : ∀ (t : Tr), lensT t = true → rightT t = true → t.kind = 3 → okTr t → PFn Try.prog 93 [.agg (encTr t)] (.tuple [.slice ((rawsT t).1.map encRaw), .int .i64 (rawsT t).2]) := by
  intro t
  induction h : SizeOf.sizeOf t using Nat.strongRecOn generalizing t with
  | _ sz ih =>
  subst h
  intro hlt hr hk hn
  obtain ⟨la1, la2, la3⟩ := lensT_mk hlt
  obtain ⟨hre, hrs⟩ := right_msg hr hk
  refine ref_raws1 t hlt hre hrs fun i e k x he hx => ?_
  have hrx := right_ents hre e (List.mem_of_getElem? he) x (List.mem_of_getElem? hx)
  have hlx := lensTs_at (lensE_at la3 he).2 hx
  have hnx := okTr_sub hn (List.mem_of_getElem? he) (List.mem_of_getElem? hx)
  rcases right_kinds hrx with ⟨h, _⟩ | ⟨h, _⟩ | ⟨h, _⟩
  · exact .inl (.inl h)
  · exact .inl (.inr h)
  · have R := ih _ (size_ent he hx) x rfl hlx hrx h hnx
    have L := (enc_all x hlx hrx h).2
    exact .inr ⟨by omega, by omega, ref_encode x (by omega) hnx R⟩
theorem ref_Raws (t : Tr) (hlt : lensT t = true) (hn : okTr t) : PFn Try.prog 69 [.agg (encTr t)] (.tuple [.slice ((rawsA t).1.map encRaw), .int .i64 (rawsA t).2]) := by
  have C1 := ref_Check t hlt
  rw [encTr_eq] at C1
  refine PFn.of Try.func69 rfl (by decide) Try.ntmps69 Try.results69 (Nat.le_of_ble_eq_true rfl) ?_
  simp only [argsT]
  refine AW.rT (by rfl) fun K hK => ?_
  simp -implicitDefEqProofs only [go_sem, ↓reduceIte, Nat.reduceAdd, Nat.reduceMul, Nat.reduceEqDiff, Nat.reduceLeDiff, reduceCtorEq, Int.reduceToNat, encTr_eq]
  refine hK _ ?_; clear hK K
  refine AW.seq ?_
  by_cases hk : t.kind = 3
  case neg =>
    have b1 : (t.kind != 3) = true := by simpa using hk
    have ea : rawsA t = ([], 1) := by rw [rawsA, if_neg (by simp [hk])]
    refine AW.rT (by rfl) fun K hK => ?_
    simp -implicitDefEqProofs only [go_sem, ↓reduceIte, Nat.reduceAdd, Nat.reduceMul, Nat.reduceEqDiff, Nat.reduceLeDiff, reduceCtorEq, Int.reduceToNat, b1]
    refine hK _ ?_; clear hK K
    refine AW.cond _ (by simp -implicitDefEqProofs only [go_sem, ↓reduceIte, Nat.reduceAdd, Nat.reduceMul, Nat.reduceEqDiff, Nat.reduceLeDiff, reduceCtorEq, Int.reduceToNat]; rfl) (fun hc => ?_) (fun hc => ?_)
    rotate_left
    · simp at hc
    refine AW.rT (by rfl) fun K hK => ?_
    simp -implicitDefEqProofs only [go_sem, ↓reduceIte, Nat.reduceAdd, Nat.reduceMul, Nat.reduceEqDiff, Nat.reduceLeDiff, reduceCtorEq, Int.reduceToNat]
    refine hK _ ?_; clear hK K
    refine AW.ret ?_
    simp -implicitDefEqProofs only [go_sem, ↓reduceIte, Nat.reduceAdd, Nat.reduceMul, Nat.reduceEqDiff, Nat.reduceLeDiff, reduceCtorEq, Int.reduceToNat, ea]
  have b1 : (t.kind != 3) = false := by simpa using hk
  cases ho : okT t with
  | false =>
    have ea : rawsA t = ([], 1) := by rw [rawsA, ho]; simp
    rw [ho] at C1
    refine AW.rT (by rfl) fun K hK => ?_
    simp -implicitDefEqProofs only [go_sem, ↓reduceIte, Nat.reduceAdd, Nat.reduceMul, Nat.reduceEqDiff, Nat.reduceLeDiff, reduceCtorEq, Int.reduceToNat, b1]
    refine ⟨.pure _, C1, ?_⟩
    try simp -implicitDefEqProofs only [go_sem, ↓reduceIte, Nat.reduceAdd, Nat.reduceMul, Nat.reduceEqDiff, Nat.reduceLeDiff, reduceCtorEq, Int.reduceToNat]
    refine hK _ ?_; clear hK K
    refine AW.cond _ (by simp -implicitDefEqProofs only [go_sem, ↓reduceIte, Nat.reduceAdd, Nat.reduceMul, Nat.reduceEqDiff, Nat.reduceLeDiff, reduceCtorEq, Int.reduceToNat]; rfl) (fun hc => ?_) (fun hc => ?_)
    rotate_left
    · simp at hc
    refine AW.rT (by rfl) fun K hK => ?_
    simp -implicitDefEqProofs only [go_sem, ↓reduceIte, Nat.reduceAdd, Nat.reduceMul, Nat.reduceEqDiff, Nat.reduceLeDiff, reduceCtorEq, Int.reduceToNat]
    refine hK _ ?_; clear hK K
    refine AW.ret ?_
    simp -implicitDefEqProofs only [go_sem, ↓reduceIte, Nat.reduceAdd, Nat.reduceMul, Nat.reduceEqDiff, Nat.reduceLeDiff, reduceCtorEq, Int.reduceToNat, ea]
  | true =>
    have ea : rawsA t = rawsT t := by rw [rawsA, if_pos ⟨ho, hk⟩]
    have R := ref_all t hlt (okT_right ho) hk hn
    rw [encTr_eq] at R
    rw [ho] at C1
    refine AW.rT (by rfl) fun K hK => ?_
    simp -implicitDefEqProofs only [go_sem, ↓reduceIte, Nat.reduceAdd, Nat.reduceMul, Nat.reduceEqDiff, Nat.reduceLeDiff, reduceCtorEq, Int.reduceToNat, b1]
    refine ⟨.pure _, C1, ?_⟩
    try simp -implicitDefEqProofs only [go_sem, ↓reduceIte, Nat.reduceAdd, Nat.reduceMul, Nat.reduceEqDiff, Nat.reduceLeDiff, reduceCtorEq, Int.reduceToNat]
    refine hK _ ?_; clear hK K
    refine AW.cond _ (by simp -implicitDefEqProofs only [go_sem, ↓reduceIte, Nat.reduceAdd, Nat.reduceMul, Nat.reduceEqDiff, Nat.reduceLeDiff, reduceCtorEq, Int.reduceToNat]; rfl) (fun hc => ?_) (fun hc => ?_)
    · simp at hc
    refine AW.skip ?_
    simp only [andThen, inBlk, reduceCtorEq, ↓reduceIte, if_t, if_f]
    refine AW.rT (by rfl) fun K hK => ?_
    simp -implicitDefEqProofs only [go_sem, ↓reduceIte, Nat.reduceAdd, Nat.reduceMul, Nat.reduceEqDiff, Nat.reduceLeDiff, reduceCtorEq, Int.reduceToNat]
    refine ⟨.pure _, R, ?_⟩
    try simp -implicitDefEqProofs only [go_sem, ↓reduceIte, Nat.reduceAdd, Nat.reduceMul, Nat.reduceEqDiff, Nat.reduceLeDiff, reduceCtorEq, Int.reduceToNat]
    refine hK _ ?_; clear hK K
    refine AW.ret ?_
    simp -implicitDefEqProofs only [go_sem, ↓reduceIte, Nat.reduceAdd, Nat.reduceMul, Nat.reduceEqDiff, Nat.reduceLeDiff, reduceCtorEq, Int.reduceToNat, ea]
theorem ref_Encode (t : Tr) (hlt : lensT t = true) (hn : okTr t) : PFn Try.prog 68 [.agg (encTr t)] (.tuple [.slice ((encA t).1.map encB), .int .i64 (encA t).2]) := by
  have C1 := ref_Check t hlt
  rw [encTr_eq] at C1
  refine PFn.of Try.func68 rfl (by decide) Try.ntmps68 Try.results68 (Nat.le_of_ble_eq_true rfl) ?_
  simp only [argsT]
  refine AW.rT (by rfl) fun K hK => ?_
  simp -implicitDefEqProofs only [go_sem, ↓reduceIte, Nat.reduceAdd, Nat.reduceMul, Nat.reduceEqDiff, Nat.reduceLeDiff, reduceCtorEq, Int.reduceToNat, encTr_eq]
  refine hK _ ?_; clear hK K
  refine AW.seq ?_
  by_cases hk : t.kind = 3
  case neg =>
    have b1 : (t.kind != 3) = true := by simpa using hk
    have ea : encA t = ([], 1) := by rw [encA, if_neg (by simp [hk])]
    refine AW.rT (by rfl) fun K hK => ?_
    simp -implicitDefEqProofs only [go_sem, ↓reduceIte, Nat.reduceAdd, Nat.reduceMul, Nat.reduceEqDiff, Nat.reduceLeDiff, reduceCtorEq, Int.reduceToNat, b1]
    refine hK _ ?_; clear hK K
    refine AW.cond _ (by simp -implicitDefEqProofs only [go_sem, ↓reduceIte, Nat.reduceAdd, Nat.reduceMul, Nat.reduceEqDiff, Nat.reduceLeDiff, reduceCtorEq, Int.reduceToNat]; rfl) (fun hc => ?_) (fun hc => ?_)
    rotate_left
    · simp at hc
    refine AW.rT (by rfl) fun K hK => ?_
    simp -implicitDefEqProofs only [go_sem, ↓reduceIte, Nat.reduceAdd, Nat.reduceMul, Nat.reduceEqDiff, Nat.reduceLeDiff, reduceCtorEq, Int.reduceToNat]
    refine hK _ ?_; clear hK K
    refine AW.ret ?_
    simp -implicitDefEqProofs only [go_sem, ↓reduceIte, Nat.reduceAdd, Nat.reduceMul, Nat.reduceEqDiff, Nat.reduceLeDiff, reduceCtorEq, Int.reduceToNat, ea]
  have b1 : (t.kind != 3) = false := by simpa using hk
  cases ho : okT t with
  | false =>
    have ea : encA t = ([], 1) := by rw [encA, ho]; simp
    rw [ho] at C1
    refine AW.rT (by rfl) fun K hK => ?_
    simp -implicitDefEqProofs only [go_sem, ↓reduceIte, Nat.reduceAdd, Nat.reduceMul, Nat.reduceEqDiff, Nat.reduceLeDiff, reduceCtorEq, Int.reduceToNat, b1]
    refine ⟨.pure _, C1, ?_⟩
    try simp -implicitDefEqProofs only [go_sem, ↓reduceIte, Nat.reduceAdd, Nat.reduceMul, Nat.reduceEqDiff, Nat.reduceLeDiff, reduceCtorEq, Int.reduceToNat]
    refine hK _ ?_; clear hK K
    refine AW.cond _ (by simp -implicitDefEqProofs only [go_sem, ↓reduceIte, Nat.reduceAdd, Nat.reduceMul, Nat.reduceEqDiff, Nat.reduceLeDiff, reduceCtorEq, Int.reduceToNat]; rfl) (fun hc => ?_) (fun hc => ?_)
    rotate_left
    · simp at hc
    refine AW.rT (by rfl) fun K hK => ?_
    simp -implicitDefEqProofs only [go_sem, ↓reduceIte, Nat.reduceAdd, Nat.reduceMul, Nat.reduceEqDiff, Nat.reduceLeDiff, reduceCtorEq, Int.reduceToNat]
    refine hK _ ?_; clear hK K
    refine AW.ret ?_
    simp -implicitDefEqProofs only [go_sem, ↓reduceIte, Nat.reduceAdd, Nat.reduceMul, Nat.reduceEqDiff, Nat.reduceLeDiff, reduceCtorEq, Int.reduceToNat, ea]
  | true =>
    have ea : encA t = bytesT t := by rw [encA, if_pos ⟨ho, hk⟩]
    have L := (enc_all t hlt (okT_right ho) hk).2
    have R := ref_encode t (by omega) hn (ref_all t hlt (okT_right ho) hk hn)
    rw [encTr_eq] at R
    rw [ho] at C1
    refine AW.rT (by rfl) fun K hK => ?_
    simp -implicitDefEqProofs only [go_sem, ↓reduceIte, Nat.reduceAdd, Nat.reduceMul, Nat.reduceEqDiff, Nat.reduceLeDiff, reduceCtorEq, Int.reduceToNat, b1]
    refine ⟨.pure _, C1, ?_⟩
    try simp -implicitDefEqProofs only [go_sem, ↓reduceIte, Nat.reduceAdd, Nat.reduceMul, Nat.reduceEqDiff, Nat.reduceLeDiff, reduceCtorEq, Int.reduceToNat]
    refine hK _ ?_; clear hK K
    refine AW.cond _ (by simp -implicitDefEqProofs only [go_sem, ↓reduceIte, Nat.reduceAdd, Nat.reduceMul, Nat.reduceEqDiff, Nat.reduceLeDiff, reduceCtorEq, Int.reduceToNat]; rfl) (fun hc => ?_) (fun hc => ?_)
    · simp at hc
    refine AW.skip ?_
    simp only [andThen, inBlk, reduceCtorEq, ↓reduceIte, if_t, if_f]
    refine AW.rT (by rfl) fun K hK => ?_
    simp -implicitDefEqProofs only [go_sem, ↓reduceIte, Nat.reduceAdd, Nat.reduceMul, Nat.reduceEqDiff, Nat.reduceLeDiff, reduceCtorEq, Int.reduceToNat]
    refine ⟨.pure _, R, ?_⟩
    try simp -implicitDefEqProofs only [go_sem, ↓reduceIte, Nat.reduceAdd, Nat.reduceMul, Nat.reduceEqDiff, Nat.reduceLeDiff, reduceCtorEq, Int.reduceToNat]
    refine hK _ ?_; clear hK K
    refine AW.ret ?_
    simp -implicitDefEqProofs only [go_sem, ↓reduceIte, Nat.reduceAdd, Nat.reduceMul, Nat.reduceEqDiff, Nat.reduceLeDiff, reduceCtorEq, Int.reduceToNat, ea]
def exT : Tr := .mk 3 0 [] [(1, [.mk 1 5 [] [] []])] []
def awS : St := ⟨ofL [(8, .agg [.p (.int .i64 3), .p (.int .i64 0), .p (.str []), .p (.slice [[.int .i64 1, .slice [[.int .i64 1, .int .i64 5, .str [], .slice [], .slice []]]]]), .ex []])], ofH [], 0⟩
theorem law11_awake : PFn Try.prog 65 [] (.bool true) := by
  have E := enc_Encode exT (by decide)
  have e1 : encA exT = ([2, 10], 0) := by decide +kernel
  rw [e1] at E
  simp only [exT, encTr_eq, Tr.kind, Tr.n, Tr.s, Tr.ents, Tr.rest, List.map_cons, List.map_nil, encEn] at E
  have e3 : bytesOf (liftE [encB 2, encB 10]) = some [2, 10] := bytesOf_lift [2, 10]
  refine PFn.of Try.func65 rfl (by decide) Try.ntmps65 Try.results65 (Nat.le_of_ble_eq_true rfl) ?_
  simp only [argsT]
  refine AW.rT (by rfl) fun K hK => ?_
  simp -implicitDefEqProofs only [go_sem, ↓reduceIte, Nat.reduceAdd, Nat.reduceMul, Nat.reduceEqDiff, Nat.reduceLeDiff, reduceCtorEq, Int.reduceToNat]
  refine hK _ ?_; clear hK K
  refine AW.rS 5 (by rfl) ?_
  simp -implicitDefEqProofs only [go_sem, ↓reduceIte, Nat.reduceAdd, Nat.reduceMul, Nat.reduceEqDiff, Nat.reduceLeDiff, reduceCtorEq, Int.reduceToNat]
  refine ⟨awS, Ghost.trans (Ghost.freeze (lb := 2) (ps := [[.int .i64 1, .int .i64 5, .str [], .slice [], .slice []]]) rfl rfl) (Ghost.trans (Ghost.freeze (lb := 4) (ps := [[.int .i64 1, .slice [[.int .i64 1, .int .i64 5, .str [], .slice [], .slice []]]]]) (by rfl) (by rfl)) ?_), fun K hK => ?_⟩
  · simp only [awS]
    refine Ghost.sub ?_ ?_ <;> simp -implicitDefEqProofs only [go_sem, ↓reduceIte, Nat.reduceAdd, Nat.reduceMul, Nat.reduceEqDiff, Nat.reduceLeDiff, reduceCtorEq, Int.reduceToNat, thaw, thaw1, Option.map_some, List.take_length, List.map_cons, List.map_nil, List.forall_mem_cons, List.not_mem_nil, false_implies, implies_true, and_self, labsIn_lift, List.all_append, List.all_cons, List.all_nil, Nat.reduceLT, labsInL, AV.labsIn]
  simp only [awS]
  simp -implicitDefEqProofs only [go_sem, ↓reduceIte, Nat.reduceAdd, Nat.reduceMul, Nat.reduceEqDiff, Nat.reduceLeDiff, reduceCtorEq, Int.reduceToNat]
  refine ⟨.pure _, E, ?_⟩
  try simp -implicitDefEqProofs only [go_sem, ↓reduceIte, Nat.reduceAdd, Nat.reduceMul, Nat.reduceEqDiff, Nat.reduceLeDiff, reduceCtorEq, Int.reduceToNat]
  refine hK _ ?_; clear hK K
  refine AW.rT (by rfl) fun K hK => ?_
  simp -implicitDefEqProofs only [go_sem, ↓reduceIte, Nat.reduceAdd, Nat.reduceMul, Nat.reduceEqDiff, Nat.reduceLeDiff, reduceCtorEq, Int.reduceToNat, e3]
  refine hK _ ?_; clear hK K
  refine AW.ret ?_
  simp -implicitDefEqProofs only [go_sem, ↓reduceIte, Nat.reduceAdd, Nat.reduceMul, Nat.reduceEqDiff, Nat.reduceLeDiff, reduceCtorEq, Int.reduceToNat]
end Go.Aw
