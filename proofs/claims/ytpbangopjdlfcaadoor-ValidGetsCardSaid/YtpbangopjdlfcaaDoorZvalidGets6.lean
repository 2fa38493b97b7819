/- What the law LawValidGets leans on, joined (part 6). -/
import Derived.Test.YtpbangopjdlfcaaDoorZvalidGets5
set_option linter.unusedSimpArgs false
set_option linter.unusedVariables false
namespace Go.Aw.T
open Go.Proofs Go.RowKit
set_option linter.unusedSimpArgs false
set_option linter.unusedVariables false
def fb (S : Sc) (m : Ms) (l : List Int) (d : Nat) (tag : Nat) (es : List (Int × List Tr)) (b : Nat) (L : List (Nat × AV)) (H : List (Nat × Blk)) (n : Nat) : St :=
 ⟨ofL ((2, .p (.slice (l.map encI))) :: (3, .ptr 0 0 0) :: (4, .p (.int .i64 ((5 - d : Nat) : Int))) :: (5, .ptr 1 0 0) :: (10, .ptr 2 0 0) :: (11, .ptr 3 0 0) :: (12, .ptr 4 0 0) :: (14, .p (.int .i64 (tag : Int))) :: L),
 ofH ((0, .row 1 [[.p (.int .i64 (b : Int))]]) :: (1, .row 4 [cellsSc S]) :: (2, .row 5 [[.p (.int .i64 0), .p (.int .i64 0), .p (.str []), .ex [], .ex []]]) :: (3, .row 5 [[.p (.int .i64 3), .p (.int .i64 0), .p (.str []), .own 5, .ex []]]) :: (4, .row 3 [cellsMs m]) :: (5, .row 2 (liftE (es.map encEn))) :: H), n⟩
def fe (t : Tr) (b : Nat) : St := ⟨ofL [(3, .ptr 0 0 0), (10, .ptr 2 0 0), (11, .ptr 3 0 0)], ofH [(0, .row 1 [[.p (.int .i64 (b : Int))]]), (2, .row 5 [[.p (.int .i64 0), .p (.int .i64 0), .p (.str []), .ex [], .ex []]]), (3, .row 5 [cellsT t])], 4⟩
def fc (es : List (Int × List Tr)) (b : Nat) : St := ⟨ofL [(3, .ptr 0 0 0), (10, .ptr 2 0 0), (11, .ptr 3 0 0)], ofH [(0, .row 1 [[.p (.int .i64 (b : Int))]]), (2, .row 5 [[.p (.int .i64 0), .p (.int .i64 0), .p (.str []), .ex [], .ex []]]), (3, .row 5 [[.p (.int .i64 3), .p (.int .i64 0), .p (.str []), .own 5, .ex []]]), (5, .row 2 (liftE (es.map encEn)))], 6⟩
theorem tags_len {m : Ms} {l : List Int} {sub : List UInt8 → Nat → Tr × Nat} {ok : Bool} {a : Nat} : ∀ n, (itS (tagF m l sub ok) n ([], a)).1.length ≤ n
 | 0 => by simp [itS]
 | n + 1 => by
  have g := tags_len (m := m) (l := l) (sub := sub) (ok := ok) (a := a) n
  rw [itS]
  generalize itS (tagF m l sub ok) n ([], a) = x at g
  unfold tagF
  repeat' split
  all_goals (try simp only [List.length_append, List.length_cons, List.length_nil]); omega
def fz (t : Tr) (b : Nat) : St := ⟨ofL [(3, .ptr 0 0 0), (10, .ptr 2 0 0)], ofH [(0, .row 1 [[.p (.int .i64 (b : Int))]]), (2, .row 5 [cellsT t])], 4⟩
theorem fit_end {args : List AV} {t : Tr} {a b : Nat} (h : args[3]? = some (.ptr 0 0 0)) : EndD Tryd.prog #[ResultVar.cell 10 39] args (atH a) 1 [0] (.p (.agg (encTr t))) (atH b) 0 [3] .ret (fz t b) := by
 refine ⟨fun k => k, [.p (.agg (encTr t))], ⟨?_, trivial⟩, rfl, rfl, ?_, ?_, ?_⟩
 ·simp only [fz, cellsT, encTr_eq]
  simp -implicitDefEqProofs only [go_sem, ↓reduceIte, Nat.reduceAdd, Nat.reduceEqDiff, Nat.reduceLeDiff, reduceCtorEq]
  done
 ·simp only [atH, fz]
  simp -implicitDefEqProofs only [go_sem, ↓reduceIte, List.forall_mem_cons, List.not_mem_nil, false_implies, implies_true]
  first | done | decide
 ·simp [atH]
 ·exact at_root h rfl
set_option maxRecDepth 100000 in
set_option maxHeartbeats 8000000 in
theorem law00_fit (S : Sc) (hS : SizS S) (FO : ∀ k, (msOf S k).2 = true → FldsOK S (msOf S k).1) (l : List Int) (hl : l.length ≤ 200) : ∀ d, d ≤ 4 → FitOK S l d := by
 intro d
 induction d using Nat.strongRecOn with
 | _ d ih =>
 intro hd k a ha hk
 have hm := siz_of hS k
 have hF := FO k hk
 have C2 : PFn Tryd.prog 55 [.agg (encSc S), .str k] (.tuple [.agg (encMs (msOf S k).1), .bool (msOf S k).2]) := ref07_Message S k hS.msgs
 rw [fitF_eq]
 generalize (msOf S k).1 = m at C2 hm hF
 generalize (msOf S k).2 = mb at C2
 have CF : ∀ g, PFn Tryd.prog 27 [.agg (encMs m), .int .i64 g] (.tuple [.agg (encFd (fldOf m g).1), .bool (fldOf m g).2]) := fun g => ref07_Field m g hm
 simp only [encSc, encMs] at C2
 simp only [encMs, encFd] at CF
 have hok : (d != 0) = decide (d ≠ 0) := by cases d <;> rfl
 generalize hsub : subF S l d = sub
 generalize hokd : (d != 0) = ok
 have TL := fun n => tags_len (m := m) (l := l) (sub := sub) (ok := ok) (a := a) n
 refine DFn.of [3] Tryd.func60 rfl (by decide) Tryd.ntmps60 Tryd.results60 (Nat.le_of_ble_eq_true rfl) (by simp) fun val => ?_
 simp only [avT, atH]
 refine AW.rT (by rfl) fun K hK => ?_
 simp -implicitDefEqProofs only [go_sem, Nat.reduceAdd, encSc]
 refine hK _ ?_; clear hK K
 refine AW.rT (by rfl) fun K hK => ?_
 simp -implicitDefEqProofs only [go_sem, ↓reduceIte, Nat.reduceAdd, Nat.reduceEqDiff, Nat.reduceLeDiff]
 refine hK _ ?_; clear hK K
 refine AW.rT (by rfl) fun K hK => ?_
 simp -implicitDefEqProofs only [go_sem, ↓reduceIte, Nat.reduceAdd, Nat.reduceEqDiff, Nat.reduceLeDiff]
 refine ⟨.pure _, C2, ?_⟩
 try simp -implicitDefEqProofs only [go_sem, ↓reduceIte, Nat.reduceAdd, Nat.reduceEqDiff, Nat.reduceLeDiff]
 refine hK _ ?_; clear hK K
 refine AW.cut (fun _ : Unit => fc (itS (tagF m l sub ok) 500 ([], a)).1 (itS (tagF m l sub ok) 500 ([], a)).2) (fun _ => True) ?_ fun _ _ => ?_
 rotate_left
 ·generalize itS (tagF m l sub ok) 500 ([], a) = x
  obtain ⟨es, b⟩ := x
  refine AW.ghost (s' := fe (.mk 3 0 [] es []) b) (Ghost.trans (Ghost.freeze (lb := 5) (ps := es.map encEn) rfl (unlift_liftE _)) (Ghost.trans (Ghost.exH (l := 3) (i := 0) (j := 4) rfl rfl rfl) ?_)) ?_
  ·simp only [fc, fe, cellsT, Tr.kind, Tr.n, Tr.s, Tr.ents, Tr.rest, List.map_nil]
   refine Ghost.sub ?_ ?_ <;> simp -implicitDefEqProofs only [go_sem, ↓reduceIte, Nat.reduceEqDiff, reduceCtorEq, thaw, thaw1, Option.map_some, List.map_cons, List.map_nil, List.set_cons_zero, List.set_cons_succ, List.forall_mem_cons, List.not_mem_nil, false_implies, implies_true, and_self, List.all_cons, List.all_nil, Nat.reduceLT, labsInL, AV.labsIn]
   done
  generalize Tr.mk 3 0 [] es [] = tr
  simp only [fe, cellsT]
  refine AW.rT (by rfl) fun K hK => ?_
  simp -implicitDefEqProofs only [go_sem, ↓reduceIte, Nat.reduceAdd, Nat.reduceEqDiff, Nat.reduceLeDiff, reduceCtorEq, List.set_cons_zero]
  refine hK _ ?_; clear hK K
  refine AW.ghost (s' := fz tr b) ?_ (AW.ret (fit_end rfl))
  simp only [fz, cellsT]
  refine Ghost.sub ?_ ?_ <;> simp -implicitDefEqProofs only [go_sem, ↓reduceIte, Nat.reduceEqDiff, reduceCtorEq, List.forall_mem_cons, List.not_mem_nil, false_implies, implies_true, and_self, List.all_cons, List.all_nil, Nat.reduceLT, labsInL, AV.labsIn]
  done
 refine AW.rT (by rfl) fun K hK => ?_
 simp -implicitDefEqProofs only [go_sem, Nat.reduceAdd]
 refine hK _ ?_; clear hK K
 refine AW.block ?_
 refine AW.loop (fun i : Nat => fb S m l d (i + 1) (itS (tagF m l sub ok) i ([], a)).1 (itS (tagF m l sub ok) i ([], a)).2 [] [] 6) (fun i => i ≤ 500) (fun i => 500 - i) 0 ?_ (by simp) fun i hi => ?_
 ·refine Ghost.trans (Ghost.nilH (l := 4) (i := 0) (j := 3) (sz' := 2) rfl rfl rfl) ?_
  simp only [fb, cellsSc, cellsMs, itS]
  refine Ghost.ent (fun l => if l = 3 then 4 else if l = 4 then 12 else if l = 5 then 16 else l) ?_ ?_ ?_ <;> simp -implicitDefEqProofs only [go_sem, ↓reduceIte, Nat.reduceEqDiff, reduceCtorEq, List.map_nil, liftE_nil, List.set_cons_zero, List.set_cons_succ, List.forall_mem_cons, List.not_mem_nil, false_implies, implies_true, and_self, List.all_cons, List.all_nil, Nat.reduceLT, labsInL, AV.labsIn]
  all_goals first | rfl | skip
 refine AW.seq ?_
 have TLi := TL i
 have E0 := fun h : 150 ≤ (itS (tagF m l sub ok) i ([], a)).2 => itS_end h (500 - i)
 rw [show i + (500 - i) = 500 by omega] at E0
 have NX : itS (tagF m l sub ok) (i + 1) ([], a) = tagF m l sub ok i (itS (tagF m l sub ok) i ([], a)) := rfl
 by_cases h5 : i < 500
 case neg =>
  have hi' : i = 500 := by omega
  subst hi'
  generalize itS (tagF m l sub ok) 500 ([], a) = x
  obtain ⟨es, b⟩ := x
  simp only [fb, cellsSc, cellsMs]
  have b1 : (((500 + 1 : Nat) : Int) ≤ 500) = False := eq_false (by decide)
  refine AW.rT (by rfl) fun K hK => ?_
  simp -implicitDefEqProofs only [go_sem, ↓reduceIte, Nat.reduceAdd, Nat.reduceEqDiff, b1]
  refine hK _ ?_; clear hK K
  refine AW.cond _ (by simp -implicitDefEqProofs only [go_sem]; rfl) (fun hc => ?_) (fun hc => ?_)
  ·simp at hc
  refine AW.exit ?_
  simp only [andThen, inBlk, ↓reduceIte]
  refine ⟨(), trivial, ?_⟩
  simp only [fc]
  refine Ghost.sub ?_ ?_ <;> simp -implicitDefEqProofs only [go_sem, ↓reduceIte, Nat.reduceEqDiff, reduceCtorEq, List.forall_mem_cons, List.not_mem_nil, false_implies, implies_true, and_self, labsIn_lift, List.all_cons, List.all_nil, Nat.reduceLT, labsInL, AV.labsIn]
  done
 have b1 : (((i + 1 : Nat) : Int) ≤ 500) = True := eq_true (by omega)
 by_cases h150 : 150 ≤ (itS (tagF m l sub ok) i ([], a)).2
 ·rw [E0 h150]
  generalize itS (tagF m l sub ok) i ([], a) = x at h150
  obtain ⟨es, b⟩ := x
  simp only at h150
  simp only [fb, cellsSc, cellsMs]
  have b2 : ((b : Int) < 150) = False := eq_false (by omega)
  refine AW.rT (by rfl) fun K hK => ?_
  simp -implicitDefEqProofs only [go_sem, ↓reduceIte, Nat.reduceAdd, Nat.reduceEqDiff, b1, b2]
  refine hK _ ?_; clear hK K
  refine AW.cond _ (by simp -implicitDefEqProofs only [go_sem]; rfl) (fun hc => ?_) (fun hc => ?_)
  ·simp at hc
  refine AW.exit ?_
  simp only [andThen, inBlk, ↓reduceIte]
  refine ⟨(), trivial, ?_⟩
  simp only [fc]
  refine Ghost.sub ?_ ?_ <;> simp -implicitDefEqProofs only [go_sem, ↓reduceIte, Nat.reduceEqDiff, reduceCtorEq, List.forall_mem_cons, List.not_mem_nil, false_implies, implies_true, and_self, labsIn_lift, List.all_cons, List.all_nil, Nat.reduceLT, labsInL, AV.labsIn]
  done
 have w1 : IntKind.wrap .i64 (((i + 1 : Nat) : Int) + 1) = ((i + 1 + 1 : Nat) : Int) := by rw [w64] <;> omega
 have nextI : ∀ s' : St, Ghost ⟨109, [3], val⟩ s' (fb S m l d (i + 1 + 1) (tagF m l sub ok i (itS (tagF m l sub ok) i ([], a))).1 (tagF m l sub ok i (itS (tagF m l sub ok) i ([], a))).2 [] [] 6) → ∃ y : Nat, y ≤ 500 ∧ 500 - y < 500 - i ∧ Ghost ⟨109, [3], val⟩ s' (fb S m l d (y + 1) (itS (tagF m l sub ok) y ([], a)).1 (itS (tagF m l sub ok) y ([], a)).2 [] [] 6) := fun s' g => ⟨i + 1, by omega, by omega, by rw [NX]; exact g⟩
 have TF : tagF m l sub ok i (itS (tagF m l sub ok) i ([], a)) = _ := rfl
 generalize itS (tagF m l sub ok) i ([], a) = x at *
 obtain ⟨es, b⟩ := x
 simp only at h150 TLi
 have b2 : ((b : Int) < 150) = True := eq_true (by omega)
 have C1 := CF ((i + 1 : Nat) : Int)
 have hF1 := hF ((i + 1 : Nat) : Int)
 have TF : tagF m l sub ok i (es, b) = if (fldOf m ((i + 1 : Nat) : Int)).2 = false then (es, b) else
  if (nextF l b).1 % 3 = 0 then (es, (nextF l b).2) else if (fldOf m ((i + 1 : Nat) : Int)).1.ty.kind = 7 ∧ ok = false then (es, (nextF l b).2) else
  if (treesF l sub (fldOf m ((i + 1 : Nat) : Int)).1 (nextF l b).2).1 = [] then (es, (treesF l sub (fldOf m ((i + 1 : Nat) : Int)).1 (nextF l b).2).2) else
  (es ++ [(((i + 1 : Nat) : Int), (treesF l sub (fldOf m ((i + 1 : Nat) : Int)).1 (nextF l b).2).1)], (treesF l sub (fldOf m ((i + 1 : Nat) : Int)).1 (nextF l b).2).2) := by
  unfold tagF
  rw [if_neg (by simpa using h150)]
  rfl
 rcases hfo : fldOf m ((i + 1 : Nat) : Int) with ⟨f, fok⟩
 rw [hfo] at C1 hF1 TF
 simp only at C1 hF1 TF
 simp only [fb, cellsSc, cellsMs]
 refine AW.rT (by rfl) fun K hK => ?_
 simp -implicitDefEqProofs only [go_sem, ↓reduceIte, Nat.reduceAdd, Nat.reduceEqDiff, b1, b2]
 refine hK _ ?_; clear hK K
 refine AW.cond _ (by simp -implicitDefEqProofs only [go_sem]; rfl) (fun hc => ?_) (fun hc => ?_)
 rotate_left
 ·simp at hc
 refine AW.skip ?_
 simp only [andThen]
 refine AW.seq ?_
 refine AW.block ?_
 refine AW.rT (by rfl) fun K hK => ?_
 simp -implicitDefEqProofs only [go_sem, ↓reduceIte, Nat.reduceAdd, Nat.reduceEqDiff, Nat.reduceLeDiff, reduceCtorEq]
 refine ⟨.pure _, C1, ?_⟩
 try simp -implicitDefEqProofs only [go_sem, ↓reduceIte, Nat.reduceAdd, Nat.reduceEqDiff, Nat.reduceLeDiff]
 refine hK _ ?_; clear hK K
 have np := nextF_pos l b
 have CN := law00_next l b (by omega) hl
 refine AW.cut (fun _ : Unit => fb S m l d (i + 1) es (nextF l b).2 [(15, .ptr 6 0 0)] [(6, .row 5 [cellsFd f])] 7) (fun _ => fok = true ∧ ¬ (nextF l b).1 % 3 = 0 ∧ ¬ (f.ty.kind = 7 ∧ ok = false)) ?_ fun _ hj => ?_
 ·cases fok with
  | false =>
   rw [if_pos rfl] at TF
   refine AW.rT (by rfl) fun K hK => ?_
   simp -implicitDefEqProofs only [go_sem, ↓reduceIte, Nat.reduceAdd, Nat.reduceEqDiff]
   refine hK _ ?_; clear hK K
   refine AW.cond _ (by simp -implicitDefEqProofs only [go_sem]; rfl) (fun hc => ?_) (fun hc => ?_)
   rotate_left
   ·simp at hc
   refine AW.exit ?_
   simp only [andThen, inBlk, ↓reduceIte]
   refine AW.rE (by rfl) fun K hK => ?_
   simp -implicitDefEqProofs only [go_sem, ↓reduceIte, Nat.reduceAdd, Nat.reduceEqDiff, w1]
   refine hK _ ?_; clear hK K
   refine nextI _ ?_
   rw [TF]
   simp only [fb, cellsSc, cellsMs]
   refine Ghost.sub ?_ ?_ <;> simp -implicitDefEqProofs only [go_sem, ↓reduceIte, Nat.reduceEqDiff, reduceCtorEq, List.forall_mem_cons, List.not_mem_nil, false_implies, implies_true, and_self, labsIn_lift, List.all_cons, List.all_nil, Nat.reduceLT, labsInL, AV.labsIn]
   done
  | true =>
  rw [if_neg (by simp)] at TF
  have rm : (nextF l b).1.tmod 3 = (nextF l b).1 % 3 := Int.tmod_eq_emod_of_nonneg np.1
  have hz : ((3 : Int) = 0) = False := by simp
  have wm : IntKind.wrap .i64 ((nextF l b).1 % 3) = (nextF l b).1 % 3 := by rw [w64] <;> omega
  generalize (nextF l b).1 = v at CN rm wm TF np
  generalize (nextF l b).2 = b' at CN TF np
  by_cases h3 : v % 3 = 0
  ·have b3 := eqb h3
   rw [if_pos h3] at TF
   refine AW.rT (by rfl) fun K hK => ?_
   simp -implicitDefEqProofs only [go_sem, ↓reduceIte, Nat.reduceAdd, Nat.reduceEqDiff, reduceCtorEq]
   refine ⟨.lend [none, some 0] [.v (.slice (l.map encI)), .ptr 0 0 1 [[.int .i64 (b : Int)]]] [none, some (.row 1 [[.int .i64 (b' : Int)]])] (.int .i64 v), ⟨CN, rfl, ?_⟩, ?_⟩
   ·simp -implicitDefEqProofs only [go_sem, ↓reduceIte, Nat.reduceEqDiff, reduceCtorEq, liftE_cons, liftE_nil, List.map_cons, List.map_nil, and_self]
   simp -implicitDefEqProofs only [go_sem, ↓reduceIte, Nat.reduceAdd, Nat.reduceEqDiff, liftE_cons, liftE_nil, List.map_cons, List.map_nil, rm, hz, b3]
   refine hK _ ?_; clear hK K
   refine AW.cond _ (by simp -implicitDefEqProofs only [go_sem]; rfl) (fun hc => ?_) (fun hc => ?_)
   rotate_left
   ·simp at hc
   refine AW.exit ?_
   simp only [andThen, inBlk, ↓reduceIte]
   refine AW.rE (by rfl) fun K hK => ?_
   simp -implicitDefEqProofs only [go_sem, ↓reduceIte, Nat.reduceAdd, Nat.reduceEqDiff, w1]
   refine hK _ ?_; clear hK K
   refine nextI _ ?_
   rw [TF]
   simp only [fb, cellsSc, cellsMs]
   refine Ghost.sub ?_ ?_ <;> simp -implicitDefEqProofs only [go_sem, ↓reduceIte, Nat.reduceEqDiff, reduceCtorEq, List.forall_mem_cons, List.not_mem_nil, false_implies, implies_true, and_self, labsIn_lift, List.all_cons, List.all_nil, Nat.reduceLT, labsInL, AV.labsIn]
   done
  have b3 := beqf h3
  rw [if_neg h3] at TF
  by_cases h7 : f.ty.kind = 7
  ·have b7 := eqb h7
   by_cases hd0 : d = 0
   ·have hok0 : ok = false := by rw [← hokd, hd0]; rfl
    have bd : (((5 - d : Nat) : Int) ≥ 5) = True := eq_true (by omega)
    rw [if_pos ⟨h7, hok0⟩] at TF
    refine AW.rT (by rfl) fun K hK => ?_
    simp -implicitDefEqProofs only [go_sem, ↓reduceIte, Nat.reduceAdd, Nat.reduceEqDiff, reduceCtorEq]
    refine ⟨.lend [none, some 0] [.v (.slice (l.map encI)), .ptr 0 0 1 [[.int .i64 (b : Int)]]] [none, some (.row 1 [[.int .i64 (b' : Int)]])] (.int .i64 v), ⟨CN, rfl, ?_⟩, ?_⟩
    ·simp -implicitDefEqProofs only [go_sem, ↓reduceIte, Nat.reduceEqDiff, reduceCtorEq, liftE_cons, liftE_nil, List.map_cons, List.map_nil, and_self]
    simp -implicitDefEqProofs only [go_sem, ↓reduceIte, Nat.reduceAdd, Nat.reduceEqDiff, reduceCtorEq, liftE_cons, liftE_nil, List.map_cons, List.map_nil, rm, hz, b3, b7, bd]
    refine hK _ ?_; clear hK K
    refine AW.cond _ (by simp -implicitDefEqProofs only [go_sem]; rfl) (fun hc => ?_) (fun hc => ?_)
    rotate_left
    ·simp at hc
    refine AW.exit ?_
    simp only [andThen, inBlk, ↓reduceIte]
    refine AW.rE (by rfl) fun K hK => ?_
    simp -implicitDefEqProofs only [go_sem, ↓reduceIte, Nat.reduceAdd, Nat.reduceEqDiff, w1]
    refine hK _ ?_; clear hK K
    refine nextI _ ?_
    rw [TF]
    simp only [fb, cellsSc, cellsMs]
    refine Ghost.sub ?_ ?_ <;> simp -implicitDefEqProofs only [go_sem, ↓reduceIte, Nat.reduceEqDiff, reduceCtorEq, List.forall_mem_cons, List.not_mem_nil, false_implies, implies_true, and_self, labsIn_lift, List.all_cons, List.all_nil, Nat.reduceLT, labsInL, AV.labsIn]
    done
   ·have hok0 : ok = true := by rw [← hokd]; simpa using hd0
    have bd : (((5 - d : Nat) : Int) ≥ 5) = False := eq_false (by omega)
    refine AW.rT (by rfl) fun K hK => ?_
    simp -implicitDefEqProofs only [go_sem, ↓reduceIte, Nat.reduceAdd, Nat.reduceEqDiff, reduceCtorEq]
    refine ⟨.lend [none, some 0] [.v (.slice (l.map encI)), .ptr 0 0 1 [[.int .i64 (b : Int)]]] [none, some (.row 1 [[.int .i64 (b' : Int)]])] (.int .i64 v), ⟨CN, rfl, ?_⟩, ?_⟩
    ·simp -implicitDefEqProofs only [go_sem, ↓reduceIte, Nat.reduceEqDiff, reduceCtorEq, liftE_cons, liftE_nil, List.map_cons, List.map_nil, and_self]
    simp -implicitDefEqProofs only [go_sem, ↓reduceIte, Nat.reduceAdd, Nat.reduceEqDiff, reduceCtorEq, liftE_cons, liftE_nil, List.map_cons, List.map_nil, rm, hz, b3, b7, bd]
    refine hK _ ?_; clear hK K
    refine AW.cond _ (by simp -implicitDefEqProofs only [go_sem]; rfl) (fun hc => ?_) (fun hc => ?_)
    ·simp at hc
    refine AW.skip ?_
    simp only [andThen]
    refine ⟨(), ⟨trivial, h3, by rintro ⟨_, q⟩; rw [hok0] at q; cases q⟩, ?_⟩
    simp only [fb, cellsSc, cellsMs, cellsFd]
    refine Ghost.ent (fun l => if l = 6 then 20 else l) ?_ ?_ ?_ <;> simp -implicitDefEqProofs only [go_sem, ↓reduceIte, Nat.reduceEqDiff, reduceCtorEq, List.forall_mem_cons, List.not_mem_nil, false_implies, implies_true, and_self, map_renL_lift, labsIn_lift, List.all_cons, List.all_nil, Nat.reduceLT, labsInL, AV.labsIn]
    all_goals first | rfl | skip
  ·have b7 := beqf h7
   refine AW.rT (by rfl) fun K hK => ?_
   simp -implicitDefEqProofs only [go_sem, ↓reduceIte, Nat.reduceAdd, Nat.reduceEqDiff, reduceCtorEq]
   refine ⟨.lend [none, some 0] [.v (.slice (l.map encI)), .ptr 0 0 1 [[.int .i64 (b : Int)]]] [none, some (.row 1 [[.int .i64 (b' : Int)]])] (.int .i64 v), ⟨CN, rfl, ?_⟩, ?_⟩
   ·simp -implicitDefEqProofs only [go_sem, ↓reduceIte, Nat.reduceEqDiff, reduceCtorEq, liftE_cons, liftE_nil, List.map_cons, List.map_nil, and_self]
   simp -implicitDefEqProofs only [go_sem, ↓reduceIte, Nat.reduceAdd, Nat.reduceEqDiff, reduceCtorEq, liftE_cons, liftE_nil, List.map_cons, List.map_nil, rm, hz, b3, b7]
   refine hK _ ?_; clear hK K
   refine AW.cond _ (by simp -implicitDefEqProofs only [go_sem]; rfl) (fun hc => ?_) (fun hc => ?_)
   ·simp at hc
   refine AW.skip ?_
   simp only [andThen]
   refine ⟨(), ⟨trivial, h3, fun q => h7 q.1⟩, ?_⟩
   simp only [fb, cellsSc, cellsMs, cellsFd]
   refine Ghost.ent (fun l => if l = 6 then 20 else l) ?_ ?_ ?_ <;> simp -implicitDefEqProofs only [go_sem, ↓reduceIte, Nat.reduceEqDiff, reduceCtorEq, List.forall_mem_cons, List.not_mem_nil, false_implies, implies_true, and_self, map_renL_lift, labsIn_lift, List.all_cons, List.all_nil, Nat.reduceLT, labsInL, AV.labsIn]
   all_goals first | rfl | skip
 obtain ⟨rfl, hj3, hj7⟩ := hj
 rw [if_neg (by simp), if_neg hj3, if_neg hj7] at TF
 obtain ⟨⟨k1, k7⟩, km⟩ := hF1 rfl
 generalize (nextF l b).2 = b' at TF np
 simp only [fb, cellsSc, cellsMs, cellsFd]
 refine AW.rT (by rfl) fun K hK => ?_
 simp -implicitDefEqProofs only [go_sem, Nat.reduceAdd]
 refine hK _ ?_; clear hK K
 refine AW.cut (fun _ : Unit => fb S m l d (i + 1) es (cntF l f b').2 [(15, .ptr 6 0 0), (17, .p (.int .i64 ((cntF l f b').1 : Int)))] [(6, .row 5 [cellsFd f])] 7) (fun _ => True) ?_ fun _ _ => ?_
 ·by_cases hb3 : f.label = 3
  ·have b3 := eqb hb3
   have np2 := nextF_pos l b'
   have CN2 := law00_next l b' (by omega) hl
   have e1 : cntF l f b' = (1 + ((nextF l b').1 % 3).toNat, (nextF l b').2) := by unfold cntF; rw [if_pos hb3]
   rw [e1]
   have rm : (nextF l b').1.tmod 3 = (nextF l b').1 % 3 := Int.tmod_eq_emod_of_nonneg np2.1
   have hz : ((3 : Int) = 0) = False := by simp
   have wm : IntKind.wrap .i64 ((nextF l b').1 % 3) = (nextF l b').1 % 3 := by rw [w64] <;> omega
   have wn : IntKind.wrap .i64 (1 + (nextF l b').1 % 3) = ((1 + ((nextF l b').1 % 3).toNat : Nat) : Int) := by rw [w64] <;> omega
   refine AW.rT (by rfl) fun K hK => ?_
   simp -implicitDefEqProofs only [go_sem, ↓reduceIte, Nat.reduceAdd, Nat.reduceEqDiff, reduceCtorEq, b3]
   refine hK _ ?_; clear hK K
   refine AW.cond _ (by simp -implicitDefEqProofs only [go_sem]; rfl) (fun hc => ?_) (fun hc => ?_)
   rotate_left
   ·simp at hc
   refine AW.rE (by rfl) fun K hK => ?_
   simp -implicitDefEqProofs only [go_sem, ↓reduceIte, Nat.reduceAdd, Nat.reduceEqDiff]
   refine ⟨.lend [none, some 0] [.v (.slice (l.map encI)), .ptr 0 0 1 [[.int .i64 (b' : Int)]]] [none, some (.row 1 [[.int .i64 ((nextF l b').2 : Int)]])] (.int .i64 (nextF l b').1), ⟨CN2, rfl, ?_⟩, ?_⟩
   ·simp -implicitDefEqProofs only [go_sem, ↓reduceIte, Nat.reduceEqDiff, liftE_cons, liftE_nil, List.map_cons, List.map_nil, and_self]
   simp -implicitDefEqProofs only [go_sem, ↓reduceIte, Nat.reduceAdd, liftE_cons, liftE_nil, List.map_cons, List.map_nil, rm, hz, wn]
   refine hK _ ?_; clear hK K
   simp only [andThen]
   refine ⟨(), trivial, ?_⟩
   simp only [fb, cellsSc, cellsMs, cellsFd]
   refine Ghost.sub ?_ ?_ <;> simp -implicitDefEqProofs only [go_sem, ↓reduceIte, Nat.reduceEqDiff, reduceCtorEq, List.forall_mem_cons, List.not_mem_nil, false_implies, implies_true, and_self, labsIn_lift, List.all_cons, List.all_nil, Nat.reduceLT, labsInL, AV.labsIn]
   done
  ·have b3 := beqf hb3
   have e1 : cntF l f b' = (1, b') := by unfold cntF; rw [if_neg hb3]
   rw [e1]
   refine AW.rT (by rfl) fun K hK => ?_
   simp -implicitDefEqProofs only [go_sem, ↓reduceIte, Nat.reduceAdd, Nat.reduceEqDiff, reduceCtorEq, b3]
   refine hK _ ?_; clear hK K
   refine AW.cond _ (by simp -implicitDefEqProofs only [go_sem]; rfl) (fun hc => ?_) (fun hc => ?_)
   ·simp at hc
   refine AW.skip ?_
   simp only [andThen]
   refine ⟨(), trivial, ?_⟩
   simp only [fb, cellsSc, cellsMs, cellsFd]
   refine Ghost.sub ?_ ?_ <;> simp -implicitDefEqProofs only [go_sem, ↓reduceIte, Nat.reduceEqDiff, reduceCtorEq, List.forall_mem_cons, List.not_mem_nil, false_implies, implies_true, and_self, labsIn_lift, List.all_cons, List.all_nil, Nat.reduceLT, labsInL, AV.labsIn]
   all_goals first | rfl | simp
 have cn := cntF_le l f b'
 have RG := reps_good (S := S) (l := l) (sub := sub) (f := f) (d := d)
 have RA := reps_at (l := l) (sub := sub) (f := f) (hsub ▸ sub_at S l d) ([], (cntF l f b').2)
 have TE : treesF l sub f b' = itS (fun _ => repF l sub f) (cntF l f b').1 ([], (cntF l f b').2) := rfl
 generalize (cntF l f b').1 = c at cn TE
 generalize (cntF l f b').2 = b3 at cn TE RA
 obtain ⟨cn1, cn2, cn3, cn4, cn5⟩ := cn
 simp only at RA
 simp only [fb, cellsSc, cellsMs, cellsFd]
 refine AW.rT (by rfl) fun K hK => ?_
 simp -implicitDefEqProofs only [go_sem, ↓reduceIte, Nat.reduceAdd, Nat.reduceEqDiff, Nat.reduceLeDiff]
 refine hK _ ?_; clear hK K
 refine AW.seq ?_
 refine AW.rT (by rfl) fun K hK => ?_
 simp -implicitDefEqProofs only [go_sem, Nat.reduceAdd]
 refine hK _ ?_; clear hK K
 refine AW.block ?_
 refine AW.loop (fun j : Nat => fb S m l d (i + 1) es (itS (fun _ => repF l sub f) j ([], b3)).2 [(15, .ptr 6 0 0), (17, .p (.int .i64 (c : Int))), (18, .ptr 7 0 0), (19, .p (.int .i64 (j : Int)))] [(6, .row 5 [cellsFd f]), (7, .row 2 [[.p (.int .i64 ((i + 1 : Nat) : Int)), .own 8]]), (8, .row 5 (liftE ((itS (fun _ => repF l sub f) j ([], b3)).1.map encTr)))] 9) (fun j => j ≤ c ∧ (itS (fun _ => repF l sub f) j ([], b3)).1.length ≤ j) (fun j => c - j) 0 ?_ (by simp [itS]) fun j hj => ?_
 ·refine Ghost.trans (Ghost.nilH (l := 9) (i := 0) (j := 1) (sz' := 5) rfl rfl rfl) ?_
  simp only [fb, cellsSc, cellsMs, cellsFd, itS]
  refine Ghost.ent (fun l => if l = 7 then 9 else if l = 8 then 12 else l) ?_ ?_ ?_ <;> simp -implicitDefEqProofs only [go_sem, ↓reduceIte, Nat.reduceEqDiff, reduceCtorEq, List.map_nil, liftE_nil, List.set_cons_zero, List.set_cons_succ, List.forall_mem_cons, List.not_mem_nil, false_implies, implies_true, and_self, map_renL_lift, labsIn_lift, List.all_cons, List.all_nil, Nat.reduceLT, labsInL, AV.labsIn]
  all_goals first | rfl | skip
 obtain ⟨hj1, hj2⟩ := hj
 have RAj := RA j
 have NJ : itS (fun _ => repF l sub f) (j + 1) ([], b3) = repF l sub f (itS (fun _ => repF l sub f) j ([], b3)) := rfl
 have wj : IntKind.wrap .i64 ((j : Int) + 1) = ((j + 1 : Nat) : Int) := by rw [w64] <;> omega
 refine AW.seq ?_
 by_cases hjc : j < c
 case neg =>
  have hj' : j = c := by omega
  subst hj'
  rw [← TE]
  rw [← TE] at hj2
  generalize treesF l sub f b' = y at hj2 TF
  obtain ⟨ts, bb⟩ := y
  simp only at hj2
  have hc2 : ((j : Int) < (j : Int)) = False := eq_false (by omega)
  simp only [fb, cellsSc, cellsMs, cellsFd]
  refine AW.rT (by rfl) fun K hK => ?_
  simp -implicitDefEqProofs only [go_sem, ↓reduceIte, Nat.reduceAdd, Nat.reduceEqDiff, hc2]
  refine hK _ ?_; clear hK K
  refine AW.cond _ (by simp -implicitDefEqProofs only [go_sem]; rfl) (fun hc => ?_) (fun hc => ?_)
  ·simp at hc
  refine AW.exit ?_
  simp only [andThen, inBlk, ↓reduceIte]
  refine AW.ghost (s' := fb S m l d (i + 1) es bb [(18, .ptr 7 0 0)] [(7, .row 2 [[.p (.int .i64 ((i + 1 : Nat) : Int)), .p (.slice (ts.map encTr))]])] 8) (Ghost.trans (Ghost.freeze (lb := 8) (ps := ts.map encTr) rfl (unlift_liftE _)) ?_) ?_
  ·simp only [fb, cellsSc, cellsMs]
   refine Ghost.sub ?_ ?_ <;> simp -implicitDefEqProofs only [go_sem, ↓reduceIte, Nat.reduceEqDiff, reduceCtorEq, thaw, thaw1, Option.map_some, List.map_cons, List.map_nil, thaw_lift, List.forall_mem_cons, List.not_mem_nil, false_implies, implies_true, and_self, labsIn_lift, List.all_cons, List.all_nil, Nat.reduceLT, labsInL, AV.labsIn]
   done
  simp only [fb, cellsSc, cellsMs]
  by_cases h0 : ts = []
  ·subst h0
   have g1 : ((((([] : List Tr).map encTr).length : Nat) : Int) > 0) = False := eq_false (by simp)
   rw [if_pos rfl] at TF
   refine AW.rT (by rfl) fun K hK => ?_
   simp -implicitDefEqProofs only [go_sem, ↓reduceIte, Nat.reduceAdd, Nat.reduceEqDiff, reduceCtorEq]
   refine hK _ ?_; clear hK K
   refine AW.cond _ (by simp -implicitDefEqProofs only [go_sem]; rfl) (fun hc => ?_) (fun hc => ?_)
   ·simp at hc
   refine AW.skip ?_
   simp only [andThen, inBlk]
   refine AW.rE (by rfl) fun K hK => ?_
   simp -implicitDefEqProofs only [go_sem, ↓reduceIte, Nat.reduceAdd, Nat.reduceEqDiff, w1]
   refine hK _ ?_; clear hK K
   refine nextI _ ?_
   rw [TF]
   simp only [fb, cellsSc, cellsMs]
   refine Ghost.sub ?_ ?_ <;> simp -implicitDefEqProofs only [go_sem, ↓reduceIte, Nat.reduceEqDiff, reduceCtorEq, List.forall_mem_cons, List.not_mem_nil, false_implies, implies_true, and_self, labsIn_lift, List.all_cons, List.all_nil, Nat.reduceLT, labsInL, AV.labsIn]
   done
  ·have hp := List.length_pos_iff.2 h0
   have g1 : ((ts.length : Int) > 0) = True := eq_true (by omega)
   rw [if_neg h0] at TF
   refine AW.rT (by rfl) fun K hK => ?_
   simp -implicitDefEqProofs only [go_sem, ↓reduceIte, Nat.reduceAdd, Nat.reduceEqDiff, reduceCtorEq, g1, List.length_map]
   refine hK _ ?_; clear hK K
   refine AW.cond _ (by simp -implicitDefEqProofs only [go_sem]; rfl) (fun hc => ?_) (fun hc => ?_)
   rotate_left
   ·simp at hc
   refine AW.rE (by rfl) fun K hK => ?_
   simp -implicitDefEqProofs only [go_sem, ↓reduceIte, Nat.reduceAdd, Nat.reduceMul, Nat.reduceEqDiff, Nat.reduceLeDiff, reduceCtorEq]
   refine ⟨⟨by simp, by simp [oneAll, AV.one, PV.one], by simp⟩, by simp [liftE_length]; omega, ?_⟩
   try simp -implicitDefEqProofs only [go_sem, ↓reduceIte, Nat.reduceAdd, Nat.reduceMul, Nat.reduceEqDiff, Nat.reduceLeDiff, reduceCtorEq, Int.reduceToNat]
   refine hK _ ?_; clear hK K
   simp only [andThen, inBlk]
   have e8 : liftE (es.map encEn) ++ [[AV.p (.int .i64 ((i + 1 : Nat) : Int)), .p (.slice (ts.map encTr))]] = liftE ((es ++ [(((i + 1 : Nat) : Int), ts)]).map encEn) := by
    simp [liftE, encEn]
   refine AW.rE (by rfl) fun K hK => ?_
   simp -implicitDefEqProofs only [go_sem, ↓reduceIte, Nat.reduceAdd, Nat.reduceEqDiff, w1]
   refine hK _ ?_; clear hK K
   refine nextI _ ?_
   rw [TF]
   simp only [fb, cellsSc, cellsMs]
   rw [← e8]
   refine Ghost.ent (fun l => if l = 5 then 16 else l) ?_ ?_ ?_ <;> simp -implicitDefEqProofs only [go_sem, ↓reduceIte, Nat.reduceEqDiff, reduceCtorEq, List.forall_mem_cons, List.not_mem_nil, false_implies, implies_true, and_self, map_renL_lift, labsIn_lift, List.all_append, List.all_cons, List.all_nil, List.map_append, Nat.reduceLT, labsInL, AV.labsIn]
   all_goals first | rfl | skip
 generalize itS (fun _ => repF l sub f) j ([], b3) = y at *
 obtain ⟨ts, bb⟩ := y
 simp only at hj2 RAj
 have hc2 : ((j : Int) < (c : Int)) = True := eq_true (by omega)
 have CO := law00_one S l hl f d bb (by omega) k1 k7 fun h => by
  have h0 : d ≠ 0 := fun q => hj7 ⟨h, by rw [← hokd, q]; rfl⟩
  exact ⟨d - 1, by omega, hd, ih (d - 1) (by omega) (by omega), km h⟩
 rw [hsub] at CO
 have RF : repF l sub f (ts, bb) = (if f.label ≠ 1 ∨ zeroV (oneF l sub f bb).1 = false then ts ++ [(oneF l sub f bb).1] else ts, (oneF l sub f bb).2) := rfl
 rw [RF] at NJ
 generalize oneF l sub f bb = z at CO NJ
 obtain ⟨tr, b4⟩ := z
 simp only at CO NJ
 have CZ := ref10_Zero tr
 rw [encTr_eq tr] at CO CZ
 simp only [fb, cellsSc, cellsMs, cellsFd]
 refine AW.rT (by rfl) fun K hK => ?_
 simp -implicitDefEqProofs only [go_sem, ↓reduceIte, Nat.reduceAdd, Nat.reduceEqDiff, hc2]
 refine hK _ ?_; clear hK K
 refine AW.cond _ (by simp -implicitDefEqProofs only [go_sem]; rfl) (fun hc => ?_) (fun hc => ?_)
 rotate_left
 ·simp at hc
 refine AW.skip ?_
 simp only [andThen]
 refine AW.seq ?_
 refine AW.block ?_
 refine AW.rR (SeqR.ev 5 (by rfl) (by decide) ?_)
 simp -implicitDefEqProofs only [go_sem, ↓reduceIte, Nat.reduceAdd, Nat.reduceEqDiff, Nat.reduceLeDiff, reduceCtorEq]
 refine SeqR.call (fun k => k) rfl rfl CO ⟨?_, rfl, ?_, rfl, rfl, rfl, rfl, rfl, rfl⟩ ?_
 ·simp -implicitDefEqProofs only [go_sem, ↓reduceIte, Nat.reduceEqDiff, argD, encSc, encFd]
 ·simp only [atH]
  simp -implicitDefEqProofs only [go_sem, ↓reduceIte, List.forall_mem_cons, List.not_mem_nil, false_implies, implies_true]
  first | done | decide
 simp only [atH, AV.ren]
 refine SeqR.ev 2 (by rfl) (by decide) ?_
 simp -implicitDefEqProofs only [go_sem, ↓reduceIte, Nat.reduceAdd, Nat.reduceEqDiff, Nat.reduceLeDiff, lift2, goneU, newU, List.map_cons, List.map_nil, putH, Nat.reduceLT]
 refine SeqR.last rfl ?_
 refine AW.ghost (s' := fb S m l d (i + 1) es b4 [(15, .ptr 6 0 0), (17, .p (.int .i64 (c : Int))), (18, .ptr 7 0 0), (19, .p (.int .i64 (j : Int))), (20, .ptr 9 0 0)] [(6, .row 5 [cellsFd f]), (7, .row 2 [[.p (.int .i64 ((i + 1 : Nat) : Int)), .own 8]]), (8, .row 5 (liftE (ts.map encTr))), (9, .row 5 [cellsT tr])] 10) ?_ ?_
 ·simp only [fb, cellsSc, cellsMs, cellsFd, cellsT]
  refine Ghost.ent (fun l => if l = 9 then 17 else l) ?_ ?_ ?_ <;> simp -implicitDefEqProofs only [go_sem, ↓reduceIte, Nat.reduceEqDiff, reduceCtorEq, List.forall_mem_cons, List.not_mem_nil, false_implies, implies_true, and_self, map_renL_lift, labsIn_lift, List.all_cons, List.all_nil, Nat.reduceLT, labsInL, AV.labsIn]
  all_goals first | rfl | skip
 simp only [fb, cellsSc, cellsMs, cellsFd, cellsT]
 have nextJ : ∀ (q : List Tr) (s' : St), itS (fun _ => repF l sub f) (j + 1) ([], b3) = (q, b4) → q.length ≤ j + 1 → Ghost ⟨109, [3], val⟩ s' (fb S m l d (i + 1) es b4 [(15, .ptr 6 0 0), (17, .p (.int .i64 (c : Int))), (18, .ptr 7 0 0), (19, .p (.int .i64 ((j + 1 : Nat) : Int)))] [(6, .row 5 [cellsFd f]), (7, .row 2 [[.p (.int .i64 ((i + 1 : Nat) : Int)), .own 8]]), (8, .row 5 (liftE (q.map encTr)))] 9) →
   ∃ y : Nat, (y ≤ c ∧ (itS (fun _ => repF l sub f) y ([], b3)).1.length ≤ y) ∧ c - y < c - j ∧ Ghost ⟨109, [3], val⟩ s' (fb S m l d (i + 1) es (itS (fun _ => repF l sub f) y ([], b3)).2 [(15, .ptr 6 0 0), (17, .p (.int .i64 (c : Int))), (18, .ptr 7 0 0), (19, .p (.int .i64 (y : Int)))] [(6, .row 5 [cellsFd f]), (7, .row 2 [[.p (.int .i64 ((i + 1 : Nat) : Int)), .own 8]]), (8, .row 5 (liftE ((itS (fun _ => repF l sub f) y ([], b3)).1.map encTr)))] 9) :=
  fun q s' e hq g => ⟨j + 1, ⟨by omega, by rw [e]; exact hq⟩, by omega, by rw [e]; exact g⟩
 have app : liftE (ts.map encTr) ++ [[AV.p (.int .i64 tr.kind), .p (.int .i64 tr.n), .p (.str tr.s), .p (.slice (tr.ents.map encEn)), .p (.slice (tr.rest.map encRaw))]] = liftE ((ts ++ [tr]).map encTr) := by
  simp [liftE, encTr_eq tr]
 by_cases hb1 : f.label = 1
 case neg =>
  have b1 : (f.label != 1) = true := by simpa using hb1
  rw [if_pos (.inl hb1)] at NJ
  refine AW.rT (by rfl) fun K hK => ?_
  simp -implicitDefEqProofs only [go_sem, ↓reduceIte, Nat.reduceAdd, Nat.reduceEqDiff, reduceCtorEq, b1]
  refine hK _ ?_; clear hK K
  refine AW.cond _ (by simp -implicitDefEqProofs only [go_sem]; rfl) (fun hc => ?_) (fun hc => ?_)
  rotate_left
  ·simp at hc
  refine AW.rE (by rfl) fun K hK => ?_
  simp -implicitDefEqProofs only [go_sem, ↓reduceIte, Nat.reduceAdd, Nat.reduceMul, Nat.reduceEqDiff, Nat.reduceLeDiff, reduceCtorEq]
  refine ⟨⟨by simp, by simp [oneAll, AV.one, PV.one], by simp⟩, by simp [liftE_length]; omega, ?_⟩
  try simp -implicitDefEqProofs only [go_sem, ↓reduceIte, Nat.reduceAdd, Nat.reduceMul, Nat.reduceEqDiff, Nat.reduceLeDiff, reduceCtorEq, Int.reduceToNat]
  refine hK _ ?_; clear hK K
  simp only [andThen, inBlk]
  refine AW.rE (by rfl) fun K hK => ?_
  simp -implicitDefEqProofs only [go_sem, ↓reduceIte, Nat.reduceAdd, Nat.reduceEqDiff, wj]
  refine hK _ ?_; clear hK K
  refine nextJ _ _ NJ (by simp; omega) ?_
  simp only [fb, cellsSc, cellsMs, cellsFd]
  rw [← app]
  refine Ghost.ent (fun l => if l = 8 then 22 else l) ?_ ?_ ?_ <;> simp -implicitDefEqProofs only [go_sem, ↓reduceIte, Nat.reduceEqDiff, reduceCtorEq, List.forall_mem_cons, List.not_mem_nil, false_implies, implies_true, and_self, map_renL_lift, labsIn_lift, List.all_append, List.all_cons, List.all_nil, List.map_append, Nat.reduceLT, labsInL, AV.labsIn]
  all_goals first | rfl | skip
 have b1 : (f.label != 1) = false := by simp [hb1]
 cases hz : zeroV tr with
 | false =>
  rw [hz] at CZ
  rw [if_pos (.inr hz)] at NJ
  refine AW.rT (by rfl) fun K hK => ?_
  simp -implicitDefEqProofs only [go_sem, ↓reduceIte, Nat.reduceAdd, Nat.reduceEqDiff, Nat.reduceLeDiff, reduceCtorEq, b1]
  refine ⟨.pure _, CZ, ?_⟩
  try simp -implicitDefEqProofs only [go_sem, ↓reduceIte, Nat.reduceAdd, Nat.reduceEqDiff]
  refine hK _ ?_; clear hK K
  refine AW.cond _ (by simp -implicitDefEqProofs only [go_sem]; rfl) (fun hc => ?_) (fun hc => ?_)
  rotate_left
  ·simp at hc
  refine AW.rE (by rfl) fun K hK => ?_
  simp -implicitDefEqProofs only [go_sem, ↓reduceIte, Nat.reduceAdd, Nat.reduceMul, Nat.reduceEqDiff, Nat.reduceLeDiff, reduceCtorEq]
  refine ⟨⟨by simp, by simp [oneAll, AV.one, PV.one], by simp⟩, by simp [liftE_length]; omega, ?_⟩
  try simp -implicitDefEqProofs only [go_sem, ↓reduceIte, Nat.reduceAdd, Nat.reduceMul, Nat.reduceEqDiff, Nat.reduceLeDiff, reduceCtorEq, Int.reduceToNat]
  refine hK _ ?_; clear hK K
  simp only [andThen, inBlk]
  refine AW.rE (by rfl) fun K hK => ?_
  simp -implicitDefEqProofs only [go_sem, ↓reduceIte, Nat.reduceAdd, Nat.reduceEqDiff, wj]
  refine hK _ ?_; clear hK K
  refine nextJ _ _ NJ (by simp; omega) ?_
  simp only [fb, cellsSc, cellsMs, cellsFd]
  rw [← app]
  refine Ghost.ent (fun l => if l = 8 then 22 else l) ?_ ?_ ?_ <;> simp -implicitDefEqProofs only [go_sem, ↓reduceIte, Nat.reduceEqDiff, reduceCtorEq, List.forall_mem_cons, List.not_mem_nil, false_implies, implies_true, and_self, map_renL_lift, labsIn_lift, List.all_append, List.all_cons, List.all_nil, List.map_append, Nat.reduceLT, labsInL, AV.labsIn]
  all_goals first | rfl | skip
 | true =>
  rw [hz] at CZ
  rw [if_neg (by rintro (q | q); exact q hb1; rw [hz] at q; cases q)] at NJ
  refine AW.rT (by rfl) fun K hK => ?_
  simp -implicitDefEqProofs only [go_sem, ↓reduceIte, Nat.reduceAdd, Nat.reduceEqDiff, Nat.reduceLeDiff, reduceCtorEq, b1]
  refine ⟨.pure _, CZ, ?_⟩
  try simp -implicitDefEqProofs only [go_sem, ↓reduceIte, Nat.reduceAdd, Nat.reduceEqDiff]
  refine hK _ ?_; clear hK K
  refine AW.cond _ (by simp -implicitDefEqProofs only [go_sem]; rfl) (fun hc => ?_) (fun hc => ?_)
  ·simp at hc
  refine AW.skip ?_
  simp only [andThen, inBlk]
  refine AW.rE (by rfl) fun K hK => ?_
  simp -implicitDefEqProofs only [go_sem, ↓reduceIte, Nat.reduceAdd, Nat.reduceEqDiff, wj]
  refine hK _ ?_; clear hK K
  refine nextJ _ _ NJ (by omega) ?_
  simp only [fb, cellsSc, cellsMs, cellsFd]
  refine Ghost.sub ?_ ?_ <;> simp -implicitDefEqProofs only [go_sem, ↓reduceIte, Nat.reduceEqDiff, reduceCtorEq, List.forall_mem_cons, List.not_mem_nil, false_implies, implies_true, and_self, labsIn_lift, List.all_cons, List.all_nil, Nat.reduceLT, labsInL, AV.labsIn]
  done
end Go.Aw.T
namespace Go.Aw.T
open Go.Proofs Go.RowKit
set_option linter.unusedSimpArgs false
set_option linter.unusedVariables false
def fitB (S : Sc) (k : List UInt8) (l : List Int) : Tr := (fitF S l 4 k 0).1
set_option maxRecDepth 100000 in
set_option maxHeartbeats 8000000 in
theorem law00_Fit (S : Sc) (hS : SizS S) (FO : ∀ k, (msOf S k).2 = true → FldsOK S (msOf S k).1) (l : List Int) (hl : l.length ≤ 200) (k : List UInt8) (hk : (msOf S k).2 = true) : PFn Tryd.prog 23 [.agg (encSc S), .str k, .slice (l.map encI)] (.agg (encTr (fitB S k l))) := by
 have CT := law00_fit S hS FO l hl 4 (by omega) k 0 (by omega) hk
 refine PFn.of Tryd.func23 rfl (by decide) Tryd.ntmps23 Tryd.results23 (Nat.le_of_ble_eq_true rfl) ?_
 unfold fitB
 generalize (fitF S l 4 k 0).1 = tr at CT
 generalize (fitF S l 4 k 0).2 = b at CT
 have e1 : ((5 - 4 : Nat) : Int) = 1 := rfl
 rw [e1, encTr_eq tr] at CT
 simp only [argsT]
 refine AW.rT (by rfl) fun K hK => ?_
 simp -implicitDefEqProofs only [go_sem, Nat.reduceAdd, encSc]
 refine hK _ ?_; clear hK K
 refine AW.rT (by rfl) fun K hK => ?_
 simp -implicitDefEqProofs only [go_sem, Nat.reduceAdd, Nat.reduceLeDiff]
 refine hK _ ?_; clear hK K
 refine AW.rR (SeqR.ev 3 (by rfl) (by decide) ?_)
 simp -implicitDefEqProofs only [go_sem, ↓reduceIte, Nat.reduceAdd, Nat.reduceEqDiff, Nat.reduceLeDiff, reduceCtorEq]
 refine SeqR.call (fun k => 2) rfl rfl CT ⟨?_, rfl, ?_, rfl, rfl, rfl, rfl, rfl, rfl⟩ ?_
 ·simp -implicitDefEqProofs only [go_sem, ↓reduceIte, Nat.reduceEqDiff, argD, encSc]
  done
 ·simp only [atH]
  simp -implicitDefEqProofs only [go_sem, List.forall_mem_cons, List.not_mem_nil, false_implies, implies_true]
  exact ⟨rfl, by decide⟩
 simp only [atH, AV.ren]
 refine SeqR.ev 1 (by rfl) (by decide) ?_
 simp -implicitDefEqProofs only [go_sem, ↓reduceIte, Nat.reduceAdd, Nat.reduceEqDiff, Nat.reduceLeDiff, lift2, goneU, newU, List.map_cons, List.map_nil, putH, Nat.reduceLT]
 refine SeqR.last rfl ?_
 refine AW.ret ?_
 simp -implicitDefEqProofs only [go_sem, ↓reduceIte, Nat.reduceAdd, Nat.reduceEqDiff, Nat.reduceLeDiff, encTr_eq]
 done
end Go.Aw.T
namespace Go.Aw.T
open Go.Proofs
set_option linter.unusedSimpArgs false
set_option linter.unusedVariables false
def bareN (e : Int × List Tr) : Int × List Tr := (e.1, e.2.map bareT)
def bx (t : Tr) (i : Nat) : St := ⟨ofL [(1, .ptr 0 0 0), (2, .ptr 1 0 0), (3, .ptr 2 0 0), (4, .p (.int .i64 (i : Int)))],
 ofH [(0, .row 5 [cellsT t]), (1, .row 5 [[.p (.int .i64 0), .p (.int .i64 0), .p (.str []), .ex [], .ex []]]), (2, .row 5 [[.p (.int .i64 t.kind), .p (.int .i64 t.n), .p (.str t.s), .own 3, .ex []]]),
  (3, .row 2 (liftE (((t.ents.map bareN).take i).map encEn)))], 4⟩
def bz (t : Tr) (i : Nat) (e : Int × List Tr) : St := ⟨ofL [(1, .ptr 0 0 0), (2, .ptr 1 0 0), (3, .ptr 2 0 0), (4, .p (.int .i64 (i : Int))), (5, .ptr 4 0 0)],
 ofH [(0, .row 5 [cellsT t]), (1, .row 5 [[.p (.int .i64 0), .p (.int .i64 0), .p (.str []), .ex [], .ex []]]), (2, .row 5 [[.p (.int .i64 t.kind), .p (.int .i64 t.n), .p (.str t.s), .own 3, .ex []]]),
  (3, .row 2 (liftE (((t.ents.map bareN).take i).map encEn))), (4, .row 2 [[.p (.int .i64 e.1), .p (.slice ((e.2.map bareT).map encTr))]])], 5⟩
end Go.Aw.T
namespace Go.Aw.T
open Go.Proofs
set_option linter.unusedSimpArgs false
set_option linter.unusedVariables false
def cx (t : Tr) (i : Nat) (l : List (Nat × AV)) (h : List (Nat × Blk)) (n : Nat) : St := ⟨ofL ((1, .ptr 0 0 0) :: (2, .ptr 1 0 0) :: (3, .own 2) :: (11, .p (.slice (t.ents.map encEn))) :: (12, .p (.int .i64 (t.ents.length : Int))) :: (13, .p (.int .i64 (i : Int))) :: l),
 ofH ((0, .row 5 [[.p (.int .i64 t.kind), .p (.int .i64 t.n), .p (.str t.s), .p (.slice (t.ents.map encEn)), .ex []]]) :: (1, .row 5 [[.p (.int .i64 0), .p (.int .i64 0), .p (.str []), .ex [], .ex []]]) ::
  (2, .row 2 (liftE (((t.ents.map bareN).take i).map encEn))) :: h), n⟩
end Go.Aw.T
namespace Go.Aw.T
open Go.Proofs
set_option linter.unusedSimpArgs false
set_option linter.unusedVariables false
theorem same_self (t : Tr) : sameT t t = true := (sameT_iff t t).2 rfl
theorem same_of {a b : Tr} {f : FuncId} (h : PFn Tryd.prog f [.agg (encTr a), .agg (encTr b)] (.bool (sameT a b))) (e : a = b) : PFn Tryd.prog f [.agg (encTr a), .agg (encTr b)] (.bool true) := by
 rw [e] at h ⊢
 rwa [same_self] at h
end Go.Aw.T
namespace Go.Aw.T
theorem big_of {S : Sc} (G : GSc S) : bigS S := ⟨G.name, fun m hm => (G.msgs.2 m hm).name⟩
end Go.Aw.T
namespace Go.Aw.T
open Go.Proofs Go.RowKit
set_option linter.unusedSimpArgs false
set_option linter.unusedVariables false
structure FitT (S : Sc) (m : Ms) (t : Tr) : Prop where
 ms : msOf S m.name = (m, true)
 good : GoodM S m 5 t
 ok : okT t = true
 valid : validV S m.name t = 0
theorem fit_t {S : Sc} (h0 : checkC S = 0) {q : Nat} {m : Ms} (hq : S.msgs[q]? = some m) (l : List Int) : FitT S m (fitB S m.name l) := by
 have R := right_of h0
 have hm : msOf S m.name = (m, true) := (R.msg q m hq).1
 have G := fit_good (flds_all R) l 4 m.name 0 (by rw [hm])
 rw [hm] at G
 have ho : okT (fitB S m.name l) = true := by
  unfold okT
  have := G.deep 101
  rw [Bool.and_eq_true, decide_eq_true_eq]
  exact ⟨by unfold fitB; omega, G.right⟩
 refine ⟨hm, G, ho, ?_⟩
 unfold validV
 rw [if_neg (by simp [h0]), hm, if_neg (by simp), if_neg]
 ·exact G.msg
 ·rintro (a | a)
  ·exact a G.kind
  ·rw [ho] at a; cases a
theorem no_nobody {S : Sc} (R : RightS S) : (msOf S [110, 111, 98, 111, 100, 121, 32, 97, 116, 32, 97, 108, 108]).2 = false := by
 cases h : (msOf S [110, 111, 98, 111, 100, 121, 32, 97, 116, 32, 97, 108, 108]).2 with
 | false => rfl
 | true =>
  obtain ⟨h1, h2⟩ := ms_mem h
  obtain ⟨i, hi⟩ := List.getElem?_of_mem h1
  have := (R.msg i _ hi).2.2
  rw [h2] at this
  exact absurd this (by decide +kernel)
theorem no_501 {S : Sc} (R : RightS S) {m : Ms} (hm : m ∈ S.msgs) : (fldOf m 501).2 = false := by
 cases h : (fldOf m 501).2 with
 | false => rfl
 | true =>
  obtain ⟨h1, h2⟩ := fld_mem h
  obtain ⟨i, hi⟩ := List.getElem?_of_mem h1
  have := (R.fld m hm i _ hi).2.2.2.1
  rw [h2] at this
  exact absurd this (by decide)
def vg (S : Sc) (m : Ms) (t : Tr) (i : Nat) : St := ⟨ofL [(3, .ptr 0 0 0), (7, .ptr 1 0 0), (8, .ptr 2 0 0), (9, .p (.int .i64 (i : Int)))], ofH [(0, .row 4 [cellsSc S]), (1, .row 3 [cellsMs m]), (2, .row 5 [cellsT t])], 3⟩
set_option maxRecDepth 100000 in
set_option maxHeartbeats 8000000 in
theorem law10_ValidGets (S : Sc) (p : Int) (l : List Int) (B : bigS S) (hp : -9223372036854775808 ≤ p) (hp' : p ≤ 9223372036854775807) : PFn Tryd.prog 5 [.agg (encSc S), .int .i64 p, .slice (l.map encI)] (.bool true) := by
 have CF := law00_Few S B
 simp only [encSc] at CF
 refine PFn.of Tryd.func5 rfl (by decide) Tryd.ntmps5 Tryd.results5 (Nat.le_of_ble_eq_true rfl) ?_
 simp only [argsT]
 refine AW.rT (by rfl) fun K hK => ?_
 simp -implicitDefEqProofs only [go_sem, Nat.reduceAdd, encSc]
 refine hK _ ?_; clear hK K
 refine AW.seq ?_
 cases hf : fewB S with
 | false =>
  rw [hf] at CF
  refine AW.rT (by rfl) fun K hK => ?_
  simp -implicitDefEqProofs only [go_sem, ↓reduceIte, Nat.reduceAdd, Nat.reduceEqDiff, Nat.reduceLeDiff]
  refine ⟨.pure _, CF, ?_⟩
  try simp -implicitDefEqProofs only [go_sem, ↓reduceIte, Nat.reduceAdd, Nat.reduceEqDiff]
  refine hK _ ?_; clear hK K
  refine AW.cond _ (by simp -implicitDefEqProofs only [go_sem]; rfl) (fun hc => ?_) (fun hc => ?_)
  rotate_left
  ·simp at hc
  refine AW.rT (by rfl) fun K hK => ?_
  simp -implicitDefEqProofs only [go_sem]
  refine ⟨.pure _, law10_awake, ?_⟩
  try simp -implicitDefEqProofs only [go_sem, Nat.reduceAdd]
  refine hK _ ?_; clear hK K
  refine AW.ret ?_
  simp -implicitDefEqProofs only [go_sem]
 | true =>
 rw [hf] at CF
 have F := few_spec hf
 have L := F.lens
 have C1 := ref07_Check S L
 simp only [encSc] at C1
 by_cases h0 : checkC S = 0
 case neg =>
  have b0 : (checkC S != 0) = true := by simpa using h0
  refine AW.rT (by rfl) fun K hK => ?_
  simp -implicitDefEqProofs only [go_sem, ↓reduceIte, Nat.reduceAdd, Nat.reduceEqDiff, Nat.reduceLeDiff]
  refine ⟨.pure _, CF, ?_⟩
  try simp -implicitDefEqProofs only [go_sem, ↓reduceIte, Nat.reduceAdd, Nat.reduceEqDiff, Nat.reduceLeDiff]
  refine ⟨.pure _, C1, ?_⟩
  try simp -implicitDefEqProofs only [go_sem, ↓reduceIte, Nat.reduceAdd, Nat.reduceEqDiff, b0]
  refine hK _ ?_; clear hK K
  refine AW.cond _ (by simp -implicitDefEqProofs only [go_sem]; rfl) (fun hc => ?_) (fun hc => ?_)
  rotate_left
  ·simp at hc
  refine AW.rT (by rfl) fun K hK => ?_
  simp -implicitDefEqProofs only [go_sem]
  refine ⟨.pure _, law10_awake, ?_⟩
  try simp -implicitDefEqProofs only [go_sem, Nat.reduceAdd]
  refine hK _ ?_; clear hK K
  refine AW.ret ?_
  simp -implicitDefEqProofs only [go_sem]
 have b0 : (checkC S != 0) = false := by simp [h0]
 by_cases hl : l.length > 200
 ·have b1 : ((l.length : Int) > 200) = True := eq_true (by omega)
  refine AW.rT (by rfl) fun K hK => ?_
  simp -implicitDefEqProofs only [go_sem, ↓reduceIte, Nat.reduceAdd, Nat.reduceEqDiff, Nat.reduceLeDiff]
  refine ⟨.pure _, CF, ?_⟩
  try simp -implicitDefEqProofs only [go_sem, ↓reduceIte, Nat.reduceAdd, Nat.reduceEqDiff, Nat.reduceLeDiff]
  refine ⟨.pure _, C1, ?_⟩
  try simp -implicitDefEqProofs only [go_sem, ↓reduceIte, Nat.reduceAdd, Nat.reduceEqDiff, reduceCtorEq, b0, b1, List.length_map]
  refine hK _ ?_; clear hK K
  refine AW.cond _ (by simp -implicitDefEqProofs only [go_sem]; rfl) (fun hc => ?_) (fun hc => ?_)
  rotate_left
  ·simp at hc
  refine AW.rT (by rfl) fun K hK => ?_
  simp -implicitDefEqProofs only [go_sem]
  refine ⟨.pure _, law10_awake, ?_⟩
  try simp -implicitDefEqProofs only [go_sem, Nat.reduceAdd]
  refine hK _ ?_; clear hK K
  refine AW.ret ?_
  simp -implicitDefEqProofs only [go_sem]
 have b1 : ((l.length : Int) > 200) = False := eq_false (by omega)
 refine AW.rT (by rfl) fun K hK => ?_
 simp -implicitDefEqProofs only [go_sem, ↓reduceIte, Nat.reduceAdd, Nat.reduceEqDiff, Nat.reduceLeDiff]
 refine ⟨.pure _, CF, ?_⟩
 try simp -implicitDefEqProofs only [go_sem, ↓reduceIte, Nat.reduceAdd, Nat.reduceEqDiff, Nat.reduceLeDiff]
 refine ⟨.pure _, C1, ?_⟩
 try simp -implicitDefEqProofs only [go_sem, ↓reduceIte, Nat.reduceAdd, Nat.reduceEqDiff, reduceCtorEq, b0, b1, List.length_map]
 refine hK _ ?_; clear hK K
 refine AW.cond _ (by simp -implicitDefEqProofs only [go_sem]; rfl) (fun hc => ?_) (fun hc => ?_)
 ·simp at hc
 refine AW.skip ?_
 simp only [andThen]
 have R := right_of h0
 have hn := R.len.1
 have CP := Go.Aw.law00_Place p (S.msgs.length : Int) (by omega) (by have := R.len; omega) hp hp'
 have hq0 := Int.emod_nonneg p (show (S.msgs.length : Int) ≠ 0 by omega)
 have hq1 := Int.emod_lt_of_pos p (show (0 : Int) < (S.msgs.length : Int) by omega)
 obtain ⟨q, hq⟩ := Int.eq_ofNat_of_zero_le hq0
 rw [hq] at CP hq1
 obtain ⟨m, hm⟩ : ∃ m, S.msgs[q]? = some m := ⟨_, List.getElem?_eq_getElem (by omega)⟩
 have hmm := List.mem_of_getElem? hm
 have ⟨hm1, hm2, hm3⟩ := at_map' encMs hm
 have hq2 : ((q : Int) < (S.msgs.length : Int)) = True := eq_true (by omega)
 have FT := fit_t h0 hm l
 have SZ := siz_right R
 have CT := law00_Fit S SZ (flds_all R) l (by omega) m.name (by rw [FT.ms])
 generalize fitB S m.name l = t at FT CT
 have G := FT.good
 have C2 := law00_Schema S F
 have C3 := law00_Tree t G.lens
 have CH := fun g => ref_Has t G.lens g
 have CU := fun g => ref_Under t G.lens g
 have CG := fun g => valid_Get S m.name t g SZ G.lens
 have CN := valid_Get S [110, 111, 98, 111, 100, 121, 32, 97, 116, 32, 97, 108, 108] t 1 SZ G.lens
 have gN : getV S [110, 111, 98, 111, 100, 121, 32, 97, 116, 32, 97, 108, 108] t 1 = ([], false) := by unfold getV; rw [if_pos (.inl (no_nobody R))]
 have g5 : getV S m.name t 501 = ([], false) := by unfold getV; rw [FT.ms, if_pos (.inr (.inl (no_501 R hmm)))]
 have C5 := CG 501
 rw [g5] at C5
 rw [gN] at CN
 simp only [encSc, encTr_eq t, List.map_nil] at C2 C3 CT CH CU CG CN C5
 refine AW.dT mixed (by rfl) (by decide +kernel) fun K hK => ?_
 simp -implicitDefEqProofs only [go_sem, ↓reduceIte, Nat.reduceAdd, Nat.reduceEqDiff, List.length_map]
 refine ⟨.pure _, CP, ?_⟩
 try simp -implicitDefEqProofs only [go_sem, ↓reduceIte, Nat.reduceAdd, Nat.reduceEqDiff, Nat.reduceLeDiff, hm1, hm3, hq2, encMs, List.length_map]
 refine ⟨by decide +kernel, ?_⟩
 refine hK _ ?_; clear hK K
 refine AW.rT (by rfl) fun K hK => ?_
 simp -implicitDefEqProofs only [go_sem, ↓reduceIte, Nat.reduceAdd, Nat.reduceEqDiff, Nat.reduceLeDiff, reduceCtorEq]
 refine ⟨.pure _, CT, ?_⟩
 try simp -implicitDefEqProofs only [go_sem, ↓reduceIte, Nat.reduceAdd, Nat.reduceEqDiff, Nat.reduceLeDiff]
 refine hK _ ?_; clear hK K
 refine AW.seq ?_
 refine AW.rT (by rfl) fun K hK => ?_
 simp -implicitDefEqProofs only [go_sem, Nat.reduceAdd]
 refine hK _ ?_; clear hK K
 refine AW.block ?_
 refine AW.loop (fun i : Nat => vg S m t i) (fun i => i ≤ m.fields.length) (fun i => m.fields.length - i) 0 ?_ (by simp) fun i hi => ?_
 ·simp only [vg, cellsSc, cellsMs, cellsT]
  refine Ghost.ent (fun l => if l = 1 then 24 else if l = 2 then 31 else l) ?_ ?_ ?_ <;> simp -implicitDefEqProofs only [go_sem, ↓reduceIte, Nat.reduceEqDiff, reduceCtorEq, List.forall_mem_cons, List.not_mem_nil, false_implies, implies_true, and_self, List.all_cons, List.all_nil, Nat.reduceLT, labsInL, AV.labsIn]
  all_goals first | rfl | skip
 refine AW.seq ?_
 simp only [vg, cellsSc, cellsMs, cellsT]
 by_cases hil : i < m.fields.length
 case neg =>
  have hc1 : ((i : Int) < (m.fields.length : Int)) = False := eq_false (by omega)
  refine AW.rT (by rfl) fun K hK => ?_
  simp -implicitDefEqProofs only [go_sem, ↓reduceIte, Nat.reduceAdd, Nat.reduceEqDiff, hc1, List.length_map]
  refine hK _ ?_; clear hK K
  refine AW.cond _ (by simp -implicitDefEqProofs only [go_sem]; rfl) (fun hc => ?_) (fun hc => ?_)
  ·simp at hc
  refine AW.exit ?_
  simp only [andThen, inBlk, ↓reduceIte]
  refine AW.rT (by rfl) fun K hK => ?_
  simp -implicitDefEqProofs only [go_sem, ↓reduceIte, Nat.reduceAdd, Nat.reduceEqDiff, Nat.reduceLeDiff, reduceCtorEq]
  refine ⟨.pure _, C5, ?_⟩
  try simp -implicitDefEqProofs only [go_sem, ↓reduceIte, Nat.reduceAdd, Nat.reduceEqDiff]
  refine hK _ ?_; clear hK K
  refine AW.rT (by rfl) fun K hK => ?_
  simp -implicitDefEqProofs only [go_sem, ↓reduceIte, Nat.reduceAdd, Nat.reduceEqDiff, Nat.reduceLeDiff, reduceCtorEq]
  refine ⟨.pure _, CN, ?_⟩
  try simp -implicitDefEqProofs only [go_sem, ↓reduceIte, Nat.reduceAdd, Nat.reduceEqDiff]
  refine hK _ ?_; clear hK K
  refine AW.rT (by rfl) fun K hK => ?_
  simp -implicitDefEqProofs only [go_sem, ↓reduceIte, Nat.reduceAdd, Nat.reduceEqDiff]
  refine ⟨.pure _, law10_awake, ?_⟩
  try simp -implicitDefEqProofs only [go_sem, ↓reduceIte, Nat.reduceAdd, Nat.reduceEqDiff]
  refine hK _ ?_; clear hK K
  refine AW.ret ?_
  simp -implicitDefEqProofs only [go_sem]
 obtain ⟨f, hfi⟩ : ∃ f, m.fields[i]? = some f := ⟨_, List.getElem?_eq_getElem hil⟩
 have ⟨hf1, hf2, hf3⟩ := at_map' encFd hfi
 have hc1 : ((i : Int) < (m.fields.length : Int)) = True := eq_true (by omega)
 have hfo : fldOf m f.tag = (f, true) := (R.fld m hmm i f hfi).1
 have GV : getV S m.name t f.tag = match t.ents.find? (fun e => e.1 == f.tag) with
  | some e => (e.2, true)
  | none => if f.label = 1 then ([.mk (kdV f.ty) 0 [] [] []], true) else ([], true) := by
  unfold getV
  rw [FT.ms]
  simp only
  rw [hfo, if_neg (by simp [G.kind])]
  rfl
 have CG1 := CG f.tag
 have CH1 := CH f.tag
 have CU1 := CU f.tag
 have hno := (R.no m hmm).1
 have w1 : IntKind.wrap .i64 ((i : Int) + 1) = ((i + 1 : Nat) : Int) := by rw [w64] <;> omega
 refine AW.rT (by rfl) fun K hK => ?_
 simp -implicitDefEqProofs only [go_sem, ↓reduceIte, Nat.reduceAdd, Nat.reduceEqDiff, hc1, List.length_map]
 refine hK _ ?_; clear hK K
 refine AW.cond _ (by simp -implicitDefEqProofs only [go_sem]; rfl) (fun hc => ?_) (fun hc => ?_)
 rotate_left
 ·simp at hc
 refine AW.skip ?_
 simp only [andThen]
 refine AW.seq ?_
 refine AW.block ?_
 refine AW.rT (by rfl) fun K hK => ?_
 simp -implicitDefEqProofs only [go_sem, ↓reduceIte, Nat.reduceAdd, Nat.reduceEqDiff, Nat.reduceLeDiff, hf1, hf3, hc1, encFd, List.length_map]
 refine hK _ ?_; clear hK K
 cases hfe : t.ents.find? (fun e => e.1 == f.tag) with
 | some e =>
  rw [hfe] at GV
  have GE := G.some e (List.mem_of_find?_eq_some hfe)
  have hg : getV S m.name t f.tag = (e.2, true) := GV
  have hun : undV t f.tag = e.2 := by unfold undV; rw [hfe]
  have hany : t.ents.any (fun e => e.1 == f.tag) = true := List.any_eq_true.2 ⟨e, List.mem_of_find?_eq_some hfe, List.find?_some (p := fun e : Int × List Tr => e.1 == f.tag) hfe⟩
  rw [hg] at CG1
  rw [hun] at CU1
  rw [hany] at CH1
  obtain ⟨x, hx⟩ : ∃ x, e.2[0]? = some x := ⟨_, List.getElem?_eq_getElem (by have := GE.2.1; omega)⟩
  have ⟨hx1, hx2, hx3⟩ := at_map' encTr hx
  have CX := same_of (ref09_Same x x (GE.2.2 x (List.mem_of_getElem? hx)).lens) rfl
  rw [encTr_eq] at CX
  have n5 : ((e.2.length : Int) != (e.2.length : Int)) = false := by simp
  have hz0 : ((0 : Int) ≤ 0) = True := by simp
  have hz : ((0 : Int) < (e.2.length : Int)) = True := eq_true (by have := GE.2.1; omega)
  refine AW.dT mixed (by rfl) (by decide +kernel) fun K hK => ?_
  simp -implicitDefEqProofs only [go_sem, ↓reduceIte, Nat.reduceAdd, Nat.reduceEqDiff, Nat.reduceLeDiff, reduceCtorEq]
  refine ⟨.pure _, C2, ?_⟩
  try simp -implicitDefEqProofs only [go_sem, ↓reduceIte, Nat.reduceAdd, Nat.reduceEqDiff, Nat.reduceLeDiff, reduceCtorEq]
  refine ⟨.pure _, C3, ?_⟩
  try simp -implicitDefEqProofs only [go_sem, ↓reduceIte, Nat.reduceAdd, Nat.reduceEqDiff]
  refine ⟨.pure _, CG1, ?_⟩
  try simp -implicitDefEqProofs only [go_sem, ↓reduceIte, Nat.reduceAdd, Nat.reduceEqDiff]
  refine ⟨by decide +kernel, ?_⟩
  refine hK _ ?_; clear hK K
  refine AW.seq ?_
  refine AW.rT (by rfl) fun K hK => ?_
  simp -implicitDefEqProofs only [go_sem, Nat.reduceAdd]
  refine hK _ ?_; clear hK K
  refine AW.cond _ (by simp -implicitDefEqProofs only [go_sem]; rfl) (fun hc => ?_) (fun hc => ?_)
  ·simp at hc
  refine AW.skip ?_
  simp only [andThen]
  refine AW.seq ?_
  refine AW.rT (by rfl) fun K hK => ?_
  simp -implicitDefEqProofs only [go_sem, ↓reduceIte, Nat.reduceAdd, Nat.reduceEqDiff, Nat.reduceLeDiff, reduceCtorEq]
  refine ⟨.pure _, CH1, ?_⟩
  try simp -implicitDefEqProofs only [go_sem, Nat.reduceAdd]
  refine hK _ ?_; clear hK K
  refine AW.cond _ (by simp -implicitDefEqProofs only [go_sem]; rfl) (fun hc => ?_) (fun hc => ?_)
  rotate_left
  ·simp at hc
  refine AW.rT (by rfl) fun K hK => ?_
  simp -implicitDefEqProofs only [go_sem, ↓reduceIte, Nat.reduceAdd, Nat.reduceEqDiff, Nat.reduceLeDiff, reduceCtorEq]
  refine ⟨.pure _, CU1, ?_⟩
  try simp -implicitDefEqProofs only [go_sem, Nat.reduceAdd]
  refine hK _ ?_; clear hK K
  refine AW.seq ?_
  refine AW.dT mixed (by rfl) (by decide +kernel) fun K hK => ?_
  simp -implicitDefEqProofs only [go_sem, ↓reduceIte, Nat.reduceAdd, Nat.reduceEqDiff, Nat.reduceLeDiff, Int.reduceToNat, n5, hx3, hz0, hz, encTr_eq, List.length_map]
  refine ⟨.pure _, CX, ?_⟩
  try simp -implicitDefEqProofs only [go_sem, ↓reduceIte, Nat.reduceAdd, Nat.reduceEqDiff]
  refine ⟨heapOK_nil rfl, ?_⟩
  refine hK _ ?_; clear hK K
  refine AW.cond _ (by simp -implicitDefEqProofs only [go_sem]; rfl) (fun hc => ?_) (fun hc => ?_)
  ·simp at hc
  refine AW.skip ?_
  simp only [andThen]
  refine AW.exit ?_
  simp only [andThen, inBlk, ↓reduceIte]
  refine AW.rE (by rfl) fun K hK => ?_
  simp -implicitDefEqProofs only [go_sem, ↓reduceIte, Nat.reduceAdd, Nat.reduceEqDiff, w1]
  refine hK _ ?_; clear hK K
  refine ⟨i + 1, by omega, by omega, ?_⟩
  show Ghost _ _ (vg S m t (i + 1))
  simp only [vg, cellsSc, cellsMs, cellsT]
  refine Ghost.sub ?_ ?_ <;> simp -implicitDefEqProofs only [go_sem, ↓reduceIte, Nat.reduceEqDiff, reduceCtorEq, List.forall_mem_cons, List.not_mem_nil, false_implies, implies_true, and_self, List.all_cons, List.all_nil, Nat.reduceLT, labsInL, AV.labsIn]
  done
 | none =>
  rw [hfe] at GV
  have hany : t.ents.any (fun e => e.1 == f.tag) = false := by
   rw [List.any_eq_false]
   intro e he
   exact List.find?_eq_none.1 hfe e he
  rw [hany] at CH1
  simp only at GV
  by_cases hb : f.label = 1
  ·rw [if_pos hb] at GV
   rw [GV] at CG1
   have kd : 1 ≤ kdV f.ty ∧ kdV f.ty ≤ 3 := by unfold kdV; repeat' split <;> omega
   have hzv : zeroV (.mk (kdV f.ty) 0 [] [] []) = true := by unfold zeroV; simp [Tr.kind, Tr.n, Tr.s, Tr.ents, Tr.rest, kd]
   have CZ := valid_Zero (.mk (kdV f.ty) 0 [] [] [])
   rw [hzv] at CZ
   have b3 := eqb hb
   have b4 : (f.label != 1) = false := by simp [hb]
   have l1 : ((((1 : Nat) : Int)) != 1) = false := rfl
   have z1 : ((0 : Int) < ((1 : Nat) : Int)) = True := by simp
   have z0 : ((0 : Int) ≤ 0) = True := by simp
   simp only [List.map_cons, List.map_nil, encTr, encEs] at CG1 CZ
   refine AW.dT mixed (by rfl) (by decide +kernel) fun K hK => ?_
   simp -implicitDefEqProofs only [go_sem, ↓reduceIte, Nat.reduceAdd, Nat.reduceEqDiff, Nat.reduceLeDiff, reduceCtorEq]
   refine ⟨.pure _, C2, ?_⟩
   try simp -implicitDefEqProofs only [go_sem, ↓reduceIte, Nat.reduceAdd, Nat.reduceEqDiff, Nat.reduceLeDiff, reduceCtorEq]
   refine ⟨.pure _, C3, ?_⟩
   try simp -implicitDefEqProofs only [go_sem, ↓reduceIte, Nat.reduceAdd, Nat.reduceEqDiff]
   refine ⟨.pure _, CG1, ?_⟩
   try simp -implicitDefEqProofs only [go_sem, ↓reduceIte, Nat.reduceAdd, Nat.reduceEqDiff]
   refine ⟨by decide +kernel, ?_⟩
   refine hK _ ?_; clear hK K
   refine AW.seq ?_
   refine AW.rT (by rfl) fun K hK => ?_
   simp -implicitDefEqProofs only [go_sem, Nat.reduceAdd]
   refine hK _ ?_; clear hK K
   refine AW.cond _ (by simp -implicitDefEqProofs only [go_sem]; rfl) (fun hc => ?_) (fun hc => ?_)
   ·simp at hc
   refine AW.skip ?_
   simp only [andThen]
   refine AW.seq ?_
   refine AW.rT (by rfl) fun K hK => ?_
   simp -implicitDefEqProofs only [go_sem, ↓reduceIte, Nat.reduceAdd, Nat.reduceEqDiff, Nat.reduceLeDiff, reduceCtorEq]
   refine ⟨.pure _, CH1, ?_⟩
   try simp -implicitDefEqProofs only [go_sem, Nat.reduceAdd]
   refine hK _ ?_; clear hK K
   refine AW.cond _ (by simp -implicitDefEqProofs only [go_sem]; rfl) (fun hc => ?_) (fun hc => ?_)
   ·simp at hc
   refine AW.skip ?_
   simp only [andThen]
   refine AW.rT (by rfl) fun K hK => ?_
   simp -implicitDefEqProofs only [go_sem, ↓reduceIte, Nat.reduceAdd, Nat.reduceEqDiff, Nat.reduceLeDiff, Int.reduceToNat, b3, l1, z1, z0, List.length_cons, List.length_nil, List.getD_cons_zero]
   refine ⟨.pure _, CZ, ?_⟩
   try simp -implicitDefEqProofs only [go_sem, ↓reduceIte, Nat.reduceAdd, Nat.reduceEqDiff, b4]
   refine hK _ ?_; clear hK K
   refine AW.cond _ (by simp -implicitDefEqProofs only [go_sem]; rfl) (fun hc => ?_) (fun hc => ?_)
   ·simp at hc
   refine AW.skip ?_
   simp only [andThen, inBlk]
   refine AW.rE (by rfl) fun K hK => ?_
   simp -implicitDefEqProofs only [go_sem, ↓reduceIte, Nat.reduceAdd, Nat.reduceEqDiff, w1]
   refine hK _ ?_; clear hK K
   refine ⟨i + 1, by omega, by omega, ?_⟩
   show Ghost _ _ (vg S m t (i + 1))
   simp only [vg, cellsSc, cellsMs, cellsT]
   refine Ghost.sub ?_ ?_ <;> simp -implicitDefEqProofs only [go_sem, ↓reduceIte, Nat.reduceEqDiff, reduceCtorEq, List.forall_mem_cons, List.not_mem_nil, false_implies, implies_true, and_self, List.all_cons, List.all_nil, Nat.reduceLT, labsInL, AV.labsIn]
   done
  ·rw [if_neg hb] at GV
   rw [GV] at CG1
   have b3 := beqf hb
   have b4 : (f.label != 1) = true := by simpa using hb
   have l1 : ((((0 : Nat) : Int)) != 0) = false := rfl
   simp only [List.map_nil] at CG1
   refine AW.dT mixed (by rfl) (by decide +kernel) fun K hK => ?_
   simp -implicitDefEqProofs only [go_sem, ↓reduceIte, Nat.reduceAdd, Nat.reduceEqDiff, Nat.reduceLeDiff, reduceCtorEq]
   refine ⟨.pure _, C2, ?_⟩
   try simp -implicitDefEqProofs only [go_sem, ↓reduceIte, Nat.reduceAdd, Nat.reduceEqDiff, Nat.reduceLeDiff, reduceCtorEq]
   refine ⟨.pure _, C3, ?_⟩
   try simp -implicitDefEqProofs only [go_sem, ↓reduceIte, Nat.reduceAdd, Nat.reduceEqDiff]
   refine ⟨.pure _, CG1, ?_⟩
   try simp -implicitDefEqProofs only [go_sem, ↓reduceIte, Nat.reduceAdd, Nat.reduceEqDiff]
   refine ⟨by decide +kernel, ?_⟩
   refine hK _ ?_; clear hK K
   refine AW.seq ?_
   refine AW.rT (by rfl) fun K hK => ?_
   simp -implicitDefEqProofs only [go_sem, Nat.reduceAdd]
   refine hK _ ?_; clear hK K
   refine AW.cond _ (by simp -implicitDefEqProofs only [go_sem]; rfl) (fun hc => ?_) (fun hc => ?_)
   ·simp at hc
   refine AW.skip ?_
   simp only [andThen]
   refine AW.seq ?_
   refine AW.rT (by rfl) fun K hK => ?_
   simp -implicitDefEqProofs only [go_sem, ↓reduceIte, Nat.reduceAdd, Nat.reduceEqDiff, Nat.reduceLeDiff, reduceCtorEq]
   refine ⟨.pure _, CH1, ?_⟩
   try simp -implicitDefEqProofs only [go_sem, Nat.reduceAdd]
   refine hK _ ?_; clear hK K
   refine AW.cond _ (by simp -implicitDefEqProofs only [go_sem]; rfl) (fun hc => ?_) (fun hc => ?_)
   ·simp at hc
   refine AW.skip ?_
   simp only [andThen]
   refine AW.rT (by rfl) fun K hK => ?_
   simp -implicitDefEqProofs only [go_sem, ↓reduceIte, Nat.reduceAdd, Nat.reduceEqDiff, b3, b4, l1, List.length_nil]
   refine hK _ ?_; clear hK K
   refine AW.cond _ (by simp -implicitDefEqProofs only [go_sem]; rfl) (fun hc => ?_) (fun hc => ?_)
   ·simp at hc
   refine AW.skip ?_
   simp only [andThen, inBlk]
   refine AW.rE (by rfl) fun K hK => ?_
   simp -implicitDefEqProofs only [go_sem, ↓reduceIte, Nat.reduceAdd, Nat.reduceEqDiff, w1]
   refine hK _ ?_; clear hK K
   refine ⟨i + 1, by omega, by omega, ?_⟩
   show Ghost _ _ (vg S m t (i + 1))
   simp only [vg, cellsSc, cellsMs, cellsT]
   refine Ghost.sub ?_ ?_ <;> simp -implicitDefEqProofs only [go_sem, ↓reduceIte, Nat.reduceEqDiff, reduceCtorEq, List.forall_mem_cons, List.not_mem_nil, false_implies, implies_true, and_self, List.all_cons, List.all_nil, Nat.reduceLT, labsInL, AV.labsIn]
   done
end Go.Aw.T
namespace Go.Aw.T
open Go.RowKit Go.ChangeShapes
open Go.Proofs
variable {P : Program} {w : World}
def OpnB (B : Nat → Prop) (P : Program) (w : World) (t : TypeId) {α : Type} (e : α → List PV) (G : α → Prop) : Prop :=
 (∀ a, ∀ p ∈ e a, p.one = true) ∧ ∀ (H : Type) (enc : TypeId × Value → H) (fuel : Nat), B fuel → ∀ (cs : List Value) (d : DataW H × List MemPlace), DataW.trod enc P w 0 (fun _ => true) true fuel t cs = some d →
  ∃ a, G a ∧ cs.length = (e a).length ∧ ∀ (j : Nat) u p, cs[j]? = some u → (e a)[j]? = some p → rep w (old w) u p
theorem OpnB.mono {B B' : Nat → Prop} {t : TypeId} {α : Type} {e : α → List PV} {G : α → Prop} (h : OpnB B P w t e G) (hb : ∀ n, B' n → B n) : OpnB B' P w t e G := ⟨h.1, fun H enc fuel hB cs d hd => h.2 H enc fuel (hb _ hB) cs d hd⟩
end Go.Aw.T
namespace Go.Aw.T
open Go.Proofs Go.RowKit Go.ChangeShapes
end Go.Aw.T
