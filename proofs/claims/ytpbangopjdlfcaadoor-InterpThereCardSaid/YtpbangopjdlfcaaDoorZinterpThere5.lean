/- What the law LawInterpThere leans on, joined (part 5). -/
import Derived.Test.YtpbangopjdlfcaaDoorZinterpThere4
set_option linter.unusedSimpArgs false
set_option linter.unusedVariables false
set_option maxRecDepth 100000
set_option maxHeartbeats 8000000
namespace Go.Aw.T
open Go.Proofs Go.RowKit
def fb (S : Sc) (m : Ms) (l : List Int) (d : Nat) (tag : Nat) (es : List (Int × List Tr)) (b : Nat) (L : List (Nat × AV)) (H : List (Nat × Blk)) (n : Nat) : St :=
 ⟨ofL ((2, .p (.slice (l.map encI))) :: (3, .ptr 0 0 0) :: (4, .p (.int .i64 ((5 - d : Nat) : Int))) :: (5, .ptr 1 0 0) :: (10, .ptr 2 0 0) :: (11, .ptr 3 0 0) :: (12, .ptr 4 0 0) :: (14, .p (.int .i64 (tag : Int))) :: L),
 ofH ((0, .row 1 [[.p (.int .i64 (b : Int))]]) :: (1, .row 4 [cellsSc S]) :: (2, .row 5 [[.p (.int .i64 0), .p (.int .i64 0), .p (.str []), .ex [], .ex []]]) :: (3, .row 5 [[.p (.int .i64 3), .p (.int .i64 0), .p (.str []), .own 5, .ex []]]) :: (4, .row 3 [cellsMs m]) :: (5, .row 2 (liftE (es.map encEn))) :: H), n⟩
def fe (t : Tr) (b : Nat) : St := ⟨ofL [(3, .ptr 0 0 0), (10, .ptr 2 0 0), (11, .ptr 3 0 0)], ofH [(0, .row 1 [[.p (.int .i64 (b : Int))]]), (2, .row 5 [[.p (.int .i64 0), .p (.int .i64 0), .p (.str []), .ex [], .ex []]]), (3, .row 5 [cellsT t])], 4⟩
def fc (es : List (Int × List Tr)) (b : Nat) : St := ⟨ofL [(3, .ptr 0 0 0), (10, .ptr 2 0 0), (11, .ptr 3 0 0)], ofH [(0, .row 1 [[.p (.int .i64 (b : Int))]]), (2, .row 5 [[.p (.int .i64 0), .p (.int .i64 0), .p (.str []), .ex [], .ex []]]), (3, .row 5 [[.p (.int .i64 3), .p (.int .i64 0), .p (.str []), .own 5, .ex []]]), (5, .row 2 (liftE (es.map encEn)))], 6⟩
theorem tags_len {m : Ms} {l : List Int} {sub : List UInt8 → Nat → Tr × Nat} {ok : Bool} {a : Nat} : ∀ n, (itS (tagF m l sub ok) n ([], a)).1.length ≤ n
 | 0 => by simp [itS]
 | n + 1 => by
  have g := tags_len (m := m) (l := l) (sub := sub) (ok := ok) (a := a) n
  rw [itS]
  generalize itS (tagF m l sub ok) n ([], a) = x at g
  unfold tagF
  repeat' split
  all_goals (try simp only [List.length_append, List.length_cons, List.length_nil]); omega
def fz (t : Tr) (b : Nat) : St := ⟨ofL [(3, .ptr 0 0 0), (10, .ptr 2 0 0)], ofH [(0, .row 1 [[.p (.int .i64 (b : Int))]]), (2, .row 5 [cellsT t])], 4⟩
theorem fit_end {args : List AV} {t : Tr} {a b : Nat} (h : args[3]? = some (.ptr 0 0 0)) : EndD Tryd.prog #[ResultVar.cell 10 39] args (atH a) 1 [0] (.p (.agg (encTr t))) (atH b) 0 [3] .ret (fz t b) := by
 refine ⟨fun k => k, [.p (.agg (encTr t))], ⟨?_, trivial⟩, rfl, rfl, ?_, ?_, ?_⟩
 ·simp only [fz, cellsT, encTr_eq]
  simp -implicitDefEqProofs only [go_sem, ↓reduceIte, Nat.reduceAdd, Nat.reduceEqDiff, Nat.reduceLeDiff, reduceCtorEq]
  done
 ·simp only [atH, fz]
  simp -implicitDefEqProofs only [go_sem, ↓reduceIte, List.forall_mem_cons, List.not_mem_nil, false_implies, implies_true]
  first | done | decide
 ·simp [atH]
 ·exact at_root h rfl
theorem law00_fit (S : Sc) (hS : SizS S) (FO : ∀ k, (msOf S k).2 = true → FldsOK S (msOf S k).1) (l : List Int) (hl : l.length ≤ 200) : ∀ d, d ≤ 4 → FitOK S l d := by
 intro d
 induction d using Nat.strongRecOn with
 | _ d ih =>
 intro hd k a ha hk
 have hm := siz_of hS k
 have hF := FO k hk
 have C2 : PFn Tryd.prog 55 [.agg (encSc S), .str k] (.tuple [.agg (encMs (msOf S k).1), .bool (msOf S k).2]) := ref07_Message S k hS.msgs
 rw [fitF_eq]
 generalize (msOf S k).1 = m at C2 hm hF
 generalize (msOf S k).2 = mb at C2
 have CF : ∀ g, PFn Tryd.prog 27 [.agg (encMs m), .int .i64 g] (.tuple [.agg (encFd (fldOf m g).1), .bool (fldOf m g).2]) := fun g => ref07_Field m g hm
 simp only [encSc, encMs] at C2
 simp only [encMs, encFd] at CF
 have hok : (d != 0) = decide (d ≠ 0) := by cases d <;> rfl
 generalize hsub : subF S l d = sub
 generalize hokd : (d != 0) = ok
 have TL := fun n => tags_len (m := m) (l := l) (sub := sub) (ok := ok) (a := a) n
 refine DFn.of [3] Tryd.func60 rfl (by decide) Tryd.ntmps60 Tryd.results60 (Nat.le_of_ble_eq_true rfl) (by simp) fun val => ?_
 simp only [avT, atH]
 refine AW.rT (by rfl) fun K hK => ?_
 simp -implicitDefEqProofs only [go_sem, Nat.reduceAdd, encSc]
 apply hK; clear hK K
 refine AW.rT (by rfl) fun K hK => ?_
 simp -implicitDefEqProofs only [go_sem, ↓reduceIte, Nat.reduceAdd, Nat.reduceEqDiff, Nat.reduceLeDiff]
 apply hK; clear hK K
 refine AW.rT (by rfl) fun K hK => ?_
 simp -implicitDefEqProofs only [go_sem, ↓reduceIte, Nat.reduceAdd, Nat.reduceEqDiff, Nat.reduceLeDiff]
 refine ⟨.pure _, C2, ?_⟩
 try simp -implicitDefEqProofs only [go_sem, ↓reduceIte, Nat.reduceAdd, Nat.reduceEqDiff, Nat.reduceLeDiff]
 apply hK; clear hK K
 refine AW.cut (fun _ : Unit => fc (itS (tagF m l sub ok) 500 ([], a)).1 (itS (tagF m l sub ok) 500 ([], a)).2) (fun _ => True) ?_ fun _ _ => ?_
 rotate_left
 ·generalize itS (tagF m l sub ok) 500 ([], a) = x
  obtain ⟨es, b⟩ := x
  refine AW.ghost (s' := fe (.mk 3 0 [] es []) b) (Ghost.trans (Ghost.freeze (lb := 5) (ps := es.map encEn) rfl (unlift_liftE _)) (Ghost.trans (Ghost.exH (l := 3) (i := 0) (j := 4) rfl rfl rfl) ?_)) ?_
  ·simp only [fc, fe, cellsT, Tr.kind, Tr.n, Tr.s, Tr.ents, Tr.rest, List.map_nil]
   refine Ghost.sub ?_ ?_ <;> simp -implicitDefEqProofs only [go_sem, ↓reduceIte, Nat.reduceEqDiff, reduceCtorEq, thaw, thaw1, Option.map_some, List.map_cons, List.map_nil, List.set_cons_zero, List.set_cons_succ, List.forall_mem_cons, List.not_mem_nil, false_implies, implies_true, and_self, List.all_cons, List.all_nil, Nat.reduceLT, labsInL, AV.labsIn]
   done
  generalize Tr.mk 3 0 [] es [] = tr
  simp only [fe, cellsT]
  refine AW.rT (by rfl) fun K hK => ?_
  simp -implicitDefEqProofs only [go_sem, ↓reduceIte, Nat.reduceAdd, Nat.reduceEqDiff, Nat.reduceLeDiff, reduceCtorEq, List.set_cons_zero]
  apply hK; clear hK K
  refine AW.ghost (s' := fz tr b) ?_ (AW.ret (fit_end rfl))
  simp only [fz, cellsT]
  refine Ghost.sub ?_ ?_ <;> simp -implicitDefEqProofs only [go_sem, ↓reduceIte, Nat.reduceEqDiff, reduceCtorEq, List.forall_mem_cons, List.not_mem_nil, false_implies, implies_true, and_self, List.all_cons, List.all_nil, Nat.reduceLT, labsInL, AV.labsIn]
  done
 refine AW.rT (by rfl) fun K hK => ?_
 simp -implicitDefEqProofs only [go_sem, Nat.reduceAdd]
 apply hK; clear hK K
 refine AW.block ?_
 refine AW.loop (fun i : Nat => fb S m l d (i + 1) (itS (tagF m l sub ok) i ([], a)).1 (itS (tagF m l sub ok) i ([], a)).2 [] [] 6) (fun i => i ≤ 500) (fun i => 500 - i) 0 ?_ (by simp) fun i hi => ?_
 ·refine Ghost.trans (Ghost.nilH (l := 4) (i := 0) (j := 3) (sz' := 2) rfl rfl rfl) ?_
  simp only [fb, cellsSc, cellsMs, itS]
  refine Ghost.ent (fun l => if l = 3 then 4 else if l = 4 then 12 else if l = 5 then 16 else l) ?_ ?_ ?_ <;> simp -implicitDefEqProofs only [go_sem, ↓reduceIte, Nat.reduceEqDiff, reduceCtorEq, List.map_nil, liftE_nil, List.set_cons_zero, List.set_cons_succ, List.forall_mem_cons, List.not_mem_nil, false_implies, implies_true, and_self, List.all_cons, List.all_nil, Nat.reduceLT, labsInL, AV.labsIn]
  all_goals first | rfl | skip
 refine AW.seq ?_
 have TLi := TL i
 have E0 := fun h : 150 ≤ (itS (tagF m l sub ok) i ([], a)).2 => itS_end h (500 - i)
 rw [show i + (500 - i) = 500 by omega] at E0
 have NX : itS (tagF m l sub ok) (i + 1) ([], a) = tagF m l sub ok i (itS (tagF m l sub ok) i ([], a)) := rfl
 by_cases h5 : i < 500
 case neg =>
  have hi' : i = 500 := by omega
  subst hi'
  generalize itS (tagF m l sub ok) 500 ([], a) = x
  obtain ⟨es, b⟩ := x
  simp only [fb, cellsSc, cellsMs]
  have b1 : (((500 + 1 : Nat) : Int) ≤ 500) = False := eq_false (by decide)
  refine AW.rT (by rfl) fun K hK => ?_
  simp -implicitDefEqProofs only [go_sem, ↓reduceIte, Nat.reduceAdd, Nat.reduceEqDiff, b1]
  apply hK; clear hK K
  refine AW.cF rfl ?_
  refine AW.exit ?_
  simp only [andThen, inBlk, ↓reduceIte]
  refine ⟨(), trivial, ?_⟩
  simp only [fc]
  refine Ghost.sub ?_ ?_ <;> simp -implicitDefEqProofs only [go_sem, ↓reduceIte, Nat.reduceEqDiff, reduceCtorEq, List.forall_mem_cons, List.not_mem_nil, false_implies, implies_true, and_self, labsIn_lift, List.all_cons, List.all_nil, Nat.reduceLT, labsInL, AV.labsIn]
  done
 have b1 : (((i + 1 : Nat) : Int) ≤ 500) = True := eq_true (by omega)
 by_cases h150 : 150 ≤ (itS (tagF m l sub ok) i ([], a)).2
 ·rw [E0 h150]
  generalize itS (tagF m l sub ok) i ([], a) = x at h150
  obtain ⟨es, b⟩ := x
  simp only at h150
  simp only [fb, cellsSc, cellsMs]
  have b2 : ((b : Int) < 150) = False := eq_false (by omega)
  refine AW.rT (by rfl) fun K hK => ?_
  simp -implicitDefEqProofs only [go_sem, ↓reduceIte, Nat.reduceAdd, Nat.reduceEqDiff, b1, b2]
  apply hK; clear hK K
  refine AW.cF rfl ?_
  refine AW.exit ?_
  simp only [andThen, inBlk, ↓reduceIte]
  refine ⟨(), trivial, ?_⟩
  simp only [fc]
  refine Ghost.sub ?_ ?_ <;> simp -implicitDefEqProofs only [go_sem, ↓reduceIte, Nat.reduceEqDiff, reduceCtorEq, List.forall_mem_cons, List.not_mem_nil, false_implies, implies_true, and_self, labsIn_lift, List.all_cons, List.all_nil, Nat.reduceLT, labsInL, AV.labsIn]
  done
 have w1 : IntKind.wrap .i64 (((i + 1 : Nat) : Int) + 1) = ((i + 1 + 1 : Nat) : Int) := by rw [w64] <;> omega
 have nextI : ∀ s' : St, Ghost ⟨109, [3], val⟩ s' (fb S m l d (i + 1 + 1) (tagF m l sub ok i (itS (tagF m l sub ok) i ([], a))).1 (tagF m l sub ok i (itS (tagF m l sub ok) i ([], a))).2 [] [] 6) → ∃ y : Nat, y ≤ 500 ∧ 500 - y < 500 - i ∧ Ghost ⟨109, [3], val⟩ s' (fb S m l d (y + 1) (itS (tagF m l sub ok) y ([], a)).1 (itS (tagF m l sub ok) y ([], a)).2 [] [] 6) := fun s' g => ⟨i + 1, by omega, by omega, by rw [NX]; exact g⟩
 have TF : tagF m l sub ok i (itS (tagF m l sub ok) i ([], a)) = _ := rfl
 generalize itS (tagF m l sub ok) i ([], a) = x at *
 obtain ⟨es, b⟩ := x
 simp only at h150 TLi
 have b2 : ((b : Int) < 150) = True := eq_true (by omega)
 have C1 := CF ((i + 1 : Nat) : Int)
 have hF1 := hF ((i + 1 : Nat) : Int)
 have TF : tagF m l sub ok i (es, b) = if (fldOf m ((i + 1 : Nat) : Int)).2 = false then (es, b) else
  if (nextF l b).1 % 3 = 0 then (es, (nextF l b).2) else if (fldOf m ((i + 1 : Nat) : Int)).1.ty.kind = 7 ∧ ok = false then (es, (nextF l b).2) else
  if (treesF l sub (fldOf m ((i + 1 : Nat) : Int)).1 (nextF l b).2).1 = [] then (es, (treesF l sub (fldOf m ((i + 1 : Nat) : Int)).1 (nextF l b).2).2) else
  (es ++ [(((i + 1 : Nat) : Int), (treesF l sub (fldOf m ((i + 1 : Nat) : Int)).1 (nextF l b).2).1)], (treesF l sub (fldOf m ((i + 1 : Nat) : Int)).1 (nextF l b).2).2) := by
  unfold tagF
  rw [if_neg (by simpa using h150)]
  rfl
 rcases hfo : fldOf m ((i + 1 : Nat) : Int) with ⟨f, fok⟩
 rw [hfo] at C1 hF1 TF
 simp only at C1 hF1 TF
 simp only [fb, cellsSc, cellsMs]
 refine AW.rT (by rfl) fun K hK => ?_
 simp -implicitDefEqProofs only [go_sem, ↓reduceIte, Nat.reduceAdd, Nat.reduceEqDiff, b1, b2]
 apply hK; clear hK K
 refine AW.cT rfl ?_
 refine AW.skip ?_
 simp only [andThen]
 refine AW.seq ?_
 refine AW.block ?_
 refine AW.rT (by rfl) fun K hK => ?_
 simp -implicitDefEqProofs only [go_sem, ↓reduceIte, Nat.reduceAdd, Nat.reduceEqDiff, Nat.reduceLeDiff, reduceCtorEq]
 refine ⟨.pure _, C1, ?_⟩
 try simp -implicitDefEqProofs only [go_sem, ↓reduceIte, Nat.reduceAdd, Nat.reduceEqDiff, Nat.reduceLeDiff]
 apply hK; clear hK K
 have np := nextF_pos l b
 have CN := law00_next l b (by omega) hl
 refine AW.cut (fun _ : Unit => fb S m l d (i + 1) es (nextF l b).2 [(15, .ptr 6 0 0)] [(6, .row 5 [cellsFd f])] 7) (fun _ => fok = true ∧ ¬ (nextF l b).1 % 3 = 0 ∧ ¬ (f.ty.kind = 7 ∧ ok = false)) ?_ fun _ hj => ?_
 ·cases fok with
  | false =>
   rw [if_pos rfl] at TF
   refine AW.rT (by rfl) fun K hK => ?_
   simp -implicitDefEqProofs only [go_sem, ↓reduceIte, Nat.reduceAdd, Nat.reduceEqDiff]
   apply hK; clear hK K
   refine AW.cT rfl ?_
   refine AW.exit ?_
   simp only [andThen, inBlk, ↓reduceIte]
   refine AW.rE (by rfl) fun K hK => ?_
   simp -implicitDefEqProofs only [go_sem, ↓reduceIte, Nat.reduceAdd, Nat.reduceEqDiff, w1]
   apply hK; clear hK K
   refine nextI _ ?_
   rw [TF]
   simp only [fb, cellsSc, cellsMs]
   refine Ghost.sub ?_ ?_ <;> simp -implicitDefEqProofs only [go_sem, ↓reduceIte, Nat.reduceEqDiff, reduceCtorEq, List.forall_mem_cons, List.not_mem_nil, false_implies, implies_true, and_self, labsIn_lift, List.all_cons, List.all_nil, Nat.reduceLT, labsInL, AV.labsIn]
   done
  | true =>
  rw [if_neg (by simp)] at TF
  have rm : (nextF l b).1.tmod 3 = (nextF l b).1 % 3 := Int.tmod_eq_emod_of_nonneg np.1
  have hz : ((3 : Int) = 0) = False := by simp
  have wm : IntKind.wrap .i64 ((nextF l b).1 % 3) = (nextF l b).1 % 3 := by rw [w64] <;> omega
  generalize (nextF l b).1 = v at CN rm wm TF np
  generalize (nextF l b).2 = b' at CN TF np
  by_cases h3 : v % 3 = 0
  ·have b3 := eqb h3
   rw [if_pos h3] at TF
   refine AW.rT (by rfl) fun K hK => ?_
   simp -implicitDefEqProofs only [go_sem, ↓reduceIte, Nat.reduceAdd, Nat.reduceEqDiff, reduceCtorEq]
   refine ⟨.lend [none, some 0] [.v (.slice (l.map encI)), .ptr 0 0 1 [[.int .i64 (b : Int)]]] [none, some (.row 1 [[.int .i64 (b' : Int)]])] (.int .i64 v), ⟨CN, rfl, ?_⟩, ?_⟩
   ·simp -implicitDefEqProofs only [go_sem, ↓reduceIte, Nat.reduceEqDiff, reduceCtorEq, liftE_cons, liftE_nil, List.map_cons, List.map_nil, and_self]
   simp -implicitDefEqProofs only [go_sem, ↓reduceIte, Nat.reduceAdd, Nat.reduceEqDiff, liftE_cons, liftE_nil, List.map_cons, List.map_nil, rm, hz, b3]
   apply hK; clear hK K
   refine AW.cT rfl ?_
   refine AW.exit ?_
   simp only [andThen, inBlk, ↓reduceIte]
   refine AW.rE (by rfl) fun K hK => ?_
   simp -implicitDefEqProofs only [go_sem, ↓reduceIte, Nat.reduceAdd, Nat.reduceEqDiff, w1]
   apply hK; clear hK K
   refine nextI _ ?_
   rw [TF]
   simp only [fb, cellsSc, cellsMs]
   refine Ghost.sub ?_ ?_ <;> simp -implicitDefEqProofs only [go_sem, ↓reduceIte, Nat.reduceEqDiff, reduceCtorEq, List.forall_mem_cons, List.not_mem_nil, false_implies, implies_true, and_self, labsIn_lift, List.all_cons, List.all_nil, Nat.reduceLT, labsInL, AV.labsIn]
   done
  have b3 := beqf h3
  rw [if_neg h3] at TF
  by_cases h7 : f.ty.kind = 7
  ·have b7 := eqb h7
   by_cases hd0 : d = 0
   ·have hok0 : ok = false := by rw [← hokd, hd0]; rfl
    have bd : (((5 - d : Nat) : Int) ≥ 5) = True := eq_true (by omega)
    rw [if_pos ⟨h7, hok0⟩] at TF
    refine AW.rT (by rfl) fun K hK => ?_
    simp -implicitDefEqProofs only [go_sem, ↓reduceIte, Nat.reduceAdd, Nat.reduceEqDiff, reduceCtorEq]
    refine ⟨.lend [none, some 0] [.v (.slice (l.map encI)), .ptr 0 0 1 [[.int .i64 (b : Int)]]] [none, some (.row 1 [[.int .i64 (b' : Int)]])] (.int .i64 v), ⟨CN, rfl, ?_⟩, ?_⟩
    ·simp -implicitDefEqProofs only [go_sem, ↓reduceIte, Nat.reduceEqDiff, reduceCtorEq, liftE_cons, liftE_nil, List.map_cons, List.map_nil, and_self]
    simp -implicitDefEqProofs only [go_sem, ↓reduceIte, Nat.reduceAdd, Nat.reduceEqDiff, reduceCtorEq, liftE_cons, liftE_nil, List.map_cons, List.map_nil, rm, hz, b3, b7, bd]
    apply hK; clear hK K
    refine AW.cT rfl ?_
    refine AW.exit ?_
    simp only [andThen, inBlk, ↓reduceIte]
    refine AW.rE (by rfl) fun K hK => ?_
    simp -implicitDefEqProofs only [go_sem, ↓reduceIte, Nat.reduceAdd, Nat.reduceEqDiff, w1]
    apply hK; clear hK K
    refine nextI _ ?_
    rw [TF]
    simp only [fb, cellsSc, cellsMs]
    refine Ghost.sub ?_ ?_ <;> simp -implicitDefEqProofs only [go_sem, ↓reduceIte, Nat.reduceEqDiff, reduceCtorEq, List.forall_mem_cons, List.not_mem_nil, false_implies, implies_true, and_self, labsIn_lift, List.all_cons, List.all_nil, Nat.reduceLT, labsInL, AV.labsIn]
    done
   ·have hok0 : ok = true := by rw [← hokd]; simpa using hd0
    have bd : (((5 - d : Nat) : Int) ≥ 5) = False := eq_false (by omega)
    refine AW.rT (by rfl) fun K hK => ?_
    simp -implicitDefEqProofs only [go_sem, ↓reduceIte, Nat.reduceAdd, Nat.reduceEqDiff, reduceCtorEq]
    refine ⟨.lend [none, some 0] [.v (.slice (l.map encI)), .ptr 0 0 1 [[.int .i64 (b : Int)]]] [none, some (.row 1 [[.int .i64 (b' : Int)]])] (.int .i64 v), ⟨CN, rfl, ?_⟩, ?_⟩
    ·simp -implicitDefEqProofs only [go_sem, ↓reduceIte, Nat.reduceEqDiff, reduceCtorEq, liftE_cons, liftE_nil, List.map_cons, List.map_nil, and_self]
    simp -implicitDefEqProofs only [go_sem, ↓reduceIte, Nat.reduceAdd, Nat.reduceEqDiff, reduceCtorEq, liftE_cons, liftE_nil, List.map_cons, List.map_nil, rm, hz, b3, b7, bd]
    apply hK; clear hK K
    refine AW.cF rfl ?_
    refine AW.skip ?_
    simp only [andThen]
    refine ⟨(), ⟨trivial, h3, by rintro ⟨_, q⟩; rw [hok0] at q; cases q⟩, ?_⟩
    simp only [fb, cellsSc, cellsMs, cellsFd]
    refine Ghost.ent (fun l => if l = 6 then 20 else l) ?_ ?_ ?_ <;> simp -implicitDefEqProofs only [go_sem, ↓reduceIte, Nat.reduceEqDiff, reduceCtorEq, List.forall_mem_cons, List.not_mem_nil, false_implies, implies_true, and_self, map_renL_lift, labsIn_lift, List.all_cons, List.all_nil, Nat.reduceLT, labsInL, AV.labsIn]
    all_goals first | rfl | skip
  ·have b7 := beqf h7
   refine AW.rT (by rfl) fun K hK => ?_
   simp -implicitDefEqProofs only [go_sem, ↓reduceIte, Nat.reduceAdd, Nat.reduceEqDiff, reduceCtorEq]
   refine ⟨.lend [none, some 0] [.v (.slice (l.map encI)), .ptr 0 0 1 [[.int .i64 (b : Int)]]] [none, some (.row 1 [[.int .i64 (b' : Int)]])] (.int .i64 v), ⟨CN, rfl, ?_⟩, ?_⟩
   ·simp -implicitDefEqProofs only [go_sem, ↓reduceIte, Nat.reduceEqDiff, reduceCtorEq, liftE_cons, liftE_nil, List.map_cons, List.map_nil, and_self]
   simp -implicitDefEqProofs only [go_sem, ↓reduceIte, Nat.reduceAdd, Nat.reduceEqDiff, reduceCtorEq, liftE_cons, liftE_nil, List.map_cons, List.map_nil, rm, hz, b3, b7]
   apply hK; clear hK K
   refine AW.cF rfl ?_
   refine AW.skip ?_
   simp only [andThen]
   refine ⟨(), ⟨trivial, h3, fun q => h7 q.1⟩, ?_⟩
   simp only [fb, cellsSc, cellsMs, cellsFd]
   refine Ghost.ent (fun l => if l = 6 then 20 else l) ?_ ?_ ?_ <;> simp -implicitDefEqProofs only [go_sem, ↓reduceIte, Nat.reduceEqDiff, reduceCtorEq, List.forall_mem_cons, List.not_mem_nil, false_implies, implies_true, and_self, map_renL_lift, labsIn_lift, List.all_cons, List.all_nil, Nat.reduceLT, labsInL, AV.labsIn]
   all_goals first | rfl | skip
 obtain ⟨rfl, hj3, hj7⟩ := hj
 rw [if_neg (by simp), if_neg hj3, if_neg hj7] at TF
 obtain ⟨⟨k1, k7⟩, km⟩ := hF1 rfl
 generalize (nextF l b).2 = b' at TF np
 simp only [fb, cellsSc, cellsMs, cellsFd]
 refine AW.rT (by rfl) fun K hK => ?_
 simp -implicitDefEqProofs only [go_sem, Nat.reduceAdd]
 apply hK; clear hK K
 refine AW.cut (fun _ : Unit => fb S m l d (i + 1) es (cntF l f b').2 [(15, .ptr 6 0 0), (17, .p (.int .i64 ((cntF l f b').1 : Int)))] [(6, .row 5 [cellsFd f])] 7) (fun _ => True) ?_ fun _ _ => ?_
 ·by_cases hb3 : f.label = 3
  ·have b3 := eqb hb3
   have np2 := nextF_pos l b'
   have CN2 := law00_next l b' (by omega) hl
   have e1 : cntF l f b' = (1 + ((nextF l b').1 % 3).toNat, (nextF l b').2) := by unfold cntF; rw [if_pos hb3]
   rw [e1]
   have rm : (nextF l b').1.tmod 3 = (nextF l b').1 % 3 := Int.tmod_eq_emod_of_nonneg np2.1
   have hz : ((3 : Int) = 0) = False := by simp
   have wm : IntKind.wrap .i64 ((nextF l b').1 % 3) = (nextF l b').1 % 3 := by rw [w64] <;> omega
   have wn : IntKind.wrap .i64 (1 + (nextF l b').1 % 3) = ((1 + ((nextF l b').1 % 3).toNat : Nat) : Int) := by rw [w64] <;> omega
   refine AW.rT (by rfl) fun K hK => ?_
   simp -implicitDefEqProofs only [go_sem, ↓reduceIte, Nat.reduceAdd, Nat.reduceEqDiff, reduceCtorEq, b3]
   apply hK; clear hK K
   refine AW.cT rfl ?_
   refine AW.rE (by rfl) fun K hK => ?_
   simp -implicitDefEqProofs only [go_sem, ↓reduceIte, Nat.reduceAdd, Nat.reduceEqDiff]
   refine ⟨.lend [none, some 0] [.v (.slice (l.map encI)), .ptr 0 0 1 [[.int .i64 (b' : Int)]]] [none, some (.row 1 [[.int .i64 ((nextF l b').2 : Int)]])] (.int .i64 (nextF l b').1), ⟨CN2, rfl, ?_⟩, ?_⟩
   ·simp -implicitDefEqProofs only [go_sem, ↓reduceIte, Nat.reduceEqDiff, liftE_cons, liftE_nil, List.map_cons, List.map_nil, and_self]
   simp -implicitDefEqProofs only [go_sem, ↓reduceIte, Nat.reduceAdd, liftE_cons, liftE_nil, List.map_cons, List.map_nil, rm, hz, wn]
   apply hK; clear hK K
   simp only [andThen]
   refine ⟨(), trivial, ?_⟩
   simp only [fb, cellsSc, cellsMs, cellsFd]
   refine Ghost.sub ?_ ?_ <;> simp -implicitDefEqProofs only [go_sem, ↓reduceIte, Nat.reduceEqDiff, reduceCtorEq, List.forall_mem_cons, List.not_mem_nil, false_implies, implies_true, and_self, labsIn_lift, List.all_cons, List.all_nil, Nat.reduceLT, labsInL, AV.labsIn]
   done
  ·have b3 := beqf hb3
   have e1 : cntF l f b' = (1, b') := by unfold cntF; rw [if_neg hb3]
   rw [e1]
   refine AW.rT (by rfl) fun K hK => ?_
   simp -implicitDefEqProofs only [go_sem, ↓reduceIte, Nat.reduceAdd, Nat.reduceEqDiff, reduceCtorEq, b3]
   apply hK; clear hK K
   refine AW.cF rfl ?_
   refine AW.skip ?_
   simp only [andThen]
   refine ⟨(), trivial, ?_⟩
   simp only [fb, cellsSc, cellsMs, cellsFd]
   refine Ghost.sub ?_ ?_ <;> simp -implicitDefEqProofs only [go_sem, ↓reduceIte, Nat.reduceEqDiff, reduceCtorEq, List.forall_mem_cons, List.not_mem_nil, false_implies, implies_true, and_self, labsIn_lift, List.all_cons, List.all_nil, Nat.reduceLT, labsInL, AV.labsIn]
   all_goals first | rfl | simp
 have cn := cntF_le l f b'
 have RG := reps_good (S := S) (l := l) (sub := sub) (f := f) (d := d)
 have RA := reps_at (l := l) (sub := sub) (f := f) (hsub ▸ sub_at S l d) ([], (cntF l f b').2)
 have TE : treesF l sub f b' = itS (fun _ => repF l sub f) (cntF l f b').1 ([], (cntF l f b').2) := rfl
 generalize (cntF l f b').1 = c at cn TE
 generalize (cntF l f b').2 = b3 at cn TE RA
 obtain ⟨cn1, cn2, cn3, cn4, cn5⟩ := cn
 simp only at RA
 simp only [fb, cellsSc, cellsMs, cellsFd]
 refine AW.rT (by rfl) fun K hK => ?_
 simp -implicitDefEqProofs only [go_sem, ↓reduceIte, Nat.reduceAdd, Nat.reduceEqDiff, Nat.reduceLeDiff]
 apply hK; clear hK K
 refine AW.seq ?_
 refine AW.rT (by rfl) fun K hK => ?_
 simp -implicitDefEqProofs only [go_sem, Nat.reduceAdd]
 apply hK; clear hK K
 refine AW.block ?_
 refine AW.loop (fun j : Nat => fb S m l d (i + 1) es (itS (fun _ => repF l sub f) j ([], b3)).2 [(15, .ptr 6 0 0), (17, .p (.int .i64 (c : Int))), (18, .ptr 7 0 0), (19, .p (.int .i64 (j : Int)))] [(6, .row 5 [cellsFd f]), (7, .row 2 [[.p (.int .i64 ((i + 1 : Nat) : Int)), .own 8]]), (8, .row 5 (liftE ((itS (fun _ => repF l sub f) j ([], b3)).1.map encTr)))] 9) (fun j => j ≤ c ∧ (itS (fun _ => repF l sub f) j ([], b3)).1.length ≤ j) (fun j => c - j) 0 ?_ (by simp [itS]) fun j hj => ?_
 ·refine Ghost.trans (Ghost.nilH (l := 9) (i := 0) (j := 1) (sz' := 5) rfl rfl rfl) ?_
  simp only [fb, cellsSc, cellsMs, cellsFd, itS]
  refine Ghost.ent (fun l => if l = 7 then 9 else if l = 8 then 12 else l) ?_ ?_ ?_ <;> simp -implicitDefEqProofs only [go_sem, ↓reduceIte, Nat.reduceEqDiff, reduceCtorEq, List.map_nil, liftE_nil, List.set_cons_zero, List.set_cons_succ, List.forall_mem_cons, List.not_mem_nil, false_implies, implies_true, and_self, map_renL_lift, labsIn_lift, List.all_cons, List.all_nil, Nat.reduceLT, labsInL, AV.labsIn]
  all_goals first | rfl | skip
 obtain ⟨hj1, hj2⟩ := hj
 have RAj := RA j
 have NJ : itS (fun _ => repF l sub f) (j + 1) ([], b3) = repF l sub f (itS (fun _ => repF l sub f) j ([], b3)) := rfl
 have wj : IntKind.wrap .i64 ((j : Int) + 1) = ((j + 1 : Nat) : Int) := by rw [w64] <;> omega
 refine AW.seq ?_
 by_cases hjc : j < c
 case neg =>
  have hj' : j = c := by omega
  subst hj'
  rw [← TE]
  rw [← TE] at hj2
  generalize treesF l sub f b' = y at hj2 TF
  obtain ⟨ts, bb⟩ := y
  simp only at hj2
  have hc2 : ((j : Int) < (j : Int)) = False := eq_false (by omega)
  simp only [fb, cellsSc, cellsMs, cellsFd]
  refine AW.rT (by rfl) fun K hK => ?_
  simp -implicitDefEqProofs only [go_sem, ↓reduceIte, Nat.reduceAdd, Nat.reduceEqDiff, hc2]
  apply hK; clear hK K
  refine AW.cF rfl ?_
  refine AW.exit ?_
  simp only [andThen, inBlk, ↓reduceIte]
  refine AW.ghost (s' := fb S m l d (i + 1) es bb [(18, .ptr 7 0 0)] [(7, .row 2 [[.p (.int .i64 ((i + 1 : Nat) : Int)), .p (.slice (ts.map encTr))]])] 8) (Ghost.trans (Ghost.freeze (lb := 8) (ps := ts.map encTr) rfl (unlift_liftE _)) ?_) ?_
  ·simp only [fb, cellsSc, cellsMs]
   refine Ghost.sub ?_ ?_ <;> simp -implicitDefEqProofs only [go_sem, ↓reduceIte, Nat.reduceEqDiff, reduceCtorEq, thaw, thaw1, Option.map_some, List.map_cons, List.map_nil, thaw_lift, List.forall_mem_cons, List.not_mem_nil, false_implies, implies_true, and_self, labsIn_lift, List.all_cons, List.all_nil, Nat.reduceLT, labsInL, AV.labsIn]
   done
  simp only [fb, cellsSc, cellsMs]
  by_cases h0 : ts = []
  ·subst h0
   rw [if_pos rfl] at TF
   refine AW.rT (by rfl) fun K hK => ?_
   simp -implicitDefEqProofs only [go_sem, ↓reduceIte, Nat.reduceAdd, Nat.reduceEqDiff, reduceCtorEq]
   apply hK; clear hK K
   refine AW.cF rfl ?_
   refine AW.skip ?_
   simp only [andThen, inBlk]
   refine AW.rE (by rfl) fun K hK => ?_
   simp -implicitDefEqProofs only [go_sem, ↓reduceIte, Nat.reduceAdd, Nat.reduceEqDiff, w1]
   apply hK; clear hK K
   refine nextI _ ?_
   rw [TF]
   simp only [fb, cellsSc, cellsMs]
   refine Ghost.sub ?_ ?_ <;> simp -implicitDefEqProofs only [go_sem, ↓reduceIte, Nat.reduceEqDiff, reduceCtorEq, List.forall_mem_cons, List.not_mem_nil, false_implies, implies_true, and_self, labsIn_lift, List.all_cons, List.all_nil, Nat.reduceLT, labsInL, AV.labsIn]
   done
  ·have hp := List.length_pos_iff.2 h0
   have g1 : ((ts.length : Int) > 0) = True := eq_true (by omega)
   rw [if_neg h0] at TF
   refine AW.rT (by rfl) fun K hK => ?_
   simp -implicitDefEqProofs only [go_sem, ↓reduceIte, Nat.reduceAdd, Nat.reduceEqDiff, reduceCtorEq, g1, List.length_map]
   apply hK; clear hK K
   refine AW.cT rfl ?_
   refine AW.rE (by rfl) fun K hK => ?_
   simp -implicitDefEqProofs only [go_sem, ↓reduceIte, Nat.reduceAdd, Nat.reduceMul, Nat.reduceEqDiff, Nat.reduceLeDiff, reduceCtorEq]
   refine ⟨⟨by simp, by simp [oneAll, AV.one, PV.one], by simp⟩, by simp [liftE_length]; omega, ?_⟩
   try simp -implicitDefEqProofs only [go_sem, ↓reduceIte, Nat.reduceAdd, Nat.reduceMul, Nat.reduceEqDiff, Nat.reduceLeDiff, reduceCtorEq, Int.reduceToNat]
   apply hK; clear hK K
   simp only [andThen, inBlk]
   have e8 : liftE (es.map encEn) ++ [[AV.p (.int .i64 ((i + 1 : Nat) : Int)), .p (.slice (ts.map encTr))]] = liftE ((es ++ [(((i + 1 : Nat) : Int), ts)]).map encEn) := by
    simp [liftE, encEn]
   refine AW.rE (by rfl) fun K hK => ?_
   simp -implicitDefEqProofs only [go_sem, ↓reduceIte, Nat.reduceAdd, Nat.reduceEqDiff, w1]
   apply hK; clear hK K
   refine nextI _ ?_
   rw [TF]
   simp only [fb, cellsSc, cellsMs]
   rw [← e8]
   refine Ghost.ent (fun l => if l = 5 then 16 else l) ?_ ?_ ?_ <;> simp -implicitDefEqProofs only [go_sem, ↓reduceIte, Nat.reduceEqDiff, reduceCtorEq, List.forall_mem_cons, List.not_mem_nil, false_implies, implies_true, and_self, map_renL_lift, labsIn_lift, List.all_append, List.all_cons, List.all_nil, List.map_append, Nat.reduceLT, labsInL, AV.labsIn]
   all_goals first | rfl | skip
 generalize itS (fun _ => repF l sub f) j ([], b3) = y at *
 obtain ⟨ts, bb⟩ := y
 simp only at hj2 RAj
 have hc2 : ((j : Int) < (c : Int)) = True := eq_true (by omega)
 have CO := law00_one S l hl f d bb (by omega) k1 k7 fun h => by
  have h0 : d ≠ 0 := fun q => hj7 ⟨h, by rw [← hokd, q]; rfl⟩
  exact ⟨d - 1, by omega, hd, ih (d - 1) (by omega) (by omega), km h⟩
 rw [hsub] at CO
 have RF : repF l sub f (ts, bb) = (if f.label ≠ 1 ∨ zeroV (oneF l sub f bb).1 = false then ts ++ [(oneF l sub f bb).1] else ts, (oneF l sub f bb).2) := rfl
 rw [RF] at NJ
 generalize oneF l sub f bb = z at CO NJ
 obtain ⟨tr, b4⟩ := z
 simp only at CO NJ
 have CZ := ref10_Zero tr
 rw [encTr_eq tr] at CO CZ
 simp only [fb, cellsSc, cellsMs, cellsFd]
 refine AW.rT (by rfl) fun K hK => ?_
 simp -implicitDefEqProofs only [go_sem, ↓reduceIte, Nat.reduceAdd, Nat.reduceEqDiff, hc2]
 apply hK; clear hK K
 refine AW.cT rfl ?_
 refine AW.skip ?_
 simp only [andThen]
 refine AW.seq ?_
 refine AW.block ?_
 refine AW.rR (SeqR.ev 5 (by rfl) (by decide) ?_)
 simp -implicitDefEqProofs only [go_sem, ↓reduceIte, Nat.reduceAdd, Nat.reduceEqDiff, Nat.reduceLeDiff, reduceCtorEq]
 refine SeqR.call (fun k => k) rfl rfl CO ⟨?_, rfl, ?_, rfl, rfl, rfl, rfl, rfl, rfl⟩ ?_
 ·simp -implicitDefEqProofs only [go_sem, ↓reduceIte, Nat.reduceEqDiff, argD, encSc, encFd]
 ·simp only [atH]
  simp -implicitDefEqProofs only [go_sem, ↓reduceIte, List.forall_mem_cons, List.not_mem_nil, false_implies, implies_true]
  first | done | decide
 simp only [atH, AV.ren]
 refine SeqR.ev 2 (by rfl) (by decide) ?_
 simp -implicitDefEqProofs only [go_sem, ↓reduceIte, Nat.reduceAdd, Nat.reduceEqDiff, Nat.reduceLeDiff, lift2, goneU, newU, List.map_cons, List.map_nil, putH, Nat.reduceLT]
 refine SeqR.last rfl ?_
 refine AW.ghost (s' := fb S m l d (i + 1) es b4 [(15, .ptr 6 0 0), (17, .p (.int .i64 (c : Int))), (18, .ptr 7 0 0), (19, .p (.int .i64 (j : Int))), (20, .ptr 9 0 0)] [(6, .row 5 [cellsFd f]), (7, .row 2 [[.p (.int .i64 ((i + 1 : Nat) : Int)), .own 8]]), (8, .row 5 (liftE (ts.map encTr))), (9, .row 5 [cellsT tr])] 10) ?_ ?_
 ·simp only [fb, cellsSc, cellsMs, cellsFd, cellsT]
  refine Ghost.ent (fun l => if l = 9 then 17 else l) ?_ ?_ ?_ <;> simp -implicitDefEqProofs only [go_sem, ↓reduceIte, Nat.reduceEqDiff, reduceCtorEq, List.forall_mem_cons, List.not_mem_nil, false_implies, implies_true, and_self, map_renL_lift, labsIn_lift, List.all_cons, List.all_nil, Nat.reduceLT, labsInL, AV.labsIn]
  all_goals first | rfl | skip
 simp only [fb, cellsSc, cellsMs, cellsFd, cellsT]
 have nextJ : ∀ (q : List Tr) (s' : St), itS (fun _ => repF l sub f) (j + 1) ([], b3) = (q, b4) → q.length ≤ j + 1 → Ghost ⟨109, [3], val⟩ s' (fb S m l d (i + 1) es b4 [(15, .ptr 6 0 0), (17, .p (.int .i64 (c : Int))), (18, .ptr 7 0 0), (19, .p (.int .i64 ((j + 1 : Nat) : Int)))] [(6, .row 5 [cellsFd f]), (7, .row 2 [[.p (.int .i64 ((i + 1 : Nat) : Int)), .own 8]]), (8, .row 5 (liftE (q.map encTr)))] 9) →
   ∃ y : Nat, (y ≤ c ∧ (itS (fun _ => repF l sub f) y ([], b3)).1.length ≤ y) ∧ c - y < c - j ∧ Ghost ⟨109, [3], val⟩ s' (fb S m l d (i + 1) es (itS (fun _ => repF l sub f) y ([], b3)).2 [(15, .ptr 6 0 0), (17, .p (.int .i64 (c : Int))), (18, .ptr 7 0 0), (19, .p (.int .i64 (y : Int)))] [(6, .row 5 [cellsFd f]), (7, .row 2 [[.p (.int .i64 ((i + 1 : Nat) : Int)), .own 8]]), (8, .row 5 (liftE ((itS (fun _ => repF l sub f) y ([], b3)).1.map encTr)))] 9) :=
  fun q s' e hq g => ⟨j + 1, ⟨by omega, by rw [e]; exact hq⟩, by omega, by rw [e]; exact g⟩
 have app : liftE (ts.map encTr) ++ [[AV.p (.int .i64 tr.kind), .p (.int .i64 tr.n), .p (.str tr.s), .p (.slice (tr.ents.map encEn)), .p (.slice (tr.rest.map encRaw))]] = liftE ((ts ++ [tr]).map encTr) := by
  simp [liftE, encTr_eq tr]
 by_cases hb1 : f.label = 1
 case neg =>
  have b1 : (f.label != 1) = true := by simpa using hb1
  rw [if_pos (.inl hb1)] at NJ
  refine AW.rT (by rfl) fun K hK => ?_
  simp -implicitDefEqProofs only [go_sem, ↓reduceIte, Nat.reduceAdd, Nat.reduceEqDiff, reduceCtorEq, b1]
  apply hK; clear hK K
  refine AW.cT rfl ?_
  refine AW.rE (by rfl) fun K hK => ?_
  simp -implicitDefEqProofs only [go_sem, ↓reduceIte, Nat.reduceAdd, Nat.reduceMul, Nat.reduceEqDiff, Nat.reduceLeDiff, reduceCtorEq]
  refine ⟨⟨by simp, by simp [oneAll, AV.one, PV.one], by simp⟩, by simp [liftE_length]; omega, ?_⟩
  try simp -implicitDefEqProofs only [go_sem, ↓reduceIte, Nat.reduceAdd, Nat.reduceMul, Nat.reduceEqDiff, Nat.reduceLeDiff, reduceCtorEq, Int.reduceToNat]
  apply hK; clear hK K
  simp only [andThen, inBlk]
  refine AW.rE (by rfl) fun K hK => ?_
  simp -implicitDefEqProofs only [go_sem, ↓reduceIte, Nat.reduceAdd, Nat.reduceEqDiff, wj]
  apply hK; clear hK K
  refine nextJ _ _ NJ (by simp; omega) ?_
  simp only [fb, cellsSc, cellsMs, cellsFd]
  rw [← app]
  refine Ghost.ent (fun l => if l = 8 then 22 else l) ?_ ?_ ?_ <;> simp -implicitDefEqProofs only [go_sem, ↓reduceIte, Nat.reduceEqDiff, reduceCtorEq, List.forall_mem_cons, List.not_mem_nil, false_implies, implies_true, and_self, map_renL_lift, labsIn_lift, List.all_append, List.all_cons, List.all_nil, List.map_append, Nat.reduceLT, labsInL, AV.labsIn]
  all_goals first | rfl | skip
 have b1 : (f.label != 1) = false := by simp [hb1]
 cases hz : zeroV tr with
 | false =>
  rw [hz] at CZ
  rw [if_pos (.inr hz)] at NJ
  refine AW.rT (by rfl) fun K hK => ?_
  simp -implicitDefEqProofs only [go_sem, ↓reduceIte, Nat.reduceAdd, Nat.reduceEqDiff, Nat.reduceLeDiff, reduceCtorEq, b1]
  refine ⟨.pure _, CZ, ?_⟩
  try simp -implicitDefEqProofs only [go_sem, ↓reduceIte, Nat.reduceAdd, Nat.reduceEqDiff]
  apply hK; clear hK K
  refine AW.cT rfl ?_
  refine AW.rE (by rfl) fun K hK => ?_
  simp -implicitDefEqProofs only [go_sem, ↓reduceIte, Nat.reduceAdd, Nat.reduceMul, Nat.reduceEqDiff, Nat.reduceLeDiff, reduceCtorEq]
  refine ⟨⟨by simp, by simp [oneAll, AV.one, PV.one], by simp⟩, by simp [liftE_length]; omega, ?_⟩
  try simp -implicitDefEqProofs only [go_sem, ↓reduceIte, Nat.reduceAdd, Nat.reduceMul, Nat.reduceEqDiff, Nat.reduceLeDiff, reduceCtorEq, Int.reduceToNat]
  apply hK; clear hK K
  simp only [andThen, inBlk]
  refine AW.rE (by rfl) fun K hK => ?_
  simp -implicitDefEqProofs only [go_sem, ↓reduceIte, Nat.reduceAdd, Nat.reduceEqDiff, wj]
  apply hK; clear hK K
  refine nextJ _ _ NJ (by simp; omega) ?_
  simp only [fb, cellsSc, cellsMs, cellsFd]
  rw [← app]
  refine Ghost.ent (fun l => if l = 8 then 22 else l) ?_ ?_ ?_ <;> simp -implicitDefEqProofs only [go_sem, ↓reduceIte, Nat.reduceEqDiff, reduceCtorEq, List.forall_mem_cons, List.not_mem_nil, false_implies, implies_true, and_self, map_renL_lift, labsIn_lift, List.all_append, List.all_cons, List.all_nil, List.map_append, Nat.reduceLT, labsInL, AV.labsIn]
  all_goals first | rfl | skip
 | true =>
  rw [hz] at CZ
  rw [if_neg (by rintro (q | q); exact q hb1; rw [hz] at q; cases q)] at NJ
  refine AW.rT (by rfl) fun K hK => ?_
  simp -implicitDefEqProofs only [go_sem, ↓reduceIte, Nat.reduceAdd, Nat.reduceEqDiff, Nat.reduceLeDiff, reduceCtorEq, b1]
  refine ⟨.pure _, CZ, ?_⟩
  try simp -implicitDefEqProofs only [go_sem, ↓reduceIte, Nat.reduceAdd, Nat.reduceEqDiff]
  apply hK; clear hK K
  refine AW.cF rfl ?_
  refine AW.skip ?_
  simp only [andThen, inBlk]
  refine AW.rE (by rfl) fun K hK => ?_
  simp -implicitDefEqProofs only [go_sem, ↓reduceIte, Nat.reduceAdd, Nat.reduceEqDiff, wj]
  apply hK; clear hK K
  refine nextJ _ _ NJ (by omega) ?_
  simp only [fb, cellsSc, cellsMs, cellsFd]
  refine Ghost.sub ?_ ?_ <;> simp -implicitDefEqProofs only [go_sem, ↓reduceIte, Nat.reduceEqDiff, reduceCtorEq, List.forall_mem_cons, List.not_mem_nil, false_implies, implies_true, and_self, labsIn_lift, List.all_cons, List.all_nil, Nat.reduceLT, labsInL, AV.labsIn]
  done
end Go.Aw.T
namespace Go.Aw.T
open Go.Proofs Go.RowKit
def fitB (S : Sc) (k : List UInt8) (l : List Int) : Tr := (fitF S l 4 k 0).1
theorem law00_Fit (S : Sc) (hS : SizS S) (FO : ∀ k, (msOf S k).2 = true → FldsOK S (msOf S k).1) (l : List Int) (hl : l.length ≤ 200) (k : List UInt8) (hk : (msOf S k).2 = true) : PFn Tryd.prog 23 [.agg (encSc S), .str k, .slice (l.map encI)] (.agg (encTr (fitB S k l))) := by
 have CT := law00_fit S hS FO l hl 4 (by omega) k 0 (by omega) hk
 refine PFn.of Tryd.func23 rfl (by decide) Tryd.ntmps23 Tryd.results23 (Nat.le_of_ble_eq_true rfl) ?_
 unfold fitB
 generalize (fitF S l 4 k 0).1 = tr at CT
 generalize (fitF S l 4 k 0).2 = b at CT
 have e1 : ((5 - 4 : Nat) : Int) = 1 := rfl
 rw [e1, encTr_eq tr] at CT
 simp only [argsT]
 refine AW.rT (by rfl) fun K hK => ?_
 simp -implicitDefEqProofs only [go_sem, Nat.reduceAdd, encSc]
 apply hK; clear hK K
 refine AW.rT (by rfl) fun K hK => ?_
 simp -implicitDefEqProofs only [go_sem, Nat.reduceAdd, Nat.reduceLeDiff]
 apply hK; clear hK K
 refine AW.rR (SeqR.ev 3 (by rfl) (by decide) ?_)
 simp -implicitDefEqProofs only [go_sem, ↓reduceIte, Nat.reduceAdd, Nat.reduceEqDiff, Nat.reduceLeDiff, reduceCtorEq]
 refine SeqR.call (fun k => 2) rfl rfl CT ⟨?_, rfl, ?_, rfl, rfl, rfl, rfl, rfl, rfl⟩ ?_
 ·simp -implicitDefEqProofs only [go_sem, ↓reduceIte, Nat.reduceEqDiff, argD, encSc]
  done
 ·simp only [atH]
  simp -implicitDefEqProofs only [go_sem, List.forall_mem_cons, List.not_mem_nil, false_implies, implies_true]
  exact ⟨rfl, by decide⟩
 simp only [atH, AV.ren]
 refine SeqR.ev 1 (by rfl) (by decide) ?_
 simp -implicitDefEqProofs only [go_sem, ↓reduceIte, Nat.reduceAdd, Nat.reduceEqDiff, Nat.reduceLeDiff, lift2, goneU, newU, List.map_cons, List.map_nil, putH, Nat.reduceLT]
 refine SeqR.last rfl ?_
 refine AW.ret ?_
 simp -implicitDefEqProofs only [go_sem, ↓reduceIte, Nat.reduceAdd, Nat.reduceEqDiff, Nat.reduceLeDiff, encTr_eq]
 done
end Go.Aw.T
namespace Go.Aw.T
open Go.Proofs Go.RowKit
structure FitT (S : Sc) (m : Ms) (t : Tr) : Prop where
 ms : msOf S m.name = (m, true)
 good : GoodM S m 5 t
 ok : okT t = true
 valid : validV S m.name t = 0
theorem fit_t {S : Sc} (h0 : checkC S = 0) {q : Nat} {m : Ms} (hq : S.msgs[q]? = some m) (l : List Int) : FitT S m (fitB S m.name l) := by
 have R := right_of h0
 have hm : msOf S m.name = (m, true) := (R.msg q m hq).1
 have G := fit_good (flds_all R) l 4 m.name 0 (by rw [hm])
 rw [hm] at G
 have ho : okT (fitB S m.name l) = true := by
  unfold okT
  have := G.deep 101
  rw [Bool.and_eq_true, decide_eq_true_eq]
  exact ⟨by unfold fitB; omega, G.right⟩
 refine ⟨hm, G, ho, ?_⟩
 unfold validV
 rw [if_neg (by simp [h0]), hm, if_neg (by simp), if_neg]
 ·exact G.msg
 ·rintro (a | a)
  ·exact a G.kind
  ·rw [ho] at a; cases a
end Go.Aw.T
namespace Go.Aw.T
open Go.Proofs
theorem dE_bound {b m : Nat} : ∀ {es : List (Int × List Tr)} {d : Nat}, (∀ e ∈ es, ∀ x ∈ e.2, dT x m ≤ b) → d ≤ b → dE es m d ≤ b
 | [], d, _, h => by rw [dE]; exact h
 | (g, l) :: es, d, hl, h => by
  rw [dE]
  exact dE_bound (fun e he => hl e (List.mem_cons_of_mem _ he)) (dTs_bound (hl (g, l) List.mem_cons_self) h)
theorem right_mk {k n : Int} {s : List UInt8} {es : List (Int × List Tr)} {r : List Raw} (hk : k = 3) (hn : n = 0) (hs : s = []) (hr : r = []) (he : rightE es 0 = true) : rightT (.mk k n s es r) = true := by
 subst hk hn hs hr
 rw [rightT, if_neg (by decide), if_neg (by decide), if_pos rfl, he]
 rfl
end Go.Aw.T
namespace Go.Aw.T
open Go.Proofs
theorem prE_mem {S : Sc} {m : Ms} {es : List (Int × List Tr)} {e' : Int × List Tr} (h : e' ∈ prE S m es) : ∃ e ∈ es, (fldOf m e.1).2 = true ∧ e.2.all (pfit (fldOf m e.1).1.ty) = true ∧ keepL (fldOf m e.1).1 ((selL (fldOf m e.1).1 e.2).map (pr1 S (fldOf m e.1).1)) = true ∧ e' = (e.1, (selL (fldOf m e.1).1 e.2).map (pr1 S (fldOf m e.1).1)) := by
 rw [prE_flat] at h
 obtain ⟨e, he, h⟩ := List.mem_flatMap.1 h
 refine ⟨e, he, ?_⟩
 unfold entP at h
 split at h
 ·rename_i hq
  obtain ⟨h1, h2⟩ := hq
  unfold fieldP at h2 h
  by_cases ha : e.2.all (pfit (fldOf m e.1).1.ty) = false
  ·rw [if_pos ha] at h2; cases h2
  ·rw [if_neg ha] at h2 h
   simp only [List.mem_singleton] at h
   exact ⟨h1, by simpa using ha, h2, h⟩
 ·cases h
theorem selL_in {α : Type} {f : Fd} {l : List α} {x : α} (h : x ∈ selL f l) : x ∈ l := by
 unfold selL at h
 split at h
 ·exact h
 ·exact List.mem_of_mem_drop h
theorem selL_le {α : Type} (f : Fd) (l : List α) : (selL f l).length ≤ l.length ∧ (f.label ≠ 3 → (selL f l).length ≤ 1) ∧ (1 ≤ l.length → 1 ≤ (selL f l).length) := by
 unfold selL
 split
 ·exact ⟨Nat.le_refl _, fun h => absurd ‹_› h, fun h => h⟩
 ·rw [List.length_drop]
  exact ⟨by omega, fun _ => by omega, fun h => by omega⟩
theorem pfit_kd {y : Ty} {t : Tr} (h : pfit y t = true) : t.kind = kdV y := by
 unfold pfit at h
 unfold kdV
 split at h
 ·rw [if_pos (by omega)]; simpa using h
 split at h
 ·rw [if_pos (by omega)]; simp at h; exact h.1
 split at h
 ·rw [if_neg (by omega), if_pos (by omega)]; simp at h; exact h.1
 split at h
 ·rw [if_neg (by omega), if_pos (by omega)]; simpa using h
 ·rw [if_neg (by omega), if_neg (by omega)]; simpa using h
theorem prM_kind (S : Sc) (m : Ms) (t : Tr) : (prM S m t).kind = 3 ∧ (prM S m t).rest = [] ∧ (prM S m t).ents = prE S m t.ents ∧ (prM S m t).n = 0 ∧ (prM S m t).s = [] := by
 rw [prM_mk]
 exact ⟨rfl, rfl, rfl, rfl, rfl⟩
theorem pr1_kind {S : Sc} {f : Fd} {x : Tr} (h : pfit f.ty x = true) : (pr1 S f x).kind = kdV f.ty := by
 have hk := pfit_kd h
 unfold pr1
 split
 ·exact hk
 split
 ·rename_i h7
  rw [(prM_kind ..).1]
  unfold kdV
  rw [if_neg (by omega), if_neg (by omega)]
 ·exact hk
theorem prM_lens (S : Sc) : ∀ (t : Tr) (m : Ms), lensT t = true → lensT (prM S m t) = true := by
 intro t
 induction h : SizeOf.sizeOf t using Nat.strongRecOn generalizing t with
 | _ sz ih =>
 subst h
 intro m hl
 obtain ⟨l1, l2, l3⟩ := lensT_mk hl
 rw [prM_mk, lensT]
 have pl := prE_len S m t.ents
 simp only [List.length_nil, Nat.zero_le, decide_true, Bool.true_and, Bool.and_eq_true, decide_eq_true_eq]
 refine ⟨by omega, lensE_iff.2 fun e' he' => ?_⟩
 obtain ⟨e, he, h1, h2, h3, rfl⟩ := prE_mem he'
 obtain ⟨a1, a2⟩ := lensE_iff.1 l3 e he
 have sl := selL_le (fldOf m e.1).1 e.2
 refine ⟨by simp only [List.length_map]; omega, lensTs_iff.2 fun y hy => ?_⟩
 obtain ⟨x, hx, rfl⟩ := List.mem_map.1 hy
 have xm := selL_in hx
 have hlx := lensTs_iff.1 a2 x xm
 unfold pr1
 split
 ·obtain ⟨b1, b2, b3⟩ := lensT_mk hlx
  rw [lensT]
  simp only [Bool.and_eq_true, decide_eq_true_eq]
  exact ⟨⟨b1, b2⟩, b3⟩
 split
 ·obtain ⟨i, hi⟩ := List.getElem?_of_mem he
  obtain ⟨j, hj⟩ := List.getElem?_of_mem xm
  exact ih _ (size_ent hi hj) x rfl _ hlx
 ·exact hlx
theorem rightE_mono : ∀ {es : List (Int × List Tr)} {a b : Int}, a ≤ b → rightE es b = true → rightE es a = true
 | [], a, b, _, _ => by rw [rightE]
 | (g, l) :: es, a, b, h, hr => by
  rw [rightE] at hr ⊢
  split at hr
  ·cases hr
  rename_i h1
  rw [if_neg (by omega)]
  exact hr
theorem prM_right (S : Sc) : ∀ (t : Tr) (m : Ms), rightT t = true → t.kind = 3 → rightT (prM S m t) = true := by
 intro t
 induction h : SizeOf.sizeOf t using Nat.strongRecOn generalizing t with
 | _ sz ih =>
 subst h
 intro m hr hk
 have rt := hr
 rw [rightT_mk, if_neg (by rw [hk]; decide), if_neg (by rw [hk]; decide), if_pos hk] at rt
 simp only [Bool.and_eq_true, decide_eq_true_eq] at rt
 have rE := right_ent hr
 have key : ∀ (es : List (Int × List Tr)) (last : Int), (∀ e ∈ es, e ∈ t.ents) → rightE es last = true → rightE (prE S m es) last = true := fun es => by
  induction es with
  | nil => intro last _ _; rw [prE, rightE]
  | cons e es ihe =>
   obtain ⟨g, l⟩ := e
   intro last hin h2
   rw [rightE] at h2
   split at h2
   ·cases h2
   rename_i hg
   split at h2
   ·rename_i hts
    have ihr := ihe g (fun e he => hin e (List.mem_cons_of_mem _ he)) h2
    rw [prE_cons]
    unfold entP
    split
    ·rename_i hq
     obtain ⟨q1, q2⟩ := hq
     simp only at q1 q2
     unfold fieldP at q2 ⊢
     by_cases ha : l.all (pfit (fldOf m g).1.ty) = false
     ·rw [if_pos ha] at q2; cases q2
     ·rw [if_neg ha]
      have ha' : l.all (pfit (fldOf m g).1.ty) = true := by simpa using ha
      have hm := hin (g, l) List.mem_cons_self
      obtain ⟨r1, r2⟩ := rE (g, l) hm
      simp only at r1 r2
      have sl := selL_le (fldOf m g).1 l
      have hall : ∀ y ∈ (selL (fldOf m g).1 l).map (pr1 S (fldOf m g).1), y.kind = kdV (fldOf m g).1.ty ∧ rightT y = true := fun y hy => by
       obtain ⟨x, hx, rfl⟩ := List.mem_map.1 hy
       have xm := selL_in hx
       have pf := List.all_eq_true.1 ha' x xm
       refine ⟨pr1_kind pf, ?_⟩
       have kx := pfit_kd pf
       unfold pr1
       split
       ·rename_i k1
        have kx1 : x.kind = 1 := by rw [kx]; unfold kdV; rw [if_pos (by omega)]
        have rx := r2 x xm
        cases x with
        | mk k n s xs r =>
         simp only [Tr.kind] at kx1
         subst kx1
         rw [rightT] at rx ⊢
         simp only [Tr.kind, Tr.s, Tr.ents, Tr.rest] at rx ⊢
         exact rx
       split
       ·rename_i k7
        have kx3 : x.kind = 3 := by rw [kx]; unfold kdV; rw [if_neg (by omega), if_neg (by omega)]
        obtain ⟨i, hi⟩ := List.getElem?_of_mem hm
        obtain ⟨j, hj⟩ := List.getElem?_of_mem xm
        exact ih _ (size_ent hi hj) x rfl _ (r2 x xm) kx3
       ·exact r2 x xm
      have hlen : 1 ≤ ((selL (fldOf m g).1 l).map (pr1 S (fldOf m g).1)).length ∧ ((selL (fldOf m g).1 l).map (pr1 S (fldOf m g).1)).length ≤ 64 := by
       rw [List.length_map]; omega
      show rightE ([(g, (selL (fldOf m g).1 l).map (pr1 S (fldOf m g).1))] ++ prE S m es) last = true
      generalize (selL (fldOf m g).1 l).map (pr1 S (fldOf m g).1) = ps at hall hlen ⊢
      have hh : headK ps = kdV (fldOf m g).1.ty := by
       cases ps with
       | nil => simp at hlen
       | cons a b => rw [headK, (hall a List.mem_cons_self).1]
      rw [List.singleton_append, rightE, if_neg (by omega), hh, if_pos (rightTs_all hall)]
      exact ihr
    ·rw [List.nil_append]
     exact rightE_mono (by omega) ihr
   ·cases h2
 rw [prM_mk]
 exact right_mk rfl rfl rfl rfl (key t.ents 0 (fun e h => h) rt.1.2)
theorem dTs_ge : ∀ {l : List Tr} {x : Tr} {m d : Nat}, x ∈ l → dT x m ≤ dTs l m d
 | [], _, _, _, h => by cases h
 | a :: l, x, m, d, h => by
  rw [dTs]
  have mono : ∀ (l : List Tr) (d : Nat), d ≤ dTs l m d := fun l => by
   induction l with
   | nil => intro d; rw [dTs]; omega
   | cons b l ih => intro d; rw [dTs]; have := ih (max d (dT b m)); omega
  rcases List.mem_cons.1 h with rfl | h
  ·have := mono l (max d (dT x m)); omega
  ·exact dTs_ge h
theorem dE_ge : ∀ {es : List (Int × List Tr)} {e : Int × List Tr} {x : Tr} {m d : Nat}, e ∈ es → x ∈ e.2 → dT x m ≤ dE es m d
 | [], _, _, _, _, h, _ => by cases h
 | (g, l) :: es, e, x, m, d, h, hx => by
  rw [dE]
  have mono1 : ∀ (l : List Tr) (d : Nat), d ≤ dTs l m d := fun l => by
   induction l with
   | nil => intro d; rw [dTs]; omega
   | cons b l ih => intro d; rw [dTs]; have := ih (max d (dT b m)); omega
  have mono : ∀ (es : List (Int × List Tr)) (d : Nat), d ≤ dE es m d := fun es => by
   induction es with
   | nil => intro d; rw [dE]; omega
   | cons b es ih => obtain ⟨g, l⟩ := b; intro d; rw [dE]; have := ih (dTs l m d); have := mono1 l d; omega
  rcases List.mem_cons.1 h with rfl | h
  ·have h1 := dTs_ge (m := m) (d := d) hx
   have := mono es (dTs l m d)
   simp only at h1
   omega
  ·exact dE_ge h hx
theorem prM_deep (S : Sc) : ∀ (t : Tr) (m : Ms) (q : Nat), t.kind = 3 → dT (prM S m t) q ≤ dT t q := by
 intro t
 induction h : SizeOf.sizeOf t using Nat.strongRecOn generalizing t with
 | _ sz ih =>
 subst h
 intro m q hk
 rw [dT_mk, dT_mk t, (prM_kind S m t).1, (prM_kind S m t).2.2.1, hk]
 by_cases hq : q = 0
 ·rw [if_pos (.inr hq)]; omega
 rw [if_neg (by simp [hq]), if_neg (by simp [hq])]
 have : dE (prE S m t.ents) (q - 1) 0 ≤ dE t.ents (q - 1) 0 := dE_bound (fun e' he' y hy => by
  obtain ⟨e, he, h1, h2, h3, rfl⟩ := prE_mem he'
  obtain ⟨x, hx, rfl⟩ := List.mem_map.1 hy
  have xm := selL_in hx
  have pf := List.all_eq_true.1 h2 x xm
  have kx := pfit_kd pf
  have dx := dE_ge (m := q - 1) (d := 0) he xm
  have : dT (pr1 S (fldOf m e.1).1 x) (q - 1) ≤ dT x (q - 1) := by
   unfold pr1
   split
   ·rw [dT_mk, dT_mk x]; exact Nat.le_refl _
   split
   ·obtain ⟨i, hi⟩ := List.getElem?_of_mem he
    obtain ⟨j, hj⟩ := List.getElem?_of_mem xm
    exact ih _ (size_ent hi hj) x rfl _ _ (by rw [kx]; unfold kdV; rw [if_neg (by omega), if_neg (by omega)])
   ·exact Nat.le_refl _
  omega) (Nat.zero_le _)
 omega
end Go.Aw.T
namespace Go.Aw.T
open Go.Proofs
theorem entV_all {S : Sc} {m : Ms} : ∀ {es : List (Int × List Tr)}, (∀ e ∈ es, (fldOf m e.1).2 = true ∧ ((fldOf m e.1).1.label ≠ 3 → e.2.length ≤ 1) ∧ ∀ x ∈ e.2, oneV S (fldOf m e.1).1 x = 0) → entV S m es = 0
 | [], _ => by rw [entV]
 | (g, l) :: es, h => by
  obtain ⟨h1, h2, h3⟩ := h (g, l) List.mem_cons_self
  simp only at h1 h2 h3
  rw [entV, if_neg (by simp [h1]), if_neg (by rintro ⟨a, b⟩; have := h2 a; omega), oneL_all h3, orE_0]
  exact entV_all fun e he => h e (List.mem_cons_of_mem _ he)
theorem oneL_all' {S : Sc} {f : Fd} : ∀ {l : List Tr}, oneL S f l = 0 → ∀ x ∈ l, oneV S f x = 0
 | [], _, x, hx => by cases hx
 | a :: l, h, x, hx => by
  rw [oneL_cons] at h
  obtain ⟨h1, h2⟩ := orE_eq.1 h
  rcases List.mem_cons.1 hx with rfl | hx
  ·exact h1
  ·exact oneL_all' h2 x hx
theorem entV_all' {S : Sc} {m : Ms} : ∀ {es : List (Int × List Tr)}, entV S m es = 0 → ∀ e ∈ es, (fldOf m e.1).2 = true ∧ ((fldOf m e.1).1.label ≠ 3 → e.2.length ≤ 1) ∧ ∀ x ∈ e.2, oneV S (fldOf m e.1).1 x = 0
 | [], _, e, he => by cases he
 | (g, l) :: es, h, e, he => by
  rw [entV] at h
  split at h
  ·cases h
  rename_i h1
  split at h
  ·cases h
  rename_i h2
  obtain ⟨h3, h4⟩ := orE_eq.1 h
  rcases List.mem_cons.1 he with rfl | he
  ·refine ⟨by simpa using h1, fun a => ?_, oneL_all' h3⟩
   rcases Nat.lt_or_ge 1 l.length with q | q
   ·exact absurd ⟨a, q⟩ h2
   ·exact q
  ·exact entV_all' h4 e he
theorem fit_of {y : Ty} {t : Tr} (hk : t.kind = kdV y) (hn : t.kind = 1 → numV y t.n = true) (hs : y.kind = 4 → valS t.s = true) : fitV y t = 0 := by
 unfold fitV
 rw [if_neg (by simp [hk]), if_neg (by rintro ⟨a, b⟩; rw [hn a] at b; cases b), if_neg (by rintro ⟨a, b⟩; rw [hs a] at b; cases b)]
theorem of_fit {y : Ty} {t : Tr} (h : fitV y t = 0) : t.kind = kdV y ∧ (t.kind = 1 → numV y t.n = true) ∧ (y.kind = 4 → valS t.s = true) := by
 unfold fitV at h
 split at h
 ·cases h
 rename_i h1
 split at h
 ·cases h
 rename_i h2
 split at h
 ·cases h
 rename_i h3
 refine ⟨by simpa using h1, fun a => ?_, fun a => ?_⟩
 ·cases hq : numV y t.n
  ·exact absurd ⟨a, hq⟩ h2
  ·rfl
 ·cases hq : valS t.s
  ·exact absurd ⟨a, hq⟩ h3
  ·rfl
theorem clamp_in (n : Int) : -2147483648 ≤ clampV n ∧ clampV n ≤ 2147483647 := by
 unfold clampV
 repeat' split
 all_goals omega
theorem pfit_num {y : Ty} {t : Tr} (h : pfit y t = true) (k : t.kind = 1) (k1 : y.kind ≠ 1) : numV y t.n = true := by
 have hk := pfit_kd h
 rw [k] at hk
 unfold pfit at h
 by_cases a : y.kind = 1 ∨ y.kind = 2
 ·unfold numV
  rw [if_neg k1, if_neg (by omega), if_neg (by omega)]
  simp; omega
 rw [if_neg a] at h
 by_cases b : y.kind = 3 ∨ y.kind = 6
 ·rw [if_pos b] at h
  simp at h
  exact h.2
 ·unfold kdV at hk
  rw [if_neg (by omega)] at hk
  split at hk <;> cases hk
theorem pfit_txt {y : Ty} {t : Tr} (h : pfit y t = true) (k4 : y.kind = 4) : valS t.s = true := by
 unfold pfit at h
 rw [if_neg (by omega), if_neg (by omega), if_pos k4] at h
 simp at h
 exact h.2
theorem prM_msg (S : Sc) (FO : ∀ k, (msOf S k).2 = true → FldsOK S (msOf S k).1) : ∀ (t : Tr) (m : Ms), FldsOK S m → msgV S m (prM S m t) = 0 := by
 intro t
 induction h : SizeOf.sizeOf t using Nat.strongRecOn generalizing t with
 | _ sz ih =>
 subst h
 intro m hF
 rw [msgV_mk, (prM_kind S m t).2.1, (prM_kind S m t).2.2.1]
 rw [entV_all fun e' he' => ?_]
 ·rfl
 obtain ⟨e, he, h1, h2, h3, rfl⟩ := prE_mem he'
 obtain ⟨⟨k1, k7⟩, km⟩ := hF e.1 h1
 simp only
 generalize (fldOf m e.1).1 = f at h2 h3 k1 k7 km
 have sl := selL_le f e.2
 refine ⟨h1, fun a => by rw [List.length_map]; exact sl.2.1 a, fun y hy => ?_⟩
 have hz : f.label = 1 → zeroV y = false := fun a => by
  have hl := sl.2.1 (by omega)
  unfold keepL at h3
  rw [show (f.label != 1) = false by simp [a], Bool.false_or] at h3
  have hl' : ((selL f e.2).map (pr1 S f)).length ≤ 1 := by rw [List.length_map]; exact hl
  generalize (selL f e.2).map (pr1 S f) = ps at hy h3 hl'
  match ps, hl' with
  | [z], _ =>
   simp at hy h3
   rw [hy]; exact h3
 obtain ⟨x, hx, rfl⟩ := List.mem_map.1 hy
 have xm := selL_in hx
 have pf := List.all_eq_true.1 h2 x xm
 have kx := pfit_kd pf
 have ky := pr1_kind (S := S) pf
 have ft : fitV f.ty (pr1 S f x) = 0 := by
  refine fit_of ky (fun a => ?_) (fun a => ?_)
  ·by_cases q : f.ty.kind = 1
   ·have : (pr1 S f x).n = clampV x.n := by unfold pr1; rw [if_pos q]; rfl
    rw [this]
    unfold numV
    rw [if_pos q]
    simp only [decide_eq_true_eq]
    exact clamp_in x.n
   ·have q7 : f.ty.kind ≠ 7 := fun q7 => by
     rw [ky] at a
     unfold kdV at a
     rw [if_neg (by omega), if_neg (by omega)] at a
     cases a
    have : pr1 S f x = x := by unfold pr1; rw [if_neg q, if_neg q7]
    rw [this] at a ⊢
    exact pfit_num pf a q
  ·have : pr1 S f x = x := by unfold pr1; rw [if_neg (by omega), if_neg (by omega)]
   rw [this]
   exact pfit_txt pf a
 unfold oneV
 rw [ft, orE_0, if_neg (show ¬ (f.label = 1 ∧ zeroV (pr1 S f x) = true) by rintro ⟨a, b⟩; rw [hz a] at b; cases b), orE_r]
 by_cases q7 : f.ty.kind = 7
 ·rw [if_pos q7]
  have : pr1 S f x = prM S (msOf S f.ty.name).1 x := by unfold pr1; rw [if_neg (by omega), if_pos q7]
  rw [this]
  obtain ⟨i, hi⟩ := List.getElem?_of_mem he
  obtain ⟨j, hj⟩ := List.getElem?_of_mem xm
  exact ih _ (size_ent hi hj) x rfl _ (FO _ (km q7))
 ·rw [if_neg q7]
end Go.Aw.T
namespace Go.Aw.T
open Go.Proofs Go.RowKit
end Go.Aw.T
namespace Go.Aw.T
open Go.Proofs Go.RowKit
end Go.Aw.T
namespace Go.Aw.T
open Go.Proofs
theorem raws_len (l : List Raw) : ∀ e ∈ liftE (l.map encRaw), e.length = 4 := liftE_len fun e he => by
 obtain ⟨x, _, rfl⟩ := List.mem_map.1 he
 rfl
theorem raws_one (l : List Raw) : ∀ e ∈ liftE (l.map encRaw), oneAll e = true := liftE_one fun e he p hp => by
 obtain ⟨x, _, rfl⟩ := List.mem_map.1 he
 simp [encRaw] at hp
 rcases hp with rfl | rfl | rfl | rfl <;> rfl
theorem right_sub : ∀ {l : List Tr} {c : Int}, rightTs l c = true → ∀ x ∈ l, rightT x = true := by
 intro l
 induction l with
 | nil => intro c _ x h; cases h
 | cons y l ih =>
  intro c h x hx
  rw [rightTs] at h
  split at h
  ·cases h
  ·split at h
   ·rename_i hy
    rcases List.mem_cons.1 hx with rfl | hx
    ·exact hy
    ·exact ih h x hx
   ·cases h
theorem right_ents : ∀ {es : List (Int × List Tr)} {last : Int}, rightE es last = true → ∀ e ∈ es, ∀ x ∈ e.2, rightT x = true := by
 intro es
 induction es with
 | nil => intro c _ x h; cases h
 | cons y es ih =>
  intro last h e he
  obtain ⟨a, l⟩ := y
  rw [rightE] at h
  split at h
  ·cases h
  ·split at h
   ·rename_i hy
    rcases List.mem_cons.1 he with rfl | he
    ·exact right_sub hy
    ·exact ih h e he
   ·cases h
theorem right_kinds {t : Tr} (h : rightT t = true) : (t.kind = 1 ∧ t = .mk 1 t.n [] [] []) ∨ (t.kind = 2 ∧ t = .mk 2 0 t.s [] []) ∨ (t.kind = 3 ∧ t.n = 0 ∧ t.s = [] ∧ rightE t.ents 0 = true ∧ restT t.ents t.rest = true) := by
 obtain ⟨k, n, s, es, rest⟩ := t
 rw [rightT] at h
 simp only [Tr.kind, Tr.n, Tr.s, Tr.ents, Tr.rest]
 by_cases h1 : k = 1
 ·rw [if_pos h1] at h
  simp at h
  obtain ⟨⟨rfl, rfl⟩, rfl⟩ := h
  exact .inl ⟨h1, by rw [h1]⟩
 rw [if_neg h1] at h
 by_cases h2 : k = 2
 ·rw [if_pos h2] at h
  simp at h
  obtain ⟨⟨rfl, rfl⟩, rfl⟩ := h
  exact .inr (.inl ⟨h2, by rw [h2]⟩)
 rw [if_neg h2] at h
 by_cases h3 : k = 3
 ·rw [if_pos h3] at h
  simp at h
  exact .inr (.inr ⟨h3, h.1.1.1, h.1.1.2, h.1.2, h.2⟩)
 ·rw [if_neg h3] at h
  cases h
end Go.Aw.T
namespace Go.Aw.T
open Go.Proofs Go.RowKit
theorem fm_congr {α β : Type} {f g : α → List β} : ∀ {l : List α}, (∀ x ∈ l, f x = g x) → l.flatMap f = l.flatMap g
 | [], _ => rfl
 | x :: l, h => by
  rw [List.flatMap_cons, List.flatMap_cons, h x (List.mem_cons_self ..), fm_congr fun y hy => h y (List.mem_cons_of_mem _ hy)]
def tagsN : Nat → Int → List Int
 | 0, _ => []
 | n + 1, t => t :: tagsN n (t + 1)
theorem tagsN_mem : ∀ {n : Nat} {t u : Int}, u ∈ tagsN n t → t ≤ u ∧ u < t + n
 | 0, t, u, h => by cases h
 | n + 1, t, u, h => by
  rw [tagsN] at h
  rcases List.mem_cons.1 h with rfl | h
  ·exact ⟨Int.le_refl _, by push_cast; omega⟩
  ·have := tagsN_mem h
   push_cast
   omega
def Pref (l L : List Pr) : Prop := ∀ (i : Nat) q, l[i]? = some q → L[i]? = some q
theorem pref_app {l L : List Pr} (h : Pref l L) : ∃ r, L = l ++ r := by
 refine ⟨L.drop l.length, ?_⟩
 have : L.take l.length = l := by
  apply List.ext_getElem?
  intro i
  rw [List.getElem?_take]
  split
  ·rename_i hi
   have := h i _ (List.getElem?_eq_getElem hi)
   rw [this, List.getElem?_eq_getElem hi]
  ·rename_i hi
   rw [List.getElem?_eq_none (by omega)]
 conv => lhs; rw [← List.take_append_drop l.length L, this]
theorem place_pref {l L : List Pr} {p : Pr} (h : Pref (addP l p) L) : placeP L p = placeP l p := by
 obtain ⟨r, rfl⟩ := pref_app h
 unfold addP placeP
 split
 ·rename_i hc
  rw [List.contains_iff_mem] at hc
  have := (place_yes hc).1
  unfold placeP at this
  rw [List.findIdx_append, if_pos this]
 ·rename_i hc
  rw [List.contains_iff_mem] at hc
  have h1 := place_no hc
  unfold placeP at h1
  have h2 : (l ++ [p]).findIdx (fun x => x == p) = l.length := by
   rw [List.findIdx_append, if_neg (by omega)]
   simp
  rw [List.findIdx_append, if_pos (by rw [h2]; simp), h2, h1]
theorem stepO_pref {mo mn : Ms} {t : Int} {l L : List Pr} (h : Pref (stepLs mo mn t l) L) : stepO mo mn t l = stepO mo mn t L := by
 unfold stepO
 split
 ·rename_i h1
  split
  ·rename_i h2
   have hb : intoB mo mn t = true := by unfold intoB; simp [h1, h2]
   unfold stepLs at h
   rw [if_pos hb] at h
   rw [place_pref h]
  ·rfl
 ·rfl
theorem steps_final {mo mn : Ms} {L : List Pr} : ∀ (n : Nat) (t : Int) (l : List Pr), Pref (stepsP mo mn n t l).2 L → (stepsP mo mn n t l).1 = (tagsN n t).flatMap fun u => (stepO mo mn u L).toList
 | 0, t, l, h => rfl
 | n + 1, t, l, h => by
  rw [stepsP] at h ⊢
  simp only at h ⊢
  rw [tagsN, List.flatMap_cons, steps_final n (t + 1) _ h, stepO_pref (l := l) (L := L) fun i q hq => h i q (pref_stepsP mo mn n (t + 1) _ i q hq)]
theorem steps_into {mo mn : Ms} : ∀ (n : Nat) (t : Int) (l : List Pr) (u : Int), t ≤ u → u < t + n → intoB mo mn u = true → pairO mo mn u ∈ (stepsP mo mn n t l).2
 | 0, t, l, u, h1, h2, _ => by simp at h2; omega
 | n + 1, t, l, u, h1, h2, h3 => by
  rw [stepsP]
  simp only
  by_cases hu : u = t
  ·subst hu
   have : pairO mo mn u ∈ stepLs mo mn u l := by
    unfold stepLs
    rw [if_pos h3]
    exact mem_addP.2 (.inr rfl)
   obtain ⟨i, hi⟩ := List.getElem?_of_mem this
   exact List.mem_of_getElem? (pref_stepsP mo mn n (u + 1) _ i _ hi)
  ·exact steps_into n (t + 1) _ u (by omega) (by push_cast at h2; omega) h3
def stepsOf (S U : Sc) (p : Pr) (L : List Pr) : List Stp := (tagsN 500 1).flatMap fun u => (stepO (msgOf S p.o) (msgOf U p.n) u L).toList
def ProgOK (S U : Sc) (P : List (List Stp)) (L : List Pr) : Prop := ∀ (j : Nat) p, L[j]? = some p → P[j]? = some (stepsOf S U p L) ∧ ∀ u, 1 ≤ u → u ≤ 500 → intoB (msgOf S p.o) (msgOf U p.n) u = true → pairO (msgOf S p.o) (msgOf U p.n) u ∈ L
theorem make_at {S U : Sc} : ∀ (n i : Nat) (l : List Pr), 101 ≤ n + i → (makeL S U n i l).length ≤ 100 → ∀ (j : Nat) p, i ≤ j → (makeL S U n i l)[j]? = some p → (makeP S U n i l)[j - i]? = some (stepsOf S U p (makeL S U n i l)) ∧
  ∀ u, 1 ≤ u → u ≤ 500 → intoB (msgOf S p.o) (msgOf U p.n) u = true → pairO (msgOf S p.o) (msgOf U p.n) u ∈ makeL S U n i l
 | 0, i, l, hn, hl, j, p, hj, hp => by
  have := (List.getElem?_eq_some_iff.1 hp).1
  omega
 | n + 1, i, l, hn, hl, j, p, hj, hp => by
  rw [makeL] at hp hl ⊢
  rw [makeP]
  cases hq : l[i]? with
  | none =>
   rw [hq] at hp
   simp only at hp
   have := (List.getElem?_eq_some_iff.1 hp).1
   have := List.getElem?_eq_none_iff.1 hq
   omega
  | some q =>
   rw [hq] at hp hl
   simp only at hp hl ⊢
   by_cases hij : j = i
   ·subst hij
    have pf := pref_makeL S U n (j + 1) (stepsP (msgOf S q.o) (msgOf U q.n) 500 1 l).2
    have e : p = q := by
     have := pf j q (pref_stepsP _ _ 500 1 l j q hq)
     rw [hp] at this
     injection this
    subst e
    refine ⟨?_, fun u h1 h2 h3 => ?_⟩
    ·rw [Nat.sub_self, List.getElem?_cons_zero, steps_final 500 1 l pf]
     rfl
    ·obtain ⟨k, hk⟩ := List.getElem?_of_mem (steps_into 500 1 l u h1 (by omega) h3)
     exact List.mem_of_getElem? (pf k _ hk)
   ·have ih := make_at n (i + 1) _ (by omega) hl j p (by omega) hp
    rw [show j - i = (j - (i + 1)) + 1 by omega, List.getElem?_cons_succ]
    exact ih
theorem make_ok {S U : Sc} {a b : List UInt8} (hS : checkC S = 0) (hU : checkC U = 0) (ha : hasM S a = true) (hb : hasM U b = true) : ∃ L, L[0]? = some ⟨a, b⟩ ∧ PairsOK S U L ∧ ProgOK S U (makeP S U 101 0 [⟨a, b⟩]) L := by
 have RS := right_of hS
 have RU := right_of hU
 have ok : PairsOK S U [⟨a, b⟩] := ⟨fun p hp => by simp at hp; subst hp; exact ⟨ha, hb⟩, by simp⟩
 have ok' := makeL_ok RS RU 101 0 [⟨a, b⟩] ok
 have h100 := pairs_len ok' RS.len.2.1 RU.len.2.1
 refine ⟨makeL S U 101 0 [⟨a, b⟩], pref_makeL S U 101 0 _ 0 _ rfl, ok', fun j p hp => ?_⟩
 exact make_at 101 0 [⟨a, b⟩] (by omega) h100 j p (Nat.zero_le _) hp
def CmpI (S U : Sc) (I : Pr → Prop) : Prop := ∀ p, I p → hasM S p.o = true ∧ hasM U p.n = true ∧ ∀ t, (fldOf (msgOf S p.o) t).2 = true → (fldOf (msgOf U p.n) t).2 = true →
 (fldOf (msgOf S p.o) t).1.label = (fldOf (msgOf U p.n) t).1.label ∧
 ((fldOf (msgOf S p.o) t).1.ty.kind = (fldOf (msgOf U p.n) t).1.ty.kind ∨ ((fldOf (msgOf S p.o) t).1.ty.kind = 1 ∧ (fldOf (msgOf U p.n) t).1.ty.kind = 2) ∨ ((fldOf (msgOf S p.o) t).1.ty.kind = 2 ∧ (fldOf (msgOf U p.n) t).1.ty.kind = 1)) ∧
 ((fldOf (msgOf S p.o) t).1.ty.kind = 7 → (fldOf (msgOf U p.n) t).1.ty.kind = 7 → I ⟨(fldOf (msgOf S p.o) t).1.ty.name, (fldOf (msgOf U p.n) t).1.ty.name⟩)
theorem rightE_all : ∀ {es : List (Int × List Tr)} {last : Int}, rightE es last = true → es.Pairwise (fun a b => a.1 < b.1) ∧ ∀ e ∈ es, last < e.1 ∧ e.1 ≤ 500 ∧ 1 ≤ e.2.length ∧ e.2.length ≤ 64 ∧ rightTs e.2 (headK e.2) = true
 | [], _, _ => ⟨List.Pairwise.nil, fun e he => by cases he⟩
 | (g, l) :: es, last, h => by
  rw [rightE] at h
  split at h
  ·cases h
  rename_i h1
  split at h
  ·rename_i h2
   obtain ⟨a, b⟩ := rightE_all h
   refine ⟨List.pairwise_cons.2 ⟨fun e he => (b e he).1, a⟩, fun e he => ?_⟩
   rcases List.mem_cons.1 he with rfl | he
   ·exact ⟨by simp only; omega, by simp only; omega, by simp only; omega, by simp only; omega, h2⟩
   ·have := b e he
    exact ⟨by omega, this.2⟩
  ·cases h
theorem sweep {β : Type} (h : Int × List Tr → List β) : ∀ (n : Nat) (t : Int) (es : List (Int × List Tr)), es.Pairwise (fun a b => a.1 < b.1) → (∀ e ∈ es, t ≤ e.1 ∧ e.1 < t + n) →
  (tagsN n t).flatMap (fun u => (es.find? (fun e => e.1 == u)).toList.flatMap h) = es.flatMap h
 | 0, t, [], _, _ => rfl
 | 0, t, e :: es, _, hb => by
  have := hb e (List.mem_cons_self ..)
  simp at this
  omega
 | n + 1, t, [], _, _ => by
  simp
 | n + 1, t, e :: es, hp, hb => by
  obtain ⟨p1, p2⟩ := List.pairwise_cons.1 hp
  have he := hb e (List.mem_cons_self ..)
  rw [tagsN, List.flatMap_cons]
  by_cases ht : e.1 = t
  ·have e1 : (e.1 == t) = true := by simpa using ht
   have ih := sweep h n (t + 1) es p2 fun x hx => by
    have := p1 x hx
    have := (hb x (List.mem_cons_of_mem _ hx)).2
    push_cast at this
    omega
   rw [List.find?_cons, e1]
   simp only [Option.toList_some, List.flatMap_cons, List.flatMap_nil, List.append_nil]
   congr 1
   rw [← ih]
   refine fm_congr fun u hu => ?_
   have := (tagsN_mem hu).1
   have e2 : (e.1 == u) = false := by
    rw [beq_eq_false_iff_ne]
    omega
   rw [List.find?_cons, e2]
  ·have e1 : (e :: es).find? (fun x => x.1 == t) = none := by
    rw [List.find?_eq_none]
    intro x hx
    have hlt : t < x.1 := by
     rcases List.mem_cons.1 hx with rfl | hx
     ·omega
     ·have := p1 x hx
      omega
    simp only [beq_iff_eq]
    omega
   rw [e1]
   simp only [Option.toList_none, List.flatMap_nil, List.nil_append]
   refine sweep h n (t + 1) (e :: es) hp fun x hx => ?_
   have hx2 := (hb x hx).2
   push_cast at hx2
   refine ⟨?_, by omega⟩
   rcases List.mem_cons.1 hx with rfl | hx
   ·omega
   ·have := p1 x hx
    omega
def entG (P : List (List Stp)) (s : Stp) (l : List Tr) : List (Int × List Tr) := if (stepF P s l).isEmpty = true then [] else [(s.tag, stepF P s l)]
theorem stepF_nil (P : List (List Stp)) (s : Stp) : stepF P s [] = [] := by
 have h1 : kindOK s [] = true := by
  unfold kindOK
  split
  ·rfl
  ·split <;> rfl
 have h2 : lastL s ([] : List Tr) = [] := by
  unfold lastL
  split <;> rfl
 unfold stepF
 rw [h1, h2, if_neg (by simp), if_neg (by simp)]
 rfl
theorem ent_at {P : List (List Stp)} {mo mn : Ms} {u : Int} {L : List Pr} {es : List (Int × List Tr)} :
  (stepO mo mn u L).toList.flatMap (entF P es) = (es.find? (fun e => e.1 == u)).toList.flatMap fun e => (stepO mo mn e.1 L).toList.flatMap fun s => entG P s e.2 := by
 cases hs : stepO mo mn u L with
 | none =>
  cases hf : es.find? (fun e => e.1 == u) with
  | none => rfl
  | some e =>
   have : e.1 = u := by simpa using List.find?_some hf
   simp only [Option.toList_some, Option.toList_none, List.flatMap_cons, List.flatMap_nil, List.append_nil]
   rw [this, hs]
   rfl
 | some s =>
  have ht := (stepO_sub hs).1
  simp only [Option.toList_some, List.flatMap_cons, List.flatMap_nil, List.append_nil]
  cases hf : es.find? (fun e => e.1 == u) with
  | none =>
   have hg : getG es s.tag = [] := by unfold getG; rw [ht, hf]
   unfold entF
   rw [hg, stepF_nil]
   rfl
  | some e =>
   have he : e.1 = u := by simpa using List.find?_some hf
   have hg : getG es s.tag = e.2 := by unfold getG; rw [ht, hf]
   simp only [Option.toList_some, List.flatMap_cons, List.flatMap_nil, List.append_nil]
   rw [he, hs]
   simp only [Option.toList_some, List.flatMap_cons, List.flatMap_nil, List.append_nil]
   unfold entF entG
   rw [hg]
theorem zero_msg (U : Sc) (m : Ms) (x : Tr) : zeroV (prM U m x) = (prM U m x).ents.isEmpty := by
 obtain ⟨a, b, c, d, e⟩ := prM_kind U m x
 unfold zeroV
 rw [a, b, d, e]
 cases (prM U m x).ents <;> simp
theorem pfit_like {y z : Ty} {t : Tr} (h1 : 1 ≤ y.kind) (h7 : y.kind ≤ 7) (hk : t.kind = kdV y) (hn : t.kind = 1 → numV y t.n = true) (hs : y.kind = 4 → valS t.s = true)
  (h : y.kind = z.kind ∨ (y.kind = 1 ∧ z.kind = 2) ∨ (y.kind = 2 ∧ z.kind = 1)) : pfit z t = true := by
 unfold kdV at hk
 unfold pfit
 by_cases a : z.kind = 1 ∨ z.kind = 2
 ·rw [if_pos a, hk, if_pos (by omega)]
  rfl
 rw [if_neg a]
 have e : y.kind = z.kind := by omega
 by_cases b : z.kind = 3 ∨ z.kind = 6
 ·rw [if_pos (by omega)] at hk
  have : numV z t.n = true := by
   rw [← hn hk]
   unfold numV
   rw [e]
  rw [if_pos b, this, hk]
  rfl
 rw [if_neg b]
 by_cases c : z.kind = 4
 ·rw [if_neg (by omega), if_pos (by omega)] at hk
  rw [if_pos c, hs (by omega), hk]
  rfl
 rw [if_neg c]
 by_cases d : z.kind = 5
 ·rw [if_neg (by omega), if_pos (by omega)] at hk
  rw [if_pos d, hk]
  rfl
 ·rw [if_neg (by omega), if_neg (by omega)] at hk
  rw [if_neg d, hk]
  rfl
theorem clamp_id {n : Int} (h : -2147483648 ≤ n ∧ n ≤ 2147483647) : clampV n = n := by
 unfold clampV
 rw [if_neg (by omega), if_neg (by omega)]
theorem clamp_zero {n : Int} (h : clampV n = 0) : n = 0 := by
 unfold clampV at h
 split at h
 ·omega
 ·split at h <;> omega
theorem one_of {S : Sc} {f : Fd} {x : Tr} (h : oneV S f x = 0) : x.kind = kdV f.ty ∧ (x.kind = 1 → numV f.ty x.n = true) ∧ (f.ty.kind = 4 → valS x.s = true) ∧ (f.ty.kind = 7 → msgV S (msOf S f.ty.name).1 x = 0) ∧ (f.label = 1 → zeroV x = false) := by
 unfold oneV at h
 rw [orE_eq, orE_eq] at h
 obtain ⟨a, b, c⟩ := h
 obtain ⟨a1, a2, a3⟩ := of_fit a
 refine ⟨a1, a2, a3, fun k => ?_, fun k => ?_⟩
 ·rw [if_pos k] at b
  exact b
 ·cases hz : zeroV x with
  | false => rfl
  | true =>
   rw [if_pos ⟨k, hz⟩] at c
   cases c
theorem selL_one {f : Fd} {l : List Tr} (h : f.label ≠ 3 → l.length ≤ 1) (h1 : 1 ≤ l.length) : selL f l = l := by
 unfold selL
 split
 ·rfl
 ·rename_i h3
  have := h h3
  rw [show l.length - 1 = 0 by omega]
  rfl
theorem lastL_one {α : Type} {s : Stp} {l : List α} (h : s.op = 4 → l.length ≤ 1) (h1 : 1 ≤ l.length) : lastL s l = l := by
 unfold lastL
 split
 ·rename_i h4
  have := h h4
  rw [show l.length - 1 = 0 by omega]
  rfl
 ·rfl
theorem map_id' {α : Type} {f : α → α} : ∀ {l : List α}, (∀ x ∈ l, f x = x) → l.map f = l
 | [], _ => rfl
 | x :: l, h => by rw [List.map_cons, h x (List.mem_cons_self ..), map_id' fun y hy => h y (List.mem_cons_of_mem _ hy)]
theorem size_in {t x : Tr} {e : Int × List Tr} (he : e ∈ t.ents) (hx : x ∈ e.2) : SizeOf.sizeOf x < SizeOf.sizeOf t := by
 obtain ⟨i, hi⟩ := List.getElem?_of_mem he
 obtain ⟨j, hj⟩ := List.getElem?_of_mem hx
 exact size_ent hi hj
theorem run_sees {S U : Sc} {P : List (List Stp)} {L : List Pr} {I : Pr → Prop} (RS : RightS S) (RU : RightS U) (PO : ProgOK S U P L) (CI : CmpI S U I) :
  ∀ (v : Tr) (j : Nat) (p : Pr), L[j]? = some p → I p → v.kind = 3 → rightT v = true → msgV S (msgOf S p.o) v = 0 → runF P v (j : Int) = prM U (msgOf U p.n) v := by
 intro v
 induction h : SizeOf.sizeOf v using Nat.strongRecOn generalizing v with
 | _ sz ih =>
 subst h
 intro j p hp hI hk hr hv
 obtain ⟨hP, hin⟩ := PO j p hp
 obtain ⟨c1, c2, c3⟩ := CI p hI
 rw [runF_eq, prM_mk, prE_flat]
 have e0 : partO P (j : Int) = stepsOf S U p L := by
  unfold partO
  rw [Int.toNat_natCast, List.getD_eq_getElem?_getD, hP]
  rfl
 rw [e0]
 unfold stepsOf
 rw [List.flatMap_assoc]
 have e1 : (tagsN 500 1).flatMap (fun u => (stepO (msgOf S p.o) (msgOf U p.n) u L).toList.flatMap (entF P v.ents)) = (tagsN 500 1).flatMap (fun u => (v.ents.find? (fun e => e.1 == u)).toList.flatMap fun e => (stepO (msgOf S p.o) (msgOf U p.n) e.1 L).toList.flatMap fun s => entG P s e.2) :=
  fm_congr fun u _ => ent_at
 have hre : rightE v.ents 0 = true := by
  rcases right_kinds hr with ⟨a, _⟩ | ⟨a, _⟩ | ⟨_, _, _, a, _⟩
  ·omega
  ·omega
  ·exact a
 obtain ⟨r1, r2⟩ := rightE_all hre
 rw [e1, sweep _ 500 1 v.ents r1 fun e he => by
  have := r2 e he
  omega]
 congr 1
 refine fm_congr fun e he => ?_
 obtain ⟨b1, b2, b3, b4, b5⟩ := r2 e he
 rw [msgV_mk, orE_eq] at hv
 obtain ⟨v1, v2, v3⟩ := entV_all' hv.1 e he
 have hrx := (right_ent hr e he).2
 have hF := flds_ok RS (msgOf_mem c1).1
 have HF := hF e.1 v1
 have CC := c3 e.1 v1
 have hin' := hin e.1 (by omega) (by omega)
 unfold entP
 unfold stepO
 have q1 : fOf (msgOf S p.o) e.1 = fldOf (msgOf S p.o) e.1 := rfl
 have q2 : fOf (msgOf U p.n) e.1 = fldOf (msgOf U p.n) e.1 := rfl
 unfold intoB pairO at hin'
 rw [q1, q2] at hin' ⊢
 unfold pairO
 rw [q1, q2]
 obtain ⟨k1, k7⟩ := HF.1
 have one := fun x hx => one_of (v3 x hx)
 generalize (fldOf (msgOf S p.o) e.1) = ff at *
 generalize (fldOf (msgOf U p.n) e.1) = gg at *
 obtain ⟨f, fb⟩ := ff
 obtain ⟨g, gb⟩ := gg
 simp only at *
 subst v1
 cases gb with
 | false =>
  rw [if_neg (by simp), if_neg (by simp)]
  rfl
 | true =>
 obtain ⟨d1, d2, d3⟩ := CC rfl
 have allp : e.2.all (pfit g.ty) = true := by
  rw [List.all_eq_true]
  intro x hx
  obtain ⟨o1, o2, o3, _⟩ := one x hx
  exact pfit_like k1 k7 o1 o2 o3 d2
 have sel : selL g e.2 = e.2 := selL_one (fun h => v2 (by rw [d1]; exact h)) b3
 have FP : fieldP U g e.2 = (e.2.map (pr1 U g), keepL g (e.2.map (pr1 U g))) := by
  unfold fieldP
  rw [if_neg (by simp [allp]), sel]
 rw [FP, if_pos ⟨rfl, rfl, d1⟩]
 simp only [true_and]
 have ne : e.2 ≠ [] := by
  intro h
  rw [h] at b3
  simp at b3
 by_cases s7 : f.ty.kind = 7 ∧ g.ty.kind = 7
 ·rw [if_pos s7]
  have hin'' := hin' (by simp [d1, s7])
  obtain ⟨pl1, pl2⟩ := place_yes hin''
  have Iq := d3 s7.1 s7.2
  simp only [Option.toList_some, List.flatMap_cons, List.flatMap_nil, List.append_nil]
  have IH := fun x hx => ih _ (size_in he hx) x rfl (placeP L ⟨f.ty.name, g.ty.name⟩) _ pl2 Iq (by
   have := (one x hx).1
   unfold kdV at this
   rw [if_neg (by omega), if_neg (by omega)] at this
   exact this) (hrx x hx) ((one x hx).2.2.2.1 s7.1)
  simp only at IH
  have k3 : ∀ x ∈ e.2, x.kind = 3 := fun x hx => by
   have := (one x hx).1
   unfold kdV at this
   rw [if_neg (by omega), if_neg (by omega)] at this
   exact this
  have mp : e.2.map (pr1 U g) = e.2.map (prM U (msgOf U g.ty.name)) := by
   refine List.map_congr_left fun x hx => ?_
   unfold pr1
   rw [if_neg (by omega), if_pos s7.2]
   rfl
  have all3 : e.2.all (fun t => decide (t.kind = 3)) = true := by
   rw [List.all_eq_true]
   intro x hx
   rw [k3 x hx]
   rfl
  have rm : ∀ s : Stp, s.op = 3 ∨ s.op = 4 → s.sub = (placeP L ⟨f.ty.name, g.ty.name⟩ : Int) → e.2.map (run1F P s) = e.2.map (prM U (msgOf U g.ty.name)) := fun s h34 hsub => by
   refine List.map_congr_left fun x hx => ?_
   unfold run1F
   rw [if_neg (by omega), if_pos h34, hsub]
   exact IH x hx
  rw [mp]
  by_cases l1 : f.label = 1
  ·rw [if_pos l1]
   have len1 : e.2.length = 1 := by
    have := v2 (by omega)
    omega
   obtain ⟨x, hx⟩ : ∃ x, e.2 = [x] := by
    match hq : e.2, len1 with
    | [x], _ => exact ⟨x, rfl⟩
   have SF : stepF P ⟨4, e.1, placeP L ⟨f.ty.name, g.ty.name⟩⟩ e.2 = if (prM U (msgOf U g.ty.name) x).ents.isEmpty = true then [] else [prM U (msgOf U g.ty.name) x] := by
    unfold stepF
    have kO : kindOK ⟨4, e.1, placeP L ⟨f.ty.name, g.ty.name⟩⟩ e.2 = true := by
     unfold kindOK
     rw [if_neg (by simp), if_pos (.inr rfl)]
     exact all3
    rw [kO, if_neg (by simp), lastL_one (fun _ => by omega) b3, rm ⟨4, e.1, placeP L ⟨f.ty.name, g.ty.name⟩⟩ (.inr rfl) rfl, hx]
    simp
   unfold entG
   rw [SF]
   unfold keepL
   have g1 : g.label = 1 := by omega
   rw [g1, hx]
   simp only [List.map_cons, List.map_nil, List.head?_cons, Option.any_some, zero_msg]
   cases (prM U (msgOf U g.ty.name) x).ents.isEmpty <;> simp
  ·rw [if_neg l1]
   have SF : stepF P ⟨3, e.1, placeP L ⟨f.ty.name, g.ty.name⟩⟩ e.2 = e.2.map (prM U (msgOf U g.ty.name)) := by
    unfold stepF
    have kO : kindOK ⟨3, e.1, placeP L ⟨f.ty.name, g.ty.name⟩⟩ e.2 = true := by
     unfold kindOK
     rw [if_neg (by simp), if_pos (.inl rfl)]
     exact all3
    rw [kO, if_neg (by simp), if_neg (by simp), lastL_one (fun h => by simp at h) b3, rm ⟨3, e.1, placeP L ⟨f.ty.name, g.ty.name⟩⟩ (.inl rfl) rfl]
   unfold entG
   rw [SF]
   unfold keepL
   have g1 : (g.label != 1) = true := by
    rw [← d1]
    simpa using l1
   rw [g1, Bool.true_or, if_pos rfl, if_neg (by simp [ne])]
 ·rw [if_neg s7]
  by_cases s2 : f.ty.kind = 2 ∧ g.ty.kind = 1
  ·rw [if_pos s2]
   simp only [Option.toList_some, List.flatMap_cons, List.flatMap_nil, List.append_nil]
   have mp : e.2.map (pr1 U g) = e.2.map clampT := by
    refine List.map_congr_left fun x hx => ?_
    unfold pr1
    rw [if_pos s2.2]
    rfl
   have SF : stepF P ⟨2, e.1, 0⟩ e.2 = e.2.map clampT := by
    unfold stepF
    have kO : kindOK ⟨2, e.1, 0⟩ e.2 = true := by
     unfold kindOK
     rw [if_pos rfl, List.all_eq_true]
     intro x hx
     have := (one x hx).1
     unfold kdV at this
     rw [if_pos (by omega)] at this
     rw [this]
     rfl
    rw [kO, if_neg (by simp), if_neg (by simp), lastL_one (fun h => by simp at h) b3]
    rfl
   have kp : keepL g (e.2.map (pr1 U g)) = true := by
    rw [mp]
    unfold keepL
    by_cases l1 : g.label = 1
    ·rw [l1]
     simp only [bne_self_eq_false, Bool.false_or, Bool.not_eq_true']
     cases hq : e.2 with
     | nil => rfl
     | cons x l =>
      simp only [List.map_cons, List.head?_cons, Option.any_some]
      have hxm : x ∈ e.2 := by rw [hq]; exact List.mem_cons_self ..
      obtain ⟨o1, o2, o3, o4, o5⟩ := one x hxm
      have hz := o5 (by omega)
      cases hzz : zeroV (clampT x) with
      | false => rfl
      | true =>
       exfalso
       unfold zeroV clampT at hzz
       rw [decide_eq_true_eq] at hzz
       simp only [Tr.kind, Tr.n, Tr.s, Tr.ents, Tr.rest] at hzz
       have : zeroV x = true := by
        unfold zeroV
        rw [decide_eq_true_eq]
        exact ⟨hzz.1, hzz.2.1, clamp_zero hzz.2.2.1, hzz.2.2.2⟩
       rw [hz] at this
       cases this
    ·have : (g.label != 1) = true := by simpa using l1
     rw [this, Bool.true_or]
   rw [kp, if_pos rfl, mp]
   unfold entG
   rw [SF, if_neg (by simp [ne])]
  ·rw [if_neg s2, if_pos (by omega)]
   simp only [Option.toList_some, List.flatMap_cons, List.flatMap_nil, List.append_nil]
   have mp : e.2.map (pr1 U g) = e.2 := by
    refine map_id' fun x hx => ?_
    obtain ⟨o1, o2, o3, o4, o5⟩ := one x hx
    unfold pr1
    by_cases g1 : g.ty.kind = 1
    ·have f1 : f.ty.kind = 1 := by omega
     unfold kdV at o1
     rw [if_pos (by omega)] at o1
     have := o2 o1
     unfold numV at this
     rw [if_pos f1, decide_eq_true_eq] at this
     rw [if_pos g1, clamp_id this]
     cases x
     rfl
    ·rw [if_neg g1, if_neg (by omega)]
   have SF : stepF P ⟨1, e.1, 0⟩ e.2 = e.2 := by
    unfold stepF
    have kO : kindOK ⟨1, e.1, 0⟩ e.2 = true := by
     unfold kindOK
     rw [if_neg (by simp), if_neg (by simp)]
    rw [kO, if_neg (by simp), if_neg (by simp), lastL_one (fun h => by simp at h) b3]
    refine map_id' fun x hx => ?_
    unfold run1F
    rw [if_neg (by simp), if_neg (by simp)]
   have kp : keepL g (e.2.map (pr1 U g)) = true := by
    rw [mp]
    unfold keepL
    by_cases l1 : g.label = 1
    ·rw [l1]
     simp only [bne_self_eq_false, Bool.false_or, Bool.not_eq_true']
     cases hq : e.2 with
     | nil => rfl
     | cons x l =>
      have hxm : x ∈ e.2 := by rw [hq]; exact List.mem_cons_self ..
      exact (one x hxm).2.2.2.2 (by omega)
    ·have : (g.label != 1) = true := by simpa using l1
     rw [this, Bool.true_or]
   rw [kp, if_pos rfl, mp]
   unfold entG
   rw [SF, if_neg (by simp [ne])]
end Go.Aw.T
namespace Go.Aw.T
open Go.Proofs Go.RowKit
theorem tag_of {S : Sc} (R : RightS S) {m : Ms} (hm : m ∈ S.msgs) {t : Int} (h : (fldOf m t).2 = true) : 1 ≤ t ∧ t ≤ 500 := by
 obtain ⟨h1, h2⟩ := fld_mem h
 obtain ⟨i, hi⟩ := List.getElem?_of_mem h1
 have := tag_in (R.fld m hm i _ hi).2.2.2.1
 rw [h2] at this
 exact this
theorem fits_kinds {S U : Sc} {y z : Ty} (h : fitsB S U y z = true) : y.kind = z.kind ∨ (y.kind = 1 ∧ z.kind = 2) := by
 unfold fitsB at h
 split at h
 ·rename_i q; exact .inr q
 ·split at h
  ·cases h
  ·rename_i q; exact .inl (by simpa using q)
theorem stay_both {S U : Sc} (RU : RightS U) {mo mn : Ms} (hn : mn ∈ U.msgs) {t : Int} (h : stayB S U mo mn t = true) (h1 : (fldOf mo t).2 = true) (h2 : (fldOf mn t).2 = true) : keepB S U mo mn t = true := by
 unfold stayB at h
 rw [if_pos (show (fOf mo t).2 = true from h1)] at h
 split at h
 ·rename_i q; exact q
 ·have := res_free RU hn h
  rw [show (fOf mn t).2 = (fldOf mn t).2 from rfl, h2] at this
  cases this
theorem new_7 {S U : Sc} {mo mn : Ms} {t : Int} (h : keepB S U mo mn t = true) (h1 : (fldOf mo t).2 = true) (k : (fldOf mo t).1.ty.kind = 7) : newP S U mo mn t = some ⟨(fldOf mo t).1.ty.name, (fldOf mn t).1.ty.name⟩ := by
 unfold newP
 rw [if_pos ⟨h1, h, k⟩]
 rfl
theorem cmp_over {S U : Sc} {L : List Pr} (O : Over S U L) : CmpI S U (fun p => p ∈ L) := by
 intro p hp
 have RS := right_of O.s
 have RU := right_of O.u
 obtain ⟨a, b⟩ := O.ok.here p hp
 refine ⟨a, b, fun t h1 h2 => ?_⟩
 have ht := tag_of RS (msgOf_mem a).1 h1
 obtain ⟨o1, o2⟩ := O.all p hp t ht.1 ht.2
 have kb := stay_both RU (msgOf_mem b).1 o1 h1 h2
 obtain ⟨k1, k2, k3⟩ := keep_spec.1 kb
 have kk := fits_kinds k3
 refine ⟨k2, ?_, fun k _ => o2 _ (new_7 kb h1 k)⟩
 rcases kk with q | q
 ·exact .inl q
 ·exact .inr (.inl q)
theorem cmp_back {S U : Sc} {L : List Pr} (O : Over U S L) : CmpI S U (fun p => (⟨p.n, p.o⟩ : Pr) ∈ L) := by
 intro p hp
 have RS := right_of O.u
 have RU := right_of O.s
 obtain ⟨a, b⟩ := O.ok.here _ hp
 refine ⟨b, a, fun t h1 h2 => ?_⟩
 have ht := tag_of RS (msgOf_mem b).1 h1
 obtain ⟨o1, o2⟩ := O.all _ hp t ht.1 ht.2
 have kb := stay_both RS (msgOf_mem b).1 o1 h2 h1
 obtain ⟨k1, k2, k3⟩ := keep_spec.1 kb
 have kk := fits_kinds k3
 refine ⟨k2.symm, ?_, fun _ k => o2 _ (new_7 kb h2 k)⟩
 rcases kk with q | q
 ·exact .inl q.symm
 ·exact .inr (.inr ⟨q.2, q.1⟩)
theorem ents_of {S : Sc} {m : Ms} {v : Tr} (hr : rightT v = true) (hv : msgV S m v = 0) : ∀ e ∈ v.ents, (fldOf m e.1).2 = true ∧ ((fldOf m e.1).1.label ≠ 3 → e.2.length ≤ 1) ∧ 1 ≤ e.2.length ∧ ∀ x ∈ e.2, oneV S (fldOf m e.1).1 x = 0 ∧ rightT x = true := by
 intro e he
 rw [msgV_mk, orE_eq] at hv
 obtain ⟨v1, v2, v3⟩ := entV_all' hv.1 e he
 obtain ⟨r1, r2⟩ := right_ent hr e he
 exact ⟨v1, v2, r1, fun x hx => ⟨v3 x hx, r2 x hx⟩⟩
theorem ent_keep {S U : Sc} {f : Fd} {mn : Ms} {e : Int × List Tr} (k1 : 1 ≤ f.ty.kind) (k7 : f.ty.kind ≤ 7) (v2 : f.label ≠ 3 → e.2.length ≤ 1) (b3 : 1 ≤ e.2.length) (v3 : ∀ x ∈ e.2, oneV S f x = 0)
  (hn : (fldOf mn e.1).2 = true) (d1 : f.label = (fldOf mn e.1).1.label) (d2 : f.ty.kind = (fldOf mn e.1).1.ty.kind ∨ (f.ty.kind = 1 ∧ (fldOf mn e.1).1.ty.kind = 2)) (n7 : (fldOf mn e.1).1.ty.kind ≠ 7) : entP U mn e = [e] := by
 unfold entP
 have one := fun x hx => one_of (v3 x hx)
 generalize (fldOf mn e.1) = gg at *
 obtain ⟨g, gb⟩ := gg
 simp only at *
 subst hn
 have allp : e.2.all (pfit g.ty) = true := by
  rw [List.all_eq_true]
  intro x hx
  obtain ⟨o1, o2, o3, _⟩ := one x hx
  refine pfit_like k1 k7 o1 o2 o3 ?_
  rcases d2 with q | q
  ·exact .inl q
  ·exact .inr (.inl q)
 have sel : selL g e.2 = e.2 := selL_one (fun h => v2 (by rw [d1]; exact h)) b3
 have mp : e.2.map (pr1 U g) = e.2 := by
  refine map_id' fun x hx => ?_
  obtain ⟨o1, o2, o3, o4, o5⟩ := one x hx
  unfold pr1
  by_cases g1 : g.ty.kind = 1
  ·have f1 : f.ty.kind = 1 := by omega
   unfold kdV at o1
   rw [if_pos (by omega)] at o1
   have := o2 o1
   unfold numV at this
   rw [if_pos f1, decide_eq_true_eq] at this
   rw [if_pos g1, clamp_id this]
   cases x
   rfl
  ·rw [if_neg g1, if_neg n7]
 have kp : keepL g e.2 = true := by
  unfold keepL
  by_cases l1 : g.label = 1
  ·rw [l1]
   simp only [bne_self_eq_false, Bool.false_or, Bool.not_eq_true']
   cases hq : e.2 with
   | nil => rfl
   | cons x l =>
    have hxm : x ∈ e.2 := by rw [hq]; exact List.mem_cons_self ..
    exact (one x hxm).2.2.2.2 (by omega)
  ·have : (g.label != 1) = true := by simpa using l1
   rw [this, Bool.true_or]
 have FP : fieldP U g e.2 = (e.2, true) := by
  unfold fieldP
  rw [if_neg (by simp [allp]), sel, mp, kp]
 rw [FP, if_pos ⟨rfl, rfl⟩]
theorem there_back {A B : Sc} {L : List Pr} (O : Over A B L) {a b : List UInt8} (h1 : (⟨a, b⟩ : Pr) ∈ L) {v : Tr} (hr : rightT v = true) (hv : msgV A (msgOf A a) v = 0) {e : Int × List Tr} (he : e ∈ v.ents)
  (hg : (fldOf (msgOf B b) e.1).2 = true) (n7 : (fldOf (msgOf B b) e.1).1.ty.kind ≠ 7) : e ∈ (prM A (msgOf A a) (prM B (msgOf B b) v)).ents := by
 have RA := right_of O.s
 have RB := right_of O.u
 have ha := (O.ok.here _ h1).1
 have hb := (O.ok.here _ h1).2
 simp only at ha hb
 obtain ⟨v1, v2, v3, v4⟩ := ents_of hr hv e he
 have ht := tag_of RA (msgOf_mem ha).1 v1
 obtain ⟨s1, w1⟩ := O.all _ h1 e.1 ht.1 ht.2
 obtain ⟨⟨k1, k7⟩, _⟩ := flds_ok RA (msgOf_mem ha).1 e.1 v1
 have kb1 := stay_both RB (msgOf_mem hb).1 s1 v1 hg
 obtain ⟨_, l1, f1⟩ := keep_spec.1 kb1
 have kk1 := fits_kinds f1
 have l1 : (fldOf (msgOf A a) e.1).1.label = (fldOf (msgOf B b) e.1).1.label := l1
 have kk1 : (fldOf (msgOf A a) e.1).1.ty.kind = (fldOf (msgOf B b) e.1).1.ty.kind ∨ (fldOf (msgOf A a) e.1).1.ty.kind = 1 ∧ (fldOf (msgOf B b) e.1).1.ty.kind = 2 := kk1
 have E1 := ent_keep (S := A) (U := B) k1 k7 v2 v3 (fun x hx => (v4 x hx).1) hg l1 kk1 n7
 have E2 := ent_keep (S := A) (U := A) (mn := msgOf A a) k1 k7 v2 v3 (fun x hx => (v4 x hx).1) v1 rfl (.inl rfl) (by omega)
 rw [(prM_kind A _ _).2.2.1, (prM_kind B _ _).2.2.1, prE_flat, prE_flat, List.mem_flatMap]
 exact ⟨e, List.mem_flatMap.2 ⟨e, he, by rw [E1]; exact List.mem_cons_self ..⟩, by rw [E2]; exact List.mem_cons_self ..⟩
theorem prM_ok {S : Sc} {m : Ms} {v : Tr} (hk : v.kind = 3) (ho : okT v = true) : okT (prM S m v) = true := by
 have hr := prM_right S v m (ok_right ho) hk
 have hd := prM_deep S v m 101 hk
 unfold okT at ho ⊢
 rw [Bool.and_eq_true, decide_eq_true_eq] at ho ⊢
 exact ⟨by omega, hr⟩
theorem made_run {S U : Sc} {a b : List UInt8} {I : Pr → Prop} (hS : checkC S = 0) (hU : checkC U = 0) (CI : CmpI S U I) (hI : I ⟨a, b⟩) {v : Tr} (hk : v.kind = 3) (ho : okT v = true) (hv : msgV S (msgOf S a) v = 0) :
  runP (makeP S U 101 0 [⟨a, b⟩]) v = (prM U (msgOf U b) v, 0) := by
 obtain ⟨c1, c2, _⟩ := CI _ hI
 obtain ⟨pb, _⟩ := make_prog hS hU c1 c2
 obtain ⟨L, h0, _, PO⟩ := make_ok hS hU c1 c2
 unfold runP
 rw [if_neg (by rw [pb, ho, hk]; simp)]
 rw [show (0 : Int) = ((0 : Nat) : Int) from rfl, run_sees (right_of hS) (right_of hU) PO CI v 0 _ h0 hI hk (ok_right ho) hv]
theorem makeR_ok {S U : Sc} {a b : List UInt8} (hS : checkC S = 0) (hU : checkC U = 0) (ha : hasM S a = true) (hb : hasM U b = true) : makeR S U a b = (makeP S U 101 0 [⟨a, b⟩], 0) := by
 unfold makeR
 rw [if_pos ⟨hS, hU⟩, if_pos ⟨ha, hb⟩]
end Go.Aw.T
namespace Go.Aw.T
open Go.Proofs Go.RowKit
inductive In0 where
 | none | num (n : Int) | str (s : List UInt8) | node (cs : List PV)
def encIn : In0 → PV
 | .none => .cst .nilIface
 | .num n => .iface 225 (.int .i64 n)
 | .str s => .iface 226 (.str s)
 | .node cs => .iface 179 (.box cs 0)
theorem value_Num (n : Int) : PFn Tryd.prog 152 [.int .i64 n] (.agg [encIn (.num n)]) := by
 refine PFn.of Tryd.func152 rfl (by decide) Tryd.ntmps152 Tryd.results152 (Nat.le_of_ble_eq_true rfl) ?_
 simp only [argsT]
 refine AW.rT (by rfl) fun K hK => ?_
 simp -implicitDefEqProofs only [go_sem]
 apply hK; clear hK K
 refine AW.rT (by rfl) fun K hK => ?_
 simp -implicitDefEqProofs only [go_sem, ↓reduceIte, Nat.reduceAdd, Nat.reduceEqDiff, Nat.reduceLeDiff, reduceCtorEq]
 apply hK; clear hK K
 refine AW.ret ?_
 simp -implicitDefEqProofs only [go_sem, ↓reduceIte, Nat.reduceEqDiff, Nat.reduceLeDiff]
 rfl
theorem value_Str (s : List UInt8) : PFn Tryd.prog 153 [.str s] (.agg [encIn (.str s)]) := by
 refine PFn.of Tryd.func153 rfl (by decide) Tryd.ntmps153 Tryd.results153 (Nat.le_of_ble_eq_true rfl) ?_
 simp only [argsT]
 refine AW.rT (by rfl) fun K hK => ?_
 simp -implicitDefEqProofs only [go_sem]
 apply hK; clear hK K
 refine AW.rT (by rfl) fun K hK => ?_
 simp -implicitDefEqProofs only [go_sem, ↓reduceIte, Nat.reduceAdd, Nat.reduceEqDiff, Nat.reduceLeDiff, reduceCtorEq]
 apply hK; clear hK K
 refine AW.ret ?_
 simp -implicitDefEqProofs only [go_sem, ↓reduceIte, Nat.reduceEqDiff, Nat.reduceLeDiff]
 rfl
def asNum : In0 → Int × Bool
 | .num n => (n, true)
 | _ => (0, false)
theorem value_AsNum (x : In0) : PFn Tryd.prog 161 [.agg [encIn x]] (.tuple [.int .i64 (asNum x).1, .bool (asNum x).2]) := by
 refine PFn.of Tryd.func161 rfl (by decide) Tryd.ntmps161 Tryd.results161 (Nat.le_of_ble_eq_true rfl) ?_
 simp only [argsT]
 cases x
 all_goals
  simp only [encIn]
  refine AW.rT (by rfl) fun K hK => ?_
  simp -implicitDefEqProofs only [go_sem, Nat.reduceAdd]
  apply hK; clear hK K
  refine AW.rT (by rfl) fun K hK => ?_
  simp -implicitDefEqProofs only [go_sem, ↓reduceIte, Nat.reduceAdd, Nat.reduceEqDiff]
  apply hK; clear hK K
  refine AW.rT (by rfl) fun K hK => ?_
  simp -implicitDefEqProofs only [go_sem, ↓reduceIte, Nat.reduceAdd, Nat.reduceEqDiff]
  apply hK; clear hK K
  refine AW.ret ?_
  simp -implicitDefEqProofs only [go_sem, ↓reduceIte, Nat.reduceEqDiff]
 all_goals rfl
def asNode : In0 → PV × Bool
 | .node cs => (.box cs 0, true)
 | _ => (.cst (.pointer none), false)
theorem value_AsNode (x : In0) : PFn Tryd.prog 162 [.agg [encIn x]] (.tuple [(asNode x).1, .bool (asNode x).2]) := by
 refine PFn.of Tryd.func162 rfl (by decide) Tryd.ntmps162 Tryd.results162 (Nat.le_of_ble_eq_true rfl) ?_
 simp only [argsT]
 cases x
 all_goals
  simp only [encIn]
  refine AW.rT (by rfl) fun K hK => ?_
  simp -implicitDefEqProofs only [go_sem, Nat.reduceAdd]
  apply hK; clear hK K
  refine AW.rT (by rfl) fun K hK => ?_
  simp -implicitDefEqProofs only [go_sem, ↓reduceIte, Nat.reduceAdd, Nat.reduceEqDiff]
  apply hK; clear hK K
  refine AW.rT (by rfl) fun K hK => ?_
  simp -implicitDefEqProofs only [go_sem, ↓reduceIte, Nat.reduceAdd, Nat.reduceEqDiff]
  apply hK; clear hK K
  refine AW.ret ?_
  simp -implicitDefEqProofs only [go_sem, ↓reduceIte, Nat.reduceEqDiff]
 all_goals rfl
theorem value_MustNode (cs : List PV) : PFn Tryd.prog 116 [.agg [encIn (.node cs)]] (.box cs 0) := by
 refine PFn.of Tryd.func116 rfl (by decide) Tryd.ntmps116 Tryd.results116 (Nat.le_of_ble_eq_true rfl) ?_
 simp only [argsT, encIn]
 refine AW.rT (by rfl) fun K hK => ?_
 simp -implicitDefEqProofs only [go_sem, Nat.reduceAdd]
 apply hK; clear hK K
 refine AW.rT (by rfl) fun K hK => ?_
 simp -implicitDefEqProofs only [go_sem, ↓reduceIte, Nat.reduceAdd, Nat.reduceEqDiff]
 apply hK; clear hK K
 refine AW.ret ?_
 simp -implicitDefEqProofs only [go_sem]
theorem rep_in {w : World} {I : Nat → Prop} {v : Value} {x : In0} (h : rep w I v (.agg [encIn x])) : ∃ u, v = .agg #[u] ∧ rep w I u (encIn x) := by
 cases h with
 | agg hs hr =>
  rename_i vs
  have h1 : vs.size = 1 := by rw [hs]; rfl
  refine ⟨vs[0], ?_, hr 0 _ _ (Array.getElem?_eq_getElem (by omega)) rfl⟩
  congr 1
  apply Array.ext
  ·exact h1
  ·intro i hi hi'
   have : i = 0 := by omega
   subst this
   rfl
theorem Fr.alloc {w0 w : World} {X : Nat → Prop} (h : Fr w0 X w) (o : Obj) : Fr w0 X (w.alloc o) := by
 have e : ∀ b, b < w0.heap.size → (w.alloc o).heap[b]? = w.heap[b]? := fun b hb => by
  have := h.size
  show (w.heap.push o)[b]? = _
  rw [Array.getElem?_push, if_neg (by omega)]
 refine ⟨h.os, h.tape, h.output, ?_, fun b hb hx => (e b hb).trans (h.block b hb hx), h.step fun b cur et p hb hc => ⟨cur, et, p, by rw [e b hb]; exact hc, rfl⟩⟩
 show _ ≤ (w.heap.push o).size
 have := h.size
 simp; omega
theorem meth99 (u : Value) (w : World) : (method (Tryd.prog.types.size + Made.depth) 225 u "concordat/value.kind").run Tryd.prog w = .ok (181, u) w := by kernel_rfl
theorem meth101 (u : Value) (w : World) : (method (Tryd.prog.types.size + Made.depth) 226 u "concordat/value.kind").run Tryd.prog w = .ok (182, u) w := by kernel_rfl
theorem meth66 (u : Value) (w : World) : (method (Tryd.prog.types.size + Made.depth) 179 u "concordat/value.kind").run Tryd.prog w = .ok (180, u) w := by kernel_rfl
def kindIn : In0 → Int
 | .none => 0
 | .num _ => 1
 | .str _ => 2
 | .node _ => 3
theorem num_kind (u : Value) (w : World) : Calls Tryd.prog 181 #[u] w fun e w' => e = .returned (.int .i64 1) ∧ w' = w := by
 go_enter Tryd.func181, Tryd.ntmps181
 go_wp2
 simp [bodyPost, results, Tryd.results181]
theorem kind_num (u : Value) (w : World) : Calls Tryd.prog 159 #[.agg #[.iface 225 u]] w fun e w' => e = .returned (.int .i64 1) ∧ Fr w (fun _ => False) w' := by
 have hm : ∀ (u : Value) (w : World), (callMethod (.iface 225 u) "concordat/value.kind" #[]).run Tryd.prog w = .ok (.enter 181 #[u]) w := fun u w => by
  simp only [callMethod, Sem.run_bind, run_program, Result.andThen_ok, meth99]
  kernel_rfl
 go_enter Tryd.func159, Tryd.ntmps159
 go_wp2
 refine (num_kind u _).mono ?_
 rintro e w' ⟨rfl, rfl⟩
 go_wp2
 exact ⟨rfl, .int .i64 1, by simp [results, Tryd.results159], rfl, Fr.alloc (Fr.refl w _) _⟩
theorem str_kind (u : Value) (w : World) : Calls Tryd.prog 182 #[u] w fun e w' => e = .returned (.int .i64 2) ∧ w' = w := by
 go_enter Tryd.func182, Tryd.ntmps182
 go_wp2
 simp [bodyPost, results, Tryd.results182]
theorem kind_str (u : Value) (w : World) : Calls Tryd.prog 159 #[.agg #[.iface 226 u]] w fun e w' => e = .returned (.int .i64 2) ∧ Fr w (fun _ => False) w' := by
 have hm : ∀ (u : Value) (w : World), (callMethod (.iface 226 u) "concordat/value.kind" #[]).run Tryd.prog w = .ok (.enter 182 #[u]) w := fun u w => by
  simp only [callMethod, Sem.run_bind, run_program, Result.andThen_ok, meth101]
  kernel_rfl
 go_enter Tryd.func159, Tryd.ntmps159
 go_wp2
 refine (str_kind u _).mono ?_
 rintro e w' ⟨rfl, rfl⟩
 go_wp2
 exact ⟨rfl, .int .i64 2, by simp [results, Tryd.results159], rfl, Fr.alloc (Fr.refl w _) _⟩
theorem node_kind (u : Value) (w : World) : Calls Tryd.prog 180 #[u] w fun e w' => e = .returned (.int .i64 3) ∧ w' = w := by
 go_enter Tryd.func180, Tryd.ntmps180
 go_wp2
 simp [bodyPost, results, Tryd.results180]
theorem kind_node (u : Value) (w : World) : Calls Tryd.prog 159 #[.agg #[.iface 179 u]] w fun e w' => e = .returned (.int .i64 3) ∧ Fr w (fun _ => False) w' := by
 have hm : ∀ (u : Value) (w : World), (callMethod (.iface 179 u) "concordat/value.kind" #[]).run Tryd.prog w = .ok (.enter 180 #[u]) w := fun u w => by
  simp only [callMethod, Sem.run_bind, run_program, Result.andThen_ok, meth66]
  kernel_rfl
 go_enter Tryd.func159, Tryd.ntmps159
 go_wp2
 refine (node_kind u _).mono ?_
 rintro e w' ⟨rfl, rfl⟩
 go_wp2
 exact ⟨rfl, .int .i64 3, by simp [results, Tryd.results159], rfl, Fr.alloc (Fr.refl w _) _⟩
theorem kind_none (w : World) : Calls Tryd.prog 159 #[.agg #[.nilIface]] w fun e w' => e = .returned (.int .i64 0) ∧ Fr w (fun _ => False) w' := by
 go_enter Tryd.func159, Tryd.ntmps159
 go_wp2
 exact ⟨rfl, .int .i64 0, by simp [results, Tryd.results159], rfl, Fr.alloc (Fr.refl w _) _⟩
theorem value_Kind (x : In0) : PFn Tryd.prog 159 [.agg [encIn x]] (.int .i64 (kindIn x)) := by
 refine ⟨by kernel_rfl, fun w I vals hs hr hI _ => ?_⟩
 have hs1 : vals.size = 1 := by rw [hs]; rfl
 have h0 := hr 0 _ _ (Array.getElem?_eq_getElem (by omega)) rfl
 obtain ⟨u, hu, hru⟩ := rep_in h0
 have hv : vals = #[.agg #[u]] := by
  apply Array.ext
  ·exact hs1
  ·intro i hi hi'
   have : i = 0 := by omega
   subst this
   exact hu
 subst hv
 have fin : ∀ {k : Int}, k = kindIn x → (Calls Tryd.prog 159 #[.agg #[u]] w fun e w' => e = Ending.returned (.int .i64 k) ∧ Fr w (fun _ => False) w') → _ := fun hk hc => hc.mono fun e w' ⟨he, hf⟩ => (⟨_, he, hf, by rw [hk]; exact .int .i64 _⟩ : ∃ v, e = Ending.returned v ∧ Fr w (fun _ => False) w' ∧ rep w' (fun g => I g ∨ (w.heap.size ≤ g ∧ g < w'.heap.size)) v (.int .i64 (kindIn x)))
 cases x with
 | none => cases hru; exact fin rfl (kind_none w)
 | num n => cases hru with | iface _ h => exact fin rfl (kind_num _ w)
 | str n => cases hru with | iface _ h => exact fin rfl (kind_str _ w)
 | node n => cases hru with | iface _ h => exact fin rfl (kind_node _ w)
def leafT : In0 → Tr
 | .none => .mk 0 0 [] [] []
 | .num n => .mk 1 n [] [] []
 | .str s => .mk 2 0 s [] []
 | .node _ => .mk 3 0 [] [] []
theorem value_Tree_leaf (x : In0) (hx : ∀ cs, x ≠ .node cs) : PFn Tryd.prog 156 [.agg [encIn x]] (.agg (encTr (leafT x))) := by
 refine PFn.of Tryd.func156 rfl (by decide) Tryd.ntmps156 Tryd.results156 (Nat.le_of_ble_eq_true rfl) ?_
 simp only [argsT]
 cases x with
 | node cs => exact absurd rfl (hx cs)
 | num n =>
  simp only [encIn]
  refine AW.rT (by rfl) fun K hK => ?_
  simp -implicitDefEqProofs only [go_sem, Nat.reduceAdd]
  apply hK; clear hK K
  refine AW.rT (by rfl) fun K hK => ?_
  simp -implicitDefEqProofs only [go_sem, ↓reduceIte, Nat.reduceAdd, Nat.reduceEqDiff, Nat.reduceLeDiff, reduceCtorEq]
  refine ⟨.pure _, value_Kind (.num n), ?_⟩
  try simp -implicitDefEqProofs only [go_sem, ↓reduceIte, Nat.reduceAdd, Nat.reduceEqDiff, Nat.reduceLeDiff, kindIn]
  apply hK; clear hK K
  refine AW.seq ?_
  refine AW.rT (by rfl) fun K hK => ?_
  simp -implicitDefEqProofs only [go_sem, ↓reduceIte, Nat.reduceAdd, Nat.reduceEqDiff, reduceCtorEq]
  apply hK; clear hK K
  refine AW.block ?_
  refine AW.rT (by rfl) fun K hK => ?_
  simp -implicitDefEqProofs only [go_sem, ↓reduceIte, Nat.reduceAdd, Nat.reduceEqDiff]
  apply hK; clear hK K
  refine AW.cond _ (by simp -implicitDefEqProofs only [go_sem, ↓reduceIte, Nat.reduceEqDiff]; rfl) (fun hc => ?_) (fun hc => ?_)
  ·refine AW.rT (by rfl) fun K hK => ?_
   simp -implicitDefEqProofs only [go_sem, Nat.reduceAdd]
   apply hK; clear hK K
   refine AW.rE (by rfl) fun K hK => ?_
   simp -implicitDefEqProofs only [go_sem, ↓reduceIte, Nat.reduceAdd, Nat.reduceEqDiff, Nat.reduceLeDiff]
   apply hK; clear hK K
   simp only [andThen, inBlk]
   refine AW.rT (by rfl) fun K hK => ?_
   simp -implicitDefEqProofs only [go_sem, ↓reduceIte, Nat.reduceAdd, Nat.reduceEqDiff, Nat.reduceLeDiff]
   apply hK; clear hK K
   refine AW.ret ?_
   simp -implicitDefEqProofs only [go_sem, ↓reduceIte, Nat.reduceAdd, Nat.reduceEqDiff, Nat.reduceLeDiff, encTr_eq, leafT]
   rfl
  ·simp at hc
 | str s =>
  simp only [encIn]
  refine AW.rT (by rfl) fun K hK => ?_
  simp -implicitDefEqProofs only [go_sem, Nat.reduceAdd]
  apply hK; clear hK K
  refine AW.rT (by rfl) fun K hK => ?_
  simp -implicitDefEqProofs only [go_sem, ↓reduceIte, Nat.reduceAdd, Nat.reduceEqDiff, Nat.reduceLeDiff, reduceCtorEq]
  refine ⟨.pure _, value_Kind (.str s), ?_⟩
  try simp -implicitDefEqProofs only [go_sem, ↓reduceIte, Nat.reduceAdd, Nat.reduceEqDiff, Nat.reduceLeDiff, kindIn]
  apply hK; clear hK K
  refine AW.seq ?_
  refine AW.rT (by rfl) fun K hK => ?_
  simp -implicitDefEqProofs only [go_sem, ↓reduceIte, Nat.reduceAdd, Nat.reduceEqDiff, reduceCtorEq]
  apply hK; clear hK K
  refine AW.block ?_
  refine AW.rT (by rfl) fun K hK => ?_
  simp -implicitDefEqProofs only [go_sem, ↓reduceIte, Nat.reduceAdd, Nat.reduceEqDiff]
  apply hK; clear hK K
  refine AW.cF rfl ?_
  refine AW.rT (by rfl) fun K hK => ?_
  simp -implicitDefEqProofs only [go_sem, ↓reduceIte, Nat.reduceAdd, Nat.reduceEqDiff]
  apply hK; clear hK K
  refine AW.cond _ (by simp -implicitDefEqProofs only [go_sem, ↓reduceIte, Nat.reduceEqDiff]; rfl) (fun hc => ?_) (fun hc => ?_)
  ·refine AW.rT (by rfl) fun K hK => ?_
   simp -implicitDefEqProofs only [go_sem, Nat.reduceAdd]
   apply hK; clear hK K
   refine AW.rE (by rfl) fun K hK => ?_
   simp -implicitDefEqProofs only [go_sem, ↓reduceIte, Nat.reduceAdd, Nat.reduceEqDiff, Nat.reduceLeDiff]
   apply hK; clear hK K
   simp only [andThen, inBlk]
   refine AW.rT (by rfl) fun K hK => ?_
   simp -implicitDefEqProofs only [go_sem, ↓reduceIte, Nat.reduceAdd, Nat.reduceEqDiff, Nat.reduceLeDiff]
   apply hK; clear hK K
   refine AW.ret ?_
   simp -implicitDefEqProofs only [go_sem, ↓reduceIte, Nat.reduceAdd, Nat.reduceEqDiff, Nat.reduceLeDiff, encTr_eq, leafT]
   rfl
  ·simp at hc
 | none =>
  simp only [encIn]
  refine AW.rT (by rfl) fun K hK => ?_
  simp -implicitDefEqProofs only [go_sem, Nat.reduceAdd]
  apply hK; clear hK K
  refine AW.rT (by rfl) fun K hK => ?_
  simp -implicitDefEqProofs only [go_sem, ↓reduceIte, Nat.reduceAdd, Nat.reduceEqDiff, Nat.reduceLeDiff, reduceCtorEq]
  refine ⟨.pure _, value_Kind .none, ?_⟩
  try simp -implicitDefEqProofs only [go_sem, ↓reduceIte, Nat.reduceAdd, Nat.reduceEqDiff, Nat.reduceLeDiff, kindIn]
  apply hK; clear hK K
  refine AW.seq ?_
  refine AW.rT (by rfl) fun K hK => ?_
  simp -implicitDefEqProofs only [go_sem, ↓reduceIte, Nat.reduceAdd, Nat.reduceEqDiff, reduceCtorEq]
  apply hK; clear hK K
  refine AW.block ?_
  refine AW.rT (by rfl) fun K hK => ?_
  simp -implicitDefEqProofs only [go_sem, ↓reduceIte, Nat.reduceAdd, Nat.reduceEqDiff]
  apply hK; clear hK K
  refine AW.cF rfl ?_
  refine AW.rT (by rfl) fun K hK => ?_
  simp -implicitDefEqProofs only [go_sem, ↓reduceIte, Nat.reduceAdd, Nat.reduceEqDiff]
  apply hK; clear hK K
  refine AW.cF rfl ?_
  refine AW.rT (by rfl) fun K hK => ?_
  simp -implicitDefEqProofs only [go_sem, ↓reduceIte, Nat.reduceAdd, Nat.reduceEqDiff]
  apply hK; clear hK K
  refine AW.cF rfl ?_
  refine AW.skip ?_
  simp only [andThen, inBlk]
  refine AW.rT (by rfl) fun K hK => ?_
  simp -implicitDefEqProofs only [go_sem, ↓reduceIte, Nat.reduceAdd, Nat.reduceEqDiff, Nat.reduceLeDiff]
  apply hK; clear hK K
  refine AW.ret ?_
  simp -implicitDefEqProofs only [go_sem, ↓reduceIte, Nat.reduceAdd, Nat.reduceEqDiff, Nat.reduceLeDiff, encTr_eq, leafT]
  rfl
theorem clone_Raws (l : List Raw) (hl : l.length ≤ 1000000) : PFn Tryd.prog 154 [.slice (l.map encRaw)] (.slice (l.map encRaw)) := by
 refine PFn.of Tryd.func154 rfl (by decide) Tryd.ntmps154 Tryd.results154 (Nat.le_of_ble_eq_true rfl) ?_
 simp only [argsT]
 have g0 := raws_len l
 have g1 := raws_one l
 have g2 : l = [] ∨ ∃ x r, l = x :: r := by cases l <;> simp
 refine AW.rT (by rfl) fun K hK => ?_
 simp -implicitDefEqProofs only [go_sem]
 apply hK; clear hK K
 refine AW.seq ?_
 rcases g2 with rfl | ⟨x, r, rfl⟩
 ·refine AW.nilSplit (t := 0) rfl fun a n => ?_
  refine AW.rT (by rfl) fun K hK => ?_
  simp -implicitDefEqProofs only [go_sem, ↓reduceIte, Nat.reduceAdd]
  refine ⟨_, eqP_nil Tryd.underlying37 a n, ?_⟩
  simp only [boolE]
  try simp -implicitDefEqProofs only [go_sem, Nat.reduceAdd]
  apply hK; clear hK K
  cases a with
  | none =>
   refine AW.cond _ (by simp -implicitDefEqProofs only [go_sem]; rfl) (fun hc => ?_) (fun hc => ?_)
   ·refine AW.rT (by rfl) fun K hK => ?_
    simp -implicitDefEqProofs only [go_sem, Nat.reduceAdd]
    apply hK; clear hK K
    refine AW.ret ?_
    simp -implicitDefEqProofs only [go_sem]
   ·simp at hc
  | some a =>
   refine AW.cF rfl ?_
   refine AW.skip ?_
   simp only [andThen]
   refine AW.ghost (s' := ⟨ofL [(0, .p (.slice [])), (2, .ex [])], ofH [], 0⟩) (Ghost.trans (Ghost.unNil (t := 0) (n := n) (a := some a) rfl) ?_) ?_
   ·refine Ghost.sub ?_ ?_ <;> simp -implicitDefEqProofs only [go_sem, ↓reduceIte, Nat.reduceEqDiff, reduceCtorEq, List.forall_mem_cons, List.not_mem_nil, false_implies, implies_true, and_self, AV.labsIn]
   refine AW.rT (by rfl) fun K hK => ?_
   simp -implicitDefEqProofs only [go_sem, ↓reduceIte, Nat.reduceAdd, Nat.reduceMul, Nat.reduceEqDiff, Nat.reduceLeDiff, reduceCtorEq]
   refine ⟨⟨by simp, by simp, by simp⟩, by decide, ?_⟩
   apply hK; clear hK K
   refine AW.ret ?_
   simp -implicitDefEqProofs only [go_sem]
 ·refine AW.rT (by rfl) fun K hK => ?_
  simp -implicitDefEqProofs only [go_sem, ↓reduceIte, Nat.reduceAdd, reduceCtorEq]
  refine ⟨_, eqP_some Tryd.underlying37 _ _, ?_⟩
  try simp -implicitDefEqProofs only [go_sem, Nat.reduceAdd]
  apply hK; clear hK K
  refine AW.cF rfl ?_
  refine AW.skip ?_
  simp only [andThen]
  refine AW.ghost (s' := ⟨ofL [(0, .p (.slice ((x :: r).map encRaw))), (2, .ex [])], ofH [], 0⟩) ?_ ?_
  ·refine Ghost.sub ?_ ?_ <;> simp -implicitDefEqProofs only [go_sem, ↓reduceIte, Nat.reduceEqDiff, reduceCtorEq, List.forall_mem_cons, List.not_mem_nil, false_implies, implies_true, and_self, AV.labsIn]
  refine AW.rT (by rfl) fun K hK => ?_
  simp -implicitDefEqProofs only [go_sem, ↓reduceIte, Nat.reduceAdd, Nat.reduceMul, Nat.reduceEqDiff, Nat.reduceLeDiff, reduceCtorEq]
  refine ⟨⟨g0, g1, by simp⟩, by simp [liftE_length]; simp at hl; omega, ?_⟩
  apply hK; clear hK K
  refine AW.ret ?_
  simp -implicitDefEqProofs only [go_sem]
mutual
/-- What a value keeps that is made of a tree. -/
def encV : Tr → PV
 | .mk k n s es rest => if k = 1 then .iface 225 (.int .i64 n) else if k = 2 then .iface 226 (.str s) else .iface 179 (.box [.slice (encVes es), .slice (rest.map encRaw)] 0)
def encVes : List (Int × List Tr) → List (List PV)
 | [] => []
 | (t, l) :: r => [.int .i64 t, .slice (encVs l)] :: encVes r
def encVs : List Tr → List (List PV)
 | [] => []
 | x :: l => [encV x] :: encVs l
end
def encV1 (t : Tr) : List PV := [encV t]
def encVn (e : Int × List Tr) : List PV := [.int .i64 e.1, .slice (e.2.map encV1)]
theorem encVs_map : ∀ l : List Tr, encVs l = l.map encV1
 | [] => by simp [encVs]
 | x :: l => by rw [encVs, encVs_map l]; rfl
theorem encVes_map : ∀ l : List (Int × List Tr), encVes l = l.map encVn
 | [] => by simp [encVes]
 | (t, l) :: r => by rw [encVes, encVes_map r, encVs_map]; rfl
theorem encV_eq (t : Tr) : encV t = if t.kind = 1 then .iface 225 (.int .i64 t.n) else if t.kind = 2 then .iface 226 (.str t.s) else .iface 179 (.box [.slice (t.ents.map encVn), .slice (t.rest.map encRaw)] 0) := by
 cases t
 rw [encV, encVes_map]; rfl
theorem encV_one (t : Tr) : (encV t).one = true := by
 rw [encV_eq]
 split
 ·rfl
 ·split <;> rfl
theorem vals_len (l : List Tr) : ∀ e ∈ liftE (l.map encV1), e.length = 1 := liftE_len fun e he => by
 obtain ⟨x, _, rfl⟩ := List.mem_map.1 he
 rfl
theorem vals_one (l : List Tr) : ∀ e ∈ liftE (l.map encV1), oneAll e = true := liftE_one fun e he p hp => by
 obtain ⟨x, _, rfl⟩ := List.mem_map.1 he
 simp [encV1] at hp
 subst hp
 exact encV_one x
theorem clone_Vals (l : List Tr) (hl : l.length ≤ 1000000) : PFn Tryd.prog 155 [.slice (l.map encV1)] (.slice (l.map encV1)) := by
 refine PFn.of Tryd.func155 rfl (by decide) Tryd.ntmps155 Tryd.results155 (Nat.le_of_ble_eq_true rfl) ?_
 simp only [argsT]
 have g0 := vals_len l
 have g1 := vals_one l
 have g2 : l = [] ∨ ∃ x r, l = x :: r := by cases l <;> simp
 refine AW.rT (by rfl) fun K hK => ?_
 simp -implicitDefEqProofs only [go_sem]
 apply hK; clear hK K
 refine AW.seq ?_
 rcases g2 with rfl | ⟨x, r, rfl⟩
 ·refine AW.nilSplit (t := 0) rfl fun a n => ?_
  refine AW.rT (by rfl) fun K hK => ?_
  simp -implicitDefEqProofs only [go_sem, ↓reduceIte, Nat.reduceAdd]
  refine ⟨_, eqP_nil Tryd.underlying201 a n, ?_⟩
  simp only [boolE]
  try simp -implicitDefEqProofs only [go_sem, Nat.reduceAdd]
  apply hK; clear hK K
  cases a with
  | none =>
   refine AW.cond _ (by simp -implicitDefEqProofs only [go_sem]; rfl) (fun hc => ?_) (fun hc => ?_)
   ·refine AW.rT (by rfl) fun K hK => ?_
    simp -implicitDefEqProofs only [go_sem, Nat.reduceAdd]
    apply hK; clear hK K
    refine AW.ret ?_
    simp -implicitDefEqProofs only [go_sem]
   ·simp at hc
  | some a =>
   refine AW.cF rfl ?_
   refine AW.skip ?_
   simp only [andThen]
   refine AW.ghost (s' := ⟨ofL [(0, .p (.slice [])), (2, .ex [])], ofH [], 0⟩) (Ghost.trans (Ghost.unNil (t := 0) (n := n) (a := some a) rfl) ?_) ?_
   ·refine Ghost.sub ?_ ?_ <;> simp -implicitDefEqProofs only [go_sem, ↓reduceIte, Nat.reduceEqDiff, reduceCtorEq, List.forall_mem_cons, List.not_mem_nil, false_implies, implies_true, and_self, AV.labsIn]
   refine AW.rT (by rfl) fun K hK => ?_
   simp -implicitDefEqProofs only [go_sem, ↓reduceIte, Nat.reduceAdd, Nat.reduceMul, Nat.reduceEqDiff, Nat.reduceLeDiff, reduceCtorEq]
   refine ⟨⟨by simp, by simp, by simp⟩, by decide, ?_⟩
   apply hK; clear hK K
   refine AW.ret ?_
   simp -implicitDefEqProofs only [go_sem]
 ·refine AW.rT (by rfl) fun K hK => ?_
  simp -implicitDefEqProofs only [go_sem, ↓reduceIte, Nat.reduceAdd, reduceCtorEq]
  refine ⟨_, eqP_some Tryd.underlying201 _ _, ?_⟩
  try simp -implicitDefEqProofs only [go_sem, Nat.reduceAdd]
  apply hK; clear hK K
  refine AW.cF rfl ?_
  refine AW.skip ?_
  simp only [andThen]
  refine AW.ghost (s' := ⟨ofL [(0, .p (.slice ((x :: r).map encV1))), (2, .ex [])], ofH [], 0⟩) ?_ ?_
  ·refine Ghost.sub ?_ ?_ <;> simp -implicitDefEqProofs only [go_sem, ↓reduceIte, Nat.reduceEqDiff, reduceCtorEq, List.forall_mem_cons, List.not_mem_nil, false_implies, implies_true, and_self, AV.labsIn]
  refine AW.rT (by rfl) fun K hK => ?_
  simp -implicitDefEqProofs only [go_sem, ↓reduceIte, Nat.reduceAdd, Nat.reduceMul, Nat.reduceEqDiff, Nat.reduceLeDiff, reduceCtorEq]
  refine ⟨⟨g0, g1, by simp⟩, by simp [liftE_length]; simp at hl; omega, ?_⟩
  apply hK; clear hK K
  refine AW.ret ?_
  simp -implicitDefEqProofs only [go_sem]
def mx (t : Tr) (i : Nat) : St := ⟨ofL [(2, .ptr 1 0 0), (3, .ptr 2 0 0), (27, .p (.slice (t.ents.map encEn))), (28, .p (.int .i64 (t.ents.length : Int))), (29, .p (.int .i64 (i : Int)))],
 ofH [(1, .row 1 [[.p (.cst .nilIface)]]), (2, .row 2 [[.own 3, .p (.slice (t.rest.map encRaw))]]), (3, .row 2 (liftE ((t.ents.take i).map encVn)))], 4⟩
def my (t : Tr) (i : Nat) (e : Int × List Tr) (k : Nat) : St := ⟨ofL [(2, .ptr 1 0 0), (3, .ptr 2 0 0), (27, .p (.slice (t.ents.map encEn))), (28, .p (.int .i64 (t.ents.length : Int))), (29, .p (.int .i64 (i : Int))), (6, .ptr 4 0 0), (37, .p (.slice (e.2.map encTr))), (38, .p (.int .i64 (e.2.length : Int))), (39, .p (.int .i64 (k : Int)))],
 ofH [(1, .row 1 [[.p (.cst .nilIface)]]), (2, .row 2 [[.own 3, .p (.slice (t.rest.map encRaw))]]), (3, .row 2 (liftE ((t.ents.take i).map encVn))), (4, .row 2 [[.p (.int .i64 e.1), .own 5]]), (5, .row 1 (liftE ((e.2.take k).map encV1)))], 6⟩
def mz (t : Tr) (i : Nat) (e : Int × List Tr) : St := ⟨ofL [(2, .ptr 1 0 0), (3, .ptr 2 0 0), (27, .p (.slice (t.ents.map encEn))), (28, .p (.int .i64 (t.ents.length : Int))), (29, .p (.int .i64 (i : Int))), (6, .ptr 4 0 0)],
 ofH [(1, .row 1 [[.p (.cst .nilIface)]]), (2, .row 2 [[.own 3, .p (.slice (t.rest.map encRaw))]]), (3, .row 2 (liftE ((t.ents.take i).map encVn))), (4, .row 2 [[.p (.int .i64 e.1), .p (.slice (e.2.map encV1))]])], 5⟩
def mw (t : Tr) : St := ⟨ofL [(2, .ptr 1 0 0), (3, .ptr 2 0 0)],
 ofH [(1, .row 1 [[.p (.cst .nilIface)]]), (2, .row 2 (liftE [[.slice (t.ents.map encVn), .slice (t.rest.map encRaw)]]))], 3⟩
def mv (t : Tr) : St := ⟨ofL [(2, .ptr 1 0 0), (3, .p (.box [.slice (t.ents.map encVn), .slice (t.rest.map encRaw)] 0))],
 ofH [(1, .row 1 [[.p (.cst .nilIface)]])], 3⟩
theorem value_made : ∀ (t : Tr), lensT t = true → PFn Tryd.prog 140 [.agg (encTr t)] (.agg [encV t]) := by
 intro t
 induction h : SizeOf.sizeOf t using Nat.strongRecOn generalizing t with
 | _ sz ih =>
 subst h
 intro hlt
 obtain ⟨la1, la2, la3⟩ := lensT_mk hlt
 have eV := encV_eq t
 refine PFn.of Tryd.func140 rfl (by decide) Tryd.ntmps140 Tryd.results140 (Nat.le_of_ble_eq_true rfl) ?_
 simp only [argsT]
 refine AW.rT (by rfl) fun K hK => ?_
 simp -implicitDefEqProofs only [go_sem, Nat.reduceAdd, encTr_eq]
 apply hK; clear hK K
 refine AW.seq ?_
 refine AW.rT (by rfl) fun K hK => ?_
 simp -implicitDefEqProofs only [go_sem, ↓reduceIte, Nat.reduceAdd, Nat.reduceEqDiff, reduceCtorEq]
 apply hK; clear hK K
 refine AW.block ?_
 by_cases c1 : t.kind = 1
 ·have b1 : (t.kind == 1) = true := by simpa using c1
  rw [if_pos c1] at eV
  refine AW.rT (by rfl) fun K hK => ?_
  simp -implicitDefEqProofs only [go_sem, ↓reduceIte, Nat.reduceAdd, b1]
  apply hK; clear hK K
  refine AW.cT rfl ?_
  refine AW.rT (by rfl) fun K hK => ?_
  simp -implicitDefEqProofs only [go_sem, ↓reduceIte, Nat.reduceAdd, Nat.reduceEqDiff, reduceCtorEq]
  refine ⟨.pure _, value_Num t.n, ?_⟩
  try simp -implicitDefEqProofs only [go_sem, ↓reduceIte, Nat.reduceAdd, Nat.reduceEqDiff, Nat.reduceLeDiff, encIn]
  apply hK; clear hK K
  refine AW.ret ?_
  simp -implicitDefEqProofs only [go_sem, ↓reduceIte, Nat.reduceEqDiff, Nat.reduceLeDiff, eV]
 have b1 : (t.kind == 1) = false := beqf c1
 rw [if_neg c1] at eV
 refine AW.rT (by rfl) fun K hK => ?_
 simp -implicitDefEqProofs only [go_sem, ↓reduceIte, Nat.reduceAdd, b1]
 apply hK; clear hK K
 refine AW.cF rfl ?_
 by_cases c2 : t.kind = 2
 ·have b2 : (t.kind == 2) = true := by simpa using c2
  rw [if_pos c2] at eV
  refine AW.rT (by rfl) fun K hK => ?_
  simp -implicitDefEqProofs only [go_sem, ↓reduceIte, Nat.reduceAdd, Nat.reduceEqDiff, b2]
  apply hK; clear hK K
  refine AW.cT rfl ?_
  refine AW.rT (by rfl) fun K hK => ?_
  simp -implicitDefEqProofs only [go_sem, ↓reduceIte, Nat.reduceAdd, Nat.reduceEqDiff, reduceCtorEq]
  refine ⟨.pure _, value_Str t.s, ?_⟩
  try simp -implicitDefEqProofs only [go_sem, ↓reduceIte, Nat.reduceAdd, Nat.reduceEqDiff, Nat.reduceLeDiff, encIn]
  apply hK; clear hK K
  refine AW.ret ?_
  simp -implicitDefEqProofs only [go_sem, ↓reduceIte, Nat.reduceEqDiff, Nat.reduceLeDiff, eV]
 have b2 : (t.kind == 2) = false := beqf c2
 rw [if_neg c2] at eV
 refine AW.rT (by rfl) fun K hK => ?_
 simp -implicitDefEqProofs only [go_sem, ↓reduceIte, Nat.reduceAdd, Nat.reduceEqDiff, b2]
 apply hK; clear hK K
 refine AW.cF rfl ?_
 refine AW.skip ?_
 simp only [andThen, inBlk]
 refine AW.rT (by rfl) fun K hK => ?_
 simp -implicitDefEqProofs only [go_sem, ↓reduceIte, Nat.reduceAdd, Nat.reduceEqDiff, reduceCtorEq]
 refine ⟨.pure _, clone_Raws t.rest (by omega), ?_⟩
 try simp -implicitDefEqProofs only [go_sem, ↓reduceIte, Nat.reduceAdd, Nat.reduceLeDiff]
 apply hK; clear hK K
 refine AW.seq ?_
 refine AW.rT (by rfl) fun K hK => ?_
 simp -implicitDefEqProofs only [go_sem, ↓reduceIte, Nat.reduceAdd, Nat.reduceEqDiff, reduceCtorEq, List.length_map]
 apply hK; clear hK K
 refine AW.block ?_
 refine AW.loop (mx t) (fun i => i ≤ t.ents.length) (fun i => t.ents.length - i) 0 ?_ (by simp) fun i hi => ?_
 ·refine Ghost.trans (Ghost.nilH (l := 12) (i := 0) (j := 0) (sz' := 2) rfl rfl rfl) ?_
  simp only [mx]
  refine Ghost.ent (fun l => if l = 2 then 12 else if l = 3 then 18 else l) ?_ ?_ ?_ <;> simp -implicitDefEqProofs only [go_sem, ↓reduceIte, Nat.reduceEqDiff, List.take_zero, List.map_nil, liftE_nil, List.set_cons_zero, List.forall_mem_cons, List.not_mem_nil, false_implies, implies_true, and_self, List.all_cons, List.all_nil, Nat.reduceLT, labsInL, AV.labsIn]
  rfl
 simp only [mx]
 by_cases hil : i < t.ents.length
 case neg =>
  have hc1 : ((i : Int) < (t.ents.length : Int)) = False := by simp; omega
  have hi' : i = t.ents.length := by omega
  subst hi'
  refine AW.rT (by rfl) fun K hK => ?_
  simp -implicitDefEqProofs only [go_sem, ↓reduceIte, Nat.reduceAdd, Nat.reduceEqDiff, hc1]
  apply hK; clear hK K
  refine AW.seq ?_
  refine AW.cF rfl ?_
  refine AW.exit ?_
  simp only [andThen, inBlk, ↓reduceIte]
  refine AW.ghost (s' := mw t) (Ghost.trans (Ghost.freeze (lb := 3) (ps := (t.ents.take t.ents.length).map encVn) rfl (unlift_liftE _)) ?_) ?_
  ·simp only [mw]
   refine Ghost.sub ?_ ?_ <;> simp -implicitDefEqProofs only [go_sem, ↓reduceIte, Nat.reduceEqDiff, thaw, thaw1, Option.map_some, List.take_length, List.map_cons, List.map_nil, liftE_cons, liftE_nil, List.forall_mem_cons, List.not_mem_nil, false_implies, implies_true, and_self, List.all_cons, List.all_nil, Nat.reduceLT, labsInL, AV.labsIn]
  simp only [mw]
  refine AW.ghost (s' := mv t) (Ghost.trans (Ghost.freezeP (lb := 2) (ps := [[.slice (t.ents.map encVn), .slice (t.rest.map encRaw)]]) rfl (unlift_liftE _)) ?_) ?_
  ·simp only [mv]
   refine Ghost.sub ?_ ?_ <;> simp -implicitDefEqProofs only [go_sem, ↓reduceIte, Nat.reduceEqDiff, thawP, thawP1, Option.map_some, List.map_cons, List.map_nil, List.forall_mem_cons, List.not_mem_nil, false_implies, implies_true, and_self, List.all_cons, List.all_nil, Nat.reduceLT, labsInL, AV.labsIn]
  simp only [mv]
  refine AW.rT (by rfl) fun K hK => ?_
  simp -implicitDefEqProofs only [go_sem, ↓reduceIte, Nat.reduceAdd, Nat.reduceEqDiff, Nat.reduceLeDiff]
  apply hK; clear hK K
  refine AW.ret ?_
  simp -implicitDefEqProofs only [go_sem, ↓reduceIte, Nat.reduceEqDiff, Nat.reduceLeDiff, eV]
 obtain ⟨e, he⟩ : ∃ e, t.ents[i]? = some e := ⟨_, List.getElem?_eq_getElem hil⟩
 have ⟨he1, he2, he3⟩ := at_map' encEn he
 have ⟨le1, le2⟩ := lensE_at la3 he
 have hc1 : ((i : Int) < (t.ents.length : Int)) = True := by simp; omega
 refine AW.rT (by rfl) fun K hK => ?_
 simp -implicitDefEqProofs only [go_sem, ↓reduceIte, Nat.reduceAdd, Nat.reduceEqDiff, hc1]
 apply hK; clear hK K
 refine AW.seq ?_
 refine AW.cT rfl ?_
 refine AW.skip ?_
 simp only [andThen]
 refine AW.seq ?_
 refine AW.block ?_
 refine AW.rT (by rfl) fun K hK => ?_
 simp -implicitDefEqProofs only [go_sem, ↓reduceIte, Nat.reduceAdd, Nat.reduceEqDiff, Nat.reduceLeDiff, he1, he3, hc1, encEn, List.length_map]
 apply hK; clear hK K
 refine AW.rT (by rfl) fun K hK => ?_
 simp -implicitDefEqProofs only [go_sem, ↓reduceIte, Nat.reduceAdd, Nat.reduceEqDiff, Nat.reduceLeDiff]
 apply hK; clear hK K
 refine AW.seq ?_
 refine AW.rT (by rfl) fun K hK => ?_
 simp -implicitDefEqProofs only [go_sem, ↓reduceIte, Nat.reduceAdd, Nat.reduceEqDiff, List.length_map]
 apply hK; clear hK K
 refine AW.block ?_
 refine AW.loop (my t i e) (fun k => k ≤ e.2.length) (fun k => e.2.length - k) 0 ?_ (by simp) fun k hk => ?_
 ·refine Ghost.trans (Ghost.nilH (l := 12) (i := 0) (j := 1) (sz' := 1) rfl rfl rfl) ?_
  simp only [my]
  refine Ghost.ent (fun l => if l = 4 then 12 else if l = 5 then 18 else l) ?_ ?_ ?_ <;> simp -implicitDefEqProofs only [go_sem, ↓reduceIte, Nat.reduceEqDiff, List.take_zero, List.map_nil, liftE_nil, List.set_cons_zero, List.set_cons_succ, List.forall_mem_cons, List.not_mem_nil, false_implies, implies_true, and_self, map_renL_lift, labsIn_lift, List.all_cons, List.all_nil, Nat.reduceLT, labsInL, AV.labsIn]
  rfl
 simp only [my]
 by_cases hkl : k < e.2.length
 ·obtain ⟨x, hx⟩ : ∃ x, e.2[k]? = some x := ⟨_, List.getElem?_eq_getElem hkl⟩
  have ⟨hx1, hx2, hx3⟩ := at_map' encTr hx
  have hc2 : ((k : Int) < (e.2.length : Int)) = True := by simp; omega
  have IH := ih _ (size_ent he hx) x rfl (lensTs_at le2 hx)
  rw [encTr_eq] at IH
  have eo := encV_one x
  refine AW.rT (by rfl) fun K hK => ?_
  simp -implicitDefEqProofs only [go_sem, ↓reduceIte, Nat.reduceAdd, Nat.reduceEqDiff, hc2]
  apply hK; clear hK K
  refine AW.seq ?_
  refine AW.cT rfl ?_
  refine AW.skip ?_
  simp only [andThen]
  refine AW.seq ?_
  refine AW.block ?_
  refine AW.rT (by rfl) fun K hK => ?_
  simp -implicitDefEqProofs only [go_sem, ↓reduceIte, Nat.reduceAdd, Nat.reduceEqDiff, Nat.reduceLeDiff, hc2, hx1, hx3, encTr_eq, List.length_map]
  apply hK; clear hK K
  refine AW.dE mixed (by rfl) (by decide +kernel) fun K hK => ?_
  simp -implicitDefEqProofs only [go_sem, ↓reduceIte, Nat.reduceAdd, Nat.reduceEqDiff, Nat.reduceLeDiff]
  refine ⟨.pure _, IH, ?_⟩
  try simp -implicitDefEqProofs only [go_sem, ↓reduceIte, Nat.reduceAdd, Nat.reduceMul, Nat.reduceEqDiff, Nat.reduceLeDiff, reduceCtorEq]
  refine ⟨encV_one x, ⟨by simp, by simp [oneAll, AV.one, eo], by simp⟩, by simp [liftE_length]; omega, by decide +kernel, ?_⟩
  apply hK; clear hK K
  have w1 : IntKind.wrap .i64 ((k : Int) + 1) = ((k + 1 : Nat) : Int) := by rw [w64] <;> omega
  have e7 : liftE ((e.2.take k).map encV1) ++ [[AV.p (encV x)]] = liftE ((e.2.take (k + 1)).map encV1) := by
   rw [List.take_add_one, hx]
   simp [liftE, encV1]
  refine AW.rE (by rfl) fun K hK => ?_
  simp -implicitDefEqProofs only [go_sem, ↓reduceIte, Nat.reduceAdd, Nat.reduceEqDiff, w1]
  apply hK; clear hK K
  refine ⟨k + 1, by omega, by omega, ?_⟩
  refine Ghost.ent (fun l => if l = 5 then 16 else l) ?_ ?_ ?_ <;> simp -implicitDefEqProofs only [go_sem, ↓reduceIte, Nat.reduceEqDiff, e7, List.forall_mem_cons, List.not_mem_nil, false_implies, implies_true, and_self, map_renL_lift, labsIn_lift, List.all_cons, List.all_nil, Nat.reduceLT, labsInL, AV.labsIn]
 ·have hc2 : ((k : Int) < (e.2.length : Int)) = False := by simp; omega
  have hk' : k = e.2.length := by omega
  subst hk'
  refine AW.rT (by rfl) fun K hK => ?_
  simp -implicitDefEqProofs only [go_sem, ↓reduceIte, Nat.reduceAdd, Nat.reduceEqDiff, hc2]
  apply hK; clear hK K
  refine AW.seq ?_
  refine AW.cF rfl ?_
  refine AW.exit ?_
  simp only [andThen, inBlk, ↓reduceIte]
  refine AW.ghost (s' := mz t i e) (Ghost.trans (Ghost.freeze (lb := 5) (ps := (e.2.take e.2.length).map encV1) rfl (unlift_liftE _)) ?_) ?_
  ·simp only [mz]
   refine Ghost.sub ?_ ?_ <;> simp -implicitDefEqProofs only [go_sem, ↓reduceIte, Nat.reduceEqDiff, thaw, thaw1, Option.map_some, List.take_length, List.map_cons, List.map_nil, thaw_lift, List.forall_mem_cons, List.not_mem_nil, false_implies, implies_true, and_self, labsIn_lift, List.all_cons, List.all_nil, Nat.reduceLT, labsInL, AV.labsIn]
  simp only [mz]
  refine AW.dE mixed (by rfl) (by decide +kernel) fun K hK => ?_
  simp -implicitDefEqProofs only [go_sem, ↓reduceIte, Nat.reduceAdd, Nat.reduceMul, Nat.reduceEqDiff, Nat.reduceLeDiff, reduceCtorEq]
  refine ⟨⟨by simp, by simp [oneAll, AV.one, PV.one], by simp⟩, by simp [liftE_length]; omega, by decide +kernel, ?_⟩
  apply hK; clear hK K
  have w1 : IntKind.wrap .i64 ((i : Int) + 1) = ((i + 1 : Nat) : Int) := by rw [w64] <;> omega
  have e8 : liftE ((t.ents.take i).map encVn) ++ [[AV.p (.int .i64 e.1), .p (.slice (e.2.map encV1))]] = liftE ((t.ents.take (i + 1)).map encVn) := by
   rw [List.take_add_one, he]
   simp [liftE, encVn]
  refine AW.rE (by rfl) fun K hK => ?_
  simp -implicitDefEqProofs only [go_sem, ↓reduceIte, Nat.reduceAdd, Nat.reduceEqDiff, w1]
  apply hK; clear hK K
  refine ⟨i + 1, by omega, by omega, ?_⟩
  refine Ghost.ent (fun l => if l = 3 then 12 else l) ?_ ?_ ?_ <;> simp -implicitDefEqProofs only [go_sem, ↓reduceIte, Nat.reduceEqDiff, e8, List.forall_mem_cons, List.not_mem_nil, false_implies, implies_true, and_self, map_renL_lift, labsIn_lift, List.all_cons, List.all_nil, Nat.reduceLT, labsInL, AV.labsIn]
def ofV (t : Tr) : PV := if okT t = true then encV t else .cst .nilIface
theorem value_Of (t : Tr) (hlt : lensT t = true) : PFn Tryd.prog 114 [.agg (encTr t)] (.tuple [.agg [ofV t], .bool (okT t)]) := by
 have E1 := value_Check t hlt
 have E2 := value_made t hlt
 rw [encTr_eq] at E1 E2
 refine PFn.of Tryd.func114 rfl (by decide) Tryd.ntmps114 Tryd.results114 (Nat.le_of_ble_eq_true rfl) ?_
 simp only [argsT]
 refine AW.rT (by rfl) fun K hK => ?_
 simp -implicitDefEqProofs only [go_sem, Nat.reduceAdd, encTr_eq]
 apply hK; clear hK K
 refine AW.seq ?_
 cases hk : okT t with
 | false =>
  have eo : ofV t = .cst .nilIface := by rw [ofV, hk]; rfl
  rw [hk] at E1
  refine AW.rT (by rfl) fun K hK => ?_
  simp -implicitDefEqProofs only [go_sem, ↓reduceIte, Nat.reduceAdd, Nat.reduceEqDiff, Nat.reduceLeDiff, reduceCtorEq]
  refine ⟨.pure _, E1, ?_⟩
  try simp -implicitDefEqProofs only [go_sem, Nat.reduceAdd]
  apply hK; clear hK K
  refine AW.cond _ (by simp -implicitDefEqProofs only [go_sem]; rfl) (fun hc => ?_) (fun hc => ?_)
  ·refine AW.rT (by rfl) fun K hK => ?_
   simp -implicitDefEqProofs only [go_sem, ↓reduceIte, Nat.reduceAdd, Nat.reduceEqDiff, Nat.reduceLeDiff]
   apply hK; clear hK K
   refine AW.ret ?_
   simp -implicitDefEqProofs only [go_sem, ↓reduceIte, Nat.reduceEqDiff, Nat.reduceLeDiff, eo]
  ·simp at hc
 | true =>
  have eo : ofV t = encV t := by rw [ofV, hk]; rfl
  rw [hk] at E1
  refine AW.rT (by rfl) fun K hK => ?_
  simp -implicitDefEqProofs only [go_sem, ↓reduceIte, Nat.reduceAdd, Nat.reduceEqDiff, Nat.reduceLeDiff, reduceCtorEq]
  refine ⟨.pure _, E1, ?_⟩
  try simp -implicitDefEqProofs only [go_sem, Nat.reduceAdd]
  apply hK; clear hK K
  refine AW.cF rfl ?_
  refine AW.skip ?_
  simp only [andThen]
  refine AW.rT (by rfl) fun K hK => ?_
  simp -implicitDefEqProofs only [go_sem, ↓reduceIte, Nat.reduceAdd, Nat.reduceEqDiff, Nat.reduceLeDiff, reduceCtorEq]
  refine ⟨.pure _, E2, ?_⟩
  try simp -implicitDefEqProofs only [go_sem, ↓reduceIte, Nat.reduceAdd, Nat.reduceEqDiff, Nat.reduceLeDiff]
  refine ⟨encV_one t, ?_⟩
  apply hK; clear hK K
  refine AW.ret ?_
  simp -implicitDefEqProofs only [go_sem, ↓reduceIte, Nat.reduceEqDiff, Nat.reduceLeDiff, eo]
def ndV (t : Tr) : List PV := [.slice (t.ents.map encVn), .slice (t.rest.map encRaw)]
theorem node_Rest (t : Tr) (hl : t.rest.length ≤ 1000000) : PFn Tryd.prog 160 [.box (ndV t) 0] (.slice (t.rest.map encRaw)) := by
 refine PFn.of Tryd.func160 rfl (by decide) Tryd.ntmps160 Tryd.results160 (Nat.le_of_ble_eq_true rfl) ?_
 simp only [argsT, ndV]
 refine AW.rT (by rfl) fun K hK => ?_
 simp -implicitDefEqProofs only [go_sem]
 apply hK; clear hK K
 refine AW.rT (by rfl) fun K hK => ?_
 simp -implicitDefEqProofs only [go_sem, ↓reduceIte, Nat.reduceAdd, reduceCtorEq]
 refine ⟨.pure _, clone_Raws t.rest hl, ?_⟩
 try simp -implicitDefEqProofs only [go_sem, Nat.reduceAdd]
 apply hK; clear hK K
 refine AW.ret ?_
 simp -implicitDefEqProofs only [go_sem]
def px (t : Tr) (i : Nat) : St := ⟨ofL [(2, .ptr 1 0 0), (3, .ptr 2 0 0), (36, .p (.slice (t.ents.map encVn))), (37, .p (.int .i64 (t.ents.length : Int))), (38, .p (.int .i64 (i : Int)))],
 ofH [(1, .row 5 [[.p (.int .i64 0), .p (.int .i64 0), .p (.str []), .ex [], .ex []]]), (2, .row 5 [[.p (.int .i64 3), .p (.int .i64 0), .p (.str []), .own 3, .p (.slice (t.rest.map encRaw))]]), (3, .row 2 (liftE ((t.ents.take i).map encEn)))], 4⟩
def py (t : Tr) (i : Nat) (e : Int × List Tr) (k : Nat) : St := ⟨ofL [(2, .ptr 1 0 0), (3, .ptr 2 0 0), (36, .p (.slice (t.ents.map encVn))), (37, .p (.int .i64 (t.ents.length : Int))), (38, .p (.int .i64 (i : Int))), (9, .ptr 4 0 0), (46, .p (.slice (e.2.map encV1))), (47, .p (.int .i64 (e.2.length : Int))), (48, .p (.int .i64 (k : Int)))],
 ofH [(1, .row 5 [[.p (.int .i64 0), .p (.int .i64 0), .p (.str []), .ex [], .ex []]]), (2, .row 5 [[.p (.int .i64 3), .p (.int .i64 0), .p (.str []), .own 3, .p (.slice (t.rest.map encRaw))]]), (3, .row 2 (liftE ((t.ents.take i).map encEn))),
  (4, .row 2 [[.p (.int .i64 e.1), .own 5]]), (5, .row 5 (liftE ((e.2.take k).map encTr)))], 6⟩
def pz (t : Tr) (i : Nat) (e : Int × List Tr) : St := ⟨ofL [(2, .ptr 1 0 0), (3, .ptr 2 0 0), (36, .p (.slice (t.ents.map encVn))), (37, .p (.int .i64 (t.ents.length : Int))), (38, .p (.int .i64 (i : Int))), (9, .ptr 4 0 0)],
 ofH [(1, .row 5 [[.p (.int .i64 0), .p (.int .i64 0), .p (.str []), .ex [], .ex []]]), (2, .row 5 [[.p (.int .i64 3), .p (.int .i64 0), .p (.str []), .own 3, .p (.slice (t.rest.map encRaw))]]), (3, .row 2 (liftE ((t.ents.take i).map encEn))),
  (4, .row 2 [[.p (.int .i64 e.1), .p (.slice (e.2.map encTr))]])], 5⟩
def pw (t : Tr) : St := ⟨ofL [(2, .ptr 1 0 0), (3, .ptr 2 0 0)],
 ofH [(1, .row 5 [[.p (.int .i64 0), .p (.int .i64 0), .p (.str []), .ex [], .ex []]]), (2, .row 5 [[.p (.int .i64 3), .p (.int .i64 0), .p (.str []), .p (.slice (t.ents.map encEn)), .p (.slice (t.rest.map encRaw))]])], 3⟩
theorem value_Tree : ∀ (t : Tr), lensT t = true → rightT t = true → PFn Tryd.prog 156 [.agg [encV t]] (.agg (encTr t)) := by
 intro t
 induction h : SizeOf.sizeOf t using Nat.strongRecOn generalizing t with
 | _ sz ih =>
 subst h
 intro hlt hr
 obtain ⟨la1, la2, la3⟩ := lensT_mk hlt
 have eV := encV_eq t
 rcases right_kinds hr with ⟨hk, ht⟩ | ⟨hk, ht⟩ | ⟨hk, hn, hs, hre, _⟩
 ·have := value_Tree_leaf (.num t.n) (by intro cs h; cases h)
  rw [if_pos hk] at eV
  rw [eV]
  rw [leafT, ← ht] at this
  exact this
 ·have := value_Tree_leaf (.str t.s) (by intro cs h; cases h)
  rw [if_neg (by omega), if_pos hk] at eV
  rw [eV]
  rw [leafT, ← ht] at this
  exact this
 rw [if_neg (by omega), if_neg (by omega)] at eV
 have hre' := right_ents hre
 have R1 := node_Rest t (by omega)
 simp only [ndV] at R1
 rw [eV]
 refine PFn.of Tryd.func156 rfl (by decide) Tryd.ntmps156 Tryd.results156 (Nat.le_of_ble_eq_true rfl) ?_
 simp only [argsT]
 refine AW.rT (by rfl) fun K hK => ?_
 simp -implicitDefEqProofs only [go_sem, Nat.reduceAdd]
 apply hK; clear hK K
 refine AW.rT (by rfl) fun K hK => ?_
 simp -implicitDefEqProofs only [go_sem, ↓reduceIte, Nat.reduceAdd, Nat.reduceEqDiff, Nat.reduceLeDiff, reduceCtorEq]
 refine ⟨.pure _, value_Kind (.node (ndV t)), ?_⟩
 try simp -implicitDefEqProofs only [go_sem, ↓reduceIte, Nat.reduceAdd, Nat.reduceEqDiff, Nat.reduceLeDiff, kindIn]
 apply hK; clear hK K
 refine AW.seq ?_
 refine AW.rT (by rfl) fun K hK => ?_
 simp -implicitDefEqProofs only [go_sem, ↓reduceIte, Nat.reduceAdd, Nat.reduceEqDiff, reduceCtorEq]
 apply hK; clear hK K
 refine AW.block ?_
 refine AW.rT (by rfl) fun K hK => ?_
 simp -implicitDefEqProofs only [go_sem, ↓reduceIte, Nat.reduceAdd, Nat.reduceEqDiff]
 apply hK; clear hK K
 refine AW.cF rfl ?_
 refine AW.rT (by rfl) fun K hK => ?_
 simp -implicitDefEqProofs only [go_sem, ↓reduceIte, Nat.reduceAdd, Nat.reduceEqDiff]
 apply hK; clear hK K
 refine AW.cF rfl ?_
 refine AW.rT (by rfl) fun K hK => ?_
 simp -implicitDefEqProofs only [go_sem, ↓reduceIte, Nat.reduceAdd, Nat.reduceEqDiff]
 apply hK; clear hK K
 refine AW.cT rfl ?_
 refine AW.rT (by rfl) fun K hK => ?_
 simp -implicitDefEqProofs only [go_sem, Nat.reduceAdd]
 apply hK; clear hK K
 refine AW.rT (by rfl) fun K hK => ?_
 simp -implicitDefEqProofs only [go_sem, Nat.reduceAdd]
 refine ⟨.pure _, R1, ?_⟩
 try simp -implicitDefEqProofs only [go_sem, ↓reduceIte, Nat.reduceAdd, Nat.reduceEqDiff, Nat.reduceLeDiff]
 apply hK; clear hK K
 refine AW.rT (by rfl) fun K hK => ?_
 simp -implicitDefEqProofs only [go_sem, ↓reduceIte, Nat.reduceAdd, Nat.reduceEqDiff, List.length_map]
 apply hK; clear hK K
 refine AW.block ?_
 refine AW.loop (px t) (fun i => i ≤ t.ents.length) (fun i => t.ents.length - i) 0 ?_ (by simp) fun i hi => ?_
 ·refine Ghost.trans (Ghost.nilH (l := 5) (i := 0) (j := 3) (sz' := 2) rfl rfl rfl) ?_
  simp only [px]
  refine Ghost.ent (fun l => if l = 2 then 5 else if l = 3 then 29 else l) ?_ ?_ ?_ <;> simp -implicitDefEqProofs only [go_sem, ↓reduceIte, Nat.reduceEqDiff, List.take_zero, List.map_nil, liftE_nil, List.set_cons_zero, List.set_cons_succ, List.forall_mem_cons, List.not_mem_nil, false_implies, implies_true, and_self, List.all_cons, List.all_nil, Nat.reduceLT, labsInL, AV.labsIn]
  rfl
 simp only [px]
 by_cases hil : i < t.ents.length
 case neg =>
  have hc1 : ((i : Int) < (t.ents.length : Int)) = False := by simp; omega
  have hi' : i = t.ents.length := by omega
  subst hi'
  refine AW.rT (by rfl) fun K hK => ?_
  simp -implicitDefEqProofs only [go_sem, ↓reduceIte, Nat.reduceAdd, Nat.reduceEqDiff, hc1]
  apply hK; clear hK K
  refine AW.seq ?_
  refine AW.cF rfl ?_
  refine AW.exit ?_
  simp only [andThen, inBlk, ↓reduceIte]
  refine AW.ghost (s' := pw t) (Ghost.trans (Ghost.freeze (lb := 3) (ps := (t.ents.take t.ents.length).map encEn) rfl (unlift_liftE _)) ?_) ?_
  ·simp only [pw]
   refine Ghost.sub ?_ ?_ <;> simp -implicitDefEqProofs only [go_sem, ↓reduceIte, Nat.reduceEqDiff, thaw, thaw1, Option.map_some, List.take_length, List.map_cons, List.map_nil, List.forall_mem_cons, List.not_mem_nil, false_implies, implies_true, and_self, List.all_cons, List.all_nil, Nat.reduceLT, labsInL, AV.labsIn]
  simp only [pw]
  refine AW.rT (by rfl) fun K hK => ?_
  simp -implicitDefEqProofs only [go_sem, ↓reduceIte, Nat.reduceAdd, Nat.reduceEqDiff, Nat.reduceLeDiff]
  apply hK; clear hK K
  refine AW.ret ?_
  simp -implicitDefEqProofs only [go_sem, ↓reduceIte, Nat.reduceAdd, Nat.reduceEqDiff, Nat.reduceLeDiff, encTr_eq]
  rw [hk, hn, hs]
 obtain ⟨e, he⟩ : ∃ e, t.ents[i]? = some e := ⟨_, List.getElem?_eq_getElem hil⟩
 have ⟨he1, he2, he3⟩ := at_map' encVn he
 have ⟨le1, le2⟩ := lensE_at la3 he
 have hc1 : ((i : Int) < (t.ents.length : Int)) = True := by simp; omega
 refine AW.rT (by rfl) fun K hK => ?_
 simp -implicitDefEqProofs only [go_sem, ↓reduceIte, Nat.reduceAdd, Nat.reduceEqDiff, hc1]
 apply hK; clear hK K
 refine AW.seq ?_
 refine AW.cT rfl ?_
 refine AW.skip ?_
 simp only [andThen]
 refine AW.seq ?_
 refine AW.block ?_
 refine AW.rT (by rfl) fun K hK => ?_
 simp -implicitDefEqProofs only [go_sem, ↓reduceIte, Nat.reduceAdd, Nat.reduceEqDiff, Nat.reduceLeDiff, he1, he3, hc1, encVn, List.length_map]
 apply hK; clear hK K
 refine AW.rT (by rfl) fun K hK => ?_
 simp -implicitDefEqProofs only [go_sem, ↓reduceIte, Nat.reduceAdd, Nat.reduceEqDiff, Nat.reduceLeDiff]
 apply hK; clear hK K
 refine AW.seq ?_
 refine AW.rT (by rfl) fun K hK => ?_
 simp -implicitDefEqProofs only [go_sem, ↓reduceIte, Nat.reduceAdd, Nat.reduceEqDiff, List.length_map]
 apply hK; clear hK K
 refine AW.block ?_
 refine AW.loop (py t i e) (fun k => k ≤ e.2.length) (fun k => e.2.length - k) 0 ?_ (by simp) fun k hkk => ?_
 ·refine Ghost.trans (Ghost.nilH (l := 12) (i := 0) (j := 1) (sz' := 5) rfl rfl rfl) ?_
  simp only [py]
  refine Ghost.ent (fun l => if l = 4 then 12 else if l = 5 then 18 else l) ?_ ?_ ?_ <;> simp -implicitDefEqProofs only [go_sem, ↓reduceIte, Nat.reduceEqDiff, List.take_zero, List.map_nil, liftE_nil, List.set_cons_zero, List.set_cons_succ, List.forall_mem_cons, List.not_mem_nil, false_implies, implies_true, and_self, map_renL_lift, labsIn_lift, List.all_cons, List.all_nil, Nat.reduceLT, labsInL, AV.labsIn]
  rfl
 simp only [py]
 by_cases hkl : k < e.2.length
 ·obtain ⟨x, hx⟩ : ∃ x, e.2[k]? = some x := ⟨_, List.getElem?_eq_getElem hkl⟩
  have ⟨hx1, hx2, hx3⟩ := at_map' encV1 hx
  have hc2 : ((k : Int) < (e.2.length : Int)) = True := by simp; omega
  have IH := ih _ (size_ent he hx) x rfl (lensTs_at le2 hx) (hre' e (List.mem_of_getElem? he) x (List.mem_of_getElem? hx))
  rw [encTr_eq] at IH
  have eo := encV_one x
  refine AW.rT (by rfl) fun K hK => ?_
  simp -implicitDefEqProofs only [go_sem, ↓reduceIte, Nat.reduceAdd, Nat.reduceEqDiff, hc2]
  apply hK; clear hK K
  refine AW.seq ?_
  refine AW.cT rfl ?_
  refine AW.skip ?_
  simp only [andThen]
  refine AW.seq ?_
  refine AW.block ?_
  refine AW.rT (by rfl) fun K hK => ?_
  simp -implicitDefEqProofs only [go_sem, ↓reduceIte, Nat.reduceAdd, Nat.reduceEqDiff, Nat.reduceLeDiff, hc2, hx1, hx3, encV1, List.length_map]
  refine ⟨encV_one x, ?_⟩
  apply hK; clear hK K
  refine AW.dE mixed (by rfl) (by decide +kernel) fun K hK => ?_
  simp -implicitDefEqProofs only [go_sem, ↓reduceIte, Nat.reduceAdd, Nat.reduceEqDiff, Nat.reduceLeDiff]
  refine ⟨.pure _, IH, ?_⟩
  try simp -implicitDefEqProofs only [go_sem, ↓reduceIte, Nat.reduceAdd, Nat.reduceMul, Nat.reduceEqDiff, Nat.reduceLeDiff, reduceCtorEq]
  refine ⟨⟨by simp, by simp [oneAll, AV.one, PV.one], by simp⟩, by simp [liftE_length]; omega, by decide +kernel, ?_⟩
  apply hK; clear hK K
  have w1 : IntKind.wrap .i64 ((k : Int) + 1) = ((k + 1 : Nat) : Int) := by rw [w64] <;> omega
  have e7 : liftE ((e.2.take k).map encTr) ++ [[AV.p (.int .i64 x.kind), .p (.int .i64 x.n), .p (.str x.s), .p (.slice (x.ents.map encEn)), .p (.slice (x.rest.map encRaw))]] = liftE ((e.2.take (k + 1)).map encTr) := by
   rw [List.take_add_one, hx]
   simp [liftE, encTr_eq]
  refine AW.rE (by rfl) fun K hK => ?_
  simp -implicitDefEqProofs only [go_sem, ↓reduceIte, Nat.reduceAdd, Nat.reduceEqDiff, w1]
  apply hK; clear hK K
  refine ⟨k + 1, by omega, by omega, ?_⟩
  refine Ghost.ent (fun l => if l = 5 then 16 else l) ?_ ?_ ?_ <;> simp -implicitDefEqProofs only [go_sem, ↓reduceIte, Nat.reduceEqDiff, e7, List.forall_mem_cons, List.not_mem_nil, false_implies, implies_true, and_self, map_renL_lift, labsIn_lift, List.all_cons, List.all_nil, Nat.reduceLT, labsInL, AV.labsIn]
 ·have hc2 : ((k : Int) < (e.2.length : Int)) = False := by simp; omega
  have hk' : k = e.2.length := by omega
  subst hk'
  refine AW.rT (by rfl) fun K hK => ?_
  simp -implicitDefEqProofs only [go_sem, ↓reduceIte, Nat.reduceAdd, Nat.reduceEqDiff, hc2]
  apply hK; clear hK K
  refine AW.seq ?_
  refine AW.cF rfl ?_
  refine AW.exit ?_
  simp only [andThen, inBlk, ↓reduceIte]
  refine AW.ghost (s' := pz t i e) (Ghost.trans (Ghost.freeze (lb := 5) (ps := (e.2.take e.2.length).map encTr) rfl (unlift_liftE _)) ?_) ?_
  ·simp only [pz]
   refine Ghost.sub ?_ ?_ <;> simp -implicitDefEqProofs only [go_sem, ↓reduceIte, Nat.reduceEqDiff, thaw, thaw1, Option.map_some, List.take_length, List.map_cons, List.map_nil, thaw_lift, List.forall_mem_cons, List.not_mem_nil, false_implies, implies_true, and_self, labsIn_lift, List.all_cons, List.all_nil, Nat.reduceLT, labsInL, AV.labsIn]
  simp only [pz]
  refine AW.rE (by rfl) fun K hK => ?_
  simp -implicitDefEqProofs only [go_sem, ↓reduceIte, Nat.reduceAdd, Nat.reduceMul, Nat.reduceEqDiff, Nat.reduceLeDiff, reduceCtorEq]
  refine ⟨⟨by simp, by simp [oneAll, AV.one, PV.one], by simp⟩, by simp [liftE_length]; omega, ?_⟩
  apply hK; clear hK K
  simp only [andThen, inBlk]
  have w1 : IntKind.wrap .i64 ((i : Int) + 1) = ((i + 1 : Nat) : Int) := by rw [w64] <;> omega
  have e8 : liftE ((t.ents.take i).map encEn) ++ [[AV.p (.int .i64 e.1), .p (.slice (e.2.map encTr))]] = liftE ((t.ents.take (i + 1)).map encEn) := by
   rw [List.take_add_one, he]
   simp [liftE, encEn]
  refine AW.rE (by rfl) fun K hK => ?_
  simp -implicitDefEqProofs only [go_sem, ↓reduceIte, Nat.reduceAdd, Nat.reduceEqDiff, w1]
  apply hK; clear hK K
  refine ⟨i + 1, by omega, by omega, ?_⟩
  refine Ghost.ent (fun l => if l = 3 then 9 else l) ?_ ?_ ?_ <;> simp -implicitDefEqProofs only [go_sem, ↓reduceIte, Nat.reduceEqDiff, e8, List.forall_mem_cons, List.not_mem_nil, false_implies, implies_true, and_self, map_renL_lift, labsIn_lift, List.all_cons, List.all_nil, Nat.reduceLT, labsInL, AV.labsIn]
def getE (es : List (Int × List Tr)) (g : Int) : List Tr := match es.find? (fun e => e.1 == g) with | some e => e.2 | none => []
theorem find_at {es : List (Int × List Tr)} {i : Nat} {e : Int × List Tr} {g : Int} (h : es[i]? = some e) (ha : (es.take i).all (fun e => e.1 != g) = true) (hg : e.1 = g) : getE es g = e.2 := by
 have e0 : es = es.take i ++ (e :: es.drop (i + 1)) := by
  rw [← (List.getElem?_eq_some_iff.1 h).2, ← List.drop_eq_getElem_cons, List.take_append_drop]
 have : es.find? (fun e => e.1 == g) = some e := by
  rw [e0, List.find?_append, List.find?_eq_none.2 (by
   intro x hx
   have := List.all_eq_true.1 ha x hx
   simpa using this)]
  simp [hg]
 rw [getE, this]
theorem find_not {es : List (Int × List Tr)} {g : Int} (ha : es.all (fun e => e.1 != g) = true) : getE es g = [] := by
 have : es.find? (fun e => e.1 == g) = none := by
  rw [List.find?_eq_none]
  intro x hx
  have := List.all_eq_true.1 ha x hx
  simpa using this
 rw [getE, this]
def gg (t : Tr) (g : Int) (i : Nat) : St := ⟨ofL [(1, .p (.int .i64 g)), (10, .p (.slice (t.ents.map encVn))), (11, .p (.int .i64 (t.ents.length : Int))), (12, .p (.int .i64 (i : Int)))], ofH [], 0⟩
theorem node_Get (t : Tr) (hlt : lensT t = true) (g : Int) : PFn Tryd.prog 141 [.box (ndV t) 0, .int .i64 g] (.slice ((getE t.ents g).map encV1)) := by
 obtain ⟨la1, la2, la3⟩ := lensT_mk hlt
 refine PFn.of Tryd.func141 rfl (by decide) Tryd.ntmps141 Tryd.results141 (Nat.le_of_ble_eq_true rfl) ?_
 simp only [argsT, ndV]
 refine AW.rT (by rfl) fun K hK => ?_
 simp -implicitDefEqProofs only [go_sem]
 apply hK; clear hK K
 refine AW.seq ?_
 refine AW.rT (by rfl) fun K hK => ?_
 simp -implicitDefEqProofs only [go_sem, ↓reduceIte, Nat.reduceAdd, reduceCtorEq, List.length_map]
 apply hK; clear hK K
 refine AW.block ?_
 refine AW.loop (gg t g) (fun i => i ≤ t.ents.length ∧ (t.ents.take i).all (fun e => e.1 != g) = true) (fun i => t.ents.length - i) 0 ?_ (by simp) fun i hi => ?_
 ·simp only [gg]
  refine Ghost.sub ?_ ?_ <;> simp -implicitDefEqProofs only [go_sem, ↓reduceIte, Nat.reduceEqDiff, reduceCtorEq, List.forall_mem_cons, List.not_mem_nil, false_implies, implies_true, and_self, AV.labsIn]
  rfl
 obtain ⟨g1, g2⟩ := hi
 simp only [gg]
 by_cases hil : i < t.ents.length
 case neg =>
  have hc1 : ((i : Int) < (t.ents.length : Int)) = False := by simp; omega
  have hi' : i = t.ents.length := by omega
  subst hi'
  rw [List.take_length] at g2
  refine AW.rT (by rfl) fun K hK => ?_
  simp -implicitDefEqProofs only [go_sem, ↓reduceIte, Nat.reduceEqDiff, hc1]
  apply hK; clear hK K
  refine AW.seq ?_
  refine AW.cF rfl ?_
  refine AW.exit ?_
  simp only [andThen, inBlk, ↓reduceIte]
  refine AW.rT (by rfl) fun K hK => ?_
  simp -implicitDefEqProofs only [go_sem, Nat.reduceAdd]
  apply hK; clear hK K
  refine AW.ret ?_
  simp -implicitDefEqProofs only [go_sem]
  rw [find_not g2]
  rfl
 obtain ⟨e, he⟩ : ∃ e, t.ents[i]? = some e := ⟨_, List.getElem?_eq_getElem hil⟩
 have ⟨he1, he2, he3⟩ := at_map' encVn he
 have ⟨le1, le2⟩ := lensE_at la3 he
 have hc1 : ((i : Int) < (t.ents.length : Int)) = True := by simp; omega
 refine AW.rT (by rfl) fun K hK => ?_
 simp -implicitDefEqProofs only [go_sem, ↓reduceIte, Nat.reduceEqDiff, hc1]
 apply hK; clear hK K
 refine AW.seq ?_
 refine AW.cT rfl ?_
 refine AW.skip ?_
 simp only [andThen]
 refine AW.seq ?_
 refine AW.block ?_
 refine AW.rT (by rfl) fun K hK => ?_
 simp -implicitDefEqProofs only [go_sem, ↓reduceIte, Nat.reduceAdd, Nat.reduceEqDiff, Nat.reduceLeDiff, he1, he3, hc1, encVn, List.length_map]
 apply hK; clear hK K
 by_cases hg : e.1 = g
 ·have b1 : (e.1 == g) = true := by simpa using hg
  have GG := find_at he g2 hg
  refine AW.rT (by rfl) fun K hK => ?_
  simp -implicitDefEqProofs only [go_sem, ↓reduceIte, Nat.reduceAdd, Nat.reduceEqDiff, b1]
  apply hK; clear hK K
  refine AW.cT rfl ?_
  refine AW.rT (by rfl) fun K hK => ?_
  simp -implicitDefEqProofs only [go_sem, ↓reduceIte, Nat.reduceAdd, Nat.reduceEqDiff]
  refine ⟨.pure _, clone_Vals e.2 (by omega), ?_⟩
  try simp -implicitDefEqProofs only [go_sem, Nat.reduceAdd]
  apply hK; clear hK K
  refine AW.ret ?_
  simp -implicitDefEqProofs only [go_sem, GG]
 ·have b1 : (e.1 == g) = false := beqf hg
  refine AW.rT (by rfl) fun K hK => ?_
  simp -implicitDefEqProofs only [go_sem, ↓reduceIte, Nat.reduceAdd, Nat.reduceEqDiff, b1]
  apply hK; clear hK K
  refine AW.cF rfl ?_
  refine AW.skip ?_
  simp only [andThen, inBlk]
  have w1 : IntKind.wrap .i64 ((i : Int) + 1) = ((i + 1 : Nat) : Int) := by rw [w64] <;> omega
  refine AW.rE (by rfl) fun K hK => ?_
  simp -implicitDefEqProofs only [go_sem, ↓reduceIte, Nat.reduceAdd, Nat.reduceEqDiff, w1]
  apply hK; clear hK K
  refine ⟨i + 1, ⟨by omega, all_next he g2 (by simpa using hg)⟩, by omega, ?_⟩
  refine Ghost.sub ?_ ?_ <;> simp -implicitDefEqProofs only [go_sem, ↓reduceIte, Nat.reduceEqDiff, List.forall_mem_cons, List.not_mem_nil, false_implies, implies_true, and_self, AV.labsIn]
def inV (t : Tr) : In0 := if t.kind = 1 then .num t.n else if t.kind = 2 then .str t.s else .node (ndV t)
theorem encIn_inV (t : Tr) : encIn (inV t) = encV t := by
 rw [inV, encV_eq]
 split
 ·rfl
 ·split <;> rfl
end Go.Aw.T
namespace Go.Aw.T
open Go.Proofs
def keptJ : In0 → PV
 | .none => .cst .nilIface
 | .num n => .iface 3 (.int .i64 n)
 | .str _ => .cst .nilIface
 | .node cs => .iface 179 (.box cs 0)
theorem interp_kept (x : In0) : PFn Tryd.prog 157 [.agg [encIn x]] (keptJ x) := by
 have A1 := value_AsNum x
 have A2 := value_AsNode x
 refine PFn.of Tryd.func157 rfl (by decide) Tryd.ntmps157 Tryd.results157 (Nat.le_of_ble_eq_true rfl) ?_
 simp only [argsT]
 cases x with
 | num n =>
  simp only [encIn, asNum] at A1 ⊢
  refine AW.rT (by rfl) fun K hK => ?_
  simp -implicitDefEqProofs only [go_sem, Nat.reduceAdd]
  apply hK; clear hK K
  refine AW.seq ?_
  refine AW.rT (by rfl) fun K hK => ?_
  simp -implicitDefEqProofs only [go_sem, ↓reduceIte, Nat.reduceAdd, Nat.reduceEqDiff, Nat.reduceLeDiff]
  refine ⟨.pure _, A1, ?_⟩
  try simp -implicitDefEqProofs only [go_sem, ↓reduceIte, Nat.reduceAdd, Nat.reduceEqDiff]
  apply hK; clear hK K
  refine AW.rT (by rfl) fun K hK => ?_
  simp -implicitDefEqProofs only [go_sem, Nat.reduceAdd]
  apply hK; clear hK K
  refine AW.cT rfl ?_
  refine AW.rT (by rfl) fun K hK => ?_
  simp -implicitDefEqProofs only [go_sem, ↓reduceIte, Nat.reduceAdd, Nat.reduceEqDiff]
  apply hK; clear hK K
  refine AW.ret ?_
  simp -implicitDefEqProofs only [go_sem, keptJ]
 | node cs =>
  simp only [encIn, asNum, asNode] at A1 A2 ⊢
  refine AW.rT (by rfl) fun K hK => ?_
  simp -implicitDefEqProofs only [go_sem, Nat.reduceAdd]
  apply hK; clear hK K
  refine AW.seq ?_
  refine AW.rT (by rfl) fun K hK => ?_
  simp -implicitDefEqProofs only [go_sem, ↓reduceIte, Nat.reduceAdd, Nat.reduceEqDiff, Nat.reduceLeDiff]
  refine ⟨.pure _, A1, ?_⟩
  try simp -implicitDefEqProofs only [go_sem, ↓reduceIte, Nat.reduceAdd, Nat.reduceEqDiff]
  apply hK; clear hK K
  refine AW.rT (by rfl) fun K hK => ?_
  simp -implicitDefEqProofs only [go_sem, Nat.reduceAdd]
  apply hK; clear hK K
  refine AW.cF rfl ?_
  refine AW.skip ?_
  simp only [andThen]
  refine AW.seq ?_
  refine AW.rT (by rfl) fun K hK => ?_
  simp -implicitDefEqProofs only [go_sem, ↓reduceIte, Nat.reduceAdd, Nat.reduceEqDiff, Nat.reduceLeDiff]
  refine ⟨.pure _, A2, ?_⟩
  try simp -implicitDefEqProofs only [go_sem, ↓reduceIte, Nat.reduceAdd, Nat.reduceEqDiff]
  apply hK; clear hK K
  refine AW.rT (by rfl) fun K hK => ?_
  simp -implicitDefEqProofs only [go_sem, Nat.reduceAdd]
  apply hK; clear hK K
  refine AW.cT rfl ?_
  refine AW.rT (by rfl) fun K hK => ?_
  simp -implicitDefEqProofs only [go_sem, ↓reduceIte, Nat.reduceAdd, Nat.reduceEqDiff]
  apply hK; clear hK K
  refine AW.ret ?_
  simp -implicitDefEqProofs only [go_sem, keptJ]
 | none =>
  simp only [encIn, asNum, asNode] at A1 A2 ⊢
  refine AW.rT (by rfl) fun K hK => ?_
  simp -implicitDefEqProofs only [go_sem, Nat.reduceAdd]
  apply hK; clear hK K
  refine AW.seq ?_
  refine AW.rT (by rfl) fun K hK => ?_
  simp -implicitDefEqProofs only [go_sem, ↓reduceIte, Nat.reduceAdd, Nat.reduceEqDiff, Nat.reduceLeDiff]
  refine ⟨.pure _, A1, ?_⟩
  try simp -implicitDefEqProofs only [go_sem, ↓reduceIte, Nat.reduceAdd, Nat.reduceEqDiff]
  apply hK; clear hK K
  refine AW.rT (by rfl) fun K hK => ?_
  simp -implicitDefEqProofs only [go_sem, Nat.reduceAdd]
  apply hK; clear hK K
  refine AW.cF rfl ?_
  refine AW.skip ?_
  simp only [andThen]
  refine AW.seq ?_
  refine AW.rT (by rfl) fun K hK => ?_
  simp -implicitDefEqProofs only [go_sem, ↓reduceIte, Nat.reduceAdd, Nat.reduceEqDiff, Nat.reduceLeDiff]
  refine ⟨.pure _, A2, ?_⟩
  try simp -implicitDefEqProofs only [go_sem, ↓reduceIte, Nat.reduceAdd, Nat.reduceEqDiff]
  apply hK; clear hK K
  refine AW.rT (by rfl) fun K hK => ?_
  simp -implicitDefEqProofs only [go_sem, Nat.reduceAdd]
  apply hK; clear hK K
  refine AW.cF rfl ?_
  refine AW.skip ?_
  simp only [andThen]
  refine AW.rT (by rfl) fun K hK => ?_
  simp -implicitDefEqProofs only [go_sem, Nat.reduceAdd]
  apply hK; clear hK K
  refine AW.ret ?_
  simp -implicitDefEqProofs only [go_sem, keptJ]
 | str s =>
  simp only [encIn, asNum, asNode] at A1 A2 ⊢
  refine AW.rT (by rfl) fun K hK => ?_
  simp -implicitDefEqProofs only [go_sem, Nat.reduceAdd]
  apply hK; clear hK K
  refine AW.seq ?_
  refine AW.rT (by rfl) fun K hK => ?_
  simp -implicitDefEqProofs only [go_sem, ↓reduceIte, Nat.reduceAdd, Nat.reduceEqDiff, Nat.reduceLeDiff]
  refine ⟨.pure _, A1, ?_⟩
  try simp -implicitDefEqProofs only [go_sem, ↓reduceIte, Nat.reduceAdd, Nat.reduceEqDiff]
  apply hK; clear hK K
  refine AW.rT (by rfl) fun K hK => ?_
  simp -implicitDefEqProofs only [go_sem, Nat.reduceAdd]
  apply hK; clear hK K
  refine AW.cF rfl ?_
  refine AW.skip ?_
  simp only [andThen]
  refine AW.seq ?_
  refine AW.rT (by rfl) fun K hK => ?_
  simp -implicitDefEqProofs only [go_sem, ↓reduceIte, Nat.reduceAdd, Nat.reduceEqDiff, Nat.reduceLeDiff]
  refine ⟨.pure _, A2, ?_⟩
  try simp -implicitDefEqProofs only [go_sem, ↓reduceIte, Nat.reduceAdd, Nat.reduceEqDiff]
  apply hK; clear hK K
  refine AW.rT (by rfl) fun K hK => ?_
  simp -implicitDefEqProofs only [go_sem, Nat.reduceAdd]
  apply hK; clear hK K
  refine AW.cF rfl ?_
  refine AW.skip ?_
  simp only [andThen]
  refine AW.rT (by rfl) fun K hK => ?_
  simp -implicitDefEqProofs only [go_sem, Nat.reduceAdd]
  apply hK; clear hK K
  refine AW.ret ?_
  simp -implicitDefEqProofs only [go_sem, keptJ]
end Go.Aw.T
namespace Go.Aw.T
open Go.Proofs
theorem project_Clamp (n : Int) : PFn Tryd.prog 46 [.int .i64 n] (.int .i64 (clampV n)) := by
 refine PFn.of Tryd.func46 rfl (by decide) Tryd.ntmps46 Tryd.results46 (Nat.le_of_ble_eq_true rfl) ?_
 simp only [argsT]
 refine AW.rT (by rfl) fun K hK => ?_
 simp -implicitDefEqProofs only [go_sem]
 apply hK; clear hK K
 refine AW.rT (by rfl) fun K hK => ?_
 simp -implicitDefEqProofs only [go_sem, ↓reduceIte, Nat.reduceAdd, reduceCtorEq]
 try simp -implicitDefEqProofs only [go_sem, ↓reduceIte, Nat.reduceAdd, Nat.reduceMul, Nat.reduceEqDiff, Nat.reduceLeDiff, reduceCtorEq, Int.reduceToNat]
 apply hK; clear hK K
 refine AW.ret ?_
 simp -implicitDefEqProofs only [go_sem]
 congr 1
 unfold clampV
 repeat' split
 all_goals omega
end Go.Aw.T
namespace Go.Aw.T
open Go.Proofs Go.RowKit
def memR (P : List (List Stp)) (a : Int) : List (Nat × Blk) := [(0, .row 2 [[.p (.slice (P.map encPt)), .p (.int .i64 a)]])]
theorem mem_root {s : St} {args : List AV} {P : List (List Stp)} {a b : Int} (h : args[0]? = some (.ptr 0 0 0)) (hs : s.T 0 = some (.ptr 0 0 0)) : ∀ l ∈ ([0] : List Nat), l < 1 ∧ rootOK s args (memR P a) (memR P b) [0] (fun k => k) l := by
 intro k hk
 simp only [List.mem_singleton] at hk
 subst hk
 exact ⟨by decide, .inl ⟨0, 0, 0, 2, _, _, by simp, h, hs, rfl, rfl, rfl, by decide⟩⟩
def PartOK (P : List (List Stp)) (t : Tr) : Prop := ∀ (i : Nat) (a : Int), i < P.length → IntKind.wrap .i64 a = a → DFn Tryd.prog 115 [.ptr 0 0 0, .p (.int .i64 (i : Int)), .p (.box (ndV t) 0)] (memR P a) 1 [0] (.p (.agg (encTr (runF P t (i : Int))))) (memR P (IntKind.wrap .i64 (a + (lookF P t (i : Int) : Nat)))) 0
def lk1 (P : List (List Stp)) (s : Stp) (x : Tr) : Nat := if s.op = 3 ∨ s.op = 4 then lookF P x s.sub else 0
theorem sum_zero : ∀ (l : List Tr), (l.map fun _ => 0).sum = 0
 | [] => rfl
 | x :: l => by rw [List.map_cons, List.sum_cons, sum_zero l]
theorem lookS_yes {P : List (List Stp)} {s : Stp} {l : List Tr} (h : kindOK s l = true) : lookS P s l = ((lastL s l).map (lk1 P s)).sum := by
 unfold lookS
 by_cases h3 : s.op = 3 ∨ s.op = 4
 ·rw [if_pos ⟨h3, h⟩]
  congr 2
  funext x
  unfold lk1
  rw [if_pos h3]
 ·rw [if_neg (fun q => h3 q.1)]
  have : (fun x => lk1 P s x) = fun _ => 0 := by
   funext x
   unfold lk1
   rw [if_neg h3]
  rw [show lk1 P s = fun _ => 0 from this, sum_zero]
theorem lookS_no {P : List (List Stp)} {s : Stp} {l : List Tr} (h : kindOK s l = false) : lookS P s l = 0 := by
 unfold lookS
 rw [if_neg (by rw [h]; simp)]
theorem wrap_wrap (a : Int) : IntKind.wrap .i64 (IntKind.wrap .i64 a) = IntKind.wrap .i64 a := by
 have := wrap_more a 0
 simpa using this
theorem wrap_nat (a : Int) (n m : Nat) : IntKind.wrap .i64 (IntKind.wrap .i64 (a + (n : Int)) + (m : Int)) = IntKind.wrap .i64 (a + ((n + m : Nat) : Int)) := by
 rw [wrap_more]
 congr 1
 push_cast
 omega
def se (P : List (List Stp)) (r : List Tr) (b : Int) : St := ⟨ofL [(0, .ptr 0 0 0), (6, .p (.slice (r.map encTr)))], ofH [(0, .row 2 [[.p (.slice (P.map encPt)), .p (.int .i64 b)]])], 1⟩
theorem step_end {P : List (List Stp)} {args : List AV} {r : List Tr} {a b : Int} (h : args[0]? = some (.ptr 0 0 0)) : EndD Tryd.prog #[ResultVar.tmp 6] args (memR P a) 1 [0] (.p (.slice (r.map encTr))) (memR P b) 0 [0] .ret (se P r b) := by
 refine ⟨fun k => k, [.p (.slice (r.map encTr))], ⟨?_, trivial⟩, rfl, rfl, ?_, ?_, ?_⟩
 ·simp only [se]
  simp -implicitDefEqProofs only [go_sem, ↓reduceIte, reduceCtorEq]
  done
 ·simp only [memR, se]
  simp -implicitDefEqProofs only [go_sem, ↓reduceIte, List.forall_mem_cons, List.not_mem_nil, false_implies, implies_true]
  first | done | decide
 ·simp [memR]
 ·exact mem_root h rfl
def ys (s : Stp) (P : List (List Stp)) (b : Int) (L : List (Nat × AV)) (H : List (Nat × Blk)) (n : Nat) : St := ⟨ofL ((0, .ptr 0 0 0) :: (4, .ptr 1 0 0) :: L), ofH ((0, .row 2 [[.p (.slice (P.map encPt)), .p (.int .i64 b)]]) :: (1, .row 3 [[.p (.int .i64 s.op), .p (.int .i64 s.tag), .p (.int .i64 s.sub)]]) :: H), n⟩
def ysA (q : List Tr) (j : Nat) : List (Nat × AV) := [(7, .own 2), (24, .p (.slice (q.map encV1))), (25, .p (.int .i64 (q.length : Int))), (26, .p (.int .i64 (j : Int)))]
theorem interp_step (P : List (List Stp)) (s : Stp) (l : List Tr) (c : Int) (h1 : 1 ≤ s.op) (h4 : s.op ≤ 4) (hsub : s.op = 3 ∨ s.op = 4 → ∃ k : Nat, s.sub = (k : Int) ∧ k < P.length) (hl1 : 1 ≤ l.length) (hl : l.length ≤ 1000)
  (hx : ∀ x ∈ l, lensT x = true ∧ rightT x = true ∧ x.kind = c) (IH : ∀ x ∈ l, PartOK P x) (a : Int) (ha : IntKind.wrap .i64 a = a) :
  DFn Tryd.prog 142 [.ptr 0 0 0, .p (.agg (encSt s)), .p (.slice (l.map encV1))] (memR P a) 1 [0] (.p (.slice ((stepF P s l).map encTr))) (memR P (IntKind.wrap .i64 (a + (lookS P s l : Nat)))) 0 := by
 refine DFn.of [0] Tryd.func142 rfl (by decide) Tryd.ntmps142 Tryd.results142 (Nat.le_of_ble_eq_true rfl) (by simp) fun val => ?_
 simp only [avT, memR]
 refine AW.rT (by rfl) fun K hK => ?_
 simp -implicitDefEqProofs only [go_sem, ↓reduceIte, Nat.reduceAdd, encSt]
 apply hK; clear hK K
 refine AW.rT (by rfl) fun K hK => ?_
 simp -implicitDefEqProofs only [go_sem, Nat.reduceAdd]
 apply hK; clear hK K
 obtain ⟨sl1, sl2, sl3⟩ := lastL_len s l
 refine AW.cut (fun _ : Unit => ys s P a [(7, .ex []), (2, .p (.slice ((lastL s l).map encV1)))] [] 2) (fun _ => True) ?_ fun _ _ => ?_
 ·by_cases o4 : s.op = 4
  ·have b4 := eqb o4
   have e : lastL s l = l.drop (l.length - 1) := by unfold lastL; rw [if_pos o4]
   have ws : IntKind.wrap .i64 ((l.length : Int) - 1) = ((l.length - 1 : Nat) : Int) := by rw [w64] <;> omega
   rw [e]
   refine AW.rT (by rfl) fun K hK => ?_
   simp -implicitDefEqProofs only [go_sem, ↓reduceIte, Nat.reduceAdd, Nat.reduceEqDiff, b4]
   apply hK; clear hK K
   refine AW.cT rfl ?_
   refine AW.rE (by rfl) fun K hK => ?_
   simp -implicitDefEqProofs only [go_sem, ↓reduceIte, Nat.reduceAdd, Nat.reduceEqDiff, reduceCtorEq, ws, List.length_map]
   refine ⟨fun y hy => by
    obtain ⟨x, _, rfl⟩ := List.mem_map.1 hy
    rfl, by simp, ⟨by omega, by omega, by omega⟩, ?_⟩
   apply hK; clear hK K
   simp only [andThen]
   refine ⟨(), trivial, ?_⟩
   try simp only [ys]
   have tk : List.take l.length (l.map encV1) = l.map encV1 := List.take_of_length_le (by simp)
   refine Ghost.sub ?_ ?_ <;> simp -implicitDefEqProofs only [go_sem, ↓reduceIte, Nat.reduceEqDiff, reduceCtorEq, List.map_drop, tk, List.forall_mem_cons, List.not_mem_nil, false_implies, implies_true, and_self, List.all_cons, List.all_nil, Nat.reduceLT, labsInL, AV.labsIn]
   done
  ·have b4 := beqf o4
   have e : lastL s l = l := by unfold lastL; rw [if_neg o4]
   rw [e]
   refine AW.rT (by rfl) fun K hK => ?_
   simp -implicitDefEqProofs only [go_sem, ↓reduceIte, Nat.reduceAdd, Nat.reduceEqDiff, b4]
   apply hK; clear hK K
   refine AW.cF rfl ?_
   refine AW.skip ?_
   simp only [andThen]
   refine ⟨(), trivial, ?_⟩
   try simp only [ys]
   refine Ghost.sub ?_ ?_ <;> simp -implicitDefEqProofs only [go_sem, ↓reduceIte, Nat.reduceEqDiff, reduceCtorEq, List.forall_mem_cons, List.not_mem_nil, false_implies, implies_true, and_self, List.all_cons, List.all_nil, Nat.reduceLT, labsInL, AV.labsIn]
   done
 have qx : ∀ x ∈ lastL s l, lensT x = true ∧ rightT x = true ∧ x.kind = c ∧ PartOK P x := fun x h => ⟨(hx x (lastL_mem h)).1, (hx x (lastL_mem h)).2.1, (hx x (lastL_mem h)).2.2, IH x (lastL_mem h)⟩
 have LY := @lookS_yes P s l
 have LN := @lookS_no P s l
 have SF : stepF P s l = if kindOK s l = false then [] else if s.op = 4 ∧ ((lastL s l).map (run1F P s)).any (fun y => y.ents.isEmpty) = true then [] else (lastL s l).map (run1F P s) := rfl
 have KO : kindOK s l = if s.op = 2 then decide (c = 1) else if s.op = 3 ∨ s.op = 4 then decide (c = 3) else true := by
  have al : ∀ k : Int, l.all (fun t => decide (t.kind = k)) = decide (c = k) := fun k => by
   by_cases hk : c = k
   ·rw [decide_eq_true hk, List.all_eq_true]
    intro x h
    rw [(hx x h).2.2, decide_eq_true hk]
   ·rw [decide_eq_false hk, List.all_eq_false]
    obtain ⟨x, hxx⟩ : ∃ x, l[0]? = some x := ⟨_, List.getElem?_eq_getElem (by omega)⟩
    refine ⟨x, List.mem_of_getElem? hxx, ?_⟩
    rw [(hx x (List.mem_of_getElem? hxx)).2.2, decide_eq_false hk]
    simp
  unfold kindOK
  rw [al, al]
 generalize kindOK s l = ko at *
 generalize lookS P s l = lks at *
 generalize stepF P s l = sf at *
 generalize lastL s l = q at *
 have q1 := sl2 hl1
 simp only [ys]
 refine AW.seq ?_
 refine AW.rT (by rfl) fun K hK => ?_
 simp -implicitDefEqProofs only [go_sem, ↓reduceIte, Nat.reduceAdd, Nat.reduceEqDiff, reduceCtorEq, List.length_map]
 apply hK; clear hK K
 refine AW.block ?_
 refine AW.loop (fun j : Nat => ys s P (IntKind.wrap .i64 (a + (((q.take j).map (lk1 P s)).sum : Nat))) (ysA q j) [(2, .row 5 (liftE (((q.map (run1F P s)).take j).map encTr)))] 3) (fun j => j ≤ q.length ∧ (1 ≤ j → sf = q.map (run1F P s) ∧ ko = true)) (fun j => q.length - j) 0 ?_ (by simp) fun j hj => ?_
 ·refine Ghost.trans (Ghost.nil (t := 7) (sz := 5) rfl) ?_
  rw [show IntKind.wrap .i64 (a + ((((q.take 0).map (lk1 P s)).sum : Nat) : Int)) = a by simpa using ha]
  simp only [ys, ysA]
  refine Ghost.ent (fun l => if l = 2 then 5 else l) ?_ ?_ ?_ <;> simp -implicitDefEqProofs only [go_sem, ↓reduceIte, Nat.reduceEqDiff, reduceCtorEq, List.take_zero, List.map_nil, liftE_nil, List.forall_mem_cons, List.not_mem_nil, false_implies, implies_true, and_self, List.all_cons, List.all_nil, Nat.reduceLT, labsInL, AV.labsIn]
  all_goals first | rfl | skip
 obtain ⟨hj1, hj2⟩ := hj
 by_cases hjl : j < q.length
 case neg =>
  have hj' : j = q.length := by omega
  subst hj'
  obtain ⟨e1, e2⟩ := hj2 q1
  rw [LY e2, e1]
  rw [List.take_length, List.take_of_length_le (by simp)]
  generalize q.map (run1F P s) = ps
  generalize IntKind.wrap .i64 (a + (((q.map (lk1 P s)).sum : Nat) : Int)) = b
  have hc1 : ((q.length : Int) < (q.length : Int)) = False := eq_false (by omega)
  simp only [ys, ysA]
  refine AW.rT (by rfl) fun K hK => ?_
  simp -implicitDefEqProofs only [go_sem, ↓reduceIte, Nat.reduceAdd, Nat.reduceEqDiff, reduceCtorEq, hc1]
  apply hK; clear hK K
  refine AW.seq ?_
  refine AW.cF rfl ?_
  refine AW.exit ?_
  simp only [andThen, inBlk, ↓reduceIte]
  refine AW.ghost (s' := ys s P b [(7, .p (.slice (ps.map encTr)))] [] 2) (Ghost.trans (Ghost.freeze (lb := 2) (ps := ps.map encTr) rfl (unlift_liftE _)) ?_) ?_
  ·simp only [ys]
   refine Ghost.sub ?_ ?_ <;> simp -implicitDefEqProofs only [go_sem, ↓reduceIte, Nat.reduceEqDiff, reduceCtorEq, thaw, thaw1, Option.map_some, List.map_cons, List.map_nil, List.forall_mem_cons, List.not_mem_nil, false_implies, implies_true, and_self, List.all_cons, List.all_nil, Nat.reduceLT, labsInL, AV.labsIn]
   done
  simp only [ys]
  refine AW.rT (by rfl) fun K hK => ?_
  simp -implicitDefEqProofs only [go_sem, ↓reduceIte, Nat.reduceAdd, Nat.reduceEqDiff, reduceCtorEq]
  apply hK; clear hK K
  refine AW.ghost (s' := se P ps b) ?_ (AW.ret (step_end rfl))
  simp only [se]
  refine Ghost.sub ?_ ?_ <;> simp -implicitDefEqProofs only [go_sem, ↓reduceIte, reduceCtorEq, List.forall_mem_cons, List.not_mem_nil, false_implies, implies_true, and_self, List.all_cons, List.all_nil, Nat.reduceLT, labsInL, AV.labsIn]
  done
 obtain ⟨x, hxj⟩ : ∃ x, q[j]? = some x := ⟨_, List.getElem?_eq_getElem hjl⟩
 obtain ⟨x1, x2, x3, x4⟩ := qx x (List.mem_of_getElem? hxj)
 have ⟨hx1, hx2, hx3⟩ := at_map' encV1 hxj
 have hc1 : ((j : Int) < (q.length : Int)) = True := eq_true (by omega)
 have VT := value_Tree x x1 x2
 have KJ := interp_kept (inV x)
 rw [encIn_inV] at KJ
 rw [encTr_eq] at VT
 have w1 : IntKind.wrap .i64 ((j : Int) + 1) = ((j + 1 : Nat) : Int) := by rw [w64] <;> omega
 have BN : IntKind.wrap .i64 (a + ((((q.take (j + 1)).map (lk1 P s)).sum : Nat) : Int)) = IntKind.wrap .i64 (IntKind.wrap .i64 (a + ((((q.take j).map (lk1 P s)).sum : Nat) : Int)) + ((lk1 P s x : Nat) : Int)) := by
  rw [wrap_nat, List.take_add_one, hxj]
  simp
 have wb : IntKind.wrap .i64 (IntKind.wrap .i64 (a + ((((q.take j).map (lk1 P s)).sum : Nat) : Int))) = IntKind.wrap .i64 (a + ((((q.take j).map (lk1 P s)).sum : Nat) : Int)) := wrap_wrap _
 generalize hb : IntKind.wrap .i64 (a + ((((q.take j).map (lk1 P s)).sum : Nat) : Int)) = b at BN wb
 simp only [ys, ysA]
 refine AW.rT (by rfl) fun K hK => ?_
 simp -implicitDefEqProofs only [go_sem, ↓reduceIte, Nat.reduceAdd, Nat.reduceEqDiff, reduceCtorEq, hc1]
 apply hK; clear hK K
 refine AW.seq ?_
 refine AW.cT rfl ?_
 refine AW.skip ?_
 simp only [andThen]
 refine AW.seq ?_
 refine AW.block ?_
 refine AW.rT (by rfl) fun K hK => ?_
 simp -implicitDefEqProofs only [go_sem, ↓reduceIte, Nat.reduceAdd, Nat.reduceEqDiff, Nat.reduceLeDiff, reduceCtorEq, hc1, hx1, hx3, encV1, List.length_map]
 refine ⟨encV_one x, ?_⟩
 apply hK; clear hK K
 have eo := encV_one x
 refine AW.rT (by rfl) fun K hK => ?_
 simp -implicitDefEqProofs only [go_sem, Nat.reduceAdd, Nat.reduceLeDiff]
 refine ⟨.pure _, VT, ?_⟩
 try simp -implicitDefEqProofs only [go_sem, ↓reduceIte, Nat.reduceAdd, Nat.reduceEqDiff, Nat.reduceLeDiff]
 apply hK; clear hK K
 generalize hQs : ((q.map (run1F P s)).take j).map encTr = Qs at *
 refine AW.ghost (s' := ys s P b (ysA q j ++ [(9, .ptr 3 0 0), (10, .ptr 4 0 0)]) [(2, .row 5 (liftE Qs)), (3, .row 1 [[.p (encV x)]]), (4, .row 5 [cellsT x])] 5) ?_ ?_
 ·simp only [ys, ysA, cellsT, List.cons_append, List.nil_append]
  refine Ghost.ent (fun l => if l = 3 then 6 else if l = 4 then 10 else l) ?_ ?_ ?_ <;> simp -implicitDefEqProofs only [go_sem, ↓reduceIte, Nat.reduceEqDiff, reduceCtorEq, List.forall_mem_cons, List.not_mem_nil, false_implies, implies_true, and_self, map_renL_lift, labsIn_lift, List.all_cons, List.all_nil, Nat.reduceLT, labsInL, AV.labsIn]
  all_goals first | rfl | skip
 refine AW.cut (fun _ : Unit => ys s P (IntKind.wrap .i64 (a + ((((q.take (j + 1)).map (lk1 P s)).sum : Nat) : Int))) (ysA q j ++ [(10, .ptr 4 0 0)]) [(2, .row 5 (liftE Qs)), (4, .row 5 [cellsT (run1F P s x)])] 5) (fun _ => sf = q.map (run1F P s) ∧ ko = true) ?_ fun _ hfin => ?_
 ·rw [BN]
  simp only [ys, ysA, cellsT, List.cons_append, List.nil_append]
  by_cases o1 : s.op = 1
  ·have e2 := beqf (show s.op ≠ 2 by omega)
   have e3 := beqf (show s.op ≠ 3 by omega)
   have e4 := beqf (show s.op ≠ 4 by omega)
   have LK : lk1 P s x = 0 := by unfold lk1; rw [if_neg (by omega)]
   have R1 : run1F P s x = x := by unfold run1F; rw [if_neg (by omega), if_neg (by omega)]
   have KT : ko = true := by rw [KO, if_neg (by omega), if_neg (by omega)]
   rw [LK, R1, show IntKind.wrap .i64 (b + ((0 : Nat) : Int)) = b by simpa using wb]
   generalize keptJ (inV x) = r at KJ
   refine AW.rT (by rfl) fun K hK => ?_
   simp -implicitDefEqProofs only [go_sem, ↓reduceIte, Nat.reduceAdd, Nat.reduceEqDiff, Nat.reduceLeDiff, reduceCtorEq]
   refine ⟨.pure _, KJ, ?_⟩
   try simp -implicitDefEqProofs only [go_sem, Nat.reduceAdd]
   apply hK; clear hK K
   refine AW.rT (by rfl) fun K hK => ?_
   simp -implicitDefEqProofs only [go_sem, ↓reduceIte, Nat.reduceAdd, Nat.reduceEqDiff, reduceCtorEq]
   apply hK; clear hK K
   refine AW.block ?_
   refine AW.rT (by rfl) fun K hK => ?_
   simp -implicitDefEqProofs only [go_sem, ↓reduceIte, Nat.reduceAdd, e2]
   apply hK; clear hK K
   refine AW.cF rfl ?_
   refine AW.seq ?_
   refine AW.rT (by rfl) fun K hK => ?_
   simp -implicitDefEqProofs only [go_sem, ↓reduceIte, Nat.reduceAdd, Nat.reduceEqDiff, e3]
   apply hK; clear hK K
   refine AW.cF rfl ?_
   refine AW.rE (by rfl) fun K hK => ?_
   simp -implicitDefEqProofs only [go_sem, ↓reduceIte, Nat.reduceAdd, Nat.reduceEqDiff, e4]
   apply hK; clear hK K
   simp only [andThen]
   refine AW.cF rfl ?_
   refine AW.skip ?_
   simp only [andThen, inBlk]
   refine ⟨(), ⟨by rw [SF, KT, if_neg (by simp), if_neg (by omega)], KT⟩, ?_⟩
   refine Ghost.sub ?_ ?_ <;> simp -implicitDefEqProofs only [go_sem, ↓reduceIte, Nat.reduceEqDiff, reduceCtorEq, List.forall_mem_cons, List.not_mem_nil, false_implies, implies_true, and_self, labsIn_lift, List.all_cons, List.all_nil, Nat.reduceLT, labsInL, AV.labsIn]
   done
  have kinds : x.kind = 1 ∨ x.kind = 2 ∨ x.kind = 3 := by
   rcases right_kinds x2 with ⟨k, _⟩ | ⟨k, _⟩ | ⟨k, _⟩ <;> omega
  have KJ2 : x.kind = 2 → keptJ (inV x) = .cst .nilIface := fun k => by unfold inV; rw [if_neg (by omega), if_pos k]; rfl
  have KJ1 : x.kind = 1 → keptJ (inV x) = .iface 3 (.int .i64 x.n) := fun k => by unfold inV; rw [if_pos k]; rfl
  have KJ3 : x.kind = 3 → keptJ (inV x) = .iface 179 (.box (ndV x) 0) := fun k => by unfold inV; rw [if_neg (by omega), if_neg (by omega)]; rfl
  by_cases o2 : s.op = 2
  ·have e2 := eqb o2
   have LK : lk1 P s x = 0 := by unfold lk1; rw [if_neg (by omega)]
   rw [LK, show IntKind.wrap .i64 (b + ((0 : Nat) : Int)) = b by simpa using wb]
   by_cases k1 : x.kind = 1
   ·have R1 : run1F P s x = clampT x := by unfold run1F; rw [if_pos o2]
    have KT : ko = true := by rw [KO, if_pos o2, decide_eq_true (by omega)]
    rw [KJ1 k1] at KJ
    have CC := project_Clamp x.n
    rw [R1]
    refine AW.rT (by rfl) fun K hK => ?_
    simp -implicitDefEqProofs only [go_sem, ↓reduceIte, Nat.reduceAdd, Nat.reduceEqDiff, Nat.reduceLeDiff, reduceCtorEq]
    refine ⟨.pure _, KJ, ?_⟩
    try simp -implicitDefEqProofs only [go_sem, Nat.reduceAdd]
    apply hK; clear hK K
    refine AW.rT (by rfl) fun K hK => ?_
    simp -implicitDefEqProofs only [go_sem, ↓reduceIte, Nat.reduceAdd, Nat.reduceEqDiff, reduceCtorEq]
    apply hK; clear hK K
    refine AW.block ?_
    refine AW.rT (by rfl) fun K hK => ?_
    simp -implicitDefEqProofs only [go_sem, ↓reduceIte, Nat.reduceAdd, e2]
    apply hK; clear hK K
    refine AW.cT rfl ?_
    refine AW.rT (by rfl) fun K hK => ?_
    simp -implicitDefEqProofs only [go_sem, ↓reduceIte, Nat.reduceAdd, Nat.reduceEqDiff]
    apply hK; clear hK K
    refine AW.seq ?_
    refine AW.rT (by rfl) fun K hK => ?_
    simp -implicitDefEqProofs only [go_sem, Nat.reduceAdd]
    apply hK; clear hK K
    refine AW.cF rfl ?_
    refine AW.skip ?_
    simp only [andThen]
    refine AW.rE (by rfl) fun K hK => ?_
    simp -implicitDefEqProofs only [go_sem, ↓reduceIte, Nat.reduceAdd, Nat.reduceEqDiff]
    refine ⟨.pure _, CC, ?_⟩
    try simp -implicitDefEqProofs only [go_sem, ↓reduceIte, Nat.reduceAdd, Nat.reduceEqDiff, Nat.reduceLeDiff, reduceCtorEq]
    apply hK; clear hK K
    simp only [andThen, inBlk]
    refine ⟨(), ⟨by rw [SF, KT, if_neg (by simp), if_neg (by omega)], KT⟩, ?_⟩
    simp only [clampT, Tr.kind, Tr.n, Tr.s, Tr.ents, Tr.rest]
    refine Ghost.sub ?_ ?_ <;> simp -implicitDefEqProofs only [go_sem, ↓reduceIte, Nat.reduceEqDiff, reduceCtorEq, List.forall_mem_cons, List.not_mem_nil, false_implies, implies_true, and_self, labsIn_lift, List.all_cons, List.all_nil, Nat.reduceLT, labsInL, AV.labsIn]
    done
   ·have KT : ko = false := by rw [KO, if_pos o2, decide_eq_false (by omega)]
    have S0 : sf = [] := by rw [SF, if_pos KT]
    have j0 : j = 0 := by
     rcases Nat.eq_zero_or_pos j with h | h
     ·exact h
     ·have := (hj2 h).2
      rw [KT] at this
      cases this
    have BA : b = IntKind.wrap .i64 (a + (lks : Int)) := by
     rw [LN KT, ← hb, j0]
     simp
    rw [S0, ← BA]
    rcases (show x.kind = 2 ∨ x.kind = 3 by omega) with k | k
    ·rw [KJ2 k] at KJ
     refine AW.rT (by rfl) fun K hK => ?_
     simp -implicitDefEqProofs only [go_sem, ↓reduceIte, Nat.reduceAdd, Nat.reduceEqDiff, Nat.reduceLeDiff, reduceCtorEq]
     refine ⟨.pure _, KJ, ?_⟩
     try simp -implicitDefEqProofs only [go_sem, Nat.reduceAdd]
     apply hK; clear hK K
     refine AW.rT (by rfl) fun K hK => ?_
     simp -implicitDefEqProofs only [go_sem, ↓reduceIte, Nat.reduceAdd, Nat.reduceEqDiff, reduceCtorEq]
     apply hK; clear hK K
     refine AW.block ?_
     refine AW.rT (by rfl) fun K hK => ?_
     simp -implicitDefEqProofs only [go_sem, ↓reduceIte, Nat.reduceAdd, e2]
     apply hK; clear hK K
     refine AW.cT rfl ?_
     refine AW.rT (by rfl) fun K hK => ?_
     simp -implicitDefEqProofs only [go_sem, ↓reduceIte, Nat.reduceAdd, Nat.reduceEqDiff]
     apply hK; clear hK K
     refine AW.seq ?_
     refine AW.rT (by rfl) fun K hK => ?_
     simp -implicitDefEqProofs only [go_sem, Nat.reduceAdd]
     apply hK; clear hK K
     refine AW.cT rfl ?_
     refine AW.rT (by rfl) fun K hK => ?_
     simp -implicitDefEqProofs only [go_sem, Nat.reduceAdd]
     apply hK; clear hK K
     refine AW.ghost (s' := se P [] b) (Ghost.trans (Ghost.exP (t := 6) (es := []) rfl) ?_) (AW.ret (step_end rfl))
     simp only [se, List.map_nil]
     refine Ghost.sub ?_ ?_ <;> simp -implicitDefEqProofs only [go_sem, ↓reduceIte, reduceCtorEq, List.forall_mem_cons, List.not_mem_nil, false_implies, implies_true, and_self, List.all_cons, List.all_nil, Nat.reduceLT, labsInL, AV.labsIn]
     done
    ·rw [KJ3 k] at KJ
     refine AW.rT (by rfl) fun K hK => ?_
     simp -implicitDefEqProofs only [go_sem, ↓reduceIte, Nat.reduceAdd, Nat.reduceEqDiff, Nat.reduceLeDiff, reduceCtorEq]
     refine ⟨.pure _, KJ, ?_⟩
     try simp -implicitDefEqProofs only [go_sem, Nat.reduceAdd]
     apply hK; clear hK K
     refine AW.rT (by rfl) fun K hK => ?_
     simp -implicitDefEqProofs only [go_sem, ↓reduceIte, Nat.reduceAdd, Nat.reduceEqDiff, reduceCtorEq]
     apply hK; clear hK K
     refine AW.block ?_
     refine AW.rT (by rfl) fun K hK => ?_
     simp -implicitDefEqProofs only [go_sem, ↓reduceIte, Nat.reduceAdd, e2]
     apply hK; clear hK K
     refine AW.cT rfl ?_
     refine AW.rT (by rfl) fun K hK => ?_
     simp -implicitDefEqProofs only [go_sem, ↓reduceIte, Nat.reduceAdd, Nat.reduceEqDiff]
     apply hK; clear hK K
     refine AW.seq ?_
     refine AW.rT (by rfl) fun K hK => ?_
     simp -implicitDefEqProofs only [go_sem, Nat.reduceAdd]
     apply hK; clear hK K
     refine AW.cT rfl ?_
     refine AW.rT (by rfl) fun K hK => ?_
     simp -implicitDefEqProofs only [go_sem, Nat.reduceAdd]
     apply hK; clear hK K
     refine AW.ghost (s' := se P [] b) (Ghost.trans (Ghost.exP (t := 6) (es := []) rfl) ?_) (AW.ret (step_end rfl))
     simp only [se, List.map_nil]
     refine Ghost.sub ?_ ?_ <;> simp -implicitDefEqProofs only [go_sem, ↓reduceIte, reduceCtorEq, List.forall_mem_cons, List.not_mem_nil, false_implies, implies_true, and_self, List.all_cons, List.all_nil, Nat.reduceLT, labsInL, AV.labsIn]
     done
  have e2 := beqf o2
  have o34 : s.op = 3 ∨ s.op = 4 := by omega
  obtain ⟨k, hsk, hkl⟩ := hsub o34
  have LK : lk1 P s x = lookF P x (k : Int) := by unfold lk1; rw [if_pos o34, hsk]
  have R1 : run1F P s x = runF P x (k : Int) := by unfold run1F; rw [if_neg o2, if_pos o34, hsk]
  by_cases k3 : x.kind = 3
  ·have KT : ko = true := by rw [KO, if_neg o2, if_pos o34, decide_eq_true (by omega)]
   rw [KJ3 k3] at KJ
   have PT := x4 k b hkl wb
   rw [LK, R1]
   rw [LK] at BN
   generalize hz : runF P x (k : Int) = z at PT R1
   generalize lookF P x (k : Int) = n at PT BN LK
   rw [encTr_eq, ← hsk] at PT
   refine AW.rT (by rfl) fun K hK => ?_
   simp -implicitDefEqProofs only [go_sem, ↓reduceIte, Nat.reduceAdd, Nat.reduceEqDiff, Nat.reduceLeDiff, reduceCtorEq]
   refine ⟨.pure _, KJ, ?_⟩
   try simp -implicitDefEqProofs only [go_sem, Nat.reduceAdd]
   apply hK; clear hK K
   refine AW.rT (by rfl) fun K hK => ?_
   simp -implicitDefEqProofs only [go_sem, ↓reduceIte, Nat.reduceAdd, Nat.reduceEqDiff, reduceCtorEq]
   apply hK; clear hK K
   refine AW.block ?_
   refine AW.rT (by rfl) fun K hK => ?_
   simp -implicitDefEqProofs only [go_sem, ↓reduceIte, Nat.reduceAdd, e2]
   apply hK; clear hK K
   refine AW.cF rfl ?_
   refine AW.cut (fun _ : Unit => ys s P b (ysA q j ++ [(10, .ptr 4 0 0), (11, .p (.iface 179 (.box (ndV x) 0))), (48, .p (.bool true))]) [(2, .row 5 (liftE Qs)), (4, .row 5 [cellsT x])] 5) (fun _ => True) ?_ fun _ _ => ?_
   ·by_cases o3 : s.op = 3
    ·have e3 := eqb o3
     refine AW.rT (by rfl) fun K hK => ?_
     simp -implicitDefEqProofs only [go_sem, ↓reduceIte, Nat.reduceAdd, Nat.reduceEqDiff, e3]
     apply hK; clear hK K
     refine AW.cT rfl ?_
     refine AW.skip ?_
     simp only [andThen]
     refine ⟨(), trivial, ?_⟩
     simp only [ys, ysA, cellsT, List.cons_append, List.nil_append]
     refine Ghost.sub ?_ ?_ <;> simp -implicitDefEqProofs only [go_sem, ↓reduceIte, Nat.reduceEqDiff, reduceCtorEq, List.forall_mem_cons, List.not_mem_nil, false_implies, implies_true, and_self, labsIn_lift, List.all_cons, List.all_nil, Nat.reduceLT, labsInL, AV.labsIn]
     done
    ·have e3 := beqf o3
     have e4 := eqb (show s.op = 4 by omega)
     refine AW.rT (by rfl) fun K hK => ?_
     simp -implicitDefEqProofs only [go_sem, ↓reduceIte, Nat.reduceAdd, Nat.reduceEqDiff, e3]
     apply hK; clear hK K
     refine AW.cF rfl ?_
     refine AW.rE (by rfl) fun K hK => ?_
     simp -implicitDefEqProofs only [go_sem, ↓reduceIte, Nat.reduceAdd, Nat.reduceEqDiff, e4]
     apply hK; clear hK K
     simp only [andThen]
     refine ⟨(), trivial, ?_⟩
     simp only [ys, ysA, cellsT, List.cons_append, List.nil_append]
     refine Ghost.sub ?_ ?_ <;> simp -implicitDefEqProofs only [go_sem, ↓reduceIte, Nat.reduceEqDiff, reduceCtorEq, List.forall_mem_cons, List.not_mem_nil, false_implies, implies_true, and_self, labsIn_lift, List.all_cons, List.all_nil, Nat.reduceLT, labsInL, AV.labsIn]
     done
   simp only [ys, ysA, cellsT, List.cons_append, List.nil_append]
   refine AW.cT rfl ?_
   refine AW.rT (by rfl) fun K hK => ?_
   simp -implicitDefEqProofs only [go_sem, ↓reduceIte, Nat.reduceAdd, Nat.reduceEqDiff, reduceCtorEq]
   apply hK; clear hK K
   refine AW.seq ?_
   refine AW.rT (by rfl) fun K hK => ?_
   simp -implicitDefEqProofs only [go_sem, Nat.reduceAdd]
   apply hK; clear hK K
   refine AW.cF rfl ?_
   refine AW.skip ?_
   simp only [andThen]
   refine AW.rR (SeqR.ev 4 (by rfl) (by decide) ?_)
   simp -implicitDefEqProofs only [go_sem, ↓reduceIte, Nat.reduceAdd, Nat.reduceEqDiff, reduceCtorEq]
   refine SeqR.call (fun k => k) rfl rfl PT ⟨?_, rfl, ?_, rfl, rfl, rfl, rfl, rfl, rfl⟩ ?_
   ·simp -implicitDefEqProofs only [go_sem, ↓reduceIte, Nat.reduceEqDiff, argD]
   ·simp only [memR]
    simp -implicitDefEqProofs only [go_sem, ↓reduceIte, List.forall_mem_cons, List.not_mem_nil, false_implies, implies_true]
    first | done | decide
   simp only [memR, AV.ren]
   refine SeqR.ev 1 (by rfl) (by decide) ?_
   simp -implicitDefEqProofs only [go_sem, ↓reduceIte, Nat.reduceAdd, Nat.reduceEqDiff, Nat.reduceLeDiff, reduceCtorEq, lift2, goneU, newU, List.map_cons, List.map_nil, putH, Nat.reduceLT]
   refine SeqR.last rfl ?_
   refine AW.ghost (s' := ys s P (IntKind.wrap .i64 (b + (n : Int))) (ysA q j ++ [(10, .ptr 4 0 0)]) [(2, .row 5 (liftE Qs)), (4, .row 5 [cellsT z])] 5) ?_ ?_
   ·simp only [ys, ysA, cellsT, List.cons_append, List.nil_append]
    refine Ghost.sub ?_ ?_ <;> simp -implicitDefEqProofs only [go_sem, ↓reduceIte, Nat.reduceEqDiff, reduceCtorEq, List.forall_mem_cons, List.not_mem_nil, false_implies, implies_true, and_self, labsIn_lift, List.all_cons, List.all_nil, Nat.reduceLT, labsInL, AV.labsIn]
    done
   simp only [ys, ysA, cellsT, List.cons_append, List.nil_append]
   by_cases o4 : s.op = 4
   ·have e4 := eqb o4
    have ql := sl3 o4
    have j0 : j = 0 := by omega
    have qq : q = [x] := by
     have : q.length = 1 := by omega
     match q, this, hxj with
     | [y], _, hxj =>
      rw [j0] at hxj
      injection hxj with h
      rw [h]
    have AN : ((q.map (run1F P s)).any fun y => y.ents.isEmpty) = z.ents.isEmpty := by
     rw [qq, List.map_cons, List.map_nil, R1]
     simp
    have zl : ((z.ents.length : Int) == 0) = z.ents.isEmpty := by
     cases z.ents with
     | nil => rfl
     | cons y l => simp; omega
    rw [AN] at SF
    cases hem : z.ents.isEmpty with
    | true =>
     have S0 : sf = [] := by rw [SF, KT, if_neg (by simp), if_pos ⟨o4, hem⟩]
     have BA : IntKind.wrap .i64 (b + (n : Int)) = IntKind.wrap .i64 (a + (lks : Int)) := by
      rw [LY KT, ← BN, j0]
      rw [qq]
      rfl
     rw [S0, ← BA]
     rw [hem] at zl
     refine AW.rT (by rfl) fun K hK => ?_
     simp -implicitDefEqProofs only [go_sem, ↓reduceIte, Nat.reduceAdd, Nat.reduceEqDiff, reduceCtorEq, e4, List.length_map, zl]
     apply hK; clear hK K
     refine AW.cT rfl ?_
     refine AW.rT (by rfl) fun K hK => ?_
     simp -implicitDefEqProofs only [go_sem, Nat.reduceAdd]
     apply hK; clear hK K
     refine AW.ghost (s' := se P [] (IntKind.wrap .i64 (b + (n : Int)))) (Ghost.trans (Ghost.exP (t := 6) (es := []) rfl) ?_) (AW.ret (step_end rfl))
     simp only [se, List.map_nil]
     refine Ghost.sub ?_ ?_ <;> simp -implicitDefEqProofs only [go_sem, ↓reduceIte, reduceCtorEq, List.forall_mem_cons, List.not_mem_nil, false_implies, implies_true, and_self, List.all_cons, List.all_nil, Nat.reduceLT, labsInL, AV.labsIn]
     done
    | false =>
     rw [hem] at zl
     refine AW.rT (by rfl) fun K hK => ?_
     simp -implicitDefEqProofs only [go_sem, ↓reduceIte, Nat.reduceAdd, Nat.reduceEqDiff, reduceCtorEq, e4, List.length_map, zl]
     apply hK; clear hK K
     refine AW.cF rfl ?_
     refine AW.skip ?_
     simp only [andThen, inBlk]
     refine ⟨(), ⟨by rw [SF, KT, if_neg (by simp), if_neg (by simp [hem])], KT⟩, ?_⟩
     show Ghost _ _ (ys s P (IntKind.wrap .i64 (b + (n : Int))) (ysA q j ++ [(10, .ptr 4 0 0)]) [(2, .row 5 (liftE Qs)), (4, .row 5 [cellsT z])] 5)
     simp only [ys, ysA, cellsT, List.cons_append, List.nil_append]
     refine Ghost.sub ?_ ?_ <;> simp -implicitDefEqProofs only [go_sem, ↓reduceIte, Nat.reduceEqDiff, reduceCtorEq, List.forall_mem_cons, List.not_mem_nil, false_implies, implies_true, and_self, labsIn_lift, List.all_cons, List.all_nil, Nat.reduceLT, labsInL, AV.labsIn]
     done
   ·have e4 := beqf o4
    refine AW.rT (by rfl) fun K hK => ?_
    simp -implicitDefEqProofs only [go_sem, ↓reduceIte, Nat.reduceAdd, Nat.reduceEqDiff, reduceCtorEq, e4]
    apply hK; clear hK K
    refine AW.cF rfl ?_
    refine AW.skip ?_
    simp only [andThen, inBlk]
    refine ⟨(), ⟨by rw [SF, KT, if_neg (by simp), if_neg (by simp [o4])], KT⟩, ?_⟩
    show Ghost _ _ (ys s P (IntKind.wrap .i64 (b + (n : Int))) (ysA q j ++ [(10, .ptr 4 0 0)]) [(2, .row 5 (liftE Qs)), (4, .row 5 [cellsT z])] 5)
    simp only [ys, ysA, cellsT, List.cons_append, List.nil_append]
    refine Ghost.sub ?_ ?_ <;> simp -implicitDefEqProofs only [go_sem, ↓reduceIte, Nat.reduceEqDiff, reduceCtorEq, List.forall_mem_cons, List.not_mem_nil, false_implies, implies_true, and_self, labsIn_lift, List.all_cons, List.all_nil, Nat.reduceLT, labsInL, AV.labsIn]
    done
  ·have KT : ko = false := by rw [KO, if_neg o2, if_pos o34, decide_eq_false (by omega)]
   have S0 : sf = [] := by rw [SF, if_pos KT]
   have j0 : j = 0 := by
    rcases Nat.eq_zero_or_pos j with h | h
    ·exact h
    ·have := (hj2 h).2
     rw [KT] at this
     cases this
   have BA : b = IntKind.wrap .i64 (a + (lks : Int)) := by
    rw [LN KT, ← hb, j0]
    simp
   rw [S0, ← BA]
   rcases (show x.kind = 1 ∨ x.kind = 2 by omega) with k' | k'
   ·rw [KJ1 k'] at KJ
    refine AW.rT (by rfl) fun K hK => ?_
    simp -implicitDefEqProofs only [go_sem, ↓reduceIte, Nat.reduceAdd, Nat.reduceEqDiff, Nat.reduceLeDiff, reduceCtorEq]
    refine ⟨.pure _, KJ, ?_⟩
    try simp -implicitDefEqProofs only [go_sem, Nat.reduceAdd]
    apply hK; clear hK K
    refine AW.rT (by rfl) fun K hK => ?_
    simp -implicitDefEqProofs only [go_sem, ↓reduceIte, Nat.reduceAdd, Nat.reduceEqDiff, reduceCtorEq]
    apply hK; clear hK K
    refine AW.block ?_
    refine AW.rT (by rfl) fun K hK => ?_
    simp -implicitDefEqProofs only [go_sem, ↓reduceIte, Nat.reduceAdd, e2]
    apply hK; clear hK K
    refine AW.cF rfl ?_
    refine AW.cut (fun _ : Unit => ys s P b (ysA q j ++ [(11, .p (.iface 3 (.int .i64 x.n))), (48, .p (.bool true))]) [] 5) (fun _ => True) ?_ fun _ _ => ?_
    ·by_cases o3 : s.op = 3
     ·have e3 := eqb o3
      refine AW.rT (by rfl) fun K hK => ?_
      simp -implicitDefEqProofs only [go_sem, ↓reduceIte, Nat.reduceAdd, Nat.reduceEqDiff, e3]
      apply hK; clear hK K
      refine AW.cT rfl ?_
      refine AW.skip ?_
      simp only [andThen]
      refine ⟨(), trivial, ?_⟩
      simp only [ys, ysA, List.cons_append, List.nil_append]
      refine Ghost.sub ?_ ?_ <;> simp -implicitDefEqProofs only [go_sem, ↓reduceIte, Nat.reduceEqDiff, reduceCtorEq, List.forall_mem_cons, List.not_mem_nil, false_implies, implies_true, and_self, List.all_cons, List.all_nil, Nat.reduceLT, labsInL, AV.labsIn]
      done
     ·have e3 := beqf o3
      have e4 := eqb (show s.op = 4 by omega)
      refine AW.rT (by rfl) fun K hK => ?_
      simp -implicitDefEqProofs only [go_sem, ↓reduceIte, Nat.reduceAdd, Nat.reduceEqDiff, e3]
      apply hK; clear hK K
      refine AW.cF rfl ?_
      refine AW.rE (by rfl) fun K hK => ?_
      simp -implicitDefEqProofs only [go_sem, ↓reduceIte, Nat.reduceAdd, Nat.reduceEqDiff, e4]
      apply hK; clear hK K
      simp only [andThen]
      refine ⟨(), trivial, ?_⟩
      simp only [ys, ysA, List.cons_append, List.nil_append]
      refine Ghost.sub ?_ ?_ <;> simp -implicitDefEqProofs only [go_sem, ↓reduceIte, Nat.reduceEqDiff, reduceCtorEq, List.forall_mem_cons, List.not_mem_nil, false_implies, implies_true, and_self, List.all_cons, List.all_nil, Nat.reduceLT, labsInL, AV.labsIn]
      done
    simp only [ys, ysA, List.cons_append, List.nil_append]
    refine AW.cT rfl ?_
    refine AW.rT (by rfl) fun K hK => ?_
    simp -implicitDefEqProofs only [go_sem, ↓reduceIte, Nat.reduceAdd, Nat.reduceEqDiff, reduceCtorEq]
    apply hK; clear hK K
    refine AW.seq ?_
    refine AW.rT (by rfl) fun K hK => ?_
    simp -implicitDefEqProofs only [go_sem, Nat.reduceAdd]
    apply hK; clear hK K
    refine AW.cT rfl ?_
    refine AW.rT (by rfl) fun K hK => ?_
    simp -implicitDefEqProofs only [go_sem, Nat.reduceAdd]
    apply hK; clear hK K
    refine AW.ghost (s' := se P [] b) (Ghost.trans (Ghost.exP (t := 6) (es := []) rfl) ?_) (AW.ret (step_end rfl))
    simp only [se, List.map_nil]
    refine Ghost.sub ?_ ?_ <;> simp -implicitDefEqProofs only [go_sem, ↓reduceIte, reduceCtorEq, List.forall_mem_cons, List.not_mem_nil, false_implies, implies_true, and_self, List.all_cons, List.all_nil, Nat.reduceLT, labsInL, AV.labsIn]
    done
   ·rw [KJ2 k'] at KJ
    refine AW.rT (by rfl) fun K hK => ?_
    simp -implicitDefEqProofs only [go_sem, ↓reduceIte, Nat.reduceAdd, Nat.reduceEqDiff, Nat.reduceLeDiff, reduceCtorEq]
    refine ⟨.pure _, KJ, ?_⟩
    try simp -implicitDefEqProofs only [go_sem, Nat.reduceAdd]
    apply hK; clear hK K
    refine AW.rT (by rfl) fun K hK => ?_
    simp -implicitDefEqProofs only [go_sem, ↓reduceIte, Nat.reduceAdd, Nat.reduceEqDiff, reduceCtorEq]
    apply hK; clear hK K
    refine AW.block ?_
    refine AW.rT (by rfl) fun K hK => ?_
    simp -implicitDefEqProofs only [go_sem, ↓reduceIte, Nat.reduceAdd, e2]
    apply hK; clear hK K
    refine AW.cF rfl ?_
    refine AW.cut (fun _ : Unit => ys s P b (ysA q j ++ [(11, .p (.cst .nilIface)), (48, .p (.bool true))]) [] 5) (fun _ => True) ?_ fun _ _ => ?_
    ·by_cases o3 : s.op = 3
     ·have e3 := eqb o3
      refine AW.rT (by rfl) fun K hK => ?_
      simp -implicitDefEqProofs only [go_sem, ↓reduceIte, Nat.reduceAdd, Nat.reduceEqDiff, e3]
      apply hK; clear hK K
      refine AW.cT rfl ?_
      refine AW.skip ?_
      simp only [andThen]
      refine ⟨(), trivial, ?_⟩
      simp only [ys, ysA, List.cons_append, List.nil_append]
      refine Ghost.sub ?_ ?_ <;> simp -implicitDefEqProofs only [go_sem, ↓reduceIte, Nat.reduceEqDiff, reduceCtorEq, List.forall_mem_cons, List.not_mem_nil, false_implies, implies_true, and_self, List.all_cons, List.all_nil, Nat.reduceLT, labsInL, AV.labsIn]
      done
     ·have e3 := beqf o3
      have e4 := eqb (show s.op = 4 by omega)
      refine AW.rT (by rfl) fun K hK => ?_
      simp -implicitDefEqProofs only [go_sem, ↓reduceIte, Nat.reduceAdd, Nat.reduceEqDiff, e3]
      apply hK; clear hK K
      refine AW.cF rfl ?_
      refine AW.rE (by rfl) fun K hK => ?_
      simp -implicitDefEqProofs only [go_sem, ↓reduceIte, Nat.reduceAdd, Nat.reduceEqDiff, e4]
      apply hK; clear hK K
      simp only [andThen]
      refine ⟨(), trivial, ?_⟩
      simp only [ys, ysA, List.cons_append, List.nil_append]
      refine Ghost.sub ?_ ?_ <;> simp -implicitDefEqProofs only [go_sem, ↓reduceIte, Nat.reduceEqDiff, reduceCtorEq, List.forall_mem_cons, List.not_mem_nil, false_implies, implies_true, and_self, List.all_cons, List.all_nil, Nat.reduceLT, labsInL, AV.labsIn]
      done
    simp only [ys, ysA, List.cons_append, List.nil_append]
    refine AW.cT rfl ?_
    refine AW.rT (by rfl) fun K hK => ?_
    simp -implicitDefEqProofs only [go_sem, ↓reduceIte, Nat.reduceAdd, Nat.reduceEqDiff, reduceCtorEq]
    apply hK; clear hK K
    refine AW.seq ?_
    refine AW.rT (by rfl) fun K hK => ?_
    simp -implicitDefEqProofs only [go_sem, Nat.reduceAdd]
    apply hK; clear hK K
    refine AW.cT rfl ?_
    refine AW.rT (by rfl) fun K hK => ?_
    simp -implicitDefEqProofs only [go_sem, Nat.reduceAdd]
    apply hK; clear hK K
    refine AW.ghost (s' := se P [] b) (Ghost.trans (Ghost.exP (t := 6) (es := []) rfl) ?_) (AW.ret (step_end rfl))
    simp only [se, List.map_nil]
    refine Ghost.sub ?_ ?_ <;> simp -implicitDefEqProofs only [go_sem, ↓reduceIte, reduceCtorEq, List.forall_mem_cons, List.not_mem_nil, false_implies, implies_true, and_self, List.all_cons, List.all_nil, Nat.reduceLT, labsInL, AV.labsIn]
    done
 obtain ⟨hf1, hf2⟩ := hfin
 have e7 : liftE Qs ++ [cellsT (run1F P s x)] = liftE (((q.map (run1F P s)).take (j + 1)).map encTr) := by
  rw [List.take_add_one, map_at hxj, ← hQs]
  simp [liftE, encTr_eq, cellsT]
 have rlen : (liftE Qs).length ≤ j := by rw [liftE_length, ← hQs, List.length_map, List.length_take]; omega
 generalize run1F P s x = z at e7
 generalize hb' : IntKind.wrap .i64 (a + ((((q.take (j + 1)).map (lk1 P s)).sum : Nat) : Int)) = b' at *
 simp only [cellsT] at e7
 simp only [ys, ysA, cellsT, List.cons_append, List.nil_append]
 refine AW.rE (by rfl) fun K hK => ?_
 simp -implicitDefEqProofs only [go_sem, ↓reduceIte, Nat.reduceAdd, Nat.reduceMul, Nat.reduceEqDiff, Nat.reduceLeDiff, reduceCtorEq]
 refine ⟨⟨by simp, by simp [oneAll, AV.one, PV.one], by simp⟩, by omega, ?_⟩
 try simp -implicitDefEqProofs only [go_sem, ↓reduceIte, Nat.reduceAdd, Nat.reduceMul, Nat.reduceEqDiff, Nat.reduceLeDiff, reduceCtorEq, Int.reduceToNat]
 apply hK; clear hK K
 simp only [andThen, inBlk]
 refine AW.rE (by rfl) fun K hK => ?_
 simp -implicitDefEqProofs only [go_sem, ↓reduceIte, Nat.reduceAdd, Nat.reduceEqDiff, reduceCtorEq, w1]
 apply hK; clear hK K
 refine ⟨j + 1, ⟨by omega, fun _ => ⟨hf1, hf2⟩⟩, by omega, ?_⟩
 show Ghost _ _ (ys s P (IntKind.wrap .i64 (a + ((((q.take (j + 1)).map (lk1 P s)).sum : Nat) : Int))) (ysA q (j + 1)) [(2, .row 5 (liftE (((q.map (run1F P s)).take (j + 1)).map encTr)))] 3)
 rw [hb', ← e7]
 simp only [ys, ysA]
 refine Ghost.ent (fun l => if l = 2 then 8 else l) ?_ ?_ ?_ <;> simp -implicitDefEqProofs only [go_sem, ↓reduceIte, Nat.reduceEqDiff, reduceCtorEq, List.forall_mem_cons, List.not_mem_nil, false_implies, implies_true, and_self, map_renL_lift, labsIn_lift, List.all_append, List.all_cons, List.all_nil, List.map_append, Nat.reduceLT, labsInL, AV.labsIn]
 all_goals first | rfl | skip
end Go.Aw.T
namespace Go.Aw.T
open Go.Proofs Go.RowKit
theorem lookS_nil (P : List (List Stp)) (s : Stp) : lookS P s [] = 0 := by
 unfold lookS lastL
 split
 ·split <;> rfl
 ·rfl
theorem stepF_none (P : List (List Stp)) (s : Stp) : stepF P s [] = [] := by
 have h1 : kindOK s [] = true := by
  unfold kindOK
  split
  ·rfl
  ·split <;> rfl
 have h2 : lastL s ([] : List Tr) = [] := by
  unfold lastL
  split <;> rfl
 unfold stepF
 rw [h1, h2, if_neg (by simp), if_neg (by simp)]
 rfl
theorem rightTs_kind : ∀ {l : List Tr} {c : Int}, rightTs l c = true → ∀ x ∈ l, x.kind = c ∧ rightT x = true
 | [], c, _, x, hx => by cases hx
 | y :: l, c, h, x, hx => by
  rw [rightTs] at h
  split at h
  ·cases h
  rename_i h1
  split at h
  ·rename_i h2
   rcases List.mem_cons.1 hx with rfl | hx
   ·exact ⟨by simpa using h1, h2⟩
   ·exact rightTs_kind h x hx
  ·cases h
theorem rightE_in : ∀ {es : List (Int × List Tr)} {last : Int}, rightE es last = true → ∀ e ∈ es, 1 ≤ e.2.length ∧ e.2.length ≤ 64 ∧ ∀ x ∈ e.2, x.kind = headK e.2 ∧ rightT x = true
 | [], _, _, e, he => by cases he
 | (g, l) :: es, last, h, e, he => by
  rw [rightE] at h
  split at h
  ·cases h
  rename_i h1
  split at h
  ·rename_i h2
   rcases List.mem_cons.1 he with rfl | he
   ·exact ⟨by simp only; omega, by simp only; omega, rightTs_kind h2⟩
   ·exact rightE_in h e he
  ·cases h
theorem getE_G (es : List (Int × List Tr)) (g : Int) : getE es g = getG es g := by
 unfold getE getG
 cases es.find? (fun e => e.1 == g) <;> rfl
theorem prog_step {P : List (List Stp)} (h : progB P = true) {x : List Stp} (hx : x ∈ P) {s : Stp} (hs : s ∈ x) : 1 ≤ s.op ∧ s.op ≤ 4 ∧ (s.op = 3 ∨ s.op = 4 → ∃ k : Nat, s.sub = (k : Int) ∧ k < P.length) := by
 unfold progB at h
 rw [Bool.and_eq_true, List.all_eq_true] at h
 have q := h.2 x hx
 have go : ∀ (l : List Stp) (last : Int), partB P.length last l = true → s ∈ l → ∃ la, stOK P.length la s = true := by
  intro l
  induction l with
  | nil => intro _ _ hh; cases hh
  | cons y l ih =>
   intro last hp hm
   rw [partB, Bool.and_eq_true] at hp
   rcases List.mem_cons.1 hm with rfl | hm
   ·exact ⟨last, hp.1⟩
   ·exact ih _ hp.2 hm
 obtain ⟨la, hl⟩ := go x 0 q hs
 unfold stOK at hl
 simp only [Bool.and_eq_true, Bool.or_eq_true, decide_eq_true_eq, beq_iff_eq] at hl
 obtain ⟨_, hl⟩ := hl
 refine ⟨by omega, by omega, fun h34 => ?_⟩
 have : 0 ≤ s.sub ∧ s.sub < (P.length : Int) := by
  rcases hl with ⟨a, _⟩ | ⟨_, a⟩
  ·omega
  ·exact a
 exact ⟨s.sub.toNat, by omega, by omega⟩
theorem part_len {n : Nat} : ∀ {l : List Stp} {last : Int}, partB n last l = true → last ≤ 500 → last + l.length ≤ 500
 | [], last, _, h => by simpa using h
 | s :: l, last, hp, h => by
  rw [partB, Bool.and_eq_true] at hp
  have q := hp.1
  unfold stOK at q
  rw [Bool.and_eq_true, decide_eq_true_eq] at q
  have := part_len hp.2 (by omega)
  rw [List.length_cons]
  push_cast
  omega
theorem prog_len {P : List (List Stp)} (h : progB P = true) {x : List Stp} (hx : x ∈ P) : x.length ≤ 500 := by
 unfold progB at h
 rw [Bool.and_eq_true, List.all_eq_true] at h
 have := part_len (h.2 x hx) (by omega)
 omega
def outP (P : List (List Stp)) (t : Tr) (x : List Stp) (k : Nat) : List (Int × List Tr) := (x.take k).flatMap (entF P t.ents)
def sumP (P : List (List Stp)) (t : Tr) (x : List Stp) (k : Nat) : Nat := ((x.take k).map fun s => 1 + lookS P s (getG t.ents s.tag)).sum
theorem outP_at {P : List (List Stp)} {t : Tr} {x : List Stp} {k : Nat} {s : Stp} (h : x[k]? = some s) : outP P t x (k + 1) = outP P t x k ++ entF P t.ents s := by
 unfold outP
 rw [List.take_add_one, h, List.flatMap_append]
 simp
theorem sumP_at {P : List (List Stp)} {t : Tr} {x : List Stp} {k : Nat} {s : Stp} (h : x[k]? = some s) : sumP P t x (k + 1) = sumP P t x k + (1 + lookS P s (getG t.ents s.tag)) := by
 unfold sumP
 rw [List.take_add_one, h, List.map_append, List.sum_append]
 simp
theorem outP_len (P : List (List Stp)) (t : Tr) (x : List Stp) (k : Nat) : (outP P t x k).length ≤ k := by
 unfold outP
 have : ∀ l : List Stp, (l.flatMap (entF P t.ents)).length ≤ l.length := fun l => by
  induction l with
  | nil => simp
  | cons s l ih =>
   rw [List.flatMap_cons, List.length_append, List.length_cons]
   have : (entF P t.ents s).length ≤ 1 := by
    unfold entF
    split <;> simp
   omega
 have := this (x.take k)
 rw [List.length_take] at this
 omega
def ype (P : List (List Stp)) (r : Tr) (b : Int) : St := ⟨ofL [(0, .ptr 0 0 0), (6, .ptr 1 0 0)], ofH [(0, .row 2 [[.p (.slice (P.map encPt)), .p (.int .i64 b)]]), (1, .row 5 [cellsT r])], 2⟩
theorem part_end {P : List (List Stp)} {args : List AV} {r : Tr} {a b : Int} (h : args[0]? = some (.ptr 0 0 0)) : EndD Tryd.prog #[ResultVar.cell 6 39] args (memR P a) 1 [0] (.p (.agg (encTr r))) (memR P b) 0 [0] .ret (ype P r b) := by
 refine ⟨fun k => k, [.p (.agg (encTr r))], ⟨?_, trivial⟩, rfl, rfl, ?_, ?_, ?_⟩
 ·simp only [ype, cellsT, encTr_eq]
  simp -implicitDefEqProofs only [go_sem, ↓reduceIte, Nat.reduceAdd, Nat.reduceLeDiff, reduceCtorEq]
  done
 ·simp only [memR, ype]
  simp -implicitDefEqProofs only [go_sem, ↓reduceIte, List.forall_mem_cons, List.not_mem_nil, false_implies, implies_true]
  first | done | decide
 ·simp [memR]
 ·exact mem_root h rfl
def yp (P : List (List Stp)) (t : Tr) (x : List Stp) (k : Nat) (es : List (Int × List Tr)) (b : Int) (L : List (Nat × AV)) (H : List (Nat × Blk)) (n : Nat) : St :=
 ⟨ofL ((0, .ptr 0 0 0) :: (2, .p (.box (ndV t) 0)) :: (6, .ptr 1 0 0) :: (7, .ptr 2 0 0) :: (20, .p (.slice (x.map encSt))) :: (21, .p (.int .i64 (x.length : Int))) :: (22, .p (.int .i64 (k : Int))) :: L),
 ofH ((0, .row 2 [[.p (.slice (P.map encPt)), .p (.int .i64 b)]]) :: (1, .row 5 [[.p (.int .i64 0), .p (.int .i64 0), .p (.str []), .ex [], .ex []]]) :: (2, .row 5 [[.p (.int .i64 3), .p (.int .i64 0), .p (.str []), .own 3, .ex []]]) :: (3, .row 2 (liftE (es.map encEn))) :: H), n⟩
def ypw (P : List (List Stp)) (es : List (Int × List Tr)) (b : Int) : St := ⟨ofL [(0, .ptr 0 0 0), (6, .ptr 1 0 0), (7, .ptr 2 0 0)], ofH [(0, .row 2 [[.p (.slice (P.map encPt)), .p (.int .i64 b)]]), (1, .row 5 [[.p (.int .i64 0), .p (.int .i64 0), .p (.str []), .ex [], .ex []]]), (2, .row 5 [[.p (.int .i64 3), .p (.int .i64 0), .p (.str []), .p (.slice (es.map encEn)), .p (.slice [])]])], 3⟩
theorem interp_part (P : List (List Stp)) (hP : progB P = true) : ∀ (t : Tr), lensT t = true → rightT t = true → PartOK P t := by
 intro t
 induction h : SizeOf.sizeOf t using Nat.strongRecOn generalizing t with
 | _ sz ih =>
 subst h
 intro hlt hrt i a hi ha
 obtain ⟨x, hx⟩ : ∃ x, P[i]? = some x := ⟨_, List.getElem?_eq_getElem hi⟩
 have hxm := List.mem_of_getElem? hx
 have hPO : partO P (i : Int) = x := by
  unfold partO
  rw [Int.toNat_natCast, List.getD_eq_getElem?_getD, hx]
  rfl
 have RF : runF P t (i : Int) = .mk 3 0 [] (outP P t x x.length) [] := by
  rw [runF_eq, hPO]
  unfold outP
  rw [List.take_length]
 have LF : lookF P t (i : Int) = sumP P t x x.length := by
  rw [lookF_eq, hPO]
  unfold sumP
  rw [List.take_length]
 rw [RF, LF]
 have hre : rightE t.ents 0 = true := by
  rcases right_kinds hrt with ⟨_, q⟩ | ⟨_, q⟩ | ⟨_, _, _, q, _⟩
  ·rw [q]
   show rightE [] 0 = true
   rw [rightE]
  ·rw [q]
   show rightE [] 0 = true
   rw [rightE]
  ·exact q
 obtain ⟨la1, la2, la3⟩ := lensT_mk hlt
 have OL := outP_len P t x
 have x500 := prog_len hP hxm
 refine DFn.of [0] Tryd.func115 rfl (by decide) Tryd.ntmps115 Tryd.results115 (Nat.le_of_ble_eq_true rfl) (by simp) fun val => ?_
 simp only [avT, memR]
 have ⟨hx1, hx2, hx3⟩ := at_map' encPt hx
 refine AW.rT (by rfl) fun K hK => ?_
 simp -implicitDefEqProofs only [go_sem, Nat.reduceAdd]
 apply hK; clear hK K
 refine AW.rT (by rfl) fun K hK => ?_
 simp -implicitDefEqProofs only [go_sem, ↓reduceIte, Nat.reduceAdd, Nat.reduceEqDiff, Nat.reduceLeDiff]
 apply hK; clear hK K
 refine AW.seq ?_
 have hi' : (i : Int) < (P.length : Int) := by omega
 refine AW.rT (by rfl) fun K hK => ?_
 simp -implicitDefEqProofs only [go_sem, ↓reduceIte, Nat.reduceAdd, Nat.reduceEqDiff, reduceCtorEq, hx1, hi', hx3, encPt, List.length_map]
 apply hK; clear hK K
 refine AW.block ?_
 refine AW.loop (fun k : Nat => yp P t x k (outP P t x k) (IntKind.wrap .i64 (a + (sumP P t x k : Nat))) [] [] 4) (fun k => k ≤ x.length) (fun k => x.length - k) 0 ?_ (by simp) fun k hk => ?_
 ·refine Ghost.trans (Ghost.nilH (l := 3) (i := 0) (j := 3) (sz' := 2) rfl rfl rfl) ?_
  rw [show IntKind.wrap .i64 (a + ((sumP P t x 0 : Nat) : Int)) = a by unfold sumP; simpa using ha, show outP P t x 0 = [] from rfl]
  simp only [yp]
  refine Ghost.ent (fun l => if l = 2 then 3 else if l = 3 then 15 else l) ?_ ?_ ?_ <;> simp -implicitDefEqProofs only [go_sem, ↓reduceIte, Nat.reduceEqDiff, reduceCtorEq, List.map_nil, liftE_nil, List.set_cons_zero, List.set_cons_succ, List.forall_mem_cons, List.not_mem_nil, false_implies, implies_true, and_self, List.all_cons, List.all_nil, Nat.reduceLT, labsInL, AV.labsIn]
  all_goals first | rfl | skip
 by_cases hkl : k < x.length
 case neg =>
  have hk' : k = x.length := by omega
  subst hk'
  generalize outP P t x x.length = es
  generalize IntKind.wrap .i64 (a + ((sumP P t x x.length : Nat) : Int)) = b
  have hc1 : ((x.length : Int) < (x.length : Int)) = False := eq_false (by omega)
  simp only [yp]
  refine AW.rT (by rfl) fun K hK => ?_
  simp -implicitDefEqProofs only [go_sem, ↓reduceIte, Nat.reduceAdd, Nat.reduceEqDiff, reduceCtorEq, hc1]
  apply hK; clear hK K
  refine AW.seq ?_
  refine AW.cF rfl ?_
  refine AW.exit ?_
  simp only [andThen, inBlk, ↓reduceIte]
  refine AW.ghost (s' := ypw P es b) (Ghost.trans (Ghost.freeze (lb := 3) (ps := es.map encEn) rfl (unlift_liftE _)) (Ghost.trans (Ghost.exH (l := 2) (i := 0) (j := 4) rfl rfl rfl) ?_)) ?_
  ·simp only [ypw]
   refine Ghost.sub ?_ ?_ <;> simp -implicitDefEqProofs only [go_sem, ↓reduceIte, Nat.reduceEqDiff, reduceCtorEq, thaw, thaw1, Option.map_some, List.map_cons, List.map_nil, List.set_cons_zero, List.set_cons_succ, List.forall_mem_cons, List.not_mem_nil, false_implies, implies_true, and_self, List.all_cons, List.all_nil, Nat.reduceLT, labsInL, AV.labsIn]
   done
  simp only [ypw]
  refine AW.rT (by rfl) fun K hK => ?_
  simp -implicitDefEqProofs only [go_sem, ↓reduceIte, Nat.reduceAdd, Nat.reduceEqDiff, Nat.reduceLeDiff, reduceCtorEq, List.set_cons_zero]
  apply hK; clear hK K
  refine AW.ghost (s' := ype P (.mk 3 0 [] es []) b) ?_ (AW.ret (part_end rfl))
  simp only [ype, cellsT, Tr.kind, Tr.n, Tr.s, Tr.ents, Tr.rest, List.map_nil]
  refine Ghost.sub ?_ ?_ <;> simp -implicitDefEqProofs only [go_sem, ↓reduceIte, Nat.reduceEqDiff, reduceCtorEq, List.forall_mem_cons, List.not_mem_nil, false_implies, implies_true, and_self, List.all_cons, List.all_nil, Nat.reduceLT, labsInL, AV.labsIn]
  done
 obtain ⟨s, hs⟩ : ∃ s, x[k]? = some s := ⟨_, List.getElem?_eq_getElem hkl⟩
 have hsm := List.mem_of_getElem? hs
 have ⟨hs1, hs2, hs3⟩ := at_map' encSt hs
 have hc1 : ((k : Int) < (x.length : Int)) = True := eq_true (by omega)
 have w1 : IntKind.wrap .i64 ((k : Int) + 1) = ((k + 1 : Nat) : Int) := by rw [w64] <;> omega
 obtain ⟨p1, p2, p3⟩ := prog_step hP hxm hsm
 have OA := outP_at (P := P) (t := t) hs
 have OLk := OL k
 have BN : IntKind.wrap .i64 (a + ((sumP P t x (k + 1) : Nat) : Int)) = IntKind.wrap .i64 (IntKind.wrap .i64 (IntKind.wrap .i64 (a + ((sumP P t x k : Nat) : Int)) + 1) + ((lookS P s (getG t.ents s.tag) : Nat) : Int)) := by
  rw [sumP_at hs, show (1 : Int) = ((1 : Nat) : Int) from rfl, wrap_nat, wrap_nat]
 have GC := getG_cases t.ents s.tag
 have CG := node_Get t hlt s.tag
 rw [getE_G] at CG
 have EF : entF P t.ents s = if (stepF P s (getG t.ents s.tag)).isEmpty = true then [] else [(s.tag, stepF P s (getG t.ents s.tag))] := rfl
 have nextK : ∀ (s' : St) (es : List (Int × List Tr)) (b : Int), outP P t x (k + 1) = es → IntKind.wrap .i64 (a + ((sumP P t x (k + 1) : Nat) : Int)) = b → Ghost ⟨58, [0], val⟩ s' (yp P t x (k + 1) es b [] [] 4) → ∃ y : Nat, y ≤ x.length ∧ x.length - y < x.length - k ∧ Ghost ⟨58, [0], val⟩ s' (yp P t x y (outP P t x y) (IntKind.wrap .i64 (a + ((sumP P t x y : Nat) : Int))) [] [] 4) :=
  fun s' es b h1 h2 g => ⟨k + 1, by omega, by omega, by rw [h1, h2]; exact g⟩
 generalize hb : IntKind.wrap .i64 (a + ((sumP P t x k : Nat) : Int)) = b at BN
 generalize hes : outP P t x k = es at OA OLk
 simp only [yp]
 refine AW.rT (by rfl) fun K hK => ?_
 simp -implicitDefEqProofs only [go_sem, ↓reduceIte, Nat.reduceAdd, Nat.reduceEqDiff, reduceCtorEq, hc1]
 apply hK; clear hK K
 refine AW.seq ?_
 refine AW.cT rfl ?_
 refine AW.skip ?_
 simp only [andThen]
 refine AW.seq ?_
 refine AW.block ?_
 refine AW.rT (by rfl) fun K hK => ?_
 simp -implicitDefEqProofs only [go_sem, ↓reduceIte, Nat.reduceAdd, Nat.reduceEqDiff, Nat.reduceLeDiff, reduceCtorEq, hs1, hs3, hc1, encSt, List.length_map]
 apply hK; clear hK K
 refine AW.rT (by rfl) fun K hK => ?_
 simp -implicitDefEqProofs only [go_sem, ↓reduceIte, Nat.reduceAdd, Nat.reduceEqDiff, Nat.reduceLeDiff, reduceCtorEq, List.set_cons_zero]
 apply hK; clear hK K
 refine AW.rT (by rfl) fun K hK => ?_
 simp -implicitDefEqProofs only [go_sem, ↓reduceIte, Nat.reduceAdd, Nat.reduceEqDiff, reduceCtorEq]
 refine ⟨.pure _, CG, ?_⟩
 try simp -implicitDefEqProofs only [go_sem, Nat.reduceAdd]
 apply hK; clear hK K
 refine AW.ghost (s' := yp P t x k es (IntKind.wrap .i64 (b + 1)) [(9, .ptr 4 0 0), (10, .p (.slice ((getG t.ents s.tag).map encV1)))] [(4, .row 3 [[.p (.int .i64 s.op), .p (.int .i64 s.tag), .p (.int .i64 s.sub)]])] 5) ?_ ?_
 ·simp only [yp]
  refine Ghost.ent (fun l => if l = 4 then 7 else l) ?_ ?_ ?_ <;> simp -implicitDefEqProofs only [go_sem, ↓reduceIte, Nat.reduceEqDiff, reduceCtorEq, List.forall_mem_cons, List.not_mem_nil, false_implies, implies_true, and_self, map_renL_lift, labsIn_lift, List.all_cons, List.all_nil, Nat.reduceLT, labsInL, AV.labsIn]
  all_goals first | rfl | skip
 simp only [yp]
 refine AW.seq ?_
 rcases GC with GC | ⟨e, he, heg, GC⟩
 ·rw [GC] at BN EF ⊢
  rw [stepF_none, if_pos (show ([] : List Tr).isEmpty = true from rfl)] at EF
  rw [lookS_nil] at BN
  have BN' : IntKind.wrap .i64 (a + ((sumP P t x (k + 1) : Nat) : Int)) = IntKind.wrap .i64 (b + 1) := by
   rw [BN]
   simpa using wrap_wrap (b + 1)
  rw [EF, List.append_nil] at OA
  refine AW.rT (by rfl) fun K hK => ?_
  simp -implicitDefEqProofs only [go_sem, ↓reduceIte, Nat.reduceAdd, Nat.reduceEqDiff, reduceCtorEq]
  apply hK; clear hK K
  refine AW.cT rfl ?_
  refine AW.exit ?_
  simp only [andThen, inBlk, ↓reduceIte]
  refine AW.rE (by rfl) fun K hK => ?_
  simp -implicitDefEqProofs only [go_sem, ↓reduceIte, Nat.reduceAdd, Nat.reduceEqDiff, reduceCtorEq, w1]
  apply hK; clear hK K
  refine nextK _ _ _ OA BN' ?_
  simp only [yp]
  refine Ghost.sub ?_ ?_ <;> simp -implicitDefEqProofs only [go_sem, ↓reduceIte, Nat.reduceEqDiff, reduceCtorEq, List.forall_mem_cons, List.not_mem_nil, false_implies, implies_true, and_self, labsIn_lift, List.all_cons, List.all_nil, Nat.reduceLT, labsInL, AV.labsIn]
  done
 obtain ⟨r1, r2, r3⟩ := rightE_in hre e he
 have hem := List.getElem?_of_mem he
 obtain ⟨ei, hei⟩ := hem
 have ⟨le1, le2⟩ := lensE_at la3 hei
 have ST := interp_step P s e.2 (headK e.2) p1 p2 p3 r1 le1 (fun y hy => by
  obtain ⟨yj, hyj⟩ := List.getElem?_of_mem hy
  exact ⟨lensTs_at le2 hyj, (r3 y hy).2, (r3 y hy).1⟩) (fun y hy => by
  obtain ⟨yj, hyj⟩ := List.getElem?_of_mem hy
  exact ih _ (size_ent hei hyj) y rfl (lensTs_at le2 hyj) (r3 y hy).2) (IntKind.wrap .i64 (b + 1)) (wrap_wrap _)
 rw [GC] at BN EF ⊢
 have z0 : ((e.2.length : Int) == 0) = false := by
  rw [beq_eq_false_iff_ne]
  omega
 generalize stepF P s e.2 = sf at ST EF
 generalize lookS P s e.2 = lk at ST BN
 simp only [encSt] at ST
 refine AW.rT (by rfl) fun K hK => ?_
 simp -implicitDefEqProofs only [go_sem, ↓reduceIte, Nat.reduceAdd, Nat.reduceEqDiff, reduceCtorEq, z0, List.length_map]
 apply hK; clear hK K
 refine AW.cF rfl ?_
 refine AW.skip ?_
 simp only [andThen]
 refine AW.rR (SeqR.ev 3 (by rfl) (by decide) ?_)
 simp -implicitDefEqProofs only [go_sem, ↓reduceIte, Nat.reduceAdd, Nat.reduceEqDiff, Nat.reduceLeDiff, reduceCtorEq]
 refine SeqR.call (fun k => k) rfl rfl ST ⟨?_, rfl, ?_, rfl, rfl, rfl, rfl, rfl, rfl⟩ ?_
 ·simp -implicitDefEqProofs only [go_sem, ↓reduceIte, Nat.reduceEqDiff, argD]
 ·simp only [memR]
  simp -implicitDefEqProofs only [go_sem, ↓reduceIte, List.forall_mem_cons, List.not_mem_nil, false_implies, implies_true]
  first | done | decide
 simp only [memR, AV.ren]
 refine SeqR.ev 1 (by rfl) (by decide) ?_
 simp -implicitDefEqProofs only [go_sem, ↓reduceIte, Nat.reduceAdd, lift2, goneU, newU, List.map_cons, List.map_nil, putH, Nat.reduceLT]
 refine SeqR.last rfl ?_
 rw [← BN]
 generalize hb' : IntKind.wrap .i64 (a + ((sumP P t x (k + 1) : Nat) : Int)) = b' at *
 refine AW.ghost (s' := yp P t x k es b' [(9, .ptr 4 0 0), (11, .p (.slice (sf.map encTr)))] [(4, .row 3 [[.p (.int .i64 s.op), .p (.int .i64 s.tag), .p (.int .i64 s.sub)]])] 5) ?_ ?_
 ·simp only [yp]
  refine Ghost.sub ?_ ?_ <;> simp -implicitDefEqProofs only [go_sem, ↓reduceIte, Nat.reduceEqDiff, reduceCtorEq, List.forall_mem_cons, List.not_mem_nil, false_implies, implies_true, and_self, labsIn_lift, List.all_cons, List.all_nil, Nat.reduceLT, labsInL, AV.labsIn]
  done
 simp only [yp]
 by_cases h0 : sf = []
 ·subst h0
  rw [if_pos (show ([] : List Tr).isEmpty = true from rfl)] at EF
  rw [EF, List.append_nil] at OA
  refine AW.rT (by rfl) fun K hK => ?_
  simp -implicitDefEqProofs only [go_sem, ↓reduceIte, Nat.reduceAdd, Nat.reduceEqDiff, reduceCtorEq]
  apply hK; clear hK K
  refine AW.cF rfl ?_
  refine AW.skip ?_
  simp only [andThen, inBlk]
  refine AW.rE (by rfl) fun K hK => ?_
  simp -implicitDefEqProofs only [go_sem, ↓reduceIte, Nat.reduceAdd, Nat.reduceEqDiff, reduceCtorEq, w1]
  apply hK; clear hK K
  refine nextK _ _ _ OA rfl ?_
  simp only [yp]
  refine Ghost.sub ?_ ?_ <;> simp -implicitDefEqProofs only [go_sem, ↓reduceIte, Nat.reduceEqDiff, reduceCtorEq, List.forall_mem_cons, List.not_mem_nil, false_implies, implies_true, and_self, labsIn_lift, List.all_cons, List.all_nil, Nat.reduceLT, labsInL, AV.labsIn]
  done
 ·have hp := List.length_pos_iff.2 h0
  have g1 : ((sf.length : Int) > 0) = True := eq_true (by omega)
  rw [if_neg (by simp [h0])] at EF
  rw [EF] at OA
  have e8 : liftE (es.map encEn) ++ [[AV.p (.int .i64 s.tag), .p (.slice (sf.map encTr))]] = liftE ((es ++ [(s.tag, sf)]).map encEn) := by
   simp [liftE, encEn]
  refine AW.rT (by rfl) fun K hK => ?_
  simp -implicitDefEqProofs only [go_sem, ↓reduceIte, Nat.reduceAdd, Nat.reduceEqDiff, reduceCtorEq, g1, List.length_map]
  apply hK; clear hK K
  refine AW.cT rfl ?_
  refine AW.rE (by rfl) fun K hK => ?_
  simp -implicitDefEqProofs only [go_sem, ↓reduceIte, Nat.reduceAdd, Nat.reduceMul, Nat.reduceEqDiff, Nat.reduceLeDiff, reduceCtorEq]
  refine ⟨⟨by simp, by simp [oneAll, AV.one, PV.one], by simp⟩, by simp [liftE_length]; omega, ?_⟩
  try simp -implicitDefEqProofs only [go_sem, ↓reduceIte, Nat.reduceAdd, Nat.reduceMul, Nat.reduceEqDiff, Nat.reduceLeDiff, reduceCtorEq, Int.reduceToNat]
  apply hK; clear hK K
  simp only [andThen, inBlk]
  refine AW.rE (by rfl) fun K hK => ?_
  simp -implicitDefEqProofs only [go_sem, ↓reduceIte, Nat.reduceAdd, Nat.reduceEqDiff, reduceCtorEq, w1]
  apply hK; clear hK K
  refine nextK _ _ _ OA rfl ?_
  simp only [yp]
  rw [← e8]
  refine Ghost.ent (fun l => if l = 3 then 15 else l) ?_ ?_ ?_ <;> simp -implicitDefEqProofs only [go_sem, ↓reduceIte, Nat.reduceEqDiff, reduceCtorEq, List.forall_mem_cons, List.not_mem_nil, false_implies, implies_true, and_self, map_renL_lift, labsIn_lift, List.all_append, List.all_cons, List.all_nil, List.map_append, Nat.reduceLT, labsInL, AV.labsIn]
  all_goals first | rfl | skip
end Go.Aw.T
namespace Go.Aw
open Go.Proofs Go.RowKit
def stepB (s : Stp) (n : Int) : Bool := (decide (s.op = 1 ∨ s.op = 2) && (s.sub == 0)) || (decide (s.op = 3 ∨ s.op = 4) && decide (0 ≤ s.sub ∧ s.sub < n))
theorem adapt_step (s : Stp) (n : Int) : PFn Tryd.prog 139 [.agg (encSt s), .int .i64 n] (.bool (stepB s n)) := by
 refine PFn.of Tryd.func139 rfl (by decide) Tryd.ntmps139 Tryd.results139 (Nat.le_of_ble_eq_true rfl) ?_
 simp only [argsT, encSt]
 refine AW.rT (by rfl) fun K hK => ?_
 simp -implicitDefEqProofs only [go_sem, Nat.reduceAdd]
 apply hK; clear hK K
 refine AW.seq ?_
 refine AW.rT (by rfl) fun K hK => ?_
 simp -implicitDefEqProofs only [go_sem, ↓reduceIte, Nat.reduceAdd, Nat.reduceEqDiff]
 apply hK; clear hK K
 refine AW.block ?_
 refine AW.seq ?_
 by_cases h1 : s.op = 1
 ·have q1 : (s.op == 1) = true := by simp [h1]
  have e : stepB s n = (s.sub == 0) := by unfold stepB; simp [h1]
  refine AW.rT (by rfl) fun K hK => ?_
  simp -implicitDefEqProofs only [go_sem, ↓reduceIte, Nat.reduceAdd, q1]
  apply hK; clear hK K
  refine AW.cT rfl ?_
  refine AW.skip ?_
  simp only [andThen]
  refine AW.cT rfl ?_
  refine AW.rT (by rfl) fun K hK => ?_
  simp -implicitDefEqProofs only [go_sem, ↓reduceIte, Nat.reduceAdd, Nat.reduceEqDiff]
  apply hK; clear hK K
  refine AW.ret ?_
  simp -implicitDefEqProofs only [go_sem, e]
 have q1 : (s.op == 1) = false := beq_eq_false_iff_ne.2 h1
 by_cases h2 : s.op = 2
 ·have q2 : (s.op == 2) = true := by simp [h2]
  have e : stepB s n = (s.sub == 0) := by unfold stepB; simp [h2]
  refine AW.rT (by rfl) fun K hK => ?_
  simp -implicitDefEqProofs only [go_sem, ↓reduceIte, Nat.reduceAdd, q1]
  apply hK; clear hK K
  refine AW.cF rfl ?_
  refine AW.rE (by rfl) fun K hK => ?_
  simp -implicitDefEqProofs only [go_sem, ↓reduceIte, Nat.reduceAdd, Nat.reduceEqDiff, q2]
  apply hK; clear hK K
  simp only [andThen]
  refine AW.cT rfl ?_
  refine AW.rT (by rfl) fun K hK => ?_
  simp -implicitDefEqProofs only [go_sem, ↓reduceIte, Nat.reduceAdd, Nat.reduceEqDiff]
  apply hK; clear hK K
  refine AW.ret ?_
  simp -implicitDefEqProofs only [go_sem, e]
 have q2 : (s.op == 2) = false := beq_eq_false_iff_ne.2 h2
 refine AW.rT (by rfl) fun K hK => ?_
 simp -implicitDefEqProofs only [go_sem, ↓reduceIte, Nat.reduceAdd, q1]
 apply hK; clear hK K
 refine AW.cF rfl ?_
 refine AW.rE (by rfl) fun K hK => ?_
 simp -implicitDefEqProofs only [go_sem, ↓reduceIte, Nat.reduceAdd, Nat.reduceEqDiff, q2]
 apply hK; clear hK K
 simp only [andThen]
 refine AW.cF rfl ?_
 refine AW.seq ?_
 have g1 : ((0 : Int) ≤ s.sub) = (0 ≤ s.sub) := rfl
 have e34 : (s.op = 3 ∨ s.op = 4) → stepB s n = decide (0 ≤ s.sub ∧ s.sub < n) := fun h => by
  unfold stepB
  rw [show decide (s.op = 1 ∨ s.op = 2) = false from decide_eq_false (by omega), show decide (s.op = 3 ∨ s.op = 4) = true from decide_eq_true h]
  rfl
 by_cases h3 : s.op = 3
 ·have q3 : (s.op == 3) = true := by simp [h3]
  have e := e34 (.inl h3)
  refine AW.rT (by rfl) fun K hK => ?_
  simp -implicitDefEqProofs only [go_sem, ↓reduceIte, Nat.reduceAdd, Nat.reduceEqDiff, q3]
  apply hK; clear hK K
  refine AW.cT rfl ?_
  refine AW.skip ?_
  simp only [andThen]
  refine AW.cT rfl ?_
  by_cases hs : 0 ≤ s.sub
  ·by_cases hlt : s.sub < n
   ·have e' : stepB s n = true := by rw [e]; exact decide_eq_true ⟨hs, hlt⟩
    refine AW.rT (by rfl) fun K hK => ?_
    simp -implicitDefEqProofs only [go_sem, ↓reduceIte, Nat.reduceAdd, Nat.reduceEqDiff, hs, hlt]
    apply hK; clear hK K
    refine AW.ret ?_
    simp -implicitDefEqProofs only [go_sem, e']
   ·have e' : stepB s n = false := by rw [e]; exact decide_eq_false (by omega)
    refine AW.rT (by rfl) fun K hK => ?_
    simp -implicitDefEqProofs only [go_sem, ↓reduceIte, Nat.reduceAdd, Nat.reduceEqDiff, hs, hlt]
    apply hK; clear hK K
    refine AW.ret ?_
    simp -implicitDefEqProofs only [go_sem, e']
  ·have e' : stepB s n = false := by rw [e]; exact decide_eq_false (by omega)
   refine AW.rT (by rfl) fun K hK => ?_
   simp -implicitDefEqProofs only [go_sem, ↓reduceIte, Nat.reduceAdd, Nat.reduceEqDiff, hs]
   apply hK; clear hK K
   refine AW.ret ?_
   simp -implicitDefEqProofs only [go_sem, e']
 have q3 : (s.op == 3) = false := beq_eq_false_iff_ne.2 h3
 by_cases h4 : s.op = 4
 ·have q4 : (s.op == 4) = true := by simp [h4]
  have e := e34 (.inr h4)
  refine AW.rT (by rfl) fun K hK => ?_
  simp -implicitDefEqProofs only [go_sem, ↓reduceIte, Nat.reduceAdd, Nat.reduceEqDiff, q3]
  apply hK; clear hK K
  refine AW.cF rfl ?_
  refine AW.rE (by rfl) fun K hK => ?_
  simp -implicitDefEqProofs only [go_sem, ↓reduceIte, Nat.reduceAdd, Nat.reduceEqDiff, q4]
  apply hK; clear hK K
  simp only [andThen]
  refine AW.cT rfl ?_
  by_cases hs : 0 ≤ s.sub
  ·by_cases hlt : s.sub < n
   ·have e' : stepB s n = true := by rw [e]; exact decide_eq_true ⟨hs, hlt⟩
    refine AW.rT (by rfl) fun K hK => ?_
    simp -implicitDefEqProofs only [go_sem, ↓reduceIte, Nat.reduceAdd, Nat.reduceEqDiff, hs, hlt]
    apply hK; clear hK K
    refine AW.ret ?_
    simp -implicitDefEqProofs only [go_sem, e']
   ·have e' : stepB s n = false := by rw [e]; exact decide_eq_false (by omega)
    refine AW.rT (by rfl) fun K hK => ?_
    simp -implicitDefEqProofs only [go_sem, ↓reduceIte, Nat.reduceAdd, Nat.reduceEqDiff, hs, hlt]
    apply hK; clear hK K
    refine AW.ret ?_
    simp -implicitDefEqProofs only [go_sem, e']
  ·have e' : stepB s n = false := by rw [e]; exact decide_eq_false (by omega)
   refine AW.rT (by rfl) fun K hK => ?_
   simp -implicitDefEqProofs only [go_sem, ↓reduceIte, Nat.reduceAdd, Nat.reduceEqDiff, hs]
   apply hK; clear hK K
   refine AW.ret ?_
   simp -implicitDefEqProofs only [go_sem, e']
 have q4 : (s.op == 4) = false := beq_eq_false_iff_ne.2 h4
 have e : stepB s n = false := by
  unfold stepB
  rw [show decide (s.op = 1 ∨ s.op = 2) = false from decide_eq_false (by omega), show decide (s.op = 3 ∨ s.op = 4) = false from decide_eq_false (by omega)]
  rfl
 refine AW.rT (by rfl) fun K hK => ?_
 simp -implicitDefEqProofs only [go_sem, ↓reduceIte, Nat.reduceAdd, Nat.reduceEqDiff, q3]
 apply hK; clear hK K
 refine AW.cF rfl ?_
 refine AW.rE (by rfl) fun K hK => ?_
 simp -implicitDefEqProofs only [go_sem, ↓reduceIte, Nat.reduceAdd, Nat.reduceEqDiff, q4]
 apply hK; clear hK K
 simp only [andThen]
 refine AW.cF rfl ?_
 refine AW.skip ?_
 simp only [andThen, inBlk]
 refine AW.rT (by rfl) fun K hK => ?_
 simp -implicitDefEqProofs only [go_sem, Nat.reduceAdd]
 apply hK; clear hK K
 refine AW.ret ?_
 simp -implicitDefEqProofs only [go_sem, e]
def adS (p : List (List Stp)) (l : List (Nat × AV)) : St := ⟨ofL ((1, .ptr 0 0 0) :: (19, .p (.slice (p.map encPt))) :: (20, .p (.int .i64 (p.length : Int))) :: l), ofH [(0, .row 1 [[.p (.slice (p.map encPt))]])], 1⟩
theorem prog_no {p : List (List Stp)} {x : List Stp} (hx : x ∈ p) (h : partB p.length 0 x = false) : progB p = false := by
 unfold progB
 rw [List.all_eq_false.2 ⟨x, hx, by rw [h]; exact Bool.false_ne_true⟩, Bool.and_false]
theorem adapt_Check (p : List (List Stp)) : PFn Tryd.prog 113 [.agg [.slice (p.map encPt)]] (.bool (progB p)) := by
 refine PFn.of Tryd.func113 rfl (by decide) Tryd.ntmps113 Tryd.results113 (Nat.le_of_ble_eq_true rfl) ?_
 simp only [argsT]
 refine AW.rT (by rfl) fun K hK => ?_
 simp -implicitDefEqProofs only [go_sem, Nat.reduceAdd]
 apply hK; clear hK K
 refine AW.seq ?_
 by_cases hz : p.length < 1
 ·have z1 : ((p.length : Int) < 1) = True := eq_true (by omega)
  have e : progB p = false := by unfold progB; rw [decide_eq_false (by omega)]; rfl
  refine AW.rT (by rfl) fun K hK => ?_
  simp -implicitDefEqProofs only [go_sem, ↓reduceIte, Nat.reduceAdd, Nat.reduceEqDiff, z1, List.length_map]
  apply hK; clear hK K
  refine AW.cT rfl ?_
  refine AW.rT (by rfl) fun K hK => ?_
  simp -implicitDefEqProofs only [go_sem, Nat.reduceAdd]
  apply hK; clear hK K
  refine AW.ret ?_
  simp -implicitDefEqProofs only [go_sem, e]
 have z1 : ((p.length : Int) < 1) = False := eq_false (by omega)
 by_cases hb : p.length > 100
 ·have b1 : ((p.length : Int) > 100) = True := eq_true (by omega)
  have e : progB p = false := by unfold progB; rw [decide_eq_false (by omega)]; rfl
  refine AW.rT (by rfl) fun K hK => ?_
  simp -implicitDefEqProofs only [go_sem, ↓reduceIte, Nat.reduceAdd, Nat.reduceEqDiff, z1, b1, List.length_map]
  apply hK; clear hK K
  refine AW.cT rfl ?_
  refine AW.rT (by rfl) fun K hK => ?_
  simp -implicitDefEqProofs only [go_sem, Nat.reduceAdd]
  apply hK; clear hK K
  refine AW.ret ?_
  simp -implicitDefEqProofs only [go_sem, e]
 have b1 : ((p.length : Int) > 100) = False := eq_false (by omega)
 refine AW.rT (by rfl) fun K hK => ?_
 simp -implicitDefEqProofs only [go_sem, ↓reduceIte, Nat.reduceAdd, Nat.reduceEqDiff, z1, b1, List.length_map]
 apply hK; clear hK K
 refine AW.cF rfl ?_
 refine AW.skip ?_
 simp only [andThen]
 refine AW.cut (fun _ : Unit => ⟨ofL [], ofH [], 0⟩) (fun _ => p.all (partB p.length 0) = true) ?_ fun _ qa => ?_
 rotate_left
 ·have e : progB p = true := by unfold progB; rw [qa, decide_eq_true (by omega)]; rfl
  refine AW.rT (by rfl) fun K hK => ?_
  simp -implicitDefEqProofs only [go_sem]
  apply hK; clear hK K
  refine AW.ret ?_
  simp -implicitDefEqProofs only [go_sem, e]
 refine AW.rT (by rfl) fun K hK => ?_
 simp -implicitDefEqProofs only [go_sem, ↓reduceIte, Nat.reduceAdd, Nat.reduceEqDiff, List.length_map]
 apply hK; clear hK K
 refine AW.block ?_
 refine AW.loop (fun i : Nat => adS p [(21, .p (.int .i64 (i : Int)))]) (fun i => i ≤ p.length ∧ (p.take i).all (partB p.length 0) = true) (fun i => p.length - i) 0 ?_ ⟨by omega, by simp⟩ fun i hi => ?_
 ·simp only [adS]
  refine Ghost.sub ?_ ?_ <;> simp -implicitDefEqProofs only [go_sem, ↓reduceIte, Nat.reduceEqDiff, List.forall_mem_cons, List.not_mem_nil, false_implies, implies_true, and_self, List.all_cons, List.all_nil, Nat.reduceLT, labsInL, AV.labsIn]
  all_goals first | rfl | decide | skip
 obtain ⟨i1, i2⟩ := hi
 simp only [adS]
 by_cases hil : i < p.length
 case neg =>
  have c1 : ((i : Int) < (p.length : Int)) = False := eq_false (by omega)
  rw [List.take_of_length_le (by omega)] at i2
  refine AW.rT (by rfl) fun K hK => ?_
  simp -implicitDefEqProofs only [go_sem, ↓reduceIte, Nat.reduceAdd, Nat.reduceEqDiff, c1]
  apply hK; clear hK K
  refine AW.seq ?_
  refine AW.cF rfl ?_
  refine AW.exit ?_
  simp only [andThen, inBlk, ↓reduceIte]
  refine ⟨(), i2, ?_⟩
  show Ghost _ _ ⟨ofL [], ofH [], 0⟩
  refine Ghost.sub ?_ ?_ <;> simp -implicitDefEqProofs only [go_sem, List.not_mem_nil, false_implies, implies_true]
 have c1 : ((i : Int) < (p.length : Int)) = True := eq_true (by omega)
 obtain ⟨x, hx⟩ : ∃ x, p[i]? = some x := ⟨_, List.getElem?_eq_getElem hil⟩
 have hxm := List.mem_of_getElem? hx
 have ⟨hm1, hm2, hm3⟩ := at_map' encPt hx
 have hm2' : (i : Int) < (p.length : Int) := by omega
 have w1 : IntKind.wrap .i64 ((i : Int) + 1) = ((i + 1 : Nat) : Int) := by rw [w64] <;> omega
 refine AW.rT (by rfl) fun K hK => ?_
 simp -implicitDefEqProofs only [go_sem, ↓reduceIte, Nat.reduceAdd, Nat.reduceEqDiff, c1]
 apply hK; clear hK K
 refine AW.seq ?_
 refine AW.cT rfl ?_
 refine AW.skip ?_
 simp only [andThen]
 refine AW.seq ?_
 refine AW.block ?_
 refine AW.rT (by rfl) fun K hK => ?_
 simp -implicitDefEqProofs only [go_sem, ↓reduceIte, Nat.reduceAdd, Nat.reduceEqDiff, hm1, hm2', hm3, encPt, List.length_map]
 apply hK; clear hK K
 refine AW.rT (by rfl) fun K hK => ?_
 simp -implicitDefEqProofs only [go_sem, Nat.reduceAdd]
 apply hK; clear hK K
 refine AW.rT (by rfl) fun K hK => ?_
 simp -implicitDefEqProofs only [go_sem, ↓reduceIte, Nat.reduceAdd, Nat.reduceEqDiff, List.length_map]
 apply hK; clear hK K
 refine AW.block ?_
 refine AW.loop (fun j : Nat => adS p [(21, .p (.int .i64 (i : Int))), (25, .p (.slice (x.map encSt))), (26, .p (.int .i64 (x.length : Int))), (27, .p (.int .i64 (j : Int))), (5, .p (.int .i64 (if j = 0 then 0 else (x[j - 1]?.map Stp.tag).getD 0)))]) (fun j => j ≤ x.length ∧ (j : Int) ≤ (if j = 0 then 0 else (x[j - 1]?.map Stp.tag).getD 0) ∧ (if j = 0 then 0 else (x[j - 1]?.map Stp.tag).getD 0) ≤ 500 ∧ partB p.length 0 x = partB p.length (if j = 0 then 0 else (x[j - 1]?.map Stp.tag).getD 0) (x.drop j)) (fun j => x.length - j) 0 ?_ ⟨by omega, by simp, by simp, by simp⟩ fun j hj => ?_
 ·simp only [adS]
  refine Ghost.sub ?_ ?_ <;> simp -implicitDefEqProofs only [go_sem, ↓reduceIte, Nat.reduceEqDiff, List.forall_mem_cons, List.not_mem_nil, false_implies, implies_true, and_self, List.all_cons, List.all_nil, Nat.reduceLT, labsInL, AV.labsIn]
  all_goals first | rfl | decide | skip
 obtain ⟨j1, j2, j3, j4⟩ := hj
 simp only [adS]
 generalize hla : (if j = 0 then (0 : Int) else (x[j - 1]?.map Stp.tag).getD 0) = la at *
 by_cases hjl : j < x.length
 case neg =>
  have c2 : ((j : Int) < (x.length : Int)) = False := eq_false (by omega)
  rw [List.drop_of_length_le (by omega)] at j4
  refine AW.rT (by rfl) fun K hK => ?_
  simp -implicitDefEqProofs only [go_sem, ↓reduceIte, Nat.reduceAdd, Nat.reduceEqDiff, c2]
  apply hK; clear hK K
  refine AW.seq ?_
  refine AW.cF rfl ?_
  refine AW.exit ?_
  simp only [andThen, inBlk, ↓reduceIte]
  refine AW.rE (by rfl) fun K hK => ?_
  simp -implicitDefEqProofs only [go_sem, ↓reduceIte, Nat.reduceAdd, Nat.reduceEqDiff, w1]
  apply hK; clear hK K
  refine ⟨i + 1, ⟨by omega, all_next hx i2 j4⟩, by omega, ?_⟩
  refine Ghost.sub ?_ ?_ <;> simp -implicitDefEqProofs only [go_sem, ↓reduceIte, Nat.reduceEqDiff, List.forall_mem_cons, List.not_mem_nil, false_implies, implies_true, and_self, List.all_cons, List.all_nil, Nat.reduceLT, labsInL, AV.labsIn]
 have c2 : ((j : Int) < (x.length : Int)) = True := eq_true (by omega)
 obtain ⟨s, hs⟩ : ∃ s, x[j]? = some s := ⟨_, List.getElem?_eq_getElem hjl⟩
 have ⟨hs1, hs2, hs3⟩ := at_map' encSt hs
 have hs2' : (j : Int) < (x.length : Int) := by omega
 have w2 : IntKind.wrap .i64 ((j : Int) + 1) = ((j + 1 : Nat) : Int) := by rw [w64] <;> omega
 have dj : x.drop j = s :: x.drop (j + 1) := by
  rw [List.drop_eq_getElem_cons hjl]
  rw [List.getElem?_eq_getElem hjl, Option.some.injEq] at hs
  rw [hs]
 rw [dj] at j4
 have jp : partB p.length la (s :: x.drop (j + 1)) = (stOK p.length la s && partB p.length s.tag (x.drop (j + 1))) := rfl
 rw [jp] at j4
 have so : stOK p.length la s = (decide (la < s.tag ∧ s.tag ≤ 500) && stepB s (p.length : Int)) := rfl
 have ST := adapt_step s (p.length : Int)
 simp only [encSt] at ST
 refine AW.rT (by rfl) fun K hK => ?_
 simp -implicitDefEqProofs only [go_sem, ↓reduceIte, Nat.reduceAdd, Nat.reduceEqDiff, c2]
 apply hK; clear hK K
 refine AW.seq ?_
 refine AW.cT rfl ?_
 refine AW.skip ?_
 simp only [andThen]
 refine AW.seq ?_
 refine AW.block ?_
 refine AW.rT (by rfl) fun K hK => ?_
 simp -implicitDefEqProofs only [go_sem, ↓reduceIte, Nat.reduceAdd, Nat.reduceEqDiff, Nat.reduceLeDiff, hs1, hs2', hs3, encSt, List.length_map]
 apply hK; clear hK K
 refine AW.seq ?_
 by_cases t1 : s.tag ≤ la
 ·have f1 : (s.tag ≤ la) = True := eq_true t1
  have e : progB p = false := prog_no hxm (by rw [j4, so, decide_eq_false (by omega)]; rfl)
  refine AW.rT (by rfl) fun K hK => ?_
  simp -implicitDefEqProofs only [go_sem, ↓reduceIte, Nat.reduceAdd, Nat.reduceEqDiff, f1]
  apply hK; clear hK K
  refine AW.cT rfl ?_
  refine AW.rT (by rfl) fun K hK => ?_
  simp -implicitDefEqProofs only [go_sem, Nat.reduceAdd]
  apply hK; clear hK K
  refine AW.ret ?_
  simp -implicitDefEqProofs only [go_sem, e]
 have f1 : (s.tag ≤ la) = False := eq_false t1
 by_cases t2 : s.tag > 500
 ·have f2 : (s.tag > 500) = True := eq_true t2
  have e : progB p = false := prog_no hxm (by rw [j4, so, decide_eq_false (by omega)]; rfl)
  refine AW.rT (by rfl) fun K hK => ?_
  simp -implicitDefEqProofs only [go_sem, ↓reduceIte, Nat.reduceAdd, Nat.reduceEqDiff, f1, f2]
  apply hK; clear hK K
  refine AW.cT rfl ?_
  refine AW.rT (by rfl) fun K hK => ?_
  simp -implicitDefEqProofs only [go_sem, Nat.reduceAdd]
  apply hK; clear hK K
  refine AW.ret ?_
  simp -implicitDefEqProofs only [go_sem, e]
 have f2 : (s.tag > 500) = False := eq_false t2
 cases hb : stepB s (p.length : Int) with
 | false =>
  rw [hb] at ST
  have e : progB p = false := prog_no hxm (by rw [j4, so, hb, Bool.and_false]; rfl)
  refine AW.rT (by rfl) fun K hK => ?_
  simp -implicitDefEqProofs only [go_sem, ↓reduceIte, Nat.reduceAdd, Nat.reduceEqDiff, Nat.reduceLeDiff, reduceCtorEq, f1, f2, List.length_map]
  refine ⟨.pure _, ST, ?_⟩
  try simp -implicitDefEqProofs only [go_sem, ↓reduceIte, Nat.reduceAdd, Nat.reduceEqDiff]
  apply hK; clear hK K
  refine AW.cT rfl ?_
  refine AW.rT (by rfl) fun K hK => ?_
  simp -implicitDefEqProofs only [go_sem, Nat.reduceAdd]
  apply hK; clear hK K
  refine AW.ret ?_
  simp -implicitDefEqProofs only [go_sem, e]
 | true =>
 rw [hb] at ST
 refine AW.rT (by rfl) fun K hK => ?_
 simp -implicitDefEqProofs only [go_sem, ↓reduceIte, Nat.reduceAdd, Nat.reduceEqDiff, Nat.reduceLeDiff, reduceCtorEq, f1, f2, List.length_map]
 refine ⟨.pure _, ST, ?_⟩
 try simp -implicitDefEqProofs only [go_sem, ↓reduceIte, Nat.reduceAdd, Nat.reduceEqDiff]
 apply hK; clear hK K
 refine AW.cF rfl ?_
 refine AW.skip ?_
 simp only [andThen]
 refine AW.rE (by rfl) fun K hK => ?_
 simp -implicitDefEqProofs only [go_sem, ↓reduceIte, Nat.reduceAdd, Nat.reduceEqDiff]
 apply hK; clear hK K
 refine AW.rE (by rfl) fun K hK => ?_
 simp -implicitDefEqProofs only [go_sem, ↓reduceIte, Nat.reduceAdd, Nat.reduceEqDiff, w2]
 apply hK; clear hK K
 have en : (if j + 1 = 0 then (0 : Int) else (x[j + 1 - 1]?.map Stp.tag).getD 0) = s.tag := by
  rw [if_neg (by omega), Nat.add_sub_cancel, hs]
  rfl
 refine ⟨j + 1, ⟨by omega, by rw [en]; omega, by rw [en]; omega, by rw [en, j4, so, hb, decide_eq_true (by omega)]; rfl⟩, by omega, ?_⟩
 rw [en]
 refine Ghost.sub ?_ ?_ <;> simp -implicitDefEqProofs only [go_sem, ↓reduceIte, Nat.reduceEqDiff, reduceCtorEq, List.forall_mem_cons, List.not_mem_nil, false_implies, implies_true, and_self, List.all_cons, List.all_nil, Nat.reduceLT, labsInL, AV.labsIn]
end Go.Aw
namespace Go.Aw.T
open Go.Proofs Go.RowKit
theorem interp_start (P : List (List Stp)) (t : Tr) (hlt : lensT t = true) : PFn Tryd.prog 80 [.agg [.slice (P.map encPt)], .agg (encTr t)] (.tuple [.agg (encTr (runP P t).1), .int .i64 (IntKind.wrap .i64 ((lookP P t : Nat) : Int)), .int .i64 (runP P t).2]) := by
 have C1 := adapt_Check P
 have C2 := value_Of t hlt
 have zz : encTr zeroTr = [.int .i64 0, .int .i64 0, .str [], .slice [], .slice []] := by rw [encTr_eq]; rfl
 have bad : progB P = false ∨ t.kind ≠ 3 ∨ okT t = false → runP P t = (zeroTr, 1) ∧ lookP P t = 0 := fun h => by
  unfold runP lookP
  rw [if_pos h, if_pos h]
  exact ⟨rfl, rfl⟩
 have w0 : IntKind.wrap .i64 ((0 : Nat) : Int) = 0 := by decide
 rw [encTr_eq t] at C2
 refine PFn.of Tryd.func80 rfl (by decide) Tryd.ntmps80 Tryd.results80 (Nat.le_of_ble_eq_true rfl) ?_
 simp only [argsT]
 refine AW.rT (by rfl) fun K hK => ?_
 simp -implicitDefEqProofs only [go_sem, ↓reduceIte, Nat.reduceAdd, Nat.reduceEqDiff, encTr_eq t]
 apply hK; clear hK K
 refine AW.seq ?_
 cases hp : progB P with
 | false =>
  rw [hp] at C1
  obtain ⟨b1, b2⟩ := bad (.inl hp)
  rw [b1, b2]
  refine AW.rT (by rfl) fun K hK => ?_
  simp -implicitDefEqProofs only [go_sem, ↓reduceIte, Nat.reduceAdd, Nat.reduceEqDiff, Nat.reduceLeDiff, reduceCtorEq]
  refine ⟨.pure _, C1, ?_⟩
  try simp -implicitDefEqProofs only [go_sem, ↓reduceIte, Nat.reduceAdd, Nat.reduceEqDiff]
  apply hK; clear hK K
  refine AW.cT rfl ?_
  refine AW.rT (by rfl) fun K hK => ?_
  simp -implicitDefEqProofs only [go_sem, ↓reduceIte, Nat.reduceAdd, Nat.reduceEqDiff, Nat.reduceLeDiff]
  apply hK; clear hK K
  refine AW.ret ?_
  simp -implicitDefEqProofs only [go_sem, ↓reduceIte, Nat.reduceAdd, Nat.reduceEqDiff, Nat.reduceLeDiff, zz, w0]
  done
 | true =>
 rw [hp] at C1
 by_cases h3 : t.kind = 3
 case neg =>
  have e3 : (t.kind != 3) = true := by simpa using h3
  obtain ⟨b1, b2⟩ := bad (.inr (.inl h3))
  rw [b1, b2]
  refine AW.rT (by rfl) fun K hK => ?_
  simp -implicitDefEqProofs only [go_sem, ↓reduceIte, Nat.reduceAdd, Nat.reduceEqDiff, Nat.reduceLeDiff, reduceCtorEq]
  refine ⟨.pure _, C1, ?_⟩
  try simp -implicitDefEqProofs only [go_sem, ↓reduceIte, Nat.reduceAdd, Nat.reduceEqDiff, e3]
  apply hK; clear hK K
  refine AW.cT rfl ?_
  refine AW.rT (by rfl) fun K hK => ?_
  simp -implicitDefEqProofs only [go_sem, ↓reduceIte, Nat.reduceAdd, Nat.reduceEqDiff, Nat.reduceLeDiff]
  apply hK; clear hK K
  refine AW.ret ?_
  simp -implicitDefEqProofs only [go_sem, ↓reduceIte, Nat.reduceAdd, Nat.reduceEqDiff, Nat.reduceLeDiff, zz, w0]
  done
 have e3 : (t.kind != 3) = false := by simp [h3]
 refine AW.rT (by rfl) fun K hK => ?_
 simp -implicitDefEqProofs only [go_sem, ↓reduceIte, Nat.reduceAdd, Nat.reduceEqDiff, Nat.reduceLeDiff, reduceCtorEq]
 refine ⟨.pure _, C1, ?_⟩
 try simp -implicitDefEqProofs only [go_sem, ↓reduceIte, Nat.reduceAdd, Nat.reduceEqDiff, e3]
 apply hK; clear hK K
 refine AW.cF rfl ?_
 refine AW.skip ?_
 simp only [andThen]
 cases ho : okT t with
 | false =>
  rw [ho] at C2
  obtain ⟨b1, b2⟩ := bad (.inr (.inr ho))
  rw [b1, b2]
  have o1 : (ofV t).one = true := by unfold ofV; rw [ho]; rfl
  refine AW.rT (by rfl) fun K hK => ?_
  simp -implicitDefEqProofs only [go_sem, ↓reduceIte, Nat.reduceAdd, Nat.reduceEqDiff, Nat.reduceLeDiff]
  refine ⟨.pure _, C2, ?_⟩
  try simp -implicitDefEqProofs only [go_sem, ↓reduceIte, Nat.reduceAdd, Nat.reduceEqDiff, Nat.reduceLeDiff]
  try refine ⟨o1, ?_⟩
  apply hK; clear hK K
  refine AW.seq ?_
  refine AW.rT (by rfl) fun K hK => ?_
  simp -implicitDefEqProofs only [go_sem, Nat.reduceAdd]
  apply hK; clear hK K
  refine AW.cT rfl ?_
  refine AW.rT (by rfl) fun K hK => ?_
  simp -implicitDefEqProofs only [go_sem, ↓reduceIte, Nat.reduceAdd, Nat.reduceEqDiff, Nat.reduceLeDiff]
  apply hK; clear hK K
  refine AW.ret ?_
  simp -implicitDefEqProofs only [go_sem, ↓reduceIte, Nat.reduceAdd, Nat.reduceEqDiff, Nat.reduceLeDiff, zz, w0]
  done
 | true =>
 rw [ho] at C2
 have hV : ofV t = encIn (.node (ndV t)) := by
  unfold ofV
  rw [if_pos ho, encV_eq, if_neg (by omega), if_neg (by omega)]
  rfl
 rw [hV] at C2
 have o1 : (encIn (.node (ndV t))).one = true := rfl
 have C3 := value_MustNode (ndV t)
 have hi : 0 < P.length := by
  unfold progB at hp
  rw [Bool.and_eq_true, decide_eq_true_eq] at hp
  omega
 have C4 := interp_part P hp t hlt (ok_right ho) 0 0 hi (by decide)
 have RP : runP P t = (runF P t 0, 0) := by unfold runP; rw [if_neg (by rw [hp, ho]; simp [h3])]
 have LP : lookP P t = lookF P t 0 := by unfold lookP; rw [if_neg (by rw [hp, ho]; simp [h3])]
 rw [RP, LP]
 rw [show ((0 : Nat) : Int) = 0 from rfl, Int.zero_add] at C4
 generalize runF P t 0 = z at C4
 generalize IntKind.wrap .i64 ((lookF P t 0 : Nat) : Int) = n at C4
 rw [encTr_eq z] at C4 ⊢
 simp only [encIn] at C2 C3 o1
 refine AW.rT (by rfl) fun K hK => ?_
 simp -implicitDefEqProofs only [go_sem, ↓reduceIte, Nat.reduceAdd, Nat.reduceEqDiff, Nat.reduceLeDiff]
 refine ⟨.pure _, C2, ?_⟩
 try simp -implicitDefEqProofs only [go_sem, ↓reduceIte, Nat.reduceAdd, Nat.reduceEqDiff, Nat.reduceLeDiff]
 try refine ⟨o1, ?_⟩
 apply hK; clear hK K
 refine AW.seq ?_
 refine AW.rT (by rfl) fun K hK => ?_
 simp -implicitDefEqProofs only [go_sem, Nat.reduceAdd]
 apply hK; clear hK K
 refine AW.cF rfl ?_
 refine AW.skip ?_
 simp only [andThen]
 refine AW.rT (by rfl) fun K hK => ?_
 simp -implicitDefEqProofs only [go_sem, ↓reduceIte, Nat.reduceAdd, Nat.reduceEqDiff, Nat.reduceLeDiff, reduceCtorEq]
 apply hK; clear hK K
 refine AW.rR (SeqR.ev 3 (by rfl) (by decide) ?_)
 simp -implicitDefEqProofs only [go_sem, ↓reduceIte, Nat.reduceAdd, Nat.reduceEqDiff, Nat.reduceLeDiff]
 refine ⟨.pure _, C3, ?_⟩
 try simp -implicitDefEqProofs only [go_sem, Nat.reduceAdd]
 refine SeqR.call (fun k => 25) rfl rfl C4 ⟨?_, rfl, ?_, rfl, rfl, rfl, rfl, rfl, rfl⟩ ?_
 ·simp -implicitDefEqProofs only [go_sem, ↓reduceIte, Nat.reduceEqDiff, argD]
  done
 ·simp only [memR]
  simp -implicitDefEqProofs only [go_sem, List.forall_mem_cons, List.not_mem_nil, false_implies, implies_true]
  first | done | decide | exact ⟨rfl, by decide⟩
 simp only [memR, AV.ren]
 refine SeqR.ev 2 (by rfl) (by decide) ?_
 simp -implicitDefEqProofs only [go_sem, ↓reduceIte, Nat.reduceAdd, Nat.reduceEqDiff, Nat.reduceLeDiff, lift2, goneU, newU, List.map_cons, List.map_nil, putH, Nat.reduceLT]
 refine SeqR.last rfl ?_
 refine AW.dT mixed (by rfl) (by decide +kernel) fun K hK => ?_
 simp -implicitDefEqProofs only [go_sem, ↓reduceIte, Nat.reduceAdd, Nat.reduceEqDiff, Nat.reduceLeDiff]
 refine ⟨by decide +kernel, ?_⟩
 apply hK; clear hK K
 refine AW.ret ?_
 simp -implicitDefEqProofs only [go_sem, ↓reduceIte, Nat.reduceAdd, Nat.reduceEqDiff, Nat.reduceLeDiff]
 done
theorem interp_Run (P : List (List Stp)) (t : Tr) (hlt : lensT t = true) : PFn Tryd.prog 52 [.agg [.slice (P.map encPt)], .agg (encTr t)] (.tuple [.agg (encTr (runP P t).1), .int .i64 (runP P t).2]) := by
 have C1 := interp_start P t hlt
 generalize (runP P t).1 = z at *
 generalize (runP P t).2 = e at *
 rw [encTr_eq z, encTr_eq t] at C1
 refine PFn.of Tryd.func52 rfl (by decide) Tryd.ntmps52 Tryd.results52 (Nat.le_of_ble_eq_true rfl) ?_
 simp only [argsT]
 refine AW.rT (by rfl) fun K hK => ?_
 simp -implicitDefEqProofs only [go_sem, ↓reduceIte, Nat.reduceAdd, Nat.reduceEqDiff, encTr_eq t]
 apply hK; clear hK K
 refine AW.rT (by rfl) fun K hK => ?_
 simp -implicitDefEqProofs only [go_sem, ↓reduceIte, Nat.reduceAdd, Nat.reduceEqDiff, Nat.reduceLeDiff, reduceCtorEq]
 refine ⟨.pure _, C1, ?_⟩
 try simp -implicitDefEqProofs only [go_sem, ↓reduceIte, Nat.reduceAdd, Nat.reduceEqDiff, Nat.reduceLeDiff]
 apply hK; clear hK K
 refine AW.rT (by rfl) fun K hK => ?_
 simp -implicitDefEqProofs only [go_sem, ↓reduceIte, Nat.reduceAdd, Nat.reduceEqDiff, Nat.reduceLeDiff]
 apply hK; clear hK K
 refine AW.ret ?_
 simp -implicitDefEqProofs only [go_sem, ↓reduceIte, Nat.reduceAdd, Nat.reduceEqDiff, Nat.reduceLeDiff, encTr_eq z]
 done
end Go.Aw.T
namespace Go.Aw.T
open Go.Proofs Go.RowKit
def awT : Tr := .mk 3 0 [] [(1, [.mk 1 1099511627776 [] [] []])] []
theorem aw_0 : runP [[]] awT = (.mk 3 0 [] [] [], 0) := by rfl
theorem aw_1 : runP [[⟨2, 1, 0⟩]] awT = (.mk 3 0 [] [(1, [.mk 1 2147483647 [] [] []])] [], 0) := by rfl
theorem aw_l : lensT awT = true := by rfl
def a16 (L : List (Nat × AV)) (H : List (Nat × Blk)) (n : Nat) : St := ⟨ofL ((1, .ptr 0 0 0) :: L), ofH ((0, .row 5 [cellsT awT]) :: H), n⟩
def aE : List (List PV) := [[.int .i64 1, .slice [[.int .i64 1, .int .i64 1099511627776, .str [], .slice [], .slice []]]]]
theorem law16_awake : PFn Tryd.prog 50 [] (.bool true) := by
 have C0 := interp_Run [[]] awT aw_l
 have C1 := interp_Run [[⟨2, 1, 0⟩]] awT aw_l
 rw [aw_0] at C0
 rw [aw_1] at C1
 refine PFn.of Tryd.func50 rfl (by decide) Tryd.ntmps50 Tryd.results50 (Nat.le_of_ble_eq_true rfl) ?_
 simp only [argsT]
 refine AW.rT (by rfl) fun K hK => ?_
 simp -implicitDefEqProofs only [go_sem]
 apply hK; clear hK K
 refine AW.rT (by rfl) fun K hK => ?_
 simp -implicitDefEqProofs only [go_sem, ↓reduceIte, Nat.reduceAdd, Nat.reduceMul, Nat.reduceEqDiff, Nat.reduceLeDiff]
 apply hK; clear hK K
 refine AW.ghost (s' := ⟨ofL [(1, .ptr 6 0 0)], ofH [(4, .row 2 [[.p (.int .i64 1), .p (.slice [[.int .i64 1, .int .i64 1099511627776, .str [], .slice [], .slice []]])]]), (6, .row 5 [[.p (.int .i64 3), .p (.int .i64 0), .p (.str []), .own 4, .ex []]])], 7⟩) (Ghost.trans (Ghost.exH (l := 2) (i := 0) (j := 3) rfl rfl rfl) (Ghost.trans (Ghost.exH (l := 2) (i := 0) (j := 4) rfl rfl rfl) (Ghost.trans (Ghost.freeze (lb := 2) (ps := [[.int .i64 1, .int .i64 1099511627776, .str [], .slice [], .slice []]]) rfl (by rfl)) ?_))) ?_
 ·refine Ghost.sub ?_ ?_ <;> simp -implicitDefEqProofs only [go_sem, ↓reduceIte, Nat.reduceEqDiff, thaw, thaw1, Option.map_some, List.map_cons, List.map_nil, List.set_cons_zero, List.set_cons_succ, List.forall_mem_cons, List.not_mem_nil, false_implies, implies_true, and_self, List.all_cons, List.all_nil, Nat.reduceLT, labsInL, AV.labsIn]
  all_goals first | rfl | skip
 refine AW.ghost (s' := ⟨ofL [(1, .ptr 6 0 0)], ofH [(6, .row 5 [[.p (.int .i64 3), .p (.int .i64 0), .p (.str []), .p (.slice aE), .ex []]])], 7⟩) (Ghost.trans (Ghost.freeze (lb := 4) (ps := aE) rfl (by rfl)) ?_) ?_
 ·refine Ghost.sub ?_ ?_ <;> simp -implicitDefEqProofs only [go_sem, ↓reduceIte, Nat.reduceEqDiff, thaw, thaw1, Option.map_some, List.map_cons, List.map_nil, List.forall_mem_cons, List.not_mem_nil, false_implies, implies_true, and_self, List.all_cons, List.all_nil, Nat.reduceLT, labsInL, AV.labsIn]
  all_goals first | rfl | skip
 refine AW.ghost (s' := a16 [] [] 1) (Ghost.trans (Ghost.exH (l := 6) (i := 0) (j := 4) rfl rfl rfl) ?_) ?_
 ·simp only [a16, cellsT, awT, Tr.kind, Tr.n, Tr.s, Tr.ents, Tr.rest, List.map_cons, List.map_nil, encEn, encTr_eq]
  refine Ghost.ent (fun l => if l = 0 then 6 else l) ?_ ?_ ?_ <;> simp -implicitDefEqProofs only [go_sem, ↓reduceIte, List.set_cons_zero, List.set_cons_succ, List.forall_mem_cons, List.not_mem_nil, false_implies, implies_true, and_self, List.all_cons, List.all_nil, Nat.reduceLT, labsInL, AV.labsIn]
  all_goals first | rfl | skip
 have ea : encTr awT = [.int .i64 3, .int .i64 0, .str [], .slice (awT.ents.map encEn), .slice (awT.rest.map encRaw)] := encTr_eq awT
 rw [ea] at C0 C1
 simp only [a16, cellsT, show awT.kind = 3 from rfl, show awT.n = 0 from rfl, show awT.s = [] from rfl]
 generalize awT.ents.map encEn = Es at *
 generalize awT.rest.map encRaw = Rs at *
 rw [encTr_eq] at C0 C1
 simp only [List.map_cons, List.map_nil, encPt, encSt, encEn, encTr_eq, Tr.kind, Tr.n, Tr.s, Tr.ents, Tr.rest] at C0 C1
 refine AW.rR (SeqR.ev 3 (by rfl) (by decide) ?_)
 simp -implicitDefEqProofs only [go_sem, ↓reduceIte, Nat.reduceAdd, Nat.reduceMul, Nat.reduceLeDiff]
 refine SeqR.ghost (s' := ⟨ofL [(1, .ptr 0 0 0), (14, .agg [.own 2])], ofH [(0, .row 5 [[.p (.int .i64 3), .p (.int .i64 0), .p (.str []), .p (.slice Es), .p (.slice Rs)]]), (2, .row 1 [[.p (.slice [])]])], 3⟩) (Ghost.trans (Ghost.freeze (lb := 1) (ps := []) rfl (by rfl)) ?_) ?_
 ·refine Ghost.sub ?_ ?_ <;> simp -implicitDefEqProofs only [go_sem, ↓reduceIte, Nat.reduceEqDiff, reduceCtorEq, thaw, thaw1, Option.map_some, List.map_cons, List.map_nil, List.forall_mem_cons, List.not_mem_nil, false_implies, implies_true, and_self, List.all_cons, List.all_nil, Nat.reduceLT, labsInL, AV.labsIn]
  all_goals first | rfl | skip
 refine SeqR.ghost (s' := ⟨ofL [(1, .ptr 0 0 0), (14, .p (.agg [.slice [[.slice []]]]))], ofH [(0, .row 5 [[.p (.int .i64 3), .p (.int .i64 0), .p (.str []), .p (.slice Es), .p (.slice Rs)]])], 1⟩) (Ghost.trans (Ghost.freeze (lb := 2) (ps := [[.slice []]]) rfl (by rfl)) ?_) ?_
 ·refine Ghost.sub ?_ ?_ <;> simp -implicitDefEqProofs only [go_sem, ↓reduceIte, Nat.reduceEqDiff, reduceCtorEq, thaw, thaw1, Option.map_some, List.map_cons, List.map_nil, mkAgg, allP, List.forall_mem_cons, List.not_mem_nil, false_implies, implies_true, and_self, List.all_cons, List.all_nil, Nat.reduceLT, labsInL, AV.labsIn]
  all_goals first | rfl | skip
 refine SeqR.ev 8 (by rfl) (by decide) ?_
 simp -implicitDefEqProofs only [go_sem, ↓reduceIte, Nat.reduceAdd, Nat.reduceEqDiff, Nat.reduceLeDiff]
 refine ⟨.pure _, C0, ?_⟩
 try simp -implicitDefEqProofs only [go_sem, ↓reduceIte, Nat.reduceAdd, Nat.reduceEqDiff, Nat.reduceLeDiff]
 refine SeqR.last rfl ?_
 refine AW.ghost (s' := ⟨ofL [(1, .ptr 0 0 0), (2, .ptr 1 0 0), (3, .p (.int .i64 0))], ofH [(0, .row 5 [[.p (.int .i64 3), .p (.int .i64 0), .p (.str []), .p (.slice Es), .p (.slice Rs)]]), (1, .row 5 [[.p (.int .i64 3), .p (.int .i64 0), .p (.str []), .p (.slice []), .p (.slice [])]])], 2⟩) ?_ ?_
 ·show Ghost _ _ _
  refine Ghost.ent (fun l => if l = 1 then 6 else l) ?_ ?_ ?_ <;> simp -implicitDefEqProofs only [go_sem, ↓reduceIte, Nat.reduceEqDiff, reduceCtorEq, List.forall_mem_cons, List.not_mem_nil, false_implies, implies_true, and_self, List.all_cons, List.all_nil, Nat.reduceLT, labsInL, AV.labsIn]
  all_goals first | rfl | skip
 refine AW.rR (SeqR.ev 4 (by rfl) (by decide) ?_)
 simp -implicitDefEqProofs only [go_sem, ↓reduceIte, Nat.reduceAdd, Nat.reduceMul, Nat.reduceLeDiff]
 refine SeqR.ghost (s' := ⟨ofL [(1, .ptr 0 0 0), (2, .ptr 1 0 0), (3, .p (.int .i64 0)), (23, .agg [.own 4])], ofH [(0, .row 5 [[.p (.int .i64 3), .p (.int .i64 0), .p (.str []), .p (.slice Es), .p (.slice Rs)]]), (1, .row 5 [[.p (.int .i64 3), .p (.int .i64 0), .p (.str []), .p (.slice []), .p (.slice [])]]), (4, .row 1 [[.p (.slice [[.int .i64 2, .int .i64 1, .int .i64 0]])]])], 5⟩) (Ghost.trans (Ghost.freeze (lb := 3) (ps := [[.int .i64 2, .int .i64 1, .int .i64 0]]) rfl (by rfl)) ?_) ?_
 ·refine Ghost.sub ?_ ?_ <;> simp -implicitDefEqProofs only [go_sem, ↓reduceIte, Nat.reduceEqDiff, reduceCtorEq, thaw, thaw1, Option.map_some, List.map_cons, List.map_nil, List.forall_mem_cons, List.not_mem_nil, false_implies, implies_true, and_self, List.all_cons, List.all_nil, Nat.reduceLT, labsInL, AV.labsIn]
  all_goals first | rfl | skip
 refine SeqR.ghost (s' := ⟨ofL [(1, .ptr 0 0 0), (2, .ptr 1 0 0), (3, .p (.int .i64 0)), (23, .p (.agg [.slice [[.slice [[.int .i64 2, .int .i64 1, .int .i64 0]]]]]))], ofH [(0, .row 5 [[.p (.int .i64 3), .p (.int .i64 0), .p (.str []), .p (.slice Es), .p (.slice Rs)]]), (1, .row 5 [[.p (.int .i64 3), .p (.int .i64 0), .p (.str []), .p (.slice []), .p (.slice [])]])], 2⟩) (Ghost.trans (Ghost.freeze (lb := 4) (ps := [[.slice [[.int .i64 2, .int .i64 1, .int .i64 0]]]]) rfl (by rfl)) ?_) ?_
 ·refine Ghost.sub ?_ ?_ <;> simp -implicitDefEqProofs only [go_sem, ↓reduceIte, Nat.reduceEqDiff, reduceCtorEq, thaw, thaw1, Option.map_some, List.map_cons, List.map_nil, mkAgg, allP, List.forall_mem_cons, List.not_mem_nil, false_implies, implies_true, and_self, List.all_cons, List.all_nil, Nat.reduceLT, labsInL, AV.labsIn]
  all_goals first | rfl | skip
 refine SeqR.ev 8 (by rfl) (by decide) ?_
 simp -implicitDefEqProofs only [go_sem, ↓reduceIte, Nat.reduceAdd, Nat.reduceEqDiff, Nat.reduceLeDiff]
 refine ⟨.pure _, C1, ?_⟩
 try simp -implicitDefEqProofs only [go_sem, ↓reduceIte, Nat.reduceAdd, Nat.reduceEqDiff, Nat.reduceLeDiff]
 refine SeqR.last rfl ?_
 have e0 : ((0 : Int) == 0) = true := rfl
 have e1 : (((0 : Nat) : Int) == 0) = true := rfl
 have e2 : (((1 : Nat) : Int) == 1) = true := rfl
 have e3 : ((2147483647 : Int) == 2147483647) = true := rfl
 have e4 : (0 : Int) < ((1 : Nat) : Int) := by decide
 refine AW.rT (by rfl) fun K hK => ?_
 simp -implicitDefEqProofs only [go_sem, ↓reduceIte, Nat.reduceAdd, Nat.reduceEqDiff, Int.reduceToNat, e0, e1, e2, e3, e4, Int.le_refl, List.getD_cons_zero, List.getElem?_cons_zero, List.length_cons, List.length_nil]
 apply hK; clear hK K
 refine AW.ret ?_
 simp -implicitDefEqProofs only [go_sem]
 done
end Go.Aw.T
namespace Go.Aw
open Go.Proofs Go.RowKit
theorem eq129 (x y : Pr) (w : World) : (Op.equalIn 10000 126 (.agg #[.string ⟨⟨x.o⟩⟩, .string ⟨⟨x.n⟩⟩]) (.agg #[.string ⟨⟨y.o⟩⟩, .string ⟨⟨y.n⟩⟩])).run Tryd.prog w = .ok (decide (x = y)) w := by
 have u3 := Tryd.underlying3
 have u9 := Tryd.underlying9
 have a3 := Tryd.isAgg3
 have a9 := Tryd.isAgg9
 have z3 := Tryd.sizeOf3
 have z9 := Tryd.sizeOf9
 have hS : Tryd.prog.underlying 126 = some (.struct (Tryd.prog.fieldsOf 126)) := by kernel_rfl
 have hp : Tryd.prog.stoodInHeld 126 = false := by kernel_rfl
 rw [show (10000 : Nat) = 9999 + 1 from rfl, run_equalIn_agg w 9999 126 _ _ hS hp]
 simp only [Program.fieldsOf, Tryd.underlying126]
 go_simp
 obtain ⟨a0, a1⟩ := x
 obtain ⟨b0, b1⟩ := y
 simp only [Pr.mk.injEq]
 by_cases h0 : a0 = b0 <;> by_cases h1 : a1 = b1 <;> simp [h0, h1]
theorem keyQ (a b : List UInt8) : KeyT Tryd.prog 126 (.agg [.str a, .str b]) := by
 refine key_pair Tryd.underlying126 (fun a b e w => ?_) (fun a b c d w => ?_) a b
 ·have u9 := Tryd.underlying9
  have u129 := Tryd.underlying126
  have a9 := Tryd.isAgg9
  have z9 := Tryd.sizeOf9
  have ck : ∀ (x : List UInt8) w, (Instr.checkKey e 9999 9 (.string ⟨⟨x⟩⟩)).run Tryd.prog w = .ok () w := fun x w => by
   rw [show (9999 : Nat) = 9998 + 1 from rfl]
   unfold Instr.checkKey
   go_simp
  rw [show (10000 : Nat) = 9999 + 1 from rfl]
  unfold Instr.checkKey
  go_simp
 ·have h := eq129 ⟨a, b⟩ ⟨c, d⟩ w
  simp only at h
  have e : decide ((⟨a, b⟩ : Pr) = ⟨c, d⟩) = (a == c && b == d) := by
   rw [Bool.eq_iff_iff]; simp
  rw [e] at h
  exact h
def mQ (l : List Pr) : List (PV × AV) := l.zipIdx.map fun x => (.agg [.str x.1.o, .str x.1.n], .p (.int .i64 (x.2 : Int)))
theorem key_pr (p : Pr) (a : Pr × Nat) : keyEq (.agg [.str p.o, .str p.n]) (.agg [.str a.1.o, .str a.1.n]) = some (p == a.1) := by
 simp only [keyEq]
 congr 1
 rw [Bool.eq_iff_iff]
 obtain ⟨a, k⟩ := a
 cases p; cases a
 simp
theorem mQ_no {l : List Pr} {p : Pr} (h : p ∉ l) : MapAt (mQ l) (.agg [.str p.o, .str p.n]) none :=
 mapAt_none (q := fun a : Pr × Nat => p == a.1) (key_pr p) (List.any_eq_false.2 fun x hx e => by
  obtain ⟨a, k⟩ := x
  have := List.mem_zipIdx hx
  refine h ?_
  rw [beq_iff_eq.1 e]
  rw [this.2.2]
  exact List.getElem_mem _)
theorem mQ_yes {l : List Pr} {p : Pr} (h : p ∈ l) : MapAt (mQ l) (.agg [.str p.o, .str p.n]) (some (placeP l p, .p (.int .i64 (placeP l p : Int)))) := by
 obtain ⟨h1, h2⟩ := place_yes h
 refine mapAt_some (l := l.zipIdx) (f := fun x => (.agg [.str x.1.o, .str x.1.n], .p (.int .i64 (x.2 : Int)))) (q := fun a : Pr × Nat => p == a.1) (key_pr p) (i := placeP l p) (a := (p, placeP l p)) ?_ (by simp) fun j b hj hb => ?_
 ·rw [List.getElem?_zipIdx, h2]
  simp
 ·rw [List.getElem?_zipIdx, Option.map_eq_some_iff] at hb
  obtain ⟨y, hy, rfl⟩ := hb
  have := List.not_of_lt_findIdx (p := fun x => x == p) (xs := l) (i := j) hj
  have jl : j < l.length := (List.getElem?_eq_some_iff.1 hy).1
  rw [List.getElem?_eq_getElem jl, Option.some.injEq] at hy
  rw [hy] at this
  simp only [beq_eq_false_iff_ne]
  intro e
  rw [← e] at this
  simp at this
theorem mQ_add (l : List Pr) (p : Pr) : mQ l ++ [(.agg [.str p.o, .str p.n], .p (.int .i64 (l.length : Int)))] = mQ (l ++ [p]) := by
 unfold mQ
 rw [List.zipIdx_append, List.map_append]
 simp
theorem mQ_ren (l : List Pr) (ρ : Nat → Nat) : (mQ l).map (fun e => (e.1, AV.ren ρ e.2)) = mQ l := by
 simp [mQ, AV.ren]
theorem mQ_labs (l : List Pr) (n : Nat) : (mQ l).all (fun e => AV.labsIn n e.2) = true := by
 simp [mQ, AV.labsIn]
attribute [go_sem] mQ_ren mQ_labs
def rowA (S U : Sc) (a b : Nat) : List AV := [.p (.str S.name), .p (.slice (S.msgs.map encMs)), .p (.slice (S.enums.map encEn)), .p (.slice (S.meths.map encMt)), .p (.str U.name), .p (.slice (U.msgs.map encMs)), .p (.slice (U.enums.map encEn)), .p (.slice (U.meths.map encMt)), .own a, .map b]
def memA (S U : Sc) (l : List Pr) (r a b : Nat) : List (Nat × Blk) := [(r, .row 10 [rowA S U a b]), (a, .row 2 (liftE (l.map encPr))), (b, .map (mQ l))]
theorem partEnd {S U : Sc} {l0 l : List Pr} {b : Int} {rs : Array ResultVar} {args : List AV} {s : St} (ha : args[0]? = some (.ptr 0 0 0)) (hs : s.T 0 = some (.ptr 0 0 0)) (h0 : s.H 0 = some (.row 10 [rowA S U 1 2])) (h1 : s.H 1 = some (.row 2 (liftE (l.map encPr)))) (h2 : s.H 2 = some (.map (mQ l))) (hr : resD Tryd.prog s rs.toList [.p (.int .i64 b)]) :
  EndD Tryd.prog rs args (memA S U l0 0 1 2) 3 [0] (.p (.int .i64 b)) (memA S U l 0 3 4) 2 [0] .ret s := by
 refine ⟨fun k => if k = 0 then 0 else k - 2, [.p (.int .i64 b)], hr, rfl, rfl, ?_, ?_, ?_⟩
 ·simp only [memA, rowA] at h0 ⊢
  simp -implicitDefEqProofs only [go_sem, ↓reduceIte, Nat.reduceAdd, reduceCtorEq, List.forall_mem_cons, List.not_mem_nil, false_implies, implies_true, Nat.reduceSub, h0, h1, h2]
  first | done | decide
 ·simp [memA]
 ·intro k hk'
  simp at hk'
  subst hk'
  exact ⟨by decide, .inl ⟨0, 0, 0, 10, _, _, by simp, ha, hs, rfl, rfl, rfl, by decide⟩⟩
def adZ9 (S U : Sc) (l : List Pr) (m : List (Nat × AV)) : St := ⟨ofL ((0, .ptr 0 0 0) :: m), ofH (memA S U l 0 1 2), 3⟩
theorem adapt_part (S U : Sc) (l : List Pr) (p : Pr) (hl : l.length ≤ 1000000) : DFn Tryd.prog 78 [.ptr 0 0 0, .p (.agg (encPr p))] (memA S U l 0 1 2) 3 [0] (.p (.int .i64 (placeP l p : Int))) (memA S U (addP l p) 0 3 4) 2 := by
 refine DFn.of [0] Tryd.func78 rfl (by decide) Tryd.ntmps78 Tryd.results78 (Nat.le_of_ble_eq_true rfl) (by simp) fun val => ?_
 simp only [avT, memA, rowA, encPr]
 refine AW.rT (by rfl) fun K hK => ?_
 simp -implicitDefEqProofs only [go_sem, ↓reduceIte, Nat.reduceAdd]
 apply hK; clear hK K
 by_cases hk : p ∈ l
 ·have hm := mQ_yes hk
  refine AW.dT mixed (by rfl) (by decide +kernel) fun K hK => ?_
  simp -implicitDefEqProofs only [go_sem, ↓reduceIte, Nat.reduceAdd, Nat.reduceEqDiff, Nat.reduceLeDiff, reduceCtorEq]
  refine ⟨keyQ p.o p.n, _, hm, _, rfl, ?_⟩
  try simp -implicitDefEqProofs only [go_sem]
  refine ⟨heapOK_nil rfl, ?_⟩
  apply hK; clear hK K
  have e : addP l p = l := by unfold addP; rw [if_pos (List.contains_iff_mem.2 hk)]
  refine AW.seq ?_
  refine AW.rT (by rfl) fun K hK => ?_
  simp -implicitDefEqProofs only [go_sem, Nat.reduceAdd]
  apply hK; clear hK K
  refine AW.cF rfl ?_
  refine AW.skip ?_
  simp only [andThen]
  refine AW.rT (by rfl) fun K hK => ?_
  simp -implicitDefEqProofs only [go_sem, ↓reduceIte, Nat.reduceAdd, Nat.reduceEqDiff]
  apply hK; clear hK K
  rw [e]
  refine AW.ret (partEnd rfl ?_ ?_ ?_ ?_ ⟨?_, trivial⟩) <;> simp -implicitDefEqProofs only [go_sem, ↓reduceIte, Nat.reduceEqDiff, reduceCtorEq, rowA]
 ·have hm := mQ_no hk
  refine AW.dT mixed (by rfl) (by decide +kernel) fun K hK => ?_
  simp -implicitDefEqProofs only [go_sem, ↓reduceIte, Nat.reduceAdd, Nat.reduceEqDiff, Nat.reduceLeDiff, reduceCtorEq]
  refine ⟨keyQ p.o p.n, _, hm, _, rfl, ?_⟩
  try simp -implicitDefEqProofs only [go_sem]
  refine ⟨heapOK_nil rfl, ?_⟩
  apply hK; clear hK K
  have e : addP l p = l ++ [p] := by unfold addP; rw [if_neg fun h => hk (List.contains_iff_mem.1 h)]
  have eP : placeP l p = l.length := place_no hk
  refine AW.seq ?_
  refine AW.rT (by rfl) fun K hK => ?_
  simp -implicitDefEqProofs only [go_sem, Nat.reduceAdd]
  apply hK; clear hK K
  refine AW.cT rfl ?_
  refine AW.rT (by rfl) fun K hK => ?_
  simp -implicitDefEqProofs only [go_sem, ↓reduceIte, Nat.reduceAdd, Nat.reduceEqDiff, reduceCtorEq, liftE_length, List.length_map]
  apply hK; clear hK K
  refine AW.dT mixed (by rfl) (by decide +kernel) fun K hK => ?_
  simp -implicitDefEqProofs only [go_sem, ↓reduceIte, Nat.reduceAdd, Nat.reduceEqDiff, Nat.reduceLeDiff, reduceCtorEq]
  refine ⟨keyQ p.o p.n, _, hm, ?_⟩
  try simp -implicitDefEqProofs only [go_sem]
  refine ⟨by decide +kernel, ?_⟩
  apply hK; clear hK K
  refine AW.dE mixed (by rfl) (by decide +kernel) fun K hK => ?_
  simp -implicitDefEqProofs only [go_sem, ↓reduceIte, Nat.reduceAdd, Nat.reduceMul, Nat.reduceEqDiff, Nat.reduceLeDiff, reduceCtorEq]
  refine ⟨⟨by simp, by simp [oneAll, AV.one, PV.one], by simp⟩, by simp [liftE_length]; omega, ?_⟩
  try simp -implicitDefEqProofs only [go_sem, ↓reduceIte, Nat.reduceAdd, Nat.reduceMul, Nat.reduceEqDiff, Nat.reduceLeDiff, reduceCtorEq, Int.reduceToNat]
  refine ⟨by decide +kernel, ?_⟩
  apply hK; clear hK K
  rw [mQ_add]
  simp only [andThen]
  refine AW.ghost (s' := adZ9 S U (l ++ [p]) [(5, .p (.int .i64 (l.length : Int)))]) ?_ ?_
  ·simp only [adZ9, memA, rowA]
   refine Ghost.ent (fun l => if l = 1 then 38 else l) ?_ ?_ ?_ <;> simp -implicitDefEqProofs only [go_sem, ↓reduceIte, Nat.reduceEqDiff, reduceCtorEq, encPr, List.map_append, liftE_append, List.map_cons, List.map_nil, liftE_cons, liftE_nil, List.forall_mem_cons, List.not_mem_nil, false_implies, implies_true, and_self, map_renL_lift, labsIn_lift, List.all_append, List.all_cons, List.all_nil, List.map_append, Nat.reduceLT, labsInL, AV.labsIn]
   all_goals first | rfl | decide | skip
  rw [e, eP]
  simp only [adZ9, memA, rowA]
  refine AW.rT (by rfl) fun K hK => ?_
  simp -implicitDefEqProofs only [go_sem, ↓reduceIte, Nat.reduceAdd, reduceCtorEq]
  apply hK; clear hK K
  refine AW.ret (partEnd rfl ?_ ?_ ?_ ?_ ⟨?_, trivial⟩) <;> simp -implicitDefEqProofs only [go_sem, ↓reduceIte, reduceCtorEq, rowA]
end Go.Aw
namespace Go.Aw
open Go.Proofs Go.RowKit
def stepA (mo mn : Ms) (t : Int) (l : List Pr) : Stp × Bool := ((stepO mo mn t l).getD ⟨0, 0, 0⟩, (stepO mo mn t l).isSome)
theorem stepEnd {S U : Sc} {l0 l : List Pr} {b : Stp × Bool} {rs : Array ResultVar} {args : List AV} {s : St} (ha : args[0]? = some (.ptr 0 0 0)) (hs : s.T 0 = some (.ptr 0 0 0)) (h0 : s.H 0 = some (.row 10 [rowA S U 1 2])) (h1 : s.H 1 = some (.row 2 (liftE (l.map encPr)))) (h2 : s.H 2 = some (.map (mQ l))) (hr : resD Tryd.prog s rs.toList [.p (.agg (encSt b.1)), .p (.bool b.2)]) :
  EndD Tryd.prog rs args (memA S U l0 0 1 2) 3 [0] (.tuple [.p (.agg (encSt b.1)), .p (.bool b.2)]) (memA S U l 0 3 4) 2 [0] .ret s := by
 refine ⟨fun k => if k = 0 then 0 else k - 2, [.p (.agg (encSt b.1)), .p (.bool b.2)], hr, rfl, rfl, ?_, ?_, ?_⟩
 ·simp only [memA, rowA] at h0 ⊢
  simp -implicitDefEqProofs only [go_sem, ↓reduceIte, Nat.reduceAdd, reduceCtorEq, List.forall_mem_cons, List.not_mem_nil, false_implies, implies_true, Nat.reduceSub, h0, h1, h2]
  first | done | decide
 ·simp [memA]
 ·intro k hk'
  simp at hk'
  subst hk'
  exact ⟨by decide, .inl ⟨0, 0, 0, 10, _, _, by simp, ha, hs, rfl, rfl, rfl, by decide⟩⟩
def adR (S U : Sc) (l : List Pr) (o n : Fd) (s : Stp) (m : List (Nat × AV)) : St := ⟨ofL ((0, .ptr 0 0 0) :: (8, .ptr 3 0 0) :: (10, .ptr 4 0 0) :: (12, .ptr 5 0 0) :: (14, .ptr 6 0 0) :: m), ofH (memA S U l 0 1 2 ++ [(3, .row 3 [[.p (.int .i64 0), .p (.int .i64 0), .p (.int .i64 0)]]), (4, .row 5 [[.p (.str o.name), .p (.int .i64 o.tag), .p (.int .i64 o.label), .p (.int .i64 o.ty.kind), .p (.str o.ty.name)]]), (5, .row 5 [[.p (.str n.name), .p (.int .i64 n.tag), .p (.int .i64 n.label), .p (.int .i64 n.ty.kind), .p (.str n.ty.name)]]), (6, .row 3 [[.p (.int .i64 s.op), .p (.int .i64 s.tag), .p (.int .i64 s.sub)]])]), 7⟩
theorem mQ_by {p : Nat → Bool} (l : List Pr) : (Blk.map (mQ l)).labsBy p = true := by
 simp [Blk.labsBy, mQ, AV.labsBy]
theorem adapt_tag (S U : Sc) (mo mn : Ms) (t : Int) (l : List Pr) (hl : l.length ≤ 1000000) (ho : mo.fields.length ≤ 1000000) (hn : mn.fields.length ≤ 1000000) :
  DFn Tryd.prog 79 [.ptr 0 0 0, .p (.agg (encMs mo)), .p (.agg (encMs mn)), .p (.int .i64 t)] (memA S U l 0 1 2) 3 [0] (.tuple [.p (.agg (encSt (stepA mo mn t l).1)), .p (.bool (stepA mo mn t l).2)]) (memA S U (stepLs mo mn t l) 0 3 4) 2 := by
 refine DFn.of [0] Tryd.func79 rfl (by decide) Tryd.ntmps79 Tryd.results79 (Nat.le_of_ble_eq_true rfl) (by simp) fun val => ?_
 have F1 := check_Field mo t ho
 have F2 := check_Field mn t hn
 have e1 : firstP (fun x => x.tag == t) zFd mo.fields = fOf mo t := rfl
 have e2 : firstP (fun x => x.tag == t) zFd mn.fields = fOf mn t := rfl
 rw [e1] at F1
 rw [e2] at F2
 simp only [encMs, encFd] at F1 F2
 simp only [avT, encMs]
 refine AW.rT (by rfl) fun K hK => ?_
 simp -implicitDefEqProofs only [go_sem, ↓reduceIte, Nat.reduceAdd, Nat.reduceEqDiff, reduceCtorEq, memA, rowA]
 apply hK; clear hK K
 refine AW.rT (by rfl) fun K hK => ?_
 simp -implicitDefEqProofs only [go_sem, ↓reduceIte, Nat.reduceAdd, Nat.reduceEqDiff, Nat.reduceLeDiff, reduceCtorEq]
 refine ⟨.pure _, F1, ?_⟩
 try simp -implicitDefEqProofs only [go_sem, ↓reduceIte, Nat.reduceAdd, Nat.reduceEqDiff, Nat.reduceLeDiff]
 apply hK; clear hK K
 refine AW.rT (by rfl) fun K hK => ?_
 simp -implicitDefEqProofs only [go_sem, ↓reduceIte, Nat.reduceAdd, Nat.reduceEqDiff, Nat.reduceLeDiff, reduceCtorEq]
 refine ⟨.pure _, F2, ?_⟩
 try simp -implicitDefEqProofs only [go_sem, ↓reduceIte, Nat.reduceAdd, Nat.reduceEqDiff, Nat.reduceLeDiff]
 apply hK; clear hK K
 refine AW.rT (by rfl) fun K hK => ?_
 simp -implicitDefEqProofs only [go_sem, ↓reduceIte, Nat.reduceAdd, Nat.reduceEqDiff, Nat.reduceLeDiff, reduceCtorEq]
 apply hK; clear hK K
 refine AW.seq ?_
 refine AW.dT mixed (by rfl) (by decide +kernel) fun K hK => ?_
 simp -implicitDefEqProofs only [go_sem, ↓reduceIte, Nat.reduceAdd, Nat.reduceEqDiff]
 refine ⟨heapOK_nil rfl, ?_⟩
 apply hK; clear hK K
 refine AW.ghost (s' := adR S U l (fOf mo t).1 (fOf mn t).1 ⟨1, t, 0⟩ [(11, .p (.bool (fOf mo t).2)), (13, .p (.bool (fOf mn t).2)), (15, .p (.int .i64 (fOf mo t).1.ty.kind)), (16, .p (.int .i64 (fOf mn t).1.ty.kind))]) ?_ ?_
 ·simp only [adR, memA, rowA, List.cons_append, List.nil_append]
  refine Ghost.ent (fun l => if l = 3 then 5 else if l = 4 then 13 else if l = 5 then 22 else if l = 6 then 27 else l) ?_ ?_ ?_ <;> simp -implicitDefEqProofs only [go_sem, ↓reduceIte, Nat.reduceEqDiff, reduceCtorEq, List.forall_mem_cons, List.not_mem_nil, false_implies, implies_true, and_self, map_renL_lift, labsIn_lift, List.all_cons, List.all_nil, Nat.reduceLT, labsInL, AV.labsIn]
  all_goals first | rfl | decide | skip
 refine AW.block ?_
 have no : ¬ ((fOf mo t).2 = true ∧ (fOf mn t).2 = true ∧ (fOf mo t).1.label = (fOf mn t).1.label) → stepA mo mn t l = (⟨0, 0, 0⟩, false) ∧ stepLs mo mn t l = l := fun h => by
  have e : stepO mo mn t l = none := by unfold stepO; rw [if_neg h]
  have i : intoB mo mn t = false := by
   rw [Bool.eq_false_iff]
   intro q
   have := intoB_spec q
   exact h ⟨this.1, this.2.1, this.2.2.1⟩
  unfold stepA stepLs
  rw [e, i]
  exact ⟨rfl, rfl⟩
 simp only [adR, memA, rowA, List.cons_append, List.nil_append]
 cases hf : (fOf mo t).2 with
 | false =>
  obtain ⟨n1, n2⟩ := no (by rw [hf]; simp)
  refine AW.rT (by rfl) fun K hK => ?_
  simp -implicitDefEqProofs only [go_sem, ↓reduceIte, Nat.reduceAdd, Nat.reduceEqDiff, reduceCtorEq]
  apply hK; clear hK K
  refine AW.cT rfl ?_
  refine AW.rT (by rfl) fun K hK => ?_
  simp -implicitDefEqProofs only [go_sem, ↓reduceIte, Nat.reduceAdd, Nat.reduceEqDiff, Nat.reduceLeDiff, reduceCtorEq]
  apply hK; clear hK K
  rw [n1, n2]
  refine AW.ret (stepEnd rfl ?_ ?_ ?_ ?_ ⟨?_, ?_, trivial⟩) <;> simp -implicitDefEqProofs only [go_sem, ↓reduceIte, Nat.reduceAdd, Nat.reduceEqDiff, Nat.reduceLeDiff, reduceCtorEq, rowA, encSt]
 | true =>
 cases hg : (fOf mn t).2 with
 | false =>
  obtain ⟨n1, n2⟩ := no (by rw [hg]; simp)
  refine AW.rT (by rfl) fun K hK => ?_
  simp -implicitDefEqProofs only [go_sem, ↓reduceIte, Nat.reduceAdd, Nat.reduceEqDiff, reduceCtorEq]
  apply hK; clear hK K
  refine AW.cT rfl ?_
  refine AW.rT (by rfl) fun K hK => ?_
  simp -implicitDefEqProofs only [go_sem, ↓reduceIte, Nat.reduceAdd, Nat.reduceEqDiff, Nat.reduceLeDiff, reduceCtorEq]
  apply hK; clear hK K
  rw [n1, n2]
  refine AW.ret (stepEnd rfl ?_ ?_ ?_ ?_ ⟨?_, ?_, trivial⟩) <;> simp -implicitDefEqProofs only [go_sem, ↓reduceIte, Nat.reduceAdd, Nat.reduceEqDiff, Nat.reduceLeDiff, reduceCtorEq, rowA, encSt]
 | true =>
 by_cases hlb : (fOf mo t).1.label = (fOf mn t).1.label
 case neg =>
  obtain ⟨n1, n2⟩ := no (fun h => hlb h.2.2)
  have f1 : ((fOf mo t).1.label != (fOf mn t).1.label) = true := by simp [hlb]
  refine AW.rT (by rfl) fun K hK => ?_
  simp -implicitDefEqProofs only [go_sem, ↓reduceIte, Nat.reduceAdd, Nat.reduceEqDiff, reduceCtorEq, f1]
  apply hK; clear hK K
  refine AW.cT rfl ?_
  refine AW.rT (by rfl) fun K hK => ?_
  simp -implicitDefEqProofs only [go_sem, ↓reduceIte, Nat.reduceAdd, Nat.reduceEqDiff, Nat.reduceLeDiff, reduceCtorEq]
  apply hK; clear hK K
  rw [n1, n2]
  refine AW.ret (stepEnd rfl ?_ ?_ ?_ ?_ ⟨?_, ?_, trivial⟩) <;> simp -implicitDefEqProofs only [go_sem, ↓reduceIte, Nat.reduceAdd, Nat.reduceEqDiff, Nat.reduceLeDiff, reduceCtorEq, rowA, encSt]
 have f1 : ((fOf mo t).1.label != (fOf mn t).1.label) = false := by simp [hlb]
 have cc : (fOf mo t).2 = true ∧ (fOf mn t).2 = true ∧ (fOf mo t).1.label = (fOf mn t).1.label := ⟨hf, hg, hlb⟩
 refine AW.rT (by rfl) fun K hK => ?_
 simp -implicitDefEqProofs only [go_sem, ↓reduceIte, Nat.reduceAdd, Nat.reduceEqDiff, reduceCtorEq, f1]
 apply hK; clear hK K
 refine AW.cF rfl ?_
 by_cases k7 : (fOf mo t).1.ty.kind = 7 ∧ (fOf mn t).1.ty.kind = 7
 ·have q1 : ((fOf mo t).1.ty.kind == 7) = true := by simp [k7.1]
  have q2 : ((fOf mn t).1.ty.kind == 7) = true := by simp [k7.2]
  have eO : stepO mo mn t l = some ⟨if (fOf mo t).1.label = 1 then 4 else 3, t, placeP l (pairO mo mn t)⟩ := by unfold stepO; rw [if_pos cc, if_pos k7]
  have eI : stepLs mo mn t l = addP l (pairO mo mn t) := by
   unfold stepLs intoB
   rw [if_pos (by simp [hf, hg, hlb, k7.1, k7.2])]
  have eA : stepA mo mn t l = (⟨if (fOf mo t).1.label = 1 then 4 else 3, t, placeP l (pairO mo mn t)⟩, true) := by unfold stepA; rw [eO]; rfl
  have AP := adapt_part S U l (pairO mo mn t) hl
  rw [eA, eI]
  generalize addP l (pairO mo mn t) = l' at *
  generalize placeP l (pairO mo mn t) = pl at *
  simp only [pairO, encPr] at AP
  refine AW.rT (by rfl) fun K hK => ?_
  simp -implicitDefEqProofs only [go_sem, ↓reduceIte, Nat.reduceAdd, Nat.reduceEqDiff, reduceCtorEq, q1, q2]
  apply hK; clear hK K
  refine AW.cT rfl ?_
  refine AW.rR (SeqR.ev 8 (by rfl) (by decide) ?_)
  simp -implicitDefEqProofs only [go_sem, ↓reduceIte, Nat.reduceAdd, Nat.reduceEqDiff, Nat.reduceLeDiff, reduceCtorEq]
  refine SeqR.call (fun k => k) rfl rfl AP ⟨?_, rfl, ?_, rfl, rfl, rfl, rfl, rfl, ?_⟩ ?_
  ·simp -implicitDefEqProofs only [go_sem, ↓reduceIte, Nat.reduceEqDiff, argD]
  ·simp only [memA, rowA]
   simp -implicitDefEqProofs only [go_sem, ↓reduceIte, reduceCtorEq, List.forall_mem_cons, List.not_mem_nil, false_implies, implies_true]
   first | done | decide
  ·simp only [memA, rowA, List.all_cons, List.all_nil, labsBy_lift, mQ_by]
   rfl
  refine SeqR.ghost (s' := adR S U l' (fOf mo t).1 (fOf mn t).1 ⟨1, t, 0⟩ [(67, .p (.int .i64 (pl : Int)))]) ?_ ?_
  ·simp only [adR, memA, rowA, List.cons_append, List.nil_append]
   refine Ghost.ent (fun k => if k = 1 then 36 else if k = 2 then 37 else k) ?_ ?_ ?_ <;> simp -implicitDefEqProofs only [go_sem, ↓reduceIte, Nat.reduceAdd, Nat.reduceEqDiff, reduceCtorEq, lift2, goneU, newU, Nat.reduceSub, List.forall_mem_cons, List.not_mem_nil, false_implies, implies_true, and_self, map_renL_lift, labsIn_lift, List.all_cons, List.all_nil, Nat.reduceLT, labsInL, AV.labsIn]
   all_goals first | rfl | decide | skip
  simp only [adR, memA, rowA, List.cons_append, List.nil_append]
  refine SeqR.ev 4 (by rfl) (by decide) ?_
  simp -implicitDefEqProofs only [go_sem, ↓reduceIte, Nat.reduceAdd, Nat.reduceEqDiff, Nat.reduceLeDiff, reduceCtorEq]
  refine SeqR.last rfl ?_
  by_cases lb1 : (fOf mo t).1.label = 1
  ·have b1 : ((fOf mo t).1.label == 1) = true := by simp [lb1]
   rw [if_pos lb1]
   refine AW.rT (by rfl) fun K hK => ?_
   simp -implicitDefEqProofs only [go_sem, ↓reduceIte, Nat.reduceAdd, Nat.reduceEqDiff, reduceCtorEq, b1]
   apply hK; clear hK K
   refine AW.cT rfl ?_
   refine AW.rE (by rfl) fun K hK => ?_
   simp -implicitDefEqProofs only [go_sem, ↓reduceIte, Nat.reduceAdd, Nat.reduceEqDiff, Nat.reduceLeDiff, reduceCtorEq]
   apply hK; clear hK K
   simp only [andThen, inBlk]
   refine AW.rT (by rfl) fun K hK => ?_
   simp -implicitDefEqProofs only [go_sem, ↓reduceIte, Nat.reduceAdd, Nat.reduceEqDiff, Nat.reduceLeDiff, reduceCtorEq]
   apply hK; clear hK K
   refine AW.ret (stepEnd (b := (⟨4, t, pl⟩, true)) rfl ?_ ?_ ?_ ?_ ⟨?_, ?_, trivial⟩) <;> simp -implicitDefEqProofs only [go_sem, ↓reduceIte, Nat.reduceAdd, Nat.reduceEqDiff, Nat.reduceLeDiff, reduceCtorEq, rowA, encSt]
  ·have b1 : ((fOf mo t).1.label == 1) = false := beq_eq_false_iff_ne.2 lb1
   rw [if_neg lb1]
   refine AW.rT (by rfl) fun K hK => ?_
   simp -implicitDefEqProofs only [go_sem, ↓reduceIte, Nat.reduceAdd, Nat.reduceEqDiff, reduceCtorEq, b1]
   apply hK; clear hK K
   refine AW.cF rfl ?_
   refine AW.skip ?_
   simp only [andThen, inBlk]
   refine AW.rT (by rfl) fun K hK => ?_
   simp -implicitDefEqProofs only [go_sem, ↓reduceIte, Nat.reduceAdd, Nat.reduceEqDiff, Nat.reduceLeDiff, reduceCtorEq]
   apply hK; clear hK K
   refine AW.ret (stepEnd (b := (⟨3, t, pl⟩, true)) rfl ?_ ?_ ?_ ?_ ⟨?_, ?_, trivial⟩) <;> simp -implicitDefEqProofs only [go_sem, ↓reduceIte, Nat.reduceAdd, Nat.reduceEqDiff, Nat.reduceLeDiff, reduceCtorEq, rowA, encSt]
 have eI : stepLs mo mn t l = l := by
  unfold stepLs
  rw [if_neg]
  intro h
  exact k7 ⟨(intoB_spec h).2.2.2.1, (intoB_spec h).2.2.2.2⟩
 rw [eI]
 refine AW.cut (fun _ : Unit => adR S U l (fOf mo t).1 (fOf mn t).1 ⟨1, t, 0⟩ [(15, .p (.int .i64 (fOf mo t).1.ty.kind)), (16, .p (.int .i64 (fOf mn t).1.ty.kind)), (52, .p (.bool false))]) (fun _ => True) ?_ fun _ _ => ?_
 ·cases x1 : ((fOf mo t).1.ty.kind == 7) with
  | false =>
   refine AW.rE (by rfl) fun K hK => ?_
   simp -implicitDefEqProofs only [go_sem, ↓reduceIte, Nat.reduceAdd, Nat.reduceEqDiff, reduceCtorEq, x1]
   apply hK; clear hK K
   refine ⟨(), trivial, ?_⟩
   show Ghost _ _ (adR _ _ _ _ _ _ _)
   simp only [adR, memA, rowA, List.cons_append, List.nil_append]
   refine Ghost.sub ?_ ?_ <;> simp -implicitDefEqProofs only [go_sem, ↓reduceIte, Nat.reduceEqDiff, reduceCtorEq, List.forall_mem_cons, List.not_mem_nil, false_implies, implies_true, and_self, labsIn_lift, List.all_cons, List.all_nil, Nat.reduceLT, labsInL, AV.labsIn]
   all_goals first | rfl | decide | skip
  | true =>
   have x2 : ((fOf mn t).1.ty.kind == 7) = false := by
    rw [beq_eq_false_iff_ne]
    exact fun h => k7 ⟨beq_iff_eq.1 x1, h⟩
   refine AW.rE (by rfl) fun K hK => ?_
   simp -implicitDefEqProofs only [go_sem, ↓reduceIte, Nat.reduceAdd, Nat.reduceEqDiff, reduceCtorEq, x1, x2]
   apply hK; clear hK K
   refine ⟨(), trivial, ?_⟩
   show Ghost _ _ (adR _ _ _ _ _ _ _)
   simp only [adR, memA, rowA, List.cons_append, List.nil_append]
   refine Ghost.sub ?_ ?_ <;> simp -implicitDefEqProofs only [go_sem, ↓reduceIte, Nat.reduceEqDiff, reduceCtorEq, List.forall_mem_cons, List.not_mem_nil, false_implies, implies_true, and_self, labsIn_lift, List.all_cons, List.all_nil, Nat.reduceLT, labsInL, AV.labsIn]
   all_goals first | rfl | decide | skip
 simp only [adR, memA, rowA, List.cons_append, List.nil_append]
 refine AW.cF rfl ?_
 by_cases k2 : (fOf mo t).1.ty.kind = 2 ∧ (fOf mn t).1.ty.kind = 1
 ·have q1 : ((fOf mo t).1.ty.kind == 2) = true := by simp [k2.1]
  have q2 : ((fOf mn t).1.ty.kind == 1) = true := by simp [k2.2]
  have eA : stepA mo mn t l = (⟨2, t, 0⟩, true) := by unfold stepA stepO; rw [if_pos cc, if_neg k7, if_pos k2]; rfl
  rw [eA]
  refine AW.rT (by rfl) fun K hK => ?_
  simp -implicitDefEqProofs only [go_sem, ↓reduceIte, Nat.reduceAdd, Nat.reduceEqDiff, reduceCtorEq, q1, q2]
  apply hK; clear hK K
  refine AW.cT rfl ?_
  refine AW.rE (by rfl) fun K hK => ?_
  simp -implicitDefEqProofs only [go_sem, ↓reduceIte, Nat.reduceAdd, Nat.reduceEqDiff, Nat.reduceLeDiff, reduceCtorEq]
  apply hK; clear hK K
  simp only [andThen, inBlk]
  refine AW.rT (by rfl) fun K hK => ?_
  simp -implicitDefEqProofs only [go_sem, ↓reduceIte, Nat.reduceAdd, Nat.reduceEqDiff, Nat.reduceLeDiff, reduceCtorEq]
  apply hK; clear hK K
  refine AW.ret (stepEnd (b := (⟨2, t, 0⟩, true)) rfl ?_ ?_ ?_ ?_ ⟨?_, ?_, trivial⟩) <;> simp -implicitDefEqProofs only [go_sem, ↓reduceIte, Nat.reduceAdd, Nat.reduceEqDiff, Nat.reduceLeDiff, reduceCtorEq, rowA, encSt]
 refine AW.cut (fun _ : Unit => adR S U l (fOf mo t).1 (fOf mn t).1 ⟨1, t, 0⟩ [(15, .p (.int .i64 (fOf mo t).1.ty.kind)), (16, .p (.int .i64 (fOf mn t).1.ty.kind)), (74, .p (.bool false))]) (fun _ => True) ?_ fun _ _ => ?_
 ·cases x1 : ((fOf mo t).1.ty.kind == 2) with
  | false =>
   refine AW.rE (by rfl) fun K hK => ?_
   simp -implicitDefEqProofs only [go_sem, ↓reduceIte, Nat.reduceAdd, Nat.reduceEqDiff, reduceCtorEq, x1]
   apply hK; clear hK K
   refine ⟨(), trivial, ?_⟩
   show Ghost _ _ (adR _ _ _ _ _ _ _)
   simp only [adR, memA, rowA, List.cons_append, List.nil_append]
   refine Ghost.sub ?_ ?_ <;> simp -implicitDefEqProofs only [go_sem, ↓reduceIte, Nat.reduceEqDiff, reduceCtorEq, List.forall_mem_cons, List.not_mem_nil, false_implies, implies_true, and_self, labsIn_lift, List.all_cons, List.all_nil, Nat.reduceLT, labsInL, AV.labsIn]
   all_goals first | rfl | decide | skip
  | true =>
   have x2 : ((fOf mn t).1.ty.kind == 1) = false := by
    rw [beq_eq_false_iff_ne]
    exact fun h => k2 ⟨beq_iff_eq.1 x1, h⟩
   refine AW.rE (by rfl) fun K hK => ?_
   simp -implicitDefEqProofs only [go_sem, ↓reduceIte, Nat.reduceAdd, Nat.reduceEqDiff, reduceCtorEq, x1, x2]
   apply hK; clear hK K
   refine ⟨(), trivial, ?_⟩
   show Ghost _ _ (adR _ _ _ _ _ _ _)
   simp only [adR, memA, rowA, List.cons_append, List.nil_append]
   refine Ghost.sub ?_ ?_ <;> simp -implicitDefEqProofs only [go_sem, ↓reduceIte, Nat.reduceEqDiff, reduceCtorEq, List.forall_mem_cons, List.not_mem_nil, false_implies, implies_true, and_self, labsIn_lift, List.all_cons, List.all_nil, Nat.reduceLT, labsInL, AV.labsIn]
   all_goals first | rfl | decide | skip
 simp only [adR, memA, rowA, List.cons_append, List.nil_append]
 refine AW.cF rfl ?_
 by_cases k1 : (fOf mo t).1.ty.kind = (fOf mn t).1.ty.kind ∨ (fOf mo t).1.ty.kind = 1 ∧ (fOf mn t).1.ty.kind = 2
 ·have eA : stepA mo mn t l = (⟨1, t, 0⟩, true) := by unfold stepA stepO; rw [if_pos cc, if_neg k7, if_neg k2, if_pos k1]; rfl
  rw [eA]
  refine AW.cut (fun _ : Unit => adR S U l (fOf mo t).1 (fOf mn t).1 ⟨1, t, 0⟩ [(15, .p (.int .i64 (fOf mo t).1.ty.kind)), (16, .p (.int .i64 (fOf mn t).1.ty.kind)), (82, .p (.bool false))]) (fun _ => True) ?_ fun _ _ => ?_
  ·by_cases x0 : (fOf mo t).1.ty.kind = (fOf mn t).1.ty.kind
   ·have x1 : ((fOf mo t).1.ty.kind != (fOf mn t).1.ty.kind) = false := by simp [x0]
    refine AW.rE (by rfl) fun K hK => ?_
    simp -implicitDefEqProofs only [go_sem, ↓reduceIte, Nat.reduceAdd, Nat.reduceEqDiff, reduceCtorEq, x1]
    apply hK; clear hK K
    refine ⟨(), trivial, ?_⟩
    show Ghost _ _ (adR _ _ _ _ _ _ _)
    simp only [adR, memA, rowA, List.cons_append, List.nil_append]
    refine Ghost.sub ?_ ?_ <;> simp -implicitDefEqProofs only [go_sem, ↓reduceIte, Nat.reduceEqDiff, reduceCtorEq, List.forall_mem_cons, List.not_mem_nil, false_implies, implies_true, and_self, labsIn_lift, List.all_cons, List.all_nil, Nat.reduceLT, labsInL, AV.labsIn]
    all_goals first | rfl | decide | skip
   ·have x1 : ((fOf mo t).1.ty.kind != (fOf mn t).1.ty.kind) = true := by simp [x0]
    have x4 : (fOf mo t).1.ty.kind = 1 ∧ (fOf mn t).1.ty.kind = 2 := by rcases k1 with h | h; exact absurd h x0; exact h
    have x2 : ((fOf mo t).1.ty.kind != 1) = false := by simp [x4.1]
    have x3 : ((fOf mn t).1.ty.kind != 2) = false := by simp [x4.2]
    refine AW.rE (by rfl) fun K hK => ?_
    simp -implicitDefEqProofs only [go_sem, ↓reduceIte, Nat.reduceAdd, Nat.reduceEqDiff, reduceCtorEq, x1, x2, x3]
    apply hK; clear hK K
    refine ⟨(), trivial, ?_⟩
    show Ghost _ _ (adR _ _ _ _ _ _ _)
    simp only [adR, memA, rowA, List.cons_append, List.nil_append]
    refine Ghost.sub ?_ ?_ <;> simp -implicitDefEqProofs only [go_sem, ↓reduceIte, Nat.reduceEqDiff, reduceCtorEq, List.forall_mem_cons, List.not_mem_nil, false_implies, implies_true, and_self, labsIn_lift, List.all_cons, List.all_nil, Nat.reduceLT, labsInL, AV.labsIn]
    all_goals first | rfl | decide | skip
  simp only [adR, memA, rowA, List.cons_append, List.nil_append]
  refine AW.cF rfl ?_
  refine AW.skip ?_
  simp only [andThen, inBlk]
  refine AW.rT (by rfl) fun K hK => ?_
  simp -implicitDefEqProofs only [go_sem, ↓reduceIte, Nat.reduceAdd, Nat.reduceEqDiff, Nat.reduceLeDiff, reduceCtorEq]
  apply hK; clear hK K
  refine AW.ret (stepEnd (b := (⟨1, t, 0⟩, true)) rfl ?_ ?_ ?_ ?_ ⟨?_, ?_, trivial⟩) <;> simp -implicitDefEqProofs only [go_sem, ↓reduceIte, Nat.reduceAdd, Nat.reduceEqDiff, Nat.reduceLeDiff, reduceCtorEq, rowA, encSt]
 have eA : stepA mo mn t l = (⟨0, 0, 0⟩, false) := by unfold stepA stepO; rw [if_pos cc, if_neg k7, if_neg k2, if_neg k1]; rfl
 rw [eA]
 refine AW.cut (fun _ : Unit => adR S U l (fOf mo t).1 (fOf mn t).1 ⟨1, t, 0⟩ [(15, .p (.int .i64 (fOf mo t).1.ty.kind)), (16, .p (.int .i64 (fOf mn t).1.ty.kind)), (82, .p (.bool true))]) (fun _ => True) ?_ fun _ _ => ?_
 ·have x1 : ((fOf mo t).1.ty.kind != (fOf mn t).1.ty.kind) = true := by simp; exact fun h => k1 (.inl h)
  cases x2 : ((fOf mo t).1.ty.kind != 1) with
  | true =>
   refine AW.rE (by rfl) fun K hK => ?_
   simp -implicitDefEqProofs only [go_sem, ↓reduceIte, Nat.reduceAdd, Nat.reduceEqDiff, reduceCtorEq, x1, x2]
   apply hK; clear hK K
   refine ⟨(), trivial, ?_⟩
   show Ghost _ _ (adR _ _ _ _ _ _ _)
   simp only [adR, memA, rowA, List.cons_append, List.nil_append]
   refine Ghost.sub ?_ ?_ <;> simp -implicitDefEqProofs only [go_sem, ↓reduceIte, Nat.reduceEqDiff, reduceCtorEq, List.forall_mem_cons, List.not_mem_nil, false_implies, implies_true, and_self, labsIn_lift, List.all_cons, List.all_nil, Nat.reduceLT, labsInL, AV.labsIn]
   all_goals first | rfl | decide | skip
  | false =>
   have x3 : ((fOf mn t).1.ty.kind != 2) = true := by
    rw [bne_iff_ne]
    exact fun h => k1 (.inr ⟨by simpa using x2, h⟩)
   refine AW.rE (by rfl) fun K hK => ?_
   simp -implicitDefEqProofs only [go_sem, ↓reduceIte, Nat.reduceAdd, Nat.reduceEqDiff, reduceCtorEq, x1, x2, x3]
   apply hK; clear hK K
   refine ⟨(), trivial, ?_⟩
   show Ghost _ _ (adR _ _ _ _ _ _ _)
   simp only [adR, memA, rowA, List.cons_append, List.nil_append]
   refine Ghost.sub ?_ ?_ <;> simp -implicitDefEqProofs only [go_sem, ↓reduceIte, Nat.reduceEqDiff, reduceCtorEq, List.forall_mem_cons, List.not_mem_nil, false_implies, implies_true, and_self, labsIn_lift, List.all_cons, List.all_nil, Nat.reduceLT, labsInL, AV.labsIn]
   all_goals first | rfl | decide | skip
 simp only [adR, memA, rowA, List.cons_append, List.nil_append]
 refine AW.cT rfl ?_
 refine AW.rT (by rfl) fun K hK => ?_
 simp -implicitDefEqProofs only [go_sem, ↓reduceIte, Nat.reduceAdd, Nat.reduceEqDiff, Nat.reduceLeDiff, reduceCtorEq]
 apply hK; clear hK K
 refine AW.ret (stepEnd (b := (⟨0, 0, 0⟩, false)) rfl ?_ ?_ ?_ ?_ ⟨?_, ?_, trivial⟩) <;> simp -implicitDefEqProofs only [go_sem, ↓reduceIte, Nat.reduceAdd, Nat.reduceEqDiff, Nat.reduceLeDiff, reduceCtorEq, rowA, encSt]
end Go.Aw
namespace Go.Aw
open Go.Proofs Go.RowKit
theorem vals_iff : ∀ {l : List Nm} {ns : List (List UInt8)} {us : List Int}, valsC ns us l = 0 ↔ (∀ f ∈ l, nameB f.name = true ∧ numB f.n = true ∧ f.name ∉ ns ∧ f.n ∉ us) ∧ (l.map Nm.name).Nodup ∧ (l.map Nm.n).Nodup
 | [], ns, us => by simp [valsC]
 | f :: l, ns, us => by
  rw [valsC, List.map_cons, List.map_cons, List.nodup_cons, List.nodup_cons]
  constructor
  ·intro h
   split at h
   ·rename_i h1
    split at h
    ·rename_i h2
     obtain ⟨q1, q2, q3⟩ := (vals_iff (l := l)).1 h
     have t1 := takes_iff.1 h1
     rw [Bool.and_eq_true, Bool.not_eq_true', ← Bool.not_eq_true, List.contains_iff_mem] at h2
     refine ⟨fun g hg => ?_, ⟨fun hm => ?_, q2⟩, ⟨fun hm => ?_, q3⟩⟩
     ·rcases List.mem_cons.1 hg with rfl | hg
      ·exact ⟨t1.1, h2.1, t1.2, h2.2⟩
      ·obtain ⟨a, b, d, e⟩ := q1 g hg
       exact ⟨a, b, fun hm => d (List.mem_append.2 (.inl hm)), fun hm => e (List.mem_append.2 (.inl hm))⟩
     ·obtain ⟨g, hg, e⟩ := List.mem_map.1 hm
      exact (q1 g hg).2.2.1 (by rw [e]; simp)
     ·obtain ⟨g, hg, e⟩ := List.mem_map.1 hm
      exact (q1 g hg).2.2.2 (by rw [e]; simp)
    ·cases h
   ·cases h
  ·rintro ⟨h, ⟨n1, n2⟩, ⟨m1, m2⟩⟩
   obtain ⟨a, b, d, e⟩ := h f List.mem_cons_self
   rw [if_pos (takes_iff.2 ⟨a, d⟩), if_pos (by rw [Bool.and_eq_true, Bool.not_eq_true', ← Bool.not_eq_true, List.contains_iff_mem]; exact ⟨b, e⟩)]
   refine (vals_iff (l := l)).2 ⟨fun g hg => ?_, n2, m2⟩
   obtain ⟨a', b', d', e'⟩ := h g (List.mem_cons_of_mem _ hg)
   refine ⟨a', b', fun hm => ?_, fun hm => ?_⟩
   ·rcases List.mem_append.1 hm with hm | hm
    ·exact d' hm
    ·simp at hm; exact n1 (List.mem_map.2 ⟨g, hg, hm⟩)
   ·rcases List.mem_append.1 hm with hm | hm
    ·exact e' hm
    ·simp at hm; exact m1 (List.mem_map.2 ⟨g, hg, hm⟩)
theorem name_nil : nameB [] = false := by decide +kernel
structure FitE (e : En) : Prop where
 no : e.vals.length ≤ 16
 zero : ∃ v ∈ e.vals, v.n = 0
 vals : ∀ v ∈ e.vals, nameB v.name = true ∧ numB v.n = true
 nnd : (e.vals.map Nm.name).Nodup
 vnd : (e.vals.map Nm.n).Nodup
theorem ebody_iff {e : En} : enumBody e = 0 ↔ FitE e := by
 unfold enumBody
 constructor
 ·intro h
  split at h
  ·cases h
  rename_i h1
  split at h
  ·rename_i h2
   obtain ⟨q1, q2, q3⟩ := vals_iff.1 h
   obtain ⟨v, hv, e0⟩ := List.any_eq_true.1 h2
   exact ⟨by omega, ⟨v, hv, eq_of_beq e0⟩, fun v hv => ⟨(q1 v hv).1, (q1 v hv).2.1⟩, q2, q3⟩
  ·cases h
 ·intro F
  have := F.no
  obtain ⟨v, hv, e0⟩ := F.zero
  rw [if_neg (by omega), if_pos (List.any_eq_true.2 ⟨v, hv, by simp [e0]⟩)]
  exact vals_iff.2 ⟨fun v hv => ⟨(F.vals v hv).1, (F.vals v hv).2, by simp, by simp⟩, F.nnd, F.vnd⟩
theorem FitE.nice {e : En} (F : FitE e) : niceE e := by
 refine ⟨F.vnd, fun v hv q => ?_⟩
 have := (F.vals v hv).1
 rw [q, name_nil] at this
 cases this
theorem fit_enum {S : Sc} (F : FitS S) {e : En} (h : e ∈ S.enums) : FitE e := ebody_iff.1 (F.ebody e h)
theorem right_Fits {S U : Sc} (F : FitS S) (G : FitS U) (y z : Ty) : PFn Tryd.prog 118 [.agg (encSc S), .agg (encSc U), .agg (encTy y), .agg (encTy z)] (.bool (fitsB S U y z)) :=
 compat_Fits S U y z (by have := F.lens; omega) (by have := G.lens; omega) (fun e he => by have := (fit_enum F he).no; omega) (fun e he => by have := (fit_enum G he).no; omega) (fun e he => (fit_enum F he).nice) fun e he => (fit_enum G he).nice
end Go.Aw
