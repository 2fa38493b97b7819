/- What the law LawAdaptSame leans on, joined (part 5). -/
import Derived.Test.YtmeplhcfjihafaaDoorZadaptSame4
set_option linter.unusedSimpArgs false
set_option linter.unusedVariables false
namespace Go.Aw
open Go.RowKit
variable {P : Program}
theorem callD_sig {nt : Fm} {s : St} {o : Oper} {c : Operand} {f : FuncId} {xs : Array Operand} {ts : Array TypeId} {args : List AV} {h : List (Nat × Blk)} {n : Nat} {rt : List Nat} {r : AV} {h' : List (Nat × Blk)} {m : Nat} (ρ : Nat → Nat)
  (ho : o.op = .call { callee := .value c, args := xs, argTypes := ts }) (hcf : fnOf (ev s.T c) = some f) (hd : dstOK nt o = true) (D : DFn P f args h n rt r h' m) (F : FitD s xs.toList args h n rt r h' ρ)
  {w0 : World} {X I0 : Nat → Prop} {a : Act} {w : World} {next : Act → World → Prop} {Q : Exit → Act → World → Prop} {σ : Lab} {I : Nat → Prop} (tx : TabX w0 X I0) (hn : ∀ l, s.nx ≤ l → σ l = none) (mm : Match nt w0 X I0 σ I s.T s.H a w)
  (hnext : ∀ σ' I' a' w', (∀ l, l < s.nx → σ' l = σ l) → (∀ l, s.nx + m ≤ l → σ' l = none) → Match nt w0 X I0 σ' I' (putT s.T o.dst (some (r.ren (lift2 ρ n s.nx)))) (putH (putH s.H (goneU ρ h)) (newU (lift2 ρ n s.nx) h')) a' w' → next a' w') : o.wp P a w next Q := by
 obtain ⟨hen, hp⟩ := D
 have IN : In σ w I s.T s.H w0 X I0 a s.nx := ⟨mm.heap, mm.tmps, hn _ (Nat.le_refl _), tx⟩
 have hrun : (execOp a.eval o).run P w = .ok (.enter f (xs.map a.eval)) w := by
  have he : a.eval c = .func (.func f) #[] #[] := by
   cases hev : ev s.T c with
   | none => rw [hev] at hcf; simp [fnOf] at hcf
   | some x => rw [hev] at hcf; exact fnOf_spec hcf (IN.ev hev)
  simp only [execOp, ho, resolve, he, Deferred.ofValue, Sem.run_bind, Sem.run_pure, Result.andThen_ok, invoke, Array.append_empty, Array.empty_append, run_enter hen]
 obtain ⟨p1, p2⟩ := argD_spec F.opd
 have here : ∀ l b, ofH h l = some b → s.H (ρ l) = some (b.ren ρ) ∧ l < n ∧ b.labsIn n = true := fun l b hl => F.here (l, b) (ofH_mem hl)
 have inj : ∀ l l' b b', ofH h l = some b → ofH h l' = some b' → ρ l = ρ l' → l = l' := fun l l' b b' h1 h2 e => by
  have := distinct_inj F.inj (l, b) (ofH_mem h1) (l', b') (ofH_mem h2) e
  injection this
 generalize hσc : relab ρ n σ = σc
 have σat : ∀ l, l < n → σc l = σ (ρ l) := fun l hl => by rw [← hσc]; unfold relab; rw [if_pos hl]
 have σno : ∀ l, n ≤ l → σc l = none := fun l hl => by rw [← hσc]; unfold relab; rw [if_neg (by omega)]
 have Xof : ∀ g, lentX σc (ofH h) g → ∃ l b sl, ofH h l = some b ∧ s.H (ρ l) = some (b.ren ρ) ∧ σ (ρ l) = some sl ∧ sl.block = some g := fun g ⟨l, sl, q1, q2, q3⟩ => by
  obtain ⟨b, hb⟩ := Option.ne_none_iff_exists'.1 q1
  obtain ⟨r1, r2, _⟩ := here l b hb
  exact ⟨l, b, sl, hb, r1, by rw [← σat l r2]; exact q2, q3⟩
 have hH : HOK σc w I (ofH h) w (lentX σc (ofH h)) I := by
  refine ⟨fun l b hl => ?_, fun l l' g s1 s2 n1 n2 e1 e2 g1 g2 => ?_, fun l g s1 n1 e1 g1 => ?_, fun g hg => ⟨(mm.heap.imm g hg).1, .inl hg⟩, fun _ h => h, Fr.refl _ _⟩
  ·obtain ⟨r1, r2, r3⟩ := here l b hl
   rw [← hσc]
   exact repB_ren r2 (mm.heap.rows _ _ r1) r3
  ·obtain ⟨b1, hb1⟩ := Option.ne_none_iff_exists'.1 n1
   obtain ⟨b2, hb2⟩ := Option.ne_none_iff_exists'.1 n2
   obtain ⟨r1, r2, _⟩ := here l b1 hb1
   obtain ⟨r1', r2', _⟩ := here l' b2 hb2
   rw [σat l r2] at e1
   rw [σat l' r2'] at e2
   exact inj l l' b1 b2 hb1 hb2 (mm.heap.inj _ _ g s1 s2 (by rw [r1]; simp) (by rw [r1']; simp) e1 e2 g1 g2)
  ·obtain ⟨b1, hb1⟩ := Option.ne_none_iff_exists'.1 n1
   obtain ⟨r1, r2, _⟩ := here l b1 hb1
   refine ⟨?_, .inl ⟨l, s1, n1, e1, g1⟩⟩
   rw [σat l r2] at e1
   exact (mm.heap.mine _ g s1 (by rw [r1]; simp) e1 g1).1
 have hargs := hp w I σc (xs.map a.eval) (by simpa using p1) σno (fun j u y q1 q2 => by
  rw [Array.getElem?_map, Option.map_eq_some_iff] at q1
  obtain ⟨x, hx, rfl⟩ := q1
  have hlab : y.labsIn n = true := List.all_eq_true.1 F.labs y (List.mem_of_getElem? q2)
  rcases p2 j x y (by simpa using hx) q2 with ⟨p, v, rfl, hv, hpv⟩ | hv
  ·exact .p (rep_pureA (IN.ev hv) hpv)
  ·rw [← hσc]
   exact repA_ren (IN.ev hv) y rfl hlab) hH IN.tabs
 unfold Oper.wp
 rw [hrun, Oper.upon_enter]
 refine hargs.mono fun e w' he => ?_
 obtain ⟨v, σ', I', rfl, hh, hrv, hroot, hnew⟩ := he
 -- the caller's labels behind the call
 obtain ⟨σ2, hσ2⟩ : ∃ σ2 : Lab, ∀ l, σ2 l = if l < s.nx then σ l else σ' (n + (l - s.nx)) := ⟨fun l => if l < s.nx then σ l else σ' (n + (l - s.nx)), fun _ => rfl⟩
 have old : ∀ l sl, σ l = some sl → σ2 l = some sl := fun l sl hl => by
  rw [hσ2]
  rcases Nat.lt_or_ge l s.nx with q | q
  ·rw [if_pos q]; exact hl
  ·rw [hn l q] at hl; cases hl
 have new : ∀ l, (rt.contains l || decide (n ≤ l)) = true → ∀ sl, σ' l = some sl → σ2 (lift2 ρ n s.nx l) = some sl := fun l hl sl hs => by
  unfold lift2
  rcases Nat.lt_or_ge l n with q | q
  ·rw [if_pos q]
   have hm : l ∈ rt := by
    rcases Bool.or_eq_true_iff.1 hl with hl | hl
    ·exact List.contains_iff_mem.1 hl
    ·simp at hl; omega
   rw [hroot l hm, σat l q] at hs
   exact old _ _ hs
  ·rw [if_neg (by omega), hσ2, if_neg (by omega), show n + (s.nx + (l - n) - s.nx) = l by omega]
   exact hs
 have blk : ∀ l g sl, s.H l ≠ none → σ l = some sl → sl.block = some g → g < w.heap.size := fun l g sl hn hs hg => by
  obtain ⟨b, hb⟩ := Option.ne_none_iff_exists'.1 hn
  obtain ⟨s', hs', hlt⟩ := (mm.heap.rows l b hb).block
  rw [hs] at hs'; injection hs' with hs'; subst hs'
  exact hlt g hg
 have Xmine : ∀ g, lentX σc (ofH h) g → ¬ I g ∧ (X g ∨ w0.heap.size ≤ g) ∧ g < w.heap.size := fun g hg => by
  obtain ⟨l, b, sl, q1, q2, q3, q4⟩ := Xof g hg
  obtain ⟨m1, m2⟩ := mm.heap.mine _ g sl (by rw [q2]; simp) q3 q4
  exact ⟨m1, m2, blk _ g sl (by rw [q2]; simp) q3 q4⟩
 have same : ∀ b, I b → w'.heap[b]? = w.heap[b]? := fun b hb => hh.fr.block b (mm.heap.imm b hb).1 fun hx => (Xmine b hx).1 hb
 have hI : ∀ g, I g → I' g := hh.sub
 have fresh : ∀ g, I' g → I g ∨ lentX σc (ofH h) g ∨ w.heap.size ≤ g := fun g hg => (hh.imm g hg).2
 have frame : ∀ l b, s.H l = some b → (∀ x ∈ h, ρ x.1 ≠ l) → ∀ g sl, σ l = some sl → sl.block = some g → ¬ lentX σc (ofH h) g := fun l b hl hno g sl hs hg hx => by
  obtain ⟨l2, b2, sl2, q1, q2, q3, q4⟩ := Xof g hx
  exact hno (l2, b2) (ofH_mem q1) (mm.heap.inj _ _ g sl2 sl (by rw [q2]; simp) (by rw [hl]; simp) q3 hs q4 hg)
 -- what stands where
 have cls : ∀ l b, putH (putH s.H (goneU ρ h)) (newU (lift2 ρ n s.nx) h') l = some b → (∃ x ∈ h', lift2 ρ n s.nx x.1 = l ∧ b = x.2.ren (lift2 ρ n s.nx)) ∨ (s.H l = some b ∧ (∀ x ∈ h, ρ x.1 ≠ l)) := fun l b hl => by
  rcases putH_new (lift2 ρ n s.nx) l h' (putH s.H (goneU ρ h)) with ⟨e1, e2⟩ | ⟨x, hx, e1, e2⟩
  ·rw [e1] at hl
   rcases putH_gone ρ l h s.H with ⟨e3, e4⟩ | ⟨e3, _⟩
   ·rw [e3] at hl; exact .inr ⟨hl, e4⟩
   ·rw [e3] at hl; cases hl
  ·rw [e2] at hl
   injection hl with hl
   exact .inl ⟨x, hx, e1, hl.symm⟩
 have mem' : ∀ x ∈ h', (rt.contains x.1 || decide (n ≤ x.1)) = true ∧ x.2.labsBy (fun l => rt.contains l || decide (n ≤ l)) = true := fun x hx => by
  have := List.all_eq_true.1 F.mem x hx
  rwa [Bool.and_eq_true] at this
 have inv : ∀ l, (rt.contains l || decide (n ≤ l)) = true → ∀ sl, σ2 (lift2 ρ n s.nx l) = some sl → σ' l = some sl := fun l hl sl hs => by
  unfold lift2 at hs
  rcases Nat.lt_or_ge l n with q | q
  ·rw [if_pos q] at hs
   have hm : l ∈ rt := by
    rcases Bool.or_eq_true_iff.1 hl with hl | hl
    ·exact List.contains_iff_mem.1 hl
    ·simp at hl; omega
   rw [hroot l hm, σat l q]
   have hc := List.contains_iff_mem.1 (List.all_eq_true.1 F.roots l hm)
   obtain ⟨x, hx, hxl⟩ := List.mem_map.1 hc
   obtain ⟨r1, r2, _⟩ := F.here x hx
   have hlt : ρ l < s.nx := by
    rcases Nat.lt_or_ge (ρ l) s.nx with z | z
    ·exact z
    ·obtain ⟨sl', hsl', _⟩ := (mm.heap.rows _ _ r1).block
     rw [hxl, hn _ z] at hsl'; cases hsl'
   rw [hσ2, if_pos hlt] at hs
   exact hs
  ·rw [if_neg (by omega), hσ2, if_neg (by omega), show n + (s.nx + (l - n) - s.nx) = l by omega] at hs
   exact hs
 have OK : HOK σ2 w' I' (putH (putH s.H (goneU ρ h)) (newU (lift2 ρ n s.nx) h')) w0 X I0 := by
  have rowN : ∀ x ∈ h', repB σ' w' I' x.1 x.2 := fun x hx => hh.rows x.1 x.2 (ofH_of_mem F.dist' hx)
  have neN : ∀ x ∈ h', ofH h' x.1 ≠ none := fun x hx => by rw [ofH_of_mem F.dist' hx]; simp
  have slotF : ∀ l b sl, s.H l = some b → σ2 l = some sl → σ l = some sl := fun l b sl hl hs => by
   obtain ⟨sl', hsl', _⟩ := (mm.heap.rows l b hl).block
   rw [old l sl' hsl'] at hs
   rw [hsl']; exact hs
  refine ⟨fun l b hl => ?_, fun l1 l2 g s1 s2 n1 n2 e1 e2 g1 g2 => ?_, fun l g sl n1 e1 g1 => ?_, fun g hg => ?_, fun g hg => hh.sub g (mm.heap.sub g hg), ⟨hh.fr.os.trans mm.heap.fr.os, hh.fr.tape.trans mm.heap.fr.tape, hh.fr.output.trans mm.heap.fr.output, Nat.le_trans mm.heap.fr.size hh.fr.size, fun b hb hx => ?_, mm.heap.fr.step fun b cur et p hb hc => hh.fr.shape b cur et p hc⟩⟩
  ·rcases cls l b hl with ⟨x, hx, rfl, rfl⟩ | ⟨hl', hno⟩
   ·exact repB_by new (mem' x hx).1 (rowN x hx) (mem' x hx).2
   ·obtain ⟨sl, hsl, hlt⟩ := (mm.heap.rows l b hl').block
    refine (mm.heap.rows l b hl').mono old hI same fun g s' q1 q2 => ?_
    rw [hsl] at q1; injection q1 with q1; subst q1
    exact hh.fr.block g (hlt g q2) (frame l b hl' hno g _ hsl q2)
  ·obtain ⟨b1, hb1⟩ := Option.ne_none_iff_exists'.1 n1
   obtain ⟨b2, hb2⟩ := Option.ne_none_iff_exists'.1 n2
   rcases cls l1 b1 hb1 with ⟨x, hx, rfl, rfl⟩ | ⟨h1, no1⟩
   ·have f1 := inv x.1 (mem' x hx).1 s1 e1
    rcases cls l2 b2 hb2 with ⟨y, hy, rfl, rfl⟩ | ⟨h2, no2⟩
    ·have f2 := inv y.1 (mem' y hy).1 s2 e2
     rw [hh.inj x.1 y.1 g s1 s2 (neN x hx) (neN y hy) f1 f2 g1 g2]
    ·exfalso
     have f2 := slotF l2 b2 s2 h2 e2
     rcases (hh.mine x.1 g s1 (neN x hx) f1 g1).2 with q | q
     ·exact frame l2 b2 h2 no2 g s2 f2 g2 q
     ·have := blk l2 g s2 (by rw [h2]; simp) f2 g2; omega
   ·have f1 := slotF l1 b1 s1 h1 e1
    rcases cls l2 b2 hb2 with ⟨y, hy, rfl, rfl⟩ | ⟨h2, no2⟩
    ·exfalso
     have f2 := inv y.1 (mem' y hy).1 s2 e2
     rcases (hh.mine y.1 g s2 (neN y hy) f2 g2).2 with q | q
     ·exact frame l1 b1 h1 no1 g s1 f1 g1 q
     ·have := blk l1 g s1 (by rw [h1]; simp) f1 g1; omega
    ·exact mm.heap.inj l1 l2 g s1 s2 (by rw [h1]; simp) (by rw [h2]; simp) f1 (slotF l2 b2 s2 h2 e2) g1 g2
  ·obtain ⟨b1, hb1⟩ := Option.ne_none_iff_exists'.1 n1
   rcases cls l b1 hb1 with ⟨x, hx, rfl, rfl⟩ | ⟨h1, no1⟩
   ·have f1 := inv x.1 (mem' x hx).1 sl e1
    obtain ⟨m1, m2⟩ := hh.mine x.1 g sl (neN x hx) f1 g1
    refine ⟨m1, ?_⟩
    rcases m2 with q | q
    ·exact (Xmine g q).2.1
    ·exact .inr (Nat.le_trans mm.heap.fr.size q)
   ·have f1 := slotF l b1 sl h1 e1
    obtain ⟨m1, m2⟩ := mm.heap.mine l g sl (by rw [h1]; simp) f1 g1
    refine ⟨fun hg => ?_, m2⟩
    rcases fresh g hg with q | q | q
    ·exact m1 q
    ·exact frame l b1 h1 no1 g sl f1 g1 q
    ·have := blk l g sl (by rw [h1]; simp) f1 g1; omega
  ·refine ⟨(hh.imm g hg).1, ?_⟩
   rcases fresh g hg with q | q | q
   ·exact (mm.heap.imm g q).2
   ·exact .inr (Xmine g q).2.1
   ·exact .inr (.inr (Nat.le_trans mm.heap.fr.size q))
  ·rw [hh.fr.block b (by have := mm.heap.fr.size; omega) fun hx' => ?_]
   ·exact mm.heap.fr.block b hb hx
   ·rcases (Xmine b hx').2.1 with q | q
    ·exact hx q
    ·omega
 refine hnext σ2 I' _ w' (fun l hl => by rw [hσ2, if_pos hl]) (fun l hl => ?_) (mm.put hd OK old hI same fun y hy => by injection hy with hy; subst hy; exact repA_by new hrv F.res)
 rw [hσ2, if_neg (by omega)]
 exact hnew _ (by omega)
theorem argD_pure {T : Nat → Option AV} {ρ : Nat → Nat} : ∀ {xs : List Operand} {l : List PV}, xs.map (ev T) = l.map (fun p => some (.p p)) → argD T ρ xs (l.map AV.p)
 | [], [], _ => trivial
 | [], _ :: _, h => by cases h
 | _ :: _, [], h => by cases h
 | x :: xs, p :: l, h => by
  rw [List.map_cons, List.map_cons] at h
  injection h with h1 h2
  rw [List.map_cons]
  refine ⟨?_, argD_pure h2⟩
  rw [h1]
  rfl
section
variable {nt : Fm} {ops : Array Oper} {L : List (Oper × Rec)} {nx dc ex : Nat} {T0 : Nat → Option AV} {H0 : Nat → Option Blk} {w0 : World} {X I0 : Nat → Prop}
def Inv2 (nt : Fm) (ops : Array Oper) (L : List (Oper × Rec)) (nx dc ex : Nat) (T0 : Nat → Option AV) (H0 : Nat → Option Blk) (w0 : World) (X I0 : Nat → Prop) (D : Nat → Bool) (a : Act) (w : World) : Prop :=
 ∃ σ I, Match nt w0 X I0 σ I (foldT D L 0 T0) (foldH D L 0 H0) a w ∧ ∀ l s, nx ≤ l → σ l = some s → (∃ j, l = nx + j ∧ j < ops.size ∧ D j = true) ∨ (nx + ops.size ≤ l ∧ l < nx + ops.size + ex ∧ D dc = true)
def DeepOK (P : Program) (N ex : Nat) (o : Oper) (r : Rec) (T : Nat → Option AV) : Prop :=
 o.guard = none ∧ ∃ (f : FuncId) (xs : Array Operand) (ts : Array TypeId) (l : List PV) (rr : AV) (h' : List (Nat × Blk)), o.op = .call { callee := .value (.func f), args := xs, argTypes := ts } ∧ xs.toList.map (ev T) = l.map (fun p => some (.p p)) ∧ DFn P f (l.map AV.p) [] 0 [] rr h' ex ∧ distinct (h'.map (·.1)) = true ∧
  rr.labsBy (fun l => ([] : List Nat).contains l || decide (0 ≤ l)) = true ∧ h'.all (fun x => (([] : List Nat).contains x.1 || decide (0 ≤ x.1)) && x.2.labsBy (fun l => ([] : List Nat).contains l || decide (0 ≤ l))) = true ∧
  r.eff = some ⟨some (rr.ren (lift2 (fun k => k) 0 N)), newU (lift2 (fun k => k) 0 N) h'⟩ ∧ r.reads = []
structure Sound2 (P : Program) (nt : Fm) (ops : Array Oper) (L : List (Oper × Rec)) (nx dc ex : Nat) (T0 : Nat → Option AV) (H0 : Nat → Option Blk) : Prop where
 dst : ops.toList.all (dstOK nt) = true
 len : L.length = ops.size
 opers : ∀ (i : Nat) o r, L[i]? = some (o, r) → ops[i]? = some o
 static : staticOK ops.toList = true
 heap : ∀ i j o r o' r', i < j → L[i]? = some (o, r) → L[j]? = some (o', r') → (∀ l, l ∈ r.writes → l ∉ eReads false o'.op r'.reads ∧ l ∉ r'.writes) ∧ (∀ l, l ∈ r'.writes → l ∉ eReads false o.op r.reads) ∨ ahead ops.toList ops.toList.length i j = true
 chain : ∀ i o r, i ≠ dc → L[i]? = some (o, r) → StepOK P ops.toList (nx + i) o r (foldT (fun j => decide (j < i)) L 0 T0) (foldH (fun j => decide (j < i)) L 0 H0)
 deep : ∀ o r, L[dc]? = some (o, r) → DeepOK P (nx + ops.size) ex o r (foldT (fun j => decide (j < dc)) L 0 T0)
theorem Sound2.step (S : Sound2 P nt ops L nx dc ex T0 H0) (tx : TabX w0 X I0) {D : Nat → Bool} {i : Nat} {K : Act → World → Prop} {Q : Exit → Act → World → Prop} {a : Act} {w : World}
  (hcl : ∀ j o e, ops.toList[j]? = some o → D j = true → e ∈ o.after.toList → Region.binds .any e = true → D e.on = true) (hi : i < ops.size) (hDi : D i = false)
  (hdep : ∀ o, ops.toList[i]? = some o → ∀ e ∈ o.after.toList, Region.binds .any e = true → D e.on = true)
  (inv : Inv2 nt ops L nx dc ex T0 H0 w0 X I0 D a w) (hK : ∀ a w, Inv2 nt ops L nx dc ex T0 H0 w0 X I0 (fun j => D j || j == i) a w → K a w) : wpOp P ops Q i K a w := by
 obtain ⟨σ, I, m, hσ⟩ := inv
 obtain ⟨x, hx⟩ : ∃ x, L[i]? = some x := ⟨_, List.getElem?_eq_getElem (by rw [S.len]; exact hi)⟩
 obtain ⟨o, r⟩ := x
 have ho := S.opers i o r hx
 have ho' : ops.toList[i]? = some o := by rw [Array.getElem?_toList]; exact ho
 have hdo : dstOK nt o = true := List.all_eq_true.1 S.dst o (List.mem_of_getElem? ho')
 have hstat := S.static
 simp only [staticOK, Bool.and_eq_true] at hstat
 have hDlab : D i = false → σ (nx + i) = none := by
  intro _
  cases hs : σ (nx + i) with
  | none => rfl
  | some s =>
   rcases hσ _ s (Nat.le_add_right _ _) hs with ⟨j, hj, _, hDj⟩ | ⟨h5, _, _⟩
   ·have : j = i := by omega
    subst this
    rw [hDi] at hDj
    cases hDj
   ·omega
 -- operations that may change places with this one
 have before : ∀ j, ahead ops.toList ops.toList.length j i = true → D j = true := fun j h => ahead_dep hcl ho' (hdep o ho') _ j h
 have after : ∀ j, ahead ops.toList ops.toList.length i j = true → D j = false := fun j h => by
  cases hj : D j with
  | false => rfl
  | true =>
   have := ahead_done hcl _ i j h hj
   rw [hDi] at this
   cases this
 have hlt : ∀ {j : Nat} {y : Oper × Rec}, L[j]? = some y → j < ops.toList.length := fun h => by
  have := (List.getElem?_eq_some_iff.1 h).1
  rw [Array.length_toList, ← S.len]
  exact this
 have apartT : ∀ j o' r', j ≠ i → L[j]? = some (o', r') → (∀ d, o'.dst = some d → d ∉ o.looksAt ops ∧ o.dst ≠ some d) ∨ (j < i ∧ D j = true) ∨ (i < j ∧ D j = false) := by
  intro j o' r' hne hj
  have hoj : ops.toList[j]? = some o' := by rw [Array.getElem?_toList]; exact S.opers j o' r' hj
  have e : ops.toList.toArray = ops := by simp
  rcases Nat.lt_or_gt_of_ne hne with q | q
  ·rcases pairs_spec hstat.2 q (hlt hx) with h | h
   ·left
    simp only [tmpsApart, hoj, ho', e] at h
    obtain ⟨h1, h2, _⟩ := Oper.apart_spec h
    exact fun d hd => ⟨h1 d hd, h2 d hd⟩
   ·exact .inr (.inl ⟨q, before j h⟩)
  ·rcases pairs_spec hstat.2 q (hlt hj) with h | h
   ·left
    simp only [tmpsApart, hoj, ho', e] at h
    obtain ⟨h1, h2, h3⟩ := Oper.apart_spec h
    exact fun d hd => ⟨h3 d hd, fun h => h2 d h hd⟩
   ·exact .inr (.inr ⟨q, after j h⟩)
 have apartH : ∀ j o' r', j ≠ i → L[j]? = some (o', r') → (∀ l, l ∈ r'.writes → l ∉ eReads false o.op r.reads ∧ l ∉ r.writes) ∨ (j < i ∧ D j = true) ∨ (i < j ∧ D j = false) := by
  intro j o' r' hne hj
  rcases Nat.lt_or_gt_of_ne hne with q | q
  ·rcases S.heap j i o' r' o r q hj hx with ⟨h1, h2⟩ | h
   ·exact .inl h1
   ·exact .inr (.inl ⟨q, before j h⟩)
  ·rcases S.heap i j o r o' r' q hx hj with ⟨h1, h2⟩ | h
   ·exact .inl fun l hl => ⟨h2 l hl, fun h => (h1 l h).2 hl⟩
   ·exact .inr (.inr ⟨q, after j h⟩)
 -- what it looks at is what it looks at in the text's order
 have sameT : ∀ t, t ∈ o.looksAt ops → foldT D L 0 T0 t = foldT (fun j => decide (j < i)) L 0 T0 t := by
  intro t ht
  refine foldT_eq L 0 _ _ rfl fun j y hj hy => ?_
  obtain ⟨o', r'⟩ := y
  rw [Nat.zero_add]
  by_cases hne : j = i
  ·subst hne; rw [hDi]; simp
  ·rcases apartT j o' r' hne hj with h | ⟨h1, h2⟩ | ⟨h1, h2⟩
   ·exact absurd ht (h t hy).1
   ·rw [h2]; simp [h1]
   ·rw [h2]; simp; omega
 have sameH : ∀ l, l ∈ eReads false o.op r.reads → foldH D L 0 H0 l = foldH (fun j => decide (j < i)) L 0 H0 l := by
  intro t ht
  refine foldH_eq L 0 _ _ rfl fun j y hj hy => ?_
  obtain ⟨o', r'⟩ := y
  rw [Nat.zero_add]
  by_cases hne : j = i
  ·subst hne; rw [hDi]; simp
  ·rcases apartH j o' r' hne hj with h | ⟨h1, h2⟩ | ⟨h1, h2⟩
   ·exact absurd ht (h t hy).1
   ·rw [h2]; simp [h1]
   ·rw [h2]; simp; omega
 have evSame : ∀ y ∈ o.op.operands.toList, ev (foldT D L 0 T0) y = ev (foldT (fun j => decide (j < i)) L 0 T0) y := by
  intro y hy
  cases y with
  | tmp t => exact sameT t (List.mem_append_left _ (List.mem_filterMap.2 ⟨.tmp t, hy, rfl⟩))
  | _ => rfl
 have guardSame : guardIs ops.toList o (foldT D L 0 T0) = guardIs ops.toList o (foldT (fun j => decide (j < i)) L 0 T0) := by
  unfold guardIs
  cases hg : o.guard with
  | none => rfl
  | some jw =>
   obtain ⟨j, want⟩ := jw
   simp only
   cases hd : (ops.toList[j]?).bind (·.dst) with
   | none => rfl
   | some d =>
    simp only [Option.bind_some]
    rw [sameT d (List.mem_append_right _ (by simp only [hg]; rw [Array.getElem?_toList] at hd; simp [hd]))]
 -- the state behind it
 have newT : putT (foldT D L 0 T0) o.dst r.val = foldT (fun j => D j || j == i) L 0 T0 := by
  funext t
  by_cases ht : o.dst = some t
  ·have e1 : putT (foldT D L 0 T0) o.dst r.val t = r.val := by simp only [ht, putT, upd_same]
   rw [e1]
   refine (foldT_at L 0 T0 i o r hx ht (by simp) fun j y hij hj hy => ?_).symm
   obtain ⟨o', r'⟩ := y
   rw [Nat.zero_add]
   rcases apartT j o' r' (by omega) hj with h | ⟨h1, h2⟩ | ⟨h1, h2⟩
   ·exact absurd ht (h t hy).2
   ·omega
   ·rw [h2]; simp; omega
  ·rw [putT_ne ht]
   refine foldT_eq L 0 _ _ rfl fun j y hj hy => ?_
   rw [Nat.zero_add]
   have : j ≠ i := by
    rintro rfl
    rw [hx] at hj
    injection hj with hj
    subst hj
    exact ht hy
   simp [this]
 have newH : putH (foldH D L 0 H0) r.upds = foldH (fun j => D j || j == i) L 0 H0 := by
  funext t
  by_cases ht : t ∈ r.writes
  ·rw [putH_in _ _ (fun _ => none) ht]
   refine (foldH_at L 0 H0 i o r hx ht (by simp) fun j y hij hj hy => ?_).symm
   obtain ⟨o', r'⟩ := y
   rw [Nat.zero_add]
   rcases apartH j o' r' (by omega) hj with h | ⟨h1, h2⟩ | ⟨h1, h2⟩
   ·exact absurd ht (h t hy).2
   ·omega
   ·rw [h2]; simp; omega
  ·rw [putH_out _ _ ht]
   refine foldH_eq L 0 _ _ rfl fun j y hj hy => ?_
   rw [Nat.zero_add]
   have : j ≠ i := by
    rintro rfl
    rw [hx] at hj
    injection hj with hj
    subst hj
    exact ht hy
   simp [this]
 have hwant : ∀ b, guardIs ops.toList o (foldT D L 0 T0) = some b → Region.wanted o (yielded ops a.tmps) = b := by
  intro b hb
  unfold guardIs at hb
  cases hg : o.guard with
  | none =>
   rw [hg] at hb
   injection hb with hb
   simp [Region.wanted, hg, hb]
  | some jw =>
   obtain ⟨j, want⟩ := jw
   rw [hg] at hb
   simp only at hb
   split at hb
   ·rename_i b' hb'
    injection hb with hb
    obtain ⟨d, hd1, hd2⟩ := Option.bind_eq_some_iff.1 hb'
    rw [Array.getElem?_toList] at hd1
    obtain ⟨u, hu, hru⟩ := m.tmps d _ hd2
    have hy : yielded ops a.tmps j = some b' := by
     cases hru with
     | p h => cases h; simp [yielded, hd1, hu]
    simp only [Region.wanted, hg, hy, ← hb]
    cases b' <;> cases want <;> rfl
   ·cases hb
 unfold wpOp
 rw [ho]
 simp only
 by_cases hic : i = dc
 ·subst hic
  obtain ⟨hg, f, xs, ts, l, rr, h', hop, hxs, hD, hdis, hres, hmem, hre, hrr⟩ := S.deep o r hx
  rw [if_pos (hwant true (by unfold guardIs; rw [hg]))]
  left
  have hxc : xs.toList.map (ev (foldT D L 0 T0)) = l.map fun p => some (.p p) := by
   rw [← hxs]
   refine List.map_congr_left fun y hy => evSame y ?_
   rw [hop]
   simp only [Op.operands, Call.operands]
   simp [hy]
  have hlab : ∀ l', nx + ops.size ≤ l' → σ l' = none := fun l' hl' => by
   cases hs : σ l' with
   | none => rfl
   | some s =>
    rcases hσ l' s (by omega) hs with ⟨j, h1, h0, _⟩ | ⟨_, _, h2⟩
    ·omega
    ·rw [hDi] at h2; cases h2
  refine callD_sig (s := ⟨foldT D L 0 T0, foldH D L 0 H0, nx + ops.size⟩) (fun k => k) hop rfl hdo hD ⟨argD_pure hxc, by simp [AV.labsIn], (fun x hx => by cases hx), rfl, rfl, hdis, rfl, hres, hmem⟩ tx hlab m fun σ' I' a' w' hlo hhi m' => hK _ _ ⟨σ', I', ?_, fun l' s hl hs => ?_⟩
  ·have e1 : r.val = some (rr.ren (lift2 (fun k => k) 0 (nx + ops.size))) := by simp [Rec.val, hre]
   have e2 : r.upds = newU (lift2 (fun k => k) 0 (nx + ops.size)) h' := by simp [Rec.upds, hre]
   rw [← newT, ← newH, e1, e2]
   exact m'
  ·rcases Nat.lt_or_ge l' (nx + ops.size) with q | q
   ·rw [hlo l' q] at hs
    rcases hσ l' s hl hs with ⟨j, h1, h0, h2⟩ | ⟨h1, _, _⟩
    ·exact .inl ⟨j, h1, h0, by simp [h2]⟩
    ·omega
   ·rcases Nat.lt_or_ge l' (nx + ops.size + ex) with q2 | q2
    ·exact .inr ⟨q, q2, by simp⟩
    ·rw [hhi l' q2] at hs; cases hs
 have hst := S.chain i o r hic hx
 unfold StepOK at hst
 cases he : r.eff with
 | some e =>
  rw [he] at hst
  obtain ⟨hg, hop, hr⟩ := hst
  rw [if_pos (hwant true (guardSame.trans hg))]
  have hop' : opW P (nx + i) o.op (foldT D L 0 T0) (foldH D L 0 H0) fun e' => e' = e := by
   rw [loc_op evSame (fun l hl => sameH l (by simp only [eReads, Bool.false_and, Bool.false_eq_true, if_false]; rw [hr]; exact hl))]
   exact hop
  left
  refine snd_op (w0 := w0) (X := X) (I0 := I0) ⟨m.heap, m.tmps, hDlab hDi, tx⟩ hop' _ _ fun e' v w' σ' I' hk out => hK _ _ ?_
  subst hk
  refine ⟨σ', I', ?_, fun l s hl hs => ?_⟩
  ·have := m.put hdo out.heap out.ext out.imm out.same out.val
   have e1 : r.val = e'.val := by simp [Rec.val, he]
   have e2 : r.upds = e'.upd := by simp [Rec.upds, he]
   rw [← newT, ← newH, e1, e2]
   exact this
  ·by_cases hll : l = nx + i
   ·exact .inl ⟨i, hll, hi, by simp⟩
   ·rw [out.lab l hll] at hs
    rcases hσ l s hl hs with ⟨j, h1, h0, h2⟩ | ⟨h1, h0, h2⟩
    ·exact .inl ⟨j, h1, h0, by simp [h2]⟩
    ·exact .inr ⟨h1, h0, by simp [h2]⟩
 | none =>
  rw [he] at hst
  rw [if_neg (by rw [hwant false (guardSame.trans hst)]; simp)]
  refine hK _ _ ⟨σ, I, ?_, fun l s hl hs => ?_⟩
  ·have := m.put (v := undef) (x := none) hdo m.heap (fun _ _ h => h) (fun _ h => h) (fun _ _ => rfl) (fun y hy => by cases hy)
   have e1 : r.val = none := by simp [Rec.val, he]
   have e2 : r.upds = [] := by simp [Rec.upds, he]
   rw [← newT, ← newH, e1, e2]
   exact this
  ·rcases hσ l s hl hs with ⟨j, h1, h0, h2⟩ | ⟨h1, h0, h2⟩
   ·exact .inl ⟨j, h1, h0, by simp [h2]⟩
   ·exact .inr ⟨h1, h0, by simp [h2]⟩
theorem Sound2.any (S : Sound2 P nt ops L nx dc ex T0 H0) (tx : TabX w0 X I0) {Q : Exit → Act → World → Prop} (hQ : ∀ a w, Inv2 nt ops L nx dc ex T0 H0 w0 X I0 (fun j => decide (j < ops.size)) a w → Q .normal a w) :
  ∀ (fuel : Nat) (listed : Array Bool) (a : Act) (w : World), listed.size = ops.size → (open_ ops.size listed).length ≤ fuel →
   (∀ j o e, ops.toList[j]? = some o → listed.getD j false = true → e ∈ o.after.toList → Region.binds .any e = true → listed.getD e.on false = true) →
   Inv2 nt ops L nx dc ex T0 H0 w0 X I0 (fun j => listed.getD j false) a w → wpAny P .any ops Q fuel listed a w := by
 have getD_ne : ∀ (listed : Array Bool) (i : Nat), listed.size = ops.size → i < ops.size → listed.getD i true = listed.getD i false := by
  intro listed i hs hi
  have : i < listed.size := by omega
  simp [Array.getD, this]
 have full : ∀ (listed : Array Bool), listed.size = ops.size → Region.ready .any ops listed = [] → ∀ i, i < ops.size → listed.getD i false = true := by
  intro listed hs hr i
  induction i using Nat.strongRecOn with
  | _ i ih =>
   intro hi
   cases hd : listed.getD i false with
   | true => rfl
   | false =>
    exfalso
    have : i ∈ Region.ready .any ops listed := by
     unfold Region.ready
     refine List.mem_filter.2 ⟨List.mem_range.2 hi, ?_⟩
     rw [getD_ne listed i hs hi, hd, Array.getElem?_eq_getElem hi]
     simp only [Bool.not_false, Bool.true_and, Option.map_some, Option.getD_some]
     rw [Array.all_eq_true_iff_forall_mem]
     intro e he
     cases hb : Region.binds .any e with
     | false => rfl
     | true =>
      simp only [Bool.not_true, Bool.false_or]
      have hst := S.static
      simp only [staticOK, Bool.and_eq_true] at hst
      have h1 := List.all_eq_true.1 hst.1 i (List.mem_range.2 (by simpa using hi))
      rw [Array.getElem?_toList, Array.getElem?_eq_getElem hi] at h1
      simp only at h1
      have h2 := List.all_eq_true.1 h1 e (by simpa using he)
      rw [hb] at h2
      simp only [Bool.not_true, Bool.false_or, decide_eq_true_eq] at h2
      exact ih e.on h2 (by omega)
    rw [hr] at this
    cases this
 have done : ∀ (listed : Array Bool) a w, listed.size = ops.size → Region.ready .any ops listed = [] → Inv2 nt ops L nx dc ex T0 H0 w0 X I0 (fun j => listed.getD j false) a w → Q .normal a w := by
  intro listed a w hs hr inv
  refine hQ a w ?_
  have : (fun j => listed.getD j false) = fun j => decide (j < ops.size) := by
   funext j
   by_cases hj : j < ops.size
   ·rw [full listed hs hr j hj]; simp [hj]
   ·have : ¬ j < listed.size := by omega
    simp [Array.getD, this, hj]
  rw [this] at inv
  exact inv
 intro fuel
 induction fuel with
 | zero =>
  intro listed a w hs hf hcl inv
  have hr : Region.ready .any ops listed = [] := by
   cases h : Region.ready .any ops listed with
   | nil => rfl
   | cons i l =>
    exfalso
    obtain ⟨h1, h2, _⟩ := ready_mem (show i ∈ Region.ready .any ops listed by rw [h]; simp)
    have : i ∈ open_ ops.size listed := List.mem_filter.2 ⟨List.mem_range.2 h1, by rw [h2]; rfl⟩
    have := List.length_pos_of_mem this
    omega
  exact ⟨hr, done listed a w hs hr inv⟩
 | succ fuel ih =>
  intro listed a w hs hf hcl inv
  refine ⟨fun hr => done listed a w hs hr inv, fun i hi => ?_⟩
  obtain ⟨h1, h2, h3⟩ := ready_mem hi
  have hD : (fun j => (listed.setIfInBounds i true).getD j false) = fun j => listed.getD j false || j == i := by
   funext j
   by_cases hj : j = i
   ·subst hj
    have : j < listed.size := by omega
    simp [Array.getD, this]
   ·by_cases hjs : j < listed.size
    ·have e1 : (j == i) = false := by simpa using hj
     have e2 : ¬ i = j := fun h => hj h.symm
     simp [Array.getD, hjs, e1, e2]
    ·have e1 : (j == i) = false := by simpa using hj
     simp [Array.getD, hjs, e1]
  refine S.step tx (D := fun j => listed.getD j false) hcl h1 (by rw [← getD_ne listed i hs h1]; exact h2) h3 inv fun a w inv' => ?_
  ·refine ih _ a w (by simpa using hs) ?_ (fun j o e ho hj he hb => ?_) (by rw [hD]; exact inv')
   ·have hmem : i ∈ open_ ops.size listed := List.mem_filter.2 ⟨List.mem_range.2 h1, by rw [h2]; rfl⟩
    have hsub : open_ ops.size (listed.setIfInBounds i true) = (open_ ops.size listed).filter fun j => j != i := by
     unfold open_
     rw [List.filter_filter]
     apply List.filter_congr
     intro j hj
     have hj' := List.mem_range.1 hj
     rw [getD_ne _ j (by simpa using hs) hj', getD_ne _ j hs hj']
     have := congrFun hD j
     rw [this]
     cases listed.getD j false <;> cases hji : j == i <;> simp [bne, hji]
    rw [hsub]
    have : ((open_ ops.size listed).filter fun j => j != i).length < (open_ ops.size listed).length := by
     rw [List.length_filter_lt_length_iff_exists]
     exact ⟨i, hmem, by simp⟩
    omega
   ·have hh := congrFun hD
    rw [hh] at hj ⊢
    simp only [Bool.or_eq_true, beq_iff_eq] at hj ⊢
    rcases hj with hj | hj
    ·exact .inl (hcl j o e ho hj he hb)
    ·subst hj
     exact .inl (h3 o ho e he hb)
theorem foldT_app (D : Nat → Bool) : ∀ (A B : List (Oper × Rec)) (c : Nat) (T : Nat → Option AV), foldT D (A ++ B) c T = foldT D B (c + A.length) (foldT D A c T)
 | [], B, c, T => rfl
 | (o, r) :: A, B, c, T => by
  rw [List.cons_append]
  simp only [foldT]
  rw [foldT_app D A B (c + 1), List.length_cons, show c + 1 + A.length = c + (A.length + 1) by omega]
theorem foldH_app (D : Nat → Bool) : ∀ (A B : List (Oper × Rec)) (c : Nat) (T : Nat → Option Blk), foldH D (A ++ B) c T = foldH D B (c + A.length) (foldH D A c T)
 | [], B, c, T => rfl
 | (o, r) :: A, B, c, T => by
  rw [List.cons_append]
  simp only [foldH]
  rw [foldH_app D A B (c + 1), List.length_cons, show c + 1 + A.length = c + (A.length + 1) by omega]
theorem foldT_off {D : Nat → Bool} : ∀ (A : List (Oper × Rec)) (c : Nat) (T : Nat → Option AV), (∀ j, c ≤ j → D j = false) → foldT D A c T = T
 | [], c, T, _ => rfl
 | (o, r) :: A, c, T, h => by
  simp only [foldT, h c (Nat.le_refl _), Bool.false_eq_true, if_false]
  exact foldT_off A (c + 1) T fun j hj => h j (by omega)
theorem foldH_off {D : Nat → Bool} : ∀ (A : List (Oper × Rec)) (c : Nat) (T : Nat → Option Blk), (∀ j, c ≤ j → D j = false) → foldH D A c T = T
 | [], c, T, _ => rfl
 | (o, r) :: A, c, T, h => by
  simp only [foldH, h c (Nat.le_refl _), Bool.false_eq_true, if_false]
  exact foldH_off A (c + 1) T fun j hj => h j (by omega)
theorem foldT_same {D D' : Nat → Bool} : ∀ (A : List (Oper × Rec)) (c : Nat) (T : Nat → Option AV), (∀ j, c ≤ j → j < c + A.length → D j = D' j) → foldT D A c T = foldT D' A c T
 | [], c, T, _ => rfl
 | (o, r) :: A, c, T, h => by
  simp only [foldT]
  rw [h c (Nat.le_refl _) (by simp)]
  exact foldT_same A (c + 1) _ fun j h1 h2 => h j (by omega) (by rw [List.length_cons]; omega)
theorem foldH_same {D D' : Nat → Bool} : ∀ (A : List (Oper × Rec)) (c : Nat) (T : Nat → Option Blk), (∀ j, c ≤ j → j < c + A.length → D j = D' j) → foldH D A c T = foldH D' A c T
 | [], c, T, _ => rfl
 | (o, r) :: A, c, T, h => by
  simp only [foldH]
  rw [h c (Nat.le_refl _) (by simp)]
  exact foldH_same A (c + 1) _ fun j h1 h2 => h j (by omega) (by rw [List.length_cons]; omega)
theorem foldT_at0 {D : Nat → Bool} : ∀ (A : List (Oper × Rec)) (c : Nat) (T : Nat → Option AV), (∀ j, j < A.length → D (c + j) = true) → foldT D A c T = foldT (fun _ => true) A 0 T := by
 have sh : ∀ (A : List (Oper × Rec)) (c c' : Nat) (T : Nat → Option AV), foldT (fun _ => true) A c T = foldT (fun _ => true) A c' T := by
  intro A
  induction A with
  | nil => intro c c' T; rfl
  | cons x A ih => intro c c' T; obtain ⟨o, r⟩ := x; simp only [foldT, if_true]; exact ih _ _ _
 intro A c T h
 rw [sh A 0 c]
 exact foldT_same A c T fun j h1 h2 => by have := h (j - c) (by omega); rwa [show c + (j - c) = j by omega] at this
theorem foldH_at0 {D : Nat → Bool} : ∀ (A : List (Oper × Rec)) (c : Nat) (T : Nat → Option Blk), (∀ j, j < A.length → D (c + j) = true) → foldH D A c T = foldH (fun _ => true) A 0 T := by
 have sh : ∀ (A : List (Oper × Rec)) (c c' : Nat) (T : Nat → Option Blk), foldH (fun _ => true) A c T = foldH (fun _ => true) A c' T := by
  intro A
  induction A with
  | nil => intro c c' T; rfl
  | cons x A ih => intro c c' T; obtain ⟨o, r⟩ := x; simp only [foldH, if_true]; exact ih _ _ _
 intro A c T h
 rw [sh A 0 c]
 exact foldH_same A c T fun j h1 h2 => by have := h (j - c) (by omega); rwa [show c + (j - c) = j by omega] at this
def heapA (all : List Oper) (fs : List (List Nat × List Nat)) : Bool := pairsOK all (heapApart fs)
theorem AW.drawDeep {id : Nat} {y : Code} {s : St} {Q : Exit → St → Prop} {pre suf : List Oper} {oc : Oper} {d : Tmp} {f : FuncId} {xs : Array Operand} {ts : Array TypeId} {ty : TypeId} {ps : String} {af : Array Edge} {l : List PV} {rr : AV} {h' : List (Nat × Blk)}
  (hops : ops.toList = pre ++ oc :: suf) (hoc : oc = ⟨some d, .call { callee := .value (.func f), args := xs, argTypes := ts }, ty, ps, af, none⟩)
  (hm : P.follows .mixedOrders = true) (hd : ops.toList.all (dstOK nt) = true) (hs : staticOK ops.toList = true)
  (DF : DFn P f (l.map AV.p) [] 0 [] rr h' ex) (hdis : distinct (h'.map (·.1)) = true) (hres : rr.labsBy (fun l => ([] : List Nat).contains l || decide (0 ≤ l)) = true) (hmem : h'.all (fun x => (([] : List Nat).contains x.1 || decide (0 ≤ x.1)) && x.2.labsBy (fun l => ([] : List Nat).contains l || decide (0 ≤ l))) = true)
  (h : ∀ K : St → Prop, (∀ s', AW P nt y s' Q → K s') → drawO P ops.toList s.nx pre s.T s.H [] fun T1 H1 n1 fs1 => xs.toList.map (ev T1) = l.map (fun p => some (.p p)) ∧
   drawO P ops.toList (n1 + 1) suf (upd T1 d (some (rr.ren (lift2 (fun k => k) 0 (s.nx + ops.size))))) (putH H1 (newU (lift2 (fun k => k) 0 (s.nx + ops.size)) h')) (([], (newU (lift2 (fun k => k) 0 (s.nx + ops.size)) h').map (·.1)) :: fs1) fun T H n fs => heapA ops.toList fs.reverse = true ∧ K ⟨T, H, n + ex⟩) :
  AW P nt (.seq (.region id ops true) y) s Q := by
 refine AW.seq ?_
 have h := h (fun s' => AW P nt y s' Q) fun _ h => h
 intro w0 X I0 a w tx ⟨σ, I, hn, m⟩
 refine wp_region_any hm ?_
 have hlen : ops.size = pre.length + (suf.length + 1) := by rw [← Array.length_toList, hops, List.length_append, List.length_cons]
 rw [drawO_eq] at h
 have h := drawA_W _ _ _ _ _ _ h
 obtain ⟨rs1, a1, a2, a3, a4⟩ := drawW_chain pre s.nx s.T s.H _ h
 rw [drawO_eq] at a4
 have a4 := drawA_W _ _ _ _ _ _ a4
 obtain ⟨rs2, b1, b2, b3, b4⟩ := drawW_chain suf _ _ _ _ a4
 obtain ⟨rc, hrc⟩ : ∃ rc : Rec, rc = ⟨some ⟨some (rr.ren (lift2 (fun k => k) 0 (s.nx + ops.size))), newU (lift2 (fun k => k) 0 (s.nx + ops.size)) h'⟩, []⟩ := ⟨_, rfl⟩
 have z1 : (pre.zip rs1).length = pre.length := by rw [List.length_zip, a1, Nat.min_self]
 have z2 : (suf.zip rs2).length = suf.length := by rw [List.length_zip, b1, Nat.min_self]
 obtain ⟨L, hL⟩ : ∃ L, L = pre.zip rs1 ++ (oc, rc) :: suf.zip rs2 := ⟨_, rfl⟩
 have lL : L.length = ops.size := by rw [hL, List.length_append, List.length_cons, z1, z2, hlen]
 have hLz : L = ops.toList.zip (rs1 ++ rc :: rs2) := by
  rw [hL, hops, List.zip_append a1.symm]
  rfl
 have hz : ∀ (i : Nat) o r, L[i]? = some (o, r) → ops.toList[i]? = some o ∧ (rs1 ++ rc :: rs2)[i]? = some r := by
  intro i o r hi
  rw [hLz, List.getElem?_zip_eq_some] at hi
  exact hi
 have hfs : (List.map foot rs2).reverse ++ ([], (newU (lift2 (fun k => k) 0 (s.nx + ops.size)) h').map (·.1)) :: ((List.map foot rs1).reverse ++ []) = ((rs1 ++ rc :: rs2).map foot).reverse := by
  rw [List.append_nil, List.map_append, List.map_cons, List.reverse_append, List.reverse_cons, List.append_assoc]
  have : foot rc = ([], (newU (lift2 (fun k => k) 0 (s.nx + ops.size)) h').map (·.1)) := by rw [hrc]; rfl
  rw [this]
  rfl
 rw [hfs, List.reverse_reverse] at b3
 have hA1 : ∀ D : Nat → Bool, (∀ j, j < pre.length → D j = true) → foldT D (pre.zip rs1) 0 s.T = foldT (fun _ => true) (pre.zip rs1) 0 s.T ∧ foldH D (pre.zip rs1) 0 s.H = foldH (fun _ => true) (pre.zip rs1) 0 s.H := fun D hD =>
  ⟨foldT_same _ 0 _ fun j _ h2 => by rw [hD j (by omega)], foldH_same _ 0 _ fun j _ h2 => by rw [hD j (by omega)]⟩
 have hupd : ∀ (T : Nat → Option AV) (H : Nat → Option Blk), recT T oc rc = upd T d (some (rr.ren (lift2 (fun k => k) 0 (s.nx + ops.size)))) ∧ recH H rc = putH H (newU (lift2 (fun k => k) 0 (s.nx + ops.size)) h') := fun T H => by
  rw [hrc, hoc]
  exact ⟨rfl, rfl⟩
 have S : Sound2 P nt ops L s.nx pre.length ex s.T s.H := by
  refine ⟨hd, lL, fun i o r hi => by rw [← Array.getElem?_toList]; exact (hz i o r hi).1, hs, fun i j o r o' r' hij hi hj => ?_, fun i o r hne hi => ?_, fun o r hi => ?_⟩
  ·have er : ∀ op l, eReads false op l = l := fun op l => by simp [eReads]
   rw [er, er]
   rcases pairs_spec b3 hij (by have := (List.getElem?_eq_some_iff.1 (hz j o' r' hj).1).1; exact this) with q | q
   ·left
    simp only [heapApart, List.getElem?_map, (hz i o r hi).2, (hz j o' r' hj).2, Option.map_some, foot, Bool.and_eq_true] at q
    exact ⟨fun l hl => ⟨disj_spec q.1.1 hl, disj_spec q.1.2 hl⟩, fun l hl => disj_spec q.2 hl⟩
   ·exact .inr q
  ·rcases Nat.lt_or_gt_of_ne hne with q | q
   ·have hi' : (pre.zip rs1)[i]? = some (o, r) := by rw [hL, List.getElem?_append_left (by omega)] at hi; exact hi
    have := chain_at (pre.zip rs1) 0 s.nx s.T s.H a2 i o r hi'
    simp only [Nat.zero_add] at this
    rw [hL, foldT_app, foldH_app, foldT_off, foldH_off]
    ·exact this
    ·intro j hj; simp; omega
    ·intro j hj; simp; omega
   ·obtain ⟨k, rfl⟩ : ∃ k, i = pre.length + 1 + k := ⟨i - (pre.length + 1), by omega⟩
    have hi' : (suf.zip rs2)[k]? = some (o, r) := by
     rw [hL, List.getElem?_append_right (by omega), z1, show pre.length + 1 + k - pre.length = k + 1 by omega, List.getElem?_cons_succ] at hi
     exact hi
    have := chain_at (suf.zip rs2) (pre.length + 1) _ _ _ b2 k o r hi'
    rw [hL, foldT_app, foldH_app]
    simp only [foldT, foldH, Nat.zero_add, z1]
    rw [if_pos (by simp; omega), if_pos (by simp; omega), (hA1 (fun j => decide (j < pre.length + 1 + k)) fun j hj => by simp; omega).1, (hA1 (fun j => decide (j < pre.length + 1 + k)) fun j hj => by simp; omega).2, (hupd _ (fun _ => none)).1, (hupd (fun _ => none) _).2]
    rw [show s.nx + (pre.length + 1 + k) = s.nx + pre.length + 1 + k by omega]
    exact this
  ·have : (oc, rc) = (o, r) := by
    rw [hL, List.getElem?_append_right (by omega), z1, Nat.sub_self] at hi
    simpa using hi
   injection this with h1 h2
   subst h1 h2
   refine ⟨by rw [hoc], f, xs, ts, l, rr, h', by rw [hoc], ?_, DF, hdis, hres, hmem, by rw [hrc], by rw [hrc]⟩
   rw [hL, foldT_app, foldT_off, (hA1 (fun j => decide (j < pre.length)) fun j hj => by simp; omega).1]
   ·exact a3
   ·intro j hj; simp; omega
 refine S.any (w0 := w0) (X := X) (I0 := I0) tx (Q := fun e a' w' => ∃ s', Matches nt w0 X I0 s' a' w' ∧ andThen (fun s' => AW P nt y s' Q) Q e s') (fun a w inv => ?_) ops.size _ a _ (by simp) (by unfold open_; exact Nat.le_trans (List.length_filter_le _ _) (by simp)) (fun j o e ho hj he hb => ?_) ?_
 ·obtain ⟨σ, I, m, hσ⟩ := inv
  have e1 : foldT (fun j => decide (j < ops.size)) L 0 s.T = foldT (fun _ => true) (suf.zip rs2) 0 (upd (foldT (fun _ => true) (pre.zip rs1) 0 s.T) d (some (rr.ren (lift2 (fun k => k) 0 (s.nx + ops.size))))) := by
   rw [hL, foldT_app]
   simp only [foldT, Nat.zero_add, z1]
   rw [if_pos (by simp; omega), (hA1 (fun j => decide (j < ops.size)) fun j hj => by simp; omega).1, (hupd _ (fun _ => none)).1]
   exact foldT_at0 _ _ _ fun j hj => by simp; omega
  have e2 : foldH (fun j => decide (j < ops.size)) L 0 s.H = foldH (fun _ => true) (suf.zip rs2) 0 (putH (foldH (fun _ => true) (pre.zip rs1) 0 s.H) (newU (lift2 (fun k => k) 0 (s.nx + ops.size)) h')) := by
   rw [hL, foldH_app]
   simp only [foldH, Nat.zero_add, z1]
   rw [if_pos (by simp; omega), (hA1 (fun j => decide (j < ops.size)) fun j hj => by simp; omega).2, (hupd (fun _ => none) _).2]
   exact foldH_at0 _ _ _ fun j hj => by simp; omega
  rw [e1, e2] at m
  refine ⟨_, ⟨σ, I, fun l hl => ?_, m⟩, b4⟩
  cases hs' : σ l with
  | none => rfl
  | some sl =>
   simp only at hl
   rcases hσ l sl (by omega) hs' with ⟨j, h5, h6, _⟩ | ⟨_, h6, _⟩ <;> omega
 ·by_cases hj' : j < ops.size
  ·simp [Array.getD, hj'] at hj
  ·simp [Array.getD, hj'] at hj
 ·have e0 : (fun j => (Array.replicate ops.size false).getD j false) = fun _ => false := by
   funext j
   by_cases hj : j < ops.size <;> simp [Array.getD, hj]
  rw [e0]
  refine ⟨σ, I, ?_, fun l sl hl hs' => ?_⟩
  ·rw [foldT_off _ _ _ fun _ _ => rfl, foldH_off _ _ _ fun _ _ => rfl]
   exact ⟨m.defers, m.size, m.pins, m.heap.world rfl rfl rfl rfl, fun i x hx => by
    obtain ⟨u, hu, hr⟩ := m.tmps i x hx
    exact ⟨u, hu, hr.mono (fun _ _ h => h) (fun _ h => h) (fun _ _ => rfl)⟩⟩
  ·rw [hn l hl] at hs'
   cases hs'
end
end Go.Aw
namespace Go.Aw
open Go.Proofs Go.RowKit
set_option linter.unusedSimpArgs false
set_option linter.unusedVariables false
theorem Ghost.new {nt : Fm} {s : St} {sz : Nat} : Ghost nt s ⟨s.T, upd s.H s.nx (some (.row sz [])), s.nx + 1⟩ := by
 rintro w0 X I0 a w ⟨σ, I, hσ, m⟩
 have hl := hσ s.nx (Nat.le_refl _)
 have ext : ∀ l' s', σ l' = some s' → upd σ s.nx (some (.emp none)) l' = some s' := fun l' s' h' => by
  rw [upd_ne _ _ (by rintro rfl; rw [hl] at h'; cases h')]
  exact h'
 refine ⟨upd σ s.nx (some (.emp none)), I, fun l h => ?_, m.defers, m.size, m.pins, m.heap.empty hl none sz, fun i x hx => ?_⟩
 ·simp only at h
  rw [upd_ne _ _ (by omega)]
  exact hσ l (by omega)
 ·obtain ⟨v, hv, hrv⟩ := m.tmps i x hx
  exact ⟨v, hv, hrv.mono ext (fun _ h => h) (fun _ _ => rfl)⟩
def rP : List (List Stp) → List (List AV)
 | [] => []
 | _ :: r => [.own 8] :: liftE (r.map encPt)
def r8 : List (List Stp) → List Stp
 | [] => []
 | s :: _ => s
theorem rP_len : ∀ ps : List (List Stp), (rP ps).length = ps.length
 | [] => rfl
 | _ :: r => by rw [rP, List.length_cons, liftE_length, List.length_map, List.length_cons]
theorem rP_ren (ρ : Nat → Nat) (h : ρ 8 = 8) : ∀ ps : List (List Stp), (rP ps).map (renL ρ) = rP ps
 | [] => rfl
 | _ :: r => by
  rw [rP, List.map_cons, map_renL_lift]
  simp only [renL, AV.ren, h]
theorem rP_labs (n : Nat) (h : 8 < n) : ∀ ps : List (List Stp), (rP ps).all (labsInL n) = true
 | [] => rfl
 | _ :: r => by
  rw [rP, List.all_cons, labsIn_lift]
  simp [labsInL, AV.labsIn, h]
theorem rP_thaw (lb : Nat) (qs : List (List PV)) (h : lb ≠ 8) : ∀ ps : List (List Stp), (rP ps).map (fun e => e.map (thaw1 lb qs)) = rP ps
 | [] => rfl
 | _ :: r => by
  rw [rP, List.map_cons, thaw_lift]
  simp [thaw1, Ne.symm h]
theorem rP_next {ps : List (List Stp)} (st : List Stp) (h : ps ≠ []) : rP ps ++ [[.p (.slice (st.map encSt))]] = rP (ps ++ [st]) ∧ r8 (ps ++ [st]) = r8 ps := by
 cases ps with
 | nil => exact absurd rfl h
 | cons p r =>
  refine ⟨?_, rfl⟩
  rw [List.cons_append, rP, rP, List.map_append, liftE_append]
  rfl
theorem rP_labs9 {ps : List (List Stp)} : (rP ps).all (labsInL 9) = true := rP_labs 9 (by decide) ps
theorem rP_labs12 {ps : List (List Stp)} : (rP ps).all (labsInL 12) = true := rP_labs 12 (by decide) ps
theorem rP_labs13 {ps : List (List Stp)} : (rP ps).all (labsInL 13) = true := rP_labs 13 (by decide) ps
def mkMd (S U : Sc) (l : List Pr) (ps : List (List Stp)) : List (Nat × Blk) := (0, .row 4 [cellsSc S]) :: (1, .row 4 [cellsSc U]) :: (2, .row 1 [[.ex []]]) :: memA S U l 3 4 5 ++ [(6, .row 1 [[.own 7]]), (7, .row 1 (rP ps)), (8, .row 3 (liftE ((r8 ps).map encSt)))]
def mkTd (m : List (Nat × AV)) : List (Nat × AV) := (4, .ptr 0 0 0) :: (5, .ptr 1 0 0) :: (8, .ptr 2 0 0) :: (14, .ptr 3 0 0) :: (15, .ptr 6 0 0) :: m
def mkSd (S U : Sc) (l : List Pr) (ps : List (List Stp)) (m : List (Nat × AV)) : St := ⟨ofL (mkTd m), ofH (mkMd S U l ps), 9⟩
def mkId (S U : Sc) (mo mn : Ms) (l : List Pr) (ps : List (List Stp)) (st : List Stp) (i : Nat) (m : List (Nat × AV)) : St := ⟨ofL (mkTd ((16, .p (.int .i64 (i : Int))) :: (17, .ptr 9 0 0) :: (19, .ptr 10 0 0) :: (21, .own 11) :: m)), ofH (mkMd S U l ps ++ [(9, .row 3 [cellsMs mo]), (10, .row 3 [cellsMs mn]), (11, .row 3 (liftE (st.map encSt)))]), 12⟩
def mkJd (S U : Sc) (mo mn : Ms) (l : List Pr) (ps : List (List Stp)) (st : List Stp) (i n : Nat) (s : Stp) (b : Bool) : St := ⟨ofL (mkTd [(16, .p (.int .i64 (i : Int))), (17, .ptr 9 0 0), (19, .ptr 10 0 0), (21, .own 11), (22, .p (.int .i64 (n : Int))), (23, .ptr 12 0 0), (24, .p (.bool b))]), ofH (mkMd S U l ps ++ [(9, .row 3 [cellsMs mo]), (10, .row 3 [cellsMs mn]), (11, .row 3 (liftE (st.map encSt))), (12, .row 3 [[.p (.int .i64 s.op), .p (.int .i64 s.tag), .p (.int .i64 s.sub)]])]), 13⟩
set_option maxRecDepth 100000 in
set_option maxHeartbeats 4000000 in
theorem adapt_MakeD (S U : Sc) (LS : LensS S) (LU : LensS U) (a b : List UInt8) (hS : checkC S = 0) (hU : checkC U = 0) (ha : hasM S a = true) (hb : hasM U b = true) {st : List Stp} {r : List (List Stp)} (hr : makeP S U 101 0 [⟨a, b⟩] = st :: r) :
  DFn Tryd.prog 49 [.p (.agg (encSc S)), .p (.agg (encSc U)), .p (.str a), .p (.str b)] [] 0 [] (.tuple [.agg [.own 0], .p (.int .i64 0)]) [(0, .row 1 ([.own 1] :: liftE (r.map encPt))), (1, .row 3 (liftE (st.map encSt)))] 2 := by
 refine DFn.of [] Tryd.func49 rfl (by decide) Tryd.ntmps49 Tryd.results49 (Nat.le_of_ble_eq_true rfl) (by simp) fun val => ?_
 have C1 := check_Check S LS
 have C2 := check_Check U LU
 simp only [encSc] at C1 C2
 simp only [avT, encSc]
 refine AW.rT (by rfl) fun K hK => ?_
 simp -implicitDefEqProofs only [go_sem, ↓reduceIte, Nat.reduceAdd, Nat.reduceMul, Nat.reduceEqDiff, Nat.reduceLeDiff, reduceCtorEq, Int.reduceToNat]
 refine hK _ ?_; clear hK K
 refine AW.seq ?_
 have f1 : (checkC S != 0) = false := by simp [hS]
 have f2 : (checkC U != 0) = false := by simp [hU]
 have RS := right_of hS
 have RU := right_of hU
 have FS := check_fit.1 hS
 have FU := check_fit.1 hU
 have M1 := check_Message S a (by have := RS.len; omega)
 have M2 := check_Message U b (by have := RU.len; omega)
 have e1 : firstP (fun x => x.name == a) zMs S.msgs = (msgOf S a, hasM S a) := rfl
 have e2 : firstP (fun x => x.name == b) zMs U.msgs = (msgOf U b, hasM U b) := rfl
 rw [e1] at M1
 rw [e2] at M2
 simp only [encSc, encMs] at M1 M2
 refine AW.rT (by rfl) fun K hK => ?_
 simp -implicitDefEqProofs only [go_sem, ↓reduceIte, Nat.reduceAdd, Nat.reduceMul, Nat.reduceEqDiff, Nat.reduceLeDiff, reduceCtorEq, Int.reduceToNat]
 refine ⟨.pure _, C1, ?_⟩
 try simp -implicitDefEqProofs only [go_sem, ↓reduceIte, Nat.reduceAdd, Nat.reduceMul, Nat.reduceEqDiff, Nat.reduceLeDiff, reduceCtorEq, Int.reduceToNat, f1]
 refine ⟨.pure _, C2, ?_⟩
 try simp -implicitDefEqProofs only [go_sem, ↓reduceIte, Nat.reduceAdd, Nat.reduceMul, Nat.reduceEqDiff, Nat.reduceLeDiff, reduceCtorEq, Int.reduceToNat, f2]
 refine hK _ ?_; clear hK K
 refine AW.cond _ (by simp -implicitDefEqProofs only [go_sem, ↓reduceIte, Nat.reduceAdd, Nat.reduceMul, Nat.reduceEqDiff, Nat.reduceLeDiff, reduceCtorEq, Int.reduceToNat]; rfl) (fun hc => ?_) (fun hc => ?_)
 ·simp at hc
 refine AW.skip ?_
 simp only [andThen, inBlk, reduceCtorEq, ↓reduceIte, if_t, if_f]
 clear C1 C2
 refine AW.rT (by rfl) fun K hK => ?_
 simp -implicitDefEqProofs only [go_sem, ↓reduceIte, Nat.reduceAdd, Nat.reduceMul, Nat.reduceEqDiff, Nat.reduceLeDiff, reduceCtorEq, Int.reduceToNat]
 refine ⟨.pure _, M1, ?_⟩
 try simp -implicitDefEqProofs only [go_sem, ↓reduceIte, Nat.reduceAdd, Nat.reduceMul, Nat.reduceEqDiff, Nat.reduceLeDiff, reduceCtorEq, Int.reduceToNat]
 refine hK _ ?_; clear hK K
 refine AW.rT (by rfl) fun K hK => ?_
 simp -implicitDefEqProofs only [go_sem, ↓reduceIte, Nat.reduceAdd, Nat.reduceMul, Nat.reduceEqDiff, Nat.reduceLeDiff, reduceCtorEq, Int.reduceToNat]
 refine ⟨.pure _, M2, ?_⟩
 try simp -implicitDefEqProofs only [go_sem, ↓reduceIte, Nat.reduceAdd, Nat.reduceMul, Nat.reduceEqDiff, Nat.reduceLeDiff, reduceCtorEq, Int.reduceToNat]
 refine hK _ ?_; clear hK K
 refine AW.seq ?_
 refine AW.rT (by rfl) fun K hK => ?_
 simp -implicitDefEqProofs only [go_sem, ↓reduceIte, Nat.reduceAdd, Nat.reduceMul, Nat.reduceEqDiff, Nat.reduceLeDiff, reduceCtorEq, Int.reduceToNat, ha, hb]
 refine hK _ ?_; clear hK K
 refine AW.cond _ (by simp -implicitDefEqProofs only [go_sem, ↓reduceIte, Nat.reduceAdd, Nat.reduceMul, Nat.reduceEqDiff, Nat.reduceLeDiff, reduceCtorEq, Int.reduceToNat]; rfl) (fun hc => ?_) (fun hc => ?_)
 ·simp at hc
 refine AW.skip ?_
 simp only [andThen, inBlk, reduceCtorEq, ↓reduceIte, if_t, if_f]
 refine AW.rT (by rfl) fun K hK => ?_
 simp -implicitDefEqProofs only [go_sem, ↓reduceIte, Nat.reduceAdd, Nat.reduceMul, Nat.reduceEqDiff, Nat.reduceLeDiff, reduceCtorEq, Int.reduceToNat]
 refine hK _ ?_; clear hK K
 have AP := adapt_part S U [] ⟨a, b⟩ (by simp)
 have eP : addP [] ⟨a, b⟩ = [⟨a, b⟩] := rfl
 rw [eP] at AP
 simp only [encPr] at AP
 refine AW.ghost (s' := mk0 S U [] [(2, .p (.str a)), (3, .p (.str b))]) (Ghost.trans (Ghost.nilH (l := 40) (i := 0) (j := 8) (sz' := 2) rfl rfl rfl) ?_) ?_
 ·simp only [mk0, memA, rowA, cellsSc, List.map_nil, liftE_nil]
  refine Ghost.ent (fun l => if l = 3 then 40 else if l = 4 then 42 else if l = 5 then 38 else l) ?_ ?_ ?_ <;> simp -implicitDefEqProofs only [go_sem, ↓reduceIte, Nat.reduceAdd, Nat.reduceMul, Nat.reduceEqDiff, Nat.reduceLeDiff, reduceCtorEq, Int.reduceToNat, mQ, List.zipIdx_nil, List.forall_mem_cons, List.not_mem_nil, false_implies, implies_true, and_self, map_renL_lift, labsIn_lift, List.all_append, List.all_cons, List.all_nil, List.map_append, Nat.reduceLT, labsInL, AV.labsIn]
  all_goals first | rfl | decide | skip
 simp only [mk0, memA, rowA, cellsSc]
 refine AW.rR (SeqR.ev 4 (by rfl) (by decide) ?_)
 simp -implicitDefEqProofs only [go_sem, ↓reduceIte, Nat.reduceAdd, Nat.reduceMul, Nat.reduceEqDiff, Nat.reduceLeDiff, reduceCtorEq, Int.reduceToNat]
 refine SeqR.call (fun k => k + 3) rfl rfl AP ⟨?_, rfl, ?_, rfl, rfl, rfl, rfl, rfl, memA_by (r := 0) rfl rfl⟩ ?_
 ·simp -implicitDefEqProofs only [go_sem, ↓reduceIte, Nat.reduceAdd, Nat.reduceMul, Nat.reduceEqDiff, Nat.reduceLeDiff, reduceCtorEq, Int.reduceToNat, argD]
 ·simp only [memA, rowA]
  simp -implicitDefEqProofs only [go_sem, ↓reduceIte, Nat.reduceAdd, Nat.reduceMul, Nat.reduceEqDiff, Nat.reduceLeDiff, reduceCtorEq, Int.reduceToNat, List.forall_mem_cons, List.not_mem_nil, false_implies, implies_true, and_self]
  first | done | decide
 refine SeqR.last rfl ?_
 refine AW.ghost (s' := mk0 S U [⟨a, b⟩] []) ?_ ?_
 ·simp only [mk0, memA, rowA, cellsSc]
  refine Ghost.ent (fun l => if l = 4 then 10 else if l = 5 then 11 else l) ?_ ?_ ?_ <;> simp -implicitDefEqProofs only [go_sem, ↓reduceIte, Nat.reduceAdd, Nat.reduceMul, Nat.reduceEqDiff, Nat.reduceLeDiff, reduceCtorEq, Int.reduceToNat, lift2, goneU, newU, Nat.reduceSub, List.forall_mem_cons, List.not_mem_nil, false_implies, implies_true, and_self, map_renL_lift, labsIn_lift, List.all_append, List.all_cons, List.all_nil, List.map_append, Nat.reduceLT, labsInL, AV.labsIn]
  all_goals first | rfl | decide | skip
 simp only [mk0, memA, rowA, cellsSc]
 refine AW.rT (by rfl) fun K hK => ?_
 simp -implicitDefEqProofs only [go_sem, ↓reduceIte, Nat.reduceAdd, Nat.reduceMul, Nat.reduceEqDiff, Nat.reduceLeDiff, reduceCtorEq, Int.reduceToNat]
 refine hK _ ?_; clear hK K
 refine AW.ghost (s' := mkSd S U [⟨a, b⟩] [] []) (Ghost.trans (Ghost.nilH (l := 6) (i := 0) (j := 0) (sz' := 1) rfl rfl rfl) (Ghost.trans (Ghost.new (sz := 3)) ?_)) ?_
 ·simp only [mkSd, mkTd, mkMd, memA, rowA, cellsSc, rP, r8, List.map_nil, liftE_nil, List.cons_append, List.nil_append]
  refine Ghost.sub ?_ ?_ <;> simp -implicitDefEqProofs only [go_sem, ↓reduceIte, Nat.reduceAdd, Nat.reduceMul, Nat.reduceEqDiff, Nat.reduceLeDiff, reduceCtorEq, Int.reduceToNat, mQ_labs, rP_labs9, List.forall_mem_cons, List.not_mem_nil, false_implies, implies_true, and_self, labsIn_lift, List.all_append, List.all_cons, List.all_nil, Nat.reduceLT, labsInL, AV.labsIn]
  all_goals first | rfl | decide | skip
 have ok0 : PairsOK S U [⟨a, b⟩] := ⟨fun p hp => by simp at hp; subst hp; exact ⟨ha, hb⟩, by simp⟩
 refine AW.cut (fun x : List Pr × List (List Stp) => mkSd S U x.1 x.2 []) (fun x => x.2 = makeP S U 101 0 [⟨a, b⟩]) ?_ fun x hx => ?_
 rotate_left
 ·obtain ⟨l, ps⟩ := x
  simp only at hx
  rw [hr] at hx
  subst hx
  simp only [mkSd, mkTd, mkMd, memA, rowA, cellsSc, rP, r8, List.cons_append, List.nil_append]
  refine AW.rT (by rfl) fun K hK => ?_
  simp -implicitDefEqProofs only [go_sem, ↓reduceIte, Nat.reduceAdd, Nat.reduceMul, Nat.reduceEqDiff, Nat.reduceLeDiff, reduceCtorEq, Int.reduceToNat]
  refine hK _ ?_; clear hK K
  refine AW.ret ⟨fun k => if k = 0 then 7 else 8, [.agg [.own 7], .p (.int .i64 0)], ⟨?_, ?_, trivial⟩, rfl, rfl, ?_, ?_, ?_⟩
  ·simp -implicitDefEqProofs only [go_sem, ↓reduceIte, Nat.reduceAdd, Nat.reduceMul, Nat.reduceEqDiff, Nat.reduceLeDiff, reduceCtorEq, Int.reduceToNat]
  ·simp -implicitDefEqProofs only [go_sem, ↓reduceIte, Nat.reduceAdd, Nat.reduceMul, Nat.reduceEqDiff, Nat.reduceLeDiff, reduceCtorEq, Int.reduceToNat]
  ·simp -implicitDefEqProofs only [go_sem, ↓reduceIte, Nat.reduceAdd, Nat.reduceMul, Nat.reduceEqDiff, Nat.reduceLeDiff, reduceCtorEq, Int.reduceToNat, List.forall_mem_cons, List.not_mem_nil, false_implies, implies_true, and_self, labsIn_lift, map_renL_lift, List.map_cons, List.all_cons, renL, AV.ren, labsInL, AV.labsIn]
   exact ⟨⟨by decide, by decide⟩, by decide⟩
  ·simp
  ·simp
 simp only [mkSd, mkTd, mkMd, memA, rowA, cellsSc, List.cons_append, List.nil_append]
 refine AW.rT (by rfl) fun K hK => ?_
 simp -implicitDefEqProofs only [go_sem, ↓reduceIte, Nat.reduceAdd, Nat.reduceMul, Nat.reduceEqDiff, Nat.reduceLeDiff, reduceCtorEq, Int.reduceToNat]
 refine hK _ ?_; clear hK K
 refine AW.block ?_
 have y1 : [] ++ makeP S U (101 - 0) 0 [⟨a, b⟩] = makeP S U 101 0 [⟨a, b⟩] := by rw [Nat.sub_zero, List.nil_append]
 refine AW.loop (fun x : List Pr × List (List Stp) × Nat => mkSd S U x.1 x.2.1 [(16, .p (.int .i64 (x.2.2 : Int)))]) (fun x => x.2.2 ≤ x.1.length ∧ x.2.1.length = x.2.2 ∧ x.2.1 ++ makeP S U (101 - x.2.2) x.2.2 x.1 = makeP S U 101 0 [⟨a, b⟩] ∧ PairsOK S U x.1) (fun x => 101 - x.2.2) ([⟨a, b⟩], [], 0) ?_ ⟨Nat.zero_le _, rfl, y1, ok0⟩ fun x hx => ?_
 ·simp only [mkSd, mkTd, mkMd, memA, rowA, cellsSc, List.cons_append, List.nil_append]
  refine Ghost.sub ?_ ?_ <;> simp -implicitDefEqProofs only [go_sem, ↓reduceIte, Nat.reduceAdd, Nat.reduceMul, Nat.reduceEqDiff, Nat.reduceLeDiff, reduceCtorEq, Int.reduceToNat, rP_labs9, rP_labs12, rP_labs13, List.forall_mem_cons, List.not_mem_nil, false_implies, implies_true, and_self, labsIn_lift, List.all_append, List.all_cons, List.all_nil, Nat.reduceLT, labsInL, AV.labsIn]
  all_goals first | rfl | decide | skip
 clear M1 M2 e1 e2 AP ok0
 obtain ⟨l, ps, i⟩ := x
 obtain ⟨i1, i2, eE, okl⟩ := hx
 simp only at i1 i2 eE okl
 have hl100 := pairs_len okl RS.len.2.1 RU.len.2.1
 simp only [mkSd, mkTd, mkMd, memA, rowA, cellsSc, List.cons_append, List.nil_append]
 refine AW.seq ?_
 by_cases hil : i < l.length
 case neg =>
  have hc1 : ((i : Int) < (l.length : Int)) = False := eq_false (by omega)
  have eN : makeP S U (101 - i) i l = [] := by
   rw [show 101 - i = (100 - i) + 1 by omega, makeP, List.getElem?_eq_none (by omega)]
  rw [eN, List.append_nil] at eE
  refine AW.rT (by rfl) fun K hK => ?_
  simp -implicitDefEqProofs only [go_sem, ↓reduceIte, Nat.reduceAdd, Nat.reduceMul, Nat.reduceEqDiff, Nat.reduceLeDiff, reduceCtorEq, Int.reduceToNat, hc1, liftE_length, List.length_map]
  refine hK _ ?_; clear hK K
  refine AW.cond _ (by simp -implicitDefEqProofs only [go_sem, ↓reduceIte, Nat.reduceAdd, Nat.reduceMul, Nat.reduceEqDiff, Nat.reduceLeDiff, reduceCtorEq, Int.reduceToNat]; rfl) (fun hc => ?_) (fun hc => ?_)
  ·simp at hc
  refine AW.exit ?_
  simp only [andThen, inBlk, reduceCtorEq, ↓reduceIte, if_t, if_f]
  refine ⟨(l, ps), eE, ?_⟩
  show Ghost _ _ (mkSd S U l ps [])
  simp only [mkSd, mkTd, mkMd, memA, rowA, cellsSc, List.cons_append, List.nil_append]
  refine Ghost.sub ?_ ?_ <;> simp -implicitDefEqProofs only [go_sem, ↓reduceIte, Nat.reduceAdd, Nat.reduceMul, Nat.reduceEqDiff, Nat.reduceLeDiff, reduceCtorEq, Int.reduceToNat, rP_labs9, rP_labs12, rP_labs13, List.forall_mem_cons, List.not_mem_nil, false_implies, implies_true, and_self, labsIn_lift, List.all_append, List.all_cons, List.all_nil, Nat.reduceLT, labsInL, AV.labsIn]
  all_goals first | rfl | decide | skip
 obtain ⟨p, hp⟩ : ∃ p, l[i]? = some p := ⟨_, List.getElem?_eq_getElem hil⟩
 have g1 := at_lift encPr hp
 have b0 : 0 ≤ (i : Int) := by omega
 have b1 : (i : Int) < (l.length : Int) := by omega
 have hc1 : ((i : Int) < (l.length : Int)) = True := eq_true (by omega)
 have w1 : IntKind.wrap .i64 ((i : Int) + 1) = ((i + 1 : Nat) : Int) := by rw [w64] <;> omega
 have hh := okl.here p (List.mem_of_getElem? hp)
 have hmo := (msgOf_mem hh.1).1
 have hmn := (msgOf_mem hh.2).1
 have M1 := check_Message S p.o (by have := RS.len; omega)
 have M2 := check_Message U p.n (by have := RU.len; omega)
 have e1 : firstP (fun x => x.name == p.o) zMs S.msgs = (msgOf S p.o, true) := by rw [← hh.1]; rfl
 have e2 : firstP (fun x => x.name == p.n) zMs U.msgs = (msgOf U p.n, true) := by rw [← hh.2]; rfl
 rw [e1] at M1
 rw [e2] at M2
 simp only [encSc, encMs] at M1 M2
 simp only [encPr, List.map_cons, List.map_nil] at g1
 have eN : makeP S U (101 - i) i l = (stepsP (msgOf S p.o) (msgOf U p.n) 500 1 l).1 :: makeP S U (100 - i) (i + 1) (stepsP (msgOf S p.o) (msgOf U p.n) 500 1 l).2 := by
  rw [show 101 - i = (100 - i) + 1 by omega, makeP, hp]
 rw [eN] at eE
 generalize hmo' : msgOf S p.o = mo at *
 generalize hmn' : msgOf U p.n = mn at *
 refine AW.rT (by rfl) fun K hK => ?_
 simp -implicitDefEqProofs only [go_sem, ↓reduceIte, Nat.reduceAdd, Nat.reduceMul, Nat.reduceEqDiff, Nat.reduceLeDiff, reduceCtorEq, Int.reduceToNat, hc1, liftE_length, List.length_map]
 refine hK _ ?_; clear hK K
 refine AW.cond _ (by simp -implicitDefEqProofs only [go_sem, ↓reduceIte, Nat.reduceAdd, Nat.reduceMul, Nat.reduceEqDiff, Nat.reduceLeDiff, reduceCtorEq, Int.reduceToNat]; rfl) (fun hc => ?_) (fun hc => ?_)
 rotate_left
 ·simp at hc
 refine AW.skip ?_
 simp only [andThen, inBlk, reduceCtorEq, ↓reduceIte, if_t, if_f]
 refine AW.seq ?_
 refine AW.block ?_
 refine AW.dT mixed (by rfl) (by decide +kernel) fun K hK => ?_
 simp -implicitDefEqProofs only [go_sem, ↓reduceIte, Nat.reduceAdd, Nat.reduceMul, Nat.reduceEqDiff, Nat.reduceLeDiff, reduceCtorEq, Int.reduceToNat, g1, b0, b1, liftE_length, List.length_map]
 refine ⟨.pure _, M1, ?_⟩
 try simp -implicitDefEqProofs only [go_sem, ↓reduceIte, Nat.reduceAdd, Nat.reduceMul, Nat.reduceEqDiff, Nat.reduceLeDiff, reduceCtorEq, Int.reduceToNat]
 refine ⟨by decide +kernel, ?_⟩
 refine hK _ ?_; clear hK K
 refine AW.dT mixed (by rfl) (by decide +kernel) fun K hK => ?_
 simp -implicitDefEqProofs only [go_sem, ↓reduceIte, Nat.reduceAdd, Nat.reduceMul, Nat.reduceEqDiff, Nat.reduceLeDiff, reduceCtorEq, Int.reduceToNat, g1, b0, b1, liftE_length, List.length_map]
 refine ⟨.pure _, M2, ?_⟩
 try simp -implicitDefEqProofs only [go_sem, ↓reduceIte, Nat.reduceAdd, Nat.reduceMul, Nat.reduceEqDiff, Nat.reduceLeDiff, reduceCtorEq, Int.reduceToNat]
 refine ⟨by decide +kernel, ?_⟩
 refine hK _ ?_; clear hK K
 refine AW.rT (by rfl) fun K hK => ?_
 simp -implicitDefEqProofs only [go_sem, ↓reduceIte, Nat.reduceAdd, Nat.reduceMul, Nat.reduceEqDiff, Nat.reduceLeDiff, reduceCtorEq, Int.reduceToNat]
 refine hK _ ?_; clear hK K
 refine AW.ghost (s' := mkId S U mo mn l ps [] i []) (Ghost.trans (Ghost.nil (t := 21) (sz := 3) rfl) ?_) ?_
 ·simp only [mkId, mkTd, mkMd, memA, rowA, cellsSc, cellsMs, List.map_nil, liftE_nil, List.cons_append, List.nil_append]
  refine Ghost.ent (fun l => if l = 9 then 29 else if l = 10 then 45 else if l = 11 then 49 else l) ?_ ?_ ?_ <;> simp -implicitDefEqProofs only [go_sem, ↓reduceIte, Nat.reduceAdd, Nat.reduceMul, Nat.reduceEqDiff, Nat.reduceLeDiff, reduceCtorEq, Int.reduceToNat, rP_ren, rP_labs9, rP_labs12, List.forall_mem_cons, List.not_mem_nil, false_implies, implies_true, and_self, map_renL_lift, labsIn_lift, List.all_append, List.all_cons, List.all_nil, List.map_append, Nat.reduceLT, labsInL, AV.labsIn]
  all_goals first | rfl | decide | skip
 have SP : ∃ sp, sp = stepsP mo mn 500 1 l := ⟨_, rfl⟩
 obtain ⟨sp, hsp⟩ := SP
 rw [← hsp] at eE
 have okm : mo ∈ S.msgs ∧ mn ∈ U.msgs := ⟨hmo, hmn⟩
 refine AW.cut (fun x : List Pr × List Stp => mkId S U mo mn x.1 ps x.2 i []) (fun x => x.1 = sp.2 ∧ x.2 = sp.1 ∧ PairsOK S U x.1 ∧ i < x.1.length ∧ x.2.length ≤ 500) ?_ fun x hx => ?_
 rotate_left
 ·obtain ⟨l', st'⟩ := x
  obtain ⟨h1, h2, okl', hil', hst⟩ := hx
  simp only at h1 h2 okl' hil' hst
  have hl1 := pairs_len okl' RS.len.2.1 RU.len.2.1
  have cn0 : 101 - (i + 1) = 100 - i := by omega
  have m1 : 101 - (i + 1) < 101 - i := by omega
  have rl := rP_len ps
  have inv : (ps ++ [st']) ++ makeP S U (101 - (i + 1)) (i + 1) l' = makeP S U 101 0 [⟨a, b⟩] := by
   simp only [List.append_assoc, List.cons_append, List.nil_append]
   rw [cn0, h1, h2]
   exact eE
  by_cases hi0 : ps = []
  ·have i0 : i = 0 := by rw [← i2, hi0]; rfl
   subst hi0 i0
   simp only [mkId, mkTd, mkMd, memA, rowA, cellsSc, cellsMs, rP, r8, List.map_nil, liftE_nil, List.cons_append, List.nil_append]
   refine AW.rE (by rfl) fun K hK => ?_
   simp -implicitDefEqProofs only [go_sem, ↓reduceIte, Nat.reduceAdd, Nat.reduceMul, Nat.reduceEqDiff, Nat.reduceLeDiff, reduceCtorEq, Int.reduceToNat]
   refine ⟨⟨by simp, by simp [oneAll, AV.one, PV.one], by simp⟩, by decide, ?_⟩
   try simp -implicitDefEqProofs only [go_sem, ↓reduceIte, Nat.reduceAdd, Nat.reduceMul, Nat.reduceEqDiff, Nat.reduceLeDiff, reduceCtorEq, Int.reduceToNat]
   refine hK _ ?_; clear hK K
   simp only [andThen, inBlk, reduceCtorEq, ↓reduceIte, if_t, if_f]
   refine AW.rE (by rfl) fun K hK => ?_
   simp -implicitDefEqProofs only [go_sem, ↓reduceIte, Nat.reduceAdd, Nat.reduceMul, Nat.reduceEqDiff, Nat.reduceLeDiff, reduceCtorEq, Int.reduceToNat, w1]
   refine hK _ ?_; clear hK K
   refine ⟨(l', [st'], 1), ⟨hil', rfl, inv, okl'⟩, m1, ?_⟩
   show Ghost _ _ (mkSd S U l' [st'] [(16, .p (.int .i64 ((1 : Nat) : Int)))])
   simp only [mkSd, mkTd, mkMd, memA, rowA, cellsSc, rP, r8, List.map_nil, liftE_nil, List.cons_append, List.nil_append]
   refine Ghost.ent (fun l => if l = 7 then 16 else if l = 8 then 11 else l) ?_ ?_ ?_ <;> simp -implicitDefEqProofs only [go_sem, ↓reduceIte, Nat.reduceAdd, Nat.reduceMul, Nat.reduceEqDiff, Nat.reduceLeDiff, reduceCtorEq, Int.reduceToNat,  List.forall_mem_cons, List.not_mem_nil, false_implies, implies_true, and_self, map_renL_lift, labsIn_lift, List.all_append, List.all_cons, List.all_nil, List.map_append, Nat.reduceLT, labsInL, AV.labsIn]
   all_goals first | rfl | decide | skip
  obtain ⟨nx1, nx2⟩ := rP_next st' hi0
  refine AW.ghost (s' := mkSd S U l' ps [(16, .p (.int .i64 (i : Int))), (21, .p (.slice (st'.map encSt)))]) ?_ ?_
  ·refine Ghost.trans (Ghost.freeze (lb := 11) (sz := 3) (ps := st'.map encSt) ?_ (unlift_liftE _)) ?_
   ·simp only [mkId, mkMd, memA, rowA, cellsSc, List.cons_append, List.nil_append]
    simp -implicitDefEqProofs only [go_sem, ↓reduceIte, Nat.reduceAdd, Nat.reduceMul, Nat.reduceEqDiff, Nat.reduceLeDiff, reduceCtorEq, Int.reduceToNat]
   ·simp only [mkId, mkSd, mkTd, mkMd, memA, rowA, cellsSc, cellsMs, List.cons_append, List.nil_append]
    refine Ghost.sub ?_ ?_ <;> simp -implicitDefEqProofs only [go_sem, ↓reduceIte, Nat.reduceAdd, Nat.reduceMul, Nat.reduceEqDiff, Nat.reduceLeDiff, reduceCtorEq, Int.reduceToNat, thaw, thaw1, Option.map_some, List.map_cons, List.map_nil, thaw_lift, mQ_labs, rP_thaw 11 _ (by decide), rP_labs9, List.forall_mem_cons, List.not_mem_nil, false_implies, implies_true, and_self, labsIn_lift, List.all_append, List.all_cons, List.all_nil, Nat.reduceLT, labsInL, AV.labsIn]
    all_goals first | rfl | decide | skip
  simp only [mkSd, mkTd, mkMd, memA, rowA, cellsSc, List.cons_append, List.nil_append]
  refine AW.rE (by rfl) fun K hK => ?_
  simp -implicitDefEqProofs only [go_sem, ↓reduceIte, Nat.reduceAdd, Nat.reduceMul, Nat.reduceEqDiff, Nat.reduceLeDiff, reduceCtorEq, Int.reduceToNat]
  refine ⟨⟨by simp, by simp [oneAll, AV.one, PV.one], by simp⟩, by rw [rl]; omega, ?_⟩
  try simp -implicitDefEqProofs only [go_sem, ↓reduceIte, Nat.reduceAdd, Nat.reduceMul, Nat.reduceEqDiff, Nat.reduceLeDiff, reduceCtorEq, Int.reduceToNat]
  refine hK _ ?_; clear hK K
  rw [nx1]
  simp only [andThen, inBlk, reduceCtorEq, ↓reduceIte, if_t, if_f]
  refine AW.rE (by rfl) fun K hK => ?_
  simp -implicitDefEqProofs only [go_sem, ↓reduceIte, Nat.reduceAdd, Nat.reduceMul, Nat.reduceEqDiff, Nat.reduceLeDiff, reduceCtorEq, Int.reduceToNat, w1]
  refine hK _ ?_; clear hK K
  refine ⟨(l', ps ++ [st'], i + 1), ⟨hil', by simp only [List.length_append, List.length_cons, List.length_nil]; omega, inv, okl'⟩, m1, ?_⟩
  show Ghost _ _ (mkSd S U l' (ps ++ [st']) [(16, .p (.int .i64 ((i + 1 : Nat) : Int)))])
  simp only [mkSd, mkTd, mkMd, memA, rowA, cellsSc, nx2, List.cons_append, List.nil_append]
  refine Ghost.ent (fun l => if l = 7 then 13 else l) ?_ ?_ ?_ <;> simp -implicitDefEqProofs only [go_sem, ↓reduceIte, Nat.reduceAdd, Nat.reduceMul, Nat.reduceEqDiff, Nat.reduceLeDiff, reduceCtorEq, Int.reduceToNat, rP_ren, rP_labs9, List.forall_mem_cons, List.not_mem_nil, false_implies, implies_true, and_self, map_renL_lift, labsIn_lift, List.all_append, List.all_cons, List.all_nil, List.map_append, Nat.reduceLT, labsInL, AV.labsIn]
  all_goals first | rfl | decide | skip
 simp only [mkId, mkTd, mkMd, memA, rowA, cellsSc, cellsMs, List.cons_append, List.nil_append]
 refine AW.rT (by rfl) fun K hK => ?_
 simp -implicitDefEqProofs only [go_sem, ↓reduceIte, Nat.reduceAdd, Nat.reduceMul, Nat.reduceEqDiff, Nat.reduceLeDiff, reduceCtorEq, Int.reduceToNat]
 refine hK _ ?_; clear hK K
 refine AW.block ?_
 have z0 : (501 - 1 : Nat) = 500 := rfl
 have z00 : ((1 : Nat) : Int) = 1 := rfl
 have z1 : [] ++ (stepsP mo mn (501 - 1) ((1 : Nat) : Int) l).1 = sp.1 := by rw [z0, z00, List.nil_append, hsp]
 have z2 : (stepsP mo mn (501 - 1) ((1 : Nat) : Int) l).2 = sp.2 := by rw [z0, z00, hsp]
 refine AW.loop (fun x : List Pr × List Stp × Nat => mkId S U mo mn x.1 ps x.2.1 i [(22, .p (.int .i64 (x.2.2 : Int)))]) (fun x => x.2.2 ≤ 501 ∧ 1 ≤ x.2.2 ∧ i < x.1.length ∧ x.2.1 ++ (stepsP mo mn (501 - x.2.2) (x.2.2 : Int) x.1).1 = sp.1 ∧ (stepsP mo mn (501 - x.2.2) (x.2.2 : Int) x.1).2 = sp.2 ∧ PairsOK S U x.1 ∧ x.2.1.length < x.2.2) (fun x => 501 - x.2.2) (l, [], 1) ?_ ⟨Nat.le_of_ble_eq_true rfl, Nat.le_refl _, hil, z1, z2, okl, Nat.lt_succ_self _⟩ fun x hx => ?_
 ·simp only [mkId, mkTd, mkMd, memA, rowA, cellsSc, cellsMs, List.cons_append, List.nil_append]
  refine Ghost.sub ?_ ?_ <;> simp -implicitDefEqProofs only [go_sem, ↓reduceIte, Nat.reduceAdd, Nat.reduceMul, Nat.reduceEqDiff, Nat.reduceLeDiff, reduceCtorEq, Int.reduceToNat, Int.natCast_one, Int.cast_ofNat_Int, List.map_nil, liftE_nil, rP_labs12, List.forall_mem_cons, List.not_mem_nil, false_implies, implies_true, and_self, labsIn_lift, List.all_append, List.all_cons, List.all_nil, Nat.reduceLT, labsInL, AV.labsIn]
  all_goals first | rfl | decide | skip
 clear okl hl100 g1 hc1 hil hp i1 M1 M2 hsp b0 b1
 obtain ⟨l, st, n⟩ := x
 obtain ⟨n1, n2, hil, q1, q2, okl, q3⟩ := hx
 simp only at n1 n2 hil q1 q2 okl q3
 have hl100 := pairs_len okl RS.len.2.1 RU.len.2.1
 simp only [mkId, mkTd, mkMd, memA, rowA, cellsSc, cellsMs, List.cons_append, List.nil_append]
 refine AW.seq ?_
 by_cases hn : n ≤ 500
 case neg =>
  have hc1 : ((n : Int) ≤ 500) = False := eq_false (by omega)
  rw [show 501 - n = 0 by omega] at q1 q2
  refine AW.rT (by rfl) fun K hK => ?_
  simp -implicitDefEqProofs only [go_sem, ↓reduceIte, Nat.reduceAdd, Nat.reduceMul, Nat.reduceEqDiff, Nat.reduceLeDiff, reduceCtorEq, Int.reduceToNat, hc1]
  refine hK _ ?_; clear hK K
  refine AW.cond _ (by simp -implicitDefEqProofs only [go_sem, ↓reduceIte, Nat.reduceAdd, Nat.reduceMul, Nat.reduceEqDiff, Nat.reduceLeDiff, reduceCtorEq, Int.reduceToNat]; rfl) (fun hc => ?_) (fun hc => ?_)
  ·simp at hc
  refine AW.exit ?_
  simp only [andThen, inBlk, reduceCtorEq, ↓reduceIte, if_t, if_f]
  refine ⟨(l, st), ⟨q2, by rw [← q1]; exact (List.append_nil _).symm, okl, hil, by simp only; omega⟩, ?_⟩
  show Ghost _ _ (mkId S U mo mn l ps st i [])
  simp only [mkId, mkTd, mkMd, memA, rowA, cellsSc, cellsMs, List.cons_append, List.nil_append]
  refine Ghost.sub ?_ ?_ <;> simp -implicitDefEqProofs only [go_sem, ↓reduceIte, Nat.reduceAdd, Nat.reduceMul, Nat.reduceEqDiff, Nat.reduceLeDiff, reduceCtorEq, Int.reduceToNat, rP_labs9, rP_labs12, rP_labs13, List.forall_mem_cons, List.not_mem_nil, false_implies, implies_true, and_self, labsIn_lift, List.all_append, List.all_cons, List.all_nil, Nat.reduceLT, labsInL, AV.labsIn]
  all_goals first | rfl | decide | skip
 have hc1 : ((n : Int) ≤ 500) = True := eq_true (by omega)
 have w2 : IntKind.wrap .i64 ((n : Int) + 1) = ((n + 1 : Nat) : Int) := by rw [w64] <;> omega
 have no1 := (fit_msgs FS hmo).no
 have no2 := (fit_msgs FU hmn).no
 have ST := adapt_tag S U mo mn (n : Int) l (by omega) (by omega) (by omega)
 rw [show 501 - n = (500 - n) + 1 by omega, stepsP] at q1 q2
 simp only at q1 q2
 refine AW.rT (by rfl) fun K hK => ?_
 simp -implicitDefEqProofs only [go_sem, ↓reduceIte, Nat.reduceAdd, Nat.reduceMul, Nat.reduceEqDiff, Nat.reduceLeDiff, reduceCtorEq, Int.reduceToNat, hc1]
 refine hK _ ?_; clear hK K
 refine AW.cond _ (by simp -implicitDefEqProofs only [go_sem, ↓reduceIte, Nat.reduceAdd, Nat.reduceMul, Nat.reduceEqDiff, Nat.reduceLeDiff, reduceCtorEq, Int.reduceToNat]; rfl) (fun hc => ?_) (fun hc => ?_)
 rotate_left
 ·simp at hc
 refine AW.skip ?_
 simp only [andThen, inBlk, reduceCtorEq, ↓reduceIte, if_t, if_f]
 refine AW.seq ?_
 refine AW.block ?_
 refine AW.rR (SeqR.ev 4 (by rfl) (by decide) ?_)
 simp -implicitDefEqProofs only [go_sem, ↓reduceIte, Nat.reduceAdd, Nat.reduceMul, Nat.reduceEqDiff, Nat.reduceLeDiff, reduceCtorEq, Int.reduceToNat]
 refine SeqR.call (fun k => k + 3) rfl rfl ST ⟨?_, rfl, ?_, rfl, rfl, rfl, rfl, rfl, memA_by (r := 0) rfl rfl⟩ ?_
 ·simp -implicitDefEqProofs only [go_sem, ↓reduceIte, Nat.reduceAdd, Nat.reduceMul, Nat.reduceEqDiff, Nat.reduceLeDiff, reduceCtorEq, Int.reduceToNat, argD, encMs]
 ·simp only [memA, rowA]
  simp -implicitDefEqProofs only [go_sem, ↓reduceIte, Nat.reduceAdd, Nat.reduceMul, Nat.reduceEqDiff, Nat.reduceLeDiff, reduceCtorEq, Int.reduceToNat, List.forall_mem_cons, List.not_mem_nil, false_implies, implies_true, and_self]
  first | done | decide
 refine SeqR.ev 6 (by rfl) (by decide) ?_
 simp -implicitDefEqProofs only [go_sem, ↓reduceIte, Nat.reduceAdd, Nat.reduceMul, Nat.reduceEqDiff, Nat.reduceLeDiff, reduceCtorEq, Int.reduceToNat, encSt, List.map_cons, List.map_nil]
 refine SeqR.last rfl ?_
 refine AW.ghost (s' := mkJd S U mo mn (stepLs mo mn (n : Int) l) ps st i n (stepA mo mn (n : Int) l).1 (stepA mo mn (n : Int) l).2) ?_ ?_
 ·simp only [mkJd, mkTd, mkMd, memA, rowA, cellsSc, cellsMs, List.cons_append, List.nil_append]
  refine Ghost.ent (fun l => if l = 4 then 18 else if l = 5 then 19 else if l = 12 then 23 else l) ?_ ?_ ?_ <;> simp -implicitDefEqProofs only [go_sem, ↓reduceIte, Nat.reduceAdd, Nat.reduceMul, Nat.reduceEqDiff, Nat.reduceLeDiff, reduceCtorEq, Int.reduceToNat, rP_ren, rP_labs12, rP_labs13, lift2, goneU, newU, Nat.reduceSub, List.forall_mem_cons, List.not_mem_nil, false_implies, implies_true, and_self, map_renL_lift, labsIn_lift, List.all_append, List.all_cons, List.all_nil, List.map_append, Nat.reduceLT, labsInL, AV.labsIn]
  all_goals first | rfl | decide | skip

 have okl' := stepLs_ok RS RU hmo hmn (t := (n : Int)) okl
 have hil' : i < (stepLs mo mn (n : Int) l).length := by
  have := List.getElem?_eq_getElem hil
  exact (List.getElem?_eq_some_iff.1 (pref_stepLs mo mn (n : Int) l i _ this)).1
 obtain ⟨l', hl'⟩ : ∃ l', l' = stepLs mo mn (n : Int) l := ⟨_, rfl⟩
 rw [← hl'] at okl' hil' q1 q2 ⊢
 simp only [mkJd, mkTd, mkMd, memA, rowA, cellsSc, cellsMs, List.cons_append, List.nil_append]
 have cs : ((n + 1 : Nat) : Int) = (n : Int) + 1 := by omega
 have cn : 501 - (n + 1) = 500 - n := by omega
 have k1 : n + 1 ≤ 501 := by omega
 have k2 : 501 - (n + 1) < 501 - n := by omega
 obtain ⟨so, ho⟩ : ∃ so, so = stepO mo mn (n : Int) l := ⟨_, rfl⟩
 rw [← ho] at q1
 by_cases hso : so = none
 ·rw [hso] at q1 ho
  simp only [Option.toList_none, List.nil_append] at q1
  have eA : (stepA mo mn (n : Int) l).2 = false := by unfold stepA; rw [← ho]; rfl
  refine AW.rT (by rfl) fun K hK => ?_
  simp -implicitDefEqProofs only [go_sem, ↓reduceIte, Nat.reduceAdd, Nat.reduceMul, Nat.reduceEqDiff, Nat.reduceLeDiff, reduceCtorEq, Int.reduceToNat, eA]
  refine hK _ ?_; clear hK K
  refine AW.cond _ (by simp -implicitDefEqProofs only [go_sem, ↓reduceIte, Nat.reduceAdd, Nat.reduceMul, Nat.reduceEqDiff, Nat.reduceLeDiff, reduceCtorEq, Int.reduceToNat]; rfl) (fun hc => ?_) (fun hc => ?_)
  ·simp at hc
  refine AW.skip ?_
  simp only [andThen, inBlk, reduceCtorEq, ↓reduceIte, if_t, if_f]
  refine AW.rE (by rfl) fun K hK => ?_
  simp -implicitDefEqProofs only [go_sem, ↓reduceIte, Nat.reduceAdd, Nat.reduceMul, Nat.reduceEqDiff, Nat.reduceLeDiff, reduceCtorEq, Int.reduceToNat, w2]
  refine hK _ ?_; clear hK K
  refine ⟨(l', st, n + 1), ⟨k1, Nat.le_add_left 1 n, hil', ?_, ?_, okl', Nat.lt_succ_of_lt q3⟩, k2, ?_⟩
  ·simp only
   rw [cn, cs]
   exact q1
  ·simp only
   rw [cn, cs]
   exact q2
  ·show Ghost _ _ (mkId S U mo mn l' ps st i [(22, .p (.int .i64 ((n + 1 : Nat) : Int)))])
   simp only [mkId, mkTd, mkMd, memA, rowA, cellsSc, cellsMs, List.cons_append, List.nil_append]
   refine Ghost.sub ?_ ?_ <;> simp -implicitDefEqProofs only [go_sem, ↓reduceIte, Nat.reduceAdd, Nat.reduceMul, Nat.reduceEqDiff, Nat.reduceLeDiff, reduceCtorEq, Int.reduceToNat, rP_labs9, rP_labs12, rP_labs13, List.forall_mem_cons, List.not_mem_nil, false_implies, implies_true, and_self, labsIn_lift, List.all_append, List.all_cons, List.all_nil, Nat.reduceLT, labsInL, AV.labsIn]
   all_goals first | rfl | decide | skip
 ·obtain ⟨s, hs⟩ := Option.ne_none_iff_exists'.1 hso
  rw [hs] at q1 ho
  simp only [Option.toList_some, List.cons_append, List.nil_append] at q1
  have eA : stepA mo mn (n : Int) l = (s, true) := by unfold stepA; rw [← ho]; rfl
  rw [eA]
  refine AW.rT (by rfl) fun K hK => ?_
  simp -implicitDefEqProofs only [go_sem, ↓reduceIte, Nat.reduceAdd, Nat.reduceMul, Nat.reduceEqDiff, Nat.reduceLeDiff, reduceCtorEq, Int.reduceToNat]
  refine hK _ ?_; clear hK K
  refine AW.cond _ (by simp -implicitDefEqProofs only [go_sem, ↓reduceIte, Nat.reduceAdd, Nat.reduceMul, Nat.reduceEqDiff, Nat.reduceLeDiff, reduceCtorEq, Int.reduceToNat]; rfl) (fun hc => ?_) (fun hc => ?_)
  rotate_left
  ·simp at hc
  refine AW.rE (by rfl) fun K hK => ?_
  simp -implicitDefEqProofs only [go_sem, ↓reduceIte, Nat.reduceAdd, Nat.reduceMul, Nat.reduceEqDiff, Nat.reduceLeDiff, reduceCtorEq, Int.reduceToNat]
  refine ⟨⟨by simp, by simp [oneAll, AV.one, PV.one], by simp⟩, by rw [liftE_length, List.length_map]; omega, ?_⟩
  try simp -implicitDefEqProofs only [go_sem, ↓reduceIte, Nat.reduceAdd, Nat.reduceMul, Nat.reduceEqDiff, Nat.reduceLeDiff, reduceCtorEq, Int.reduceToNat]
  refine hK _ ?_; clear hK K
  simp only [andThen, inBlk, reduceCtorEq, ↓reduceIte, if_t, if_f]
  refine AW.rE (by rfl) fun K hK => ?_
  simp -implicitDefEqProofs only [go_sem, ↓reduceIte, Nat.reduceAdd, Nat.reduceMul, Nat.reduceEqDiff, Nat.reduceLeDiff, reduceCtorEq, Int.reduceToNat, w2]
  refine hK _ ?_; clear hK K
  refine ⟨(l', st ++ [s], n + 1), ⟨k1, Nat.le_add_left 1 n, hil', ?_, ?_, okl', by simp only [List.length_append, List.length_cons, List.length_nil]; omega⟩, k2, ?_⟩
  ·simp only [List.append_assoc, List.cons_append, List.nil_append]
   rw [cn, cs]
   exact q1
  ·simp only
   rw [cn, cs]
   exact q2
  ·show Ghost _ _ (mkId S U mo mn l' ps (st ++ [s]) i [(22, .p (.int .i64 ((n + 1 : Nat) : Int)))])
   simp only [mkId, mkTd, mkMd, memA, rowA, cellsSc, cellsMs, List.cons_append, List.nil_append]
   refine Ghost.ent (fun l => if l = 11 then 17 else l) ?_ ?_ ?_ <;> simp -implicitDefEqProofs only [go_sem, ↓reduceIte, Nat.reduceAdd, Nat.reduceMul, Nat.reduceEqDiff, Nat.reduceLeDiff, reduceCtorEq, Int.reduceToNat, rP_ren, rP_labs12, encSt, List.map_append, liftE_append, List.map_cons, List.map_nil, liftE_cons, liftE_nil, List.forall_mem_cons, List.not_mem_nil, false_implies, implies_true, and_self, map_renL_lift, labsIn_lift, List.all_append, List.all_cons, List.all_nil, List.map_append, Nat.reduceLT, labsInL, AV.labsIn]
   all_goals first | rfl | decide | skip
end Go.Aw
namespace Go.Aw
open Go.Proofs Go.RowKit
set_option linter.unusedSimpArgs false
set_option linter.unusedVariables false
theorem rep_st {w : World} {I : Nat → Prop} {u : Value} {r : Stp} (h : rep w I u (.agg (encSt r))) : u = .agg #[.int .i64 r.op, .int .i64 r.tag, .int .i64 r.sub] := by
 cases h with
 | agg hs hr =>
 rename_i vs
 have hsz : vs.size = 3 := by rw [hs]; rfl
 have h0 := hr 0 _ _ (Array.getElem?_eq_getElem (by omega)) rfl
 have h1 := hr 1 _ _ (Array.getElem?_eq_getElem (by omega)) rfl
 have h2 := hr 2 _ _ (Array.getElem?_eq_getElem (by omega)) rfl
 generalize e0 : vs[0] = v0 at h0
 generalize e1 : vs[1] = v1 at h1
 generalize e2 : vs[2] = v2 at h2
 cases h0; cases h1; cases h2
 congr 1
 apply Array.ext
 ·rw [hsz]; rfl
 ·intro i hi hi'
  have : i < 3 := by simpa using hi'
  match i, this with
  | 0, _ => exact e0
  | 1, _ => exact e1
  | 2, _ => exact e2
theorem eq85 (x y : Stp) (w : World) : (Op.equalIn 10000 85 (.agg #[.int .i64 x.op, .int .i64 x.tag, .int .i64 x.sub]) (.agg #[.int .i64 y.op, .int .i64 y.tag, .int .i64 y.sub])).run Tryd.prog w = .ok (decide (x = y)) w := by
 have u3 := Tryd.underlying3
 have a3 := Tryd.isAgg3
 have z3 := Tryd.sizeOf3
 have hS : Tryd.prog.underlying 85 = some (.struct (Tryd.prog.fieldsOf 85)) := by kernel_rfl
 have hp : Tryd.prog.stoodInHeld 85 = false := by kernel_rfl
 rw [show (10000 : Nat) = 9999 + 1 from rfl, run_equalIn_agg w 9999 85 _ _ hS hp]
 simp only [Program.fieldsOf, Tryd.underlying85]
 go_simp
 obtain ⟨a0, a1, a2⟩ := x
 obtain ⟨b0, b1, b2⟩ := y
 simp only [Stp.mk.injEq]
 by_cases h0 : a0 = b0 <;> by_cases h1 : a1 = b1 <;> by_cases h2 : a2 = b2 <;> simp [h0, h1, h2]
theorem eqP_st (x y : Stp) : EqP Tryd.prog 85 (.agg (encSt x)) (.agg (encSt y)) (decide (x = y)) := by
 intro w I u v hu hv
 rw [rep_st hu, rep_st hv]
 refine ⟨?_, ?_, fun op a b => run_eqGuard_agg _ op 85 a b _ _ (by kernel_rfl)⟩
 ·rw [run_eql_struct, eq85]; rfl
 ·rw [run_neq_struct, eq85]; rfl
def qSt (l l' : List Stp) (i : Nat) : St := ⟨ofL [(0, .p (.slice (l.map encSt))), (1, .p (.slice (l'.map encSt))), (12, .p (.int .i64 (l.length : Int))), (13, .p (.int .i64 (i : Int)))], ofH [], 0⟩
set_option maxRecDepth 100000 in
set_option maxHeartbeats 4000000 in
theorem slices_EqualSt (l l' : List Stp) (hl : l.length ≤ 1000000000000000) : PFn Tryd.prog 78 [.slice (l.map encSt), .slice (l'.map encSt)] (.bool (decide (l = l'))) := by
 refine PFn.of Tryd.func78 rfl (by decide) Tryd.ntmps78 Tryd.results78 (Nat.le_of_ble_eq_true rfl) ?_
 simp only [argsT]
 refine AW.rT (by rfl) fun K hK => ?_
 simp -implicitDefEqProofs only [go_sem, ↓reduceIte, Nat.reduceAdd, Nat.reduceMul, Nat.reduceEqDiff, Nat.reduceLeDiff, reduceCtorEq, Int.reduceToNat]
 refine hK _ ?_; clear hK K
 refine AW.seq ?_
 by_cases c4 : l.length = l'.length
 case neg =>
  have b4 : ((l.length : Int) != (l'.length : Int)) = true := by simp; omega
  have HH : decide (l = l') = false := decide_eq_false (fun h => c4 (by rw [h]))
  refine AW.rT (by rfl) fun K hK => ?_
  simp -implicitDefEqProofs only [go_sem, ↓reduceIte, Nat.reduceAdd, Nat.reduceMul, Nat.reduceEqDiff, Nat.reduceLeDiff, reduceCtorEq, Int.reduceToNat, b4, List.length_map]
  refine hK _ ?_; clear hK K
  refine AW.cond _ (by simp -implicitDefEqProofs only [go_sem, ↓reduceIte, Nat.reduceAdd, Nat.reduceMul, Nat.reduceEqDiff, Nat.reduceLeDiff, reduceCtorEq, Int.reduceToNat]; rfl) (fun hc => ?_) (fun hc => ?_)
  ·refine AW.rT (by rfl) fun K hK => ?_
   simp -implicitDefEqProofs only [go_sem, ↓reduceIte, Nat.reduceAdd, Nat.reduceMul, Nat.reduceEqDiff, Nat.reduceLeDiff, reduceCtorEq, Int.reduceToNat]
   refine hK _ ?_; clear hK K
   refine AW.ret ?_
   simp -implicitDefEqProofs only [go_sem, ↓reduceIte, Nat.reduceAdd, Nat.reduceMul, Nat.reduceEqDiff, Nat.reduceLeDiff, reduceCtorEq, Int.reduceToNat, HH]
  ·simp at hc
 have b4 : ((l.length : Int) != (l'.length : Int)) = false := by simp; omega
 refine AW.rT (by rfl) fun K hK => ?_
 simp -implicitDefEqProofs only [go_sem, ↓reduceIte, Nat.reduceAdd, Nat.reduceMul, Nat.reduceEqDiff, Nat.reduceLeDiff, reduceCtorEq, Int.reduceToNat, b4, List.length_map]
 refine hK _ ?_; clear hK K
 refine AW.cond _ (by simp -implicitDefEqProofs only [go_sem, ↓reduceIte, Nat.reduceAdd, Nat.reduceMul, Nat.reduceEqDiff, Nat.reduceLeDiff, reduceCtorEq, Int.reduceToNat]; rfl) (fun hc => ?_) (fun hc => ?_)
 ·simp at hc
 refine AW.skip ?_
 simp only [andThen, inBlk, reduceCtorEq, ↓reduceIte, if_t, if_f]
 refine AW.seq ?_
 refine AW.rT (by rfl) fun K hK => ?_
 simp -implicitDefEqProofs only [go_sem, ↓reduceIte, Nat.reduceAdd, Nat.reduceMul, Nat.reduceEqDiff, Nat.reduceLeDiff, reduceCtorEq, Int.reduceToNat, List.length_map]
 refine hK _ ?_; clear hK K
 refine AW.block ?_
 refine AW.loop (qSt l l') (fun i => i ≤ l.length ∧ l.take i = l'.take i) (fun i => l.length - i) 0 ?_ (by simp) fun i hi => ?_
 ·simp only [qSt]
  refine Ghost.sub ?_ ?_ <;> simp -implicitDefEqProofs only [go_sem, ↓reduceIte, Nat.reduceAdd, Nat.reduceMul, Nat.reduceEqDiff, Nat.reduceLeDiff, reduceCtorEq, Int.reduceToNat,  List.forall_mem_cons, List.not_mem_nil, false_implies, implies_true, and_self, labsIn_lift, List.all_append, List.all_cons, List.all_nil, Nat.reduceLT, labsInL, AV.labsIn]
  all_goals first | rfl | decide | skip
 obtain ⟨g1, g2⟩ := hi
 simp only [qSt]
 by_cases hil : i < l.length
 ·obtain ⟨x, hx⟩ : ∃ x, l[i]? = some x := ⟨_, List.getElem?_eq_getElem hil⟩
  obtain ⟨y, hy⟩ : ∃ y, l'[i]? = some y := ⟨_, List.getElem?_eq_getElem (by omega)⟩
  have ⟨hx1, hx2, hx3⟩ := at_map' encSt hx
  have ⟨hy1, hy2, hy3⟩ := at_map' encSt hy
  have ex : (encSt x).length = 3 := rfl
  have ey : (encSt y).length = 3 := rfl
  have hc1 : ((i : Int) < (l.length : Int)) = True := eq_true (by omega)
  have hx2' : (i : Int) < (l.length : Int) := by omega
  have hy2' : (i : Int) < (l'.length : Int) := by omega
  refine AW.rT (by rfl) fun K hK => ?_
  simp -implicitDefEqProofs only [go_sem, ↓reduceIte, Nat.reduceAdd, Nat.reduceMul, Nat.reduceEqDiff, Nat.reduceLeDiff, reduceCtorEq, Int.reduceToNat, hc1]
  refine hK _ ?_; clear hK K
  refine AW.seq ?_
  refine AW.cond _ (by simp -implicitDefEqProofs only [go_sem, ↓reduceIte, Nat.reduceAdd, Nat.reduceMul, Nat.reduceEqDiff, Nat.reduceLeDiff, reduceCtorEq, Int.reduceToNat]; rfl) (fun hc => ?_) (fun hc => ?_)
  rotate_left
  ·simp at hc
  refine AW.skip ?_
  simp only [andThen, inBlk, reduceCtorEq, ↓reduceIte, if_t, if_f]
  refine AW.seq ?_
  refine AW.block ?_
  refine AW.rT (by rfl) fun K hK => ?_
  simp -implicitDefEqProofs only [go_sem, ↓reduceIte, Nat.reduceAdd, Nat.reduceMul, Nat.reduceEqDiff, Nat.reduceLeDiff, reduceCtorEq, Int.reduceToNat]
  refine hK _ ?_; clear hK K
  have E := eqP_st x y
  simp only [encSt] at E
  by_cases hxy : x = y
  ·rw [decide_eq_true hxy] at E
   refine AW.dT mixed (by rfl) (by decide +kernel) fun K hK => ?_
   simp -implicitDefEqProofs only [go_sem, ↓reduceIte, Nat.reduceAdd, Nat.reduceMul, Nat.reduceEqDiff, Nat.reduceLeDiff, reduceCtorEq, Int.reduceToNat, hx1, hx2', hx3, hy1, hy2', hy3, List.length_map, encSt]
   refine ⟨_, E, ?_⟩
   try simp -implicitDefEqProofs only [go_sem, ↓reduceIte, Nat.reduceAdd, Nat.reduceMul, Nat.reduceEqDiff, Nat.reduceLeDiff, reduceCtorEq, Int.reduceToNat]
   refine ⟨heapOK_nil rfl, ?_⟩
   refine hK _ ?_; clear hK K
   refine AW.cond _ (by simp -implicitDefEqProofs only [go_sem, ↓reduceIte, Nat.reduceAdd, Nat.reduceMul, Nat.reduceEqDiff, Nat.reduceLeDiff, reduceCtorEq, Int.reduceToNat]; rfl) (fun hc => ?_) (fun hc => ?_)
   ·simp at hc
   refine AW.skip ?_
   simp only [andThen, inBlk, reduceCtorEq, ↓reduceIte, if_t, if_f]
   have w2 : IntKind.wrap .i64 ((i : Int) + 1) = ((i + 1 : Nat) : Int) := by rw [w64] <;> omega
   refine AW.rE (by rfl) fun K hK => ?_
   simp -implicitDefEqProofs only [go_sem, ↓reduceIte, Nat.reduceAdd, Nat.reduceMul, Nat.reduceEqDiff, Nat.reduceLeDiff, reduceCtorEq, Int.reduceToNat, w2]
   refine hK _ ?_; clear hK K
   refine ⟨i + 1, ⟨by omega, by rw [List.take_add_one, List.take_add_one, hx, hy, g2, hxy]⟩, by omega, ?_⟩
   refine Ghost.sub ?_ ?_ <;> simp -implicitDefEqProofs only [go_sem, ↓reduceIte, Nat.reduceAdd, Nat.reduceMul, Nat.reduceEqDiff, Nat.reduceLeDiff, reduceCtorEq, Int.reduceToNat,  List.forall_mem_cons, List.not_mem_nil, false_implies, implies_true, and_self, labsIn_lift, List.all_append, List.all_cons, List.all_nil, Nat.reduceLT, labsInL, AV.labsIn]
  ·have HH : decide (l = l') = false := decide_eq_false (ne_at hx hy hxy)
   rw [decide_eq_false hxy] at E
   refine AW.dT mixed (by rfl) (by decide +kernel) fun K hK => ?_
   simp -implicitDefEqProofs only [go_sem, ↓reduceIte, Nat.reduceAdd, Nat.reduceMul, Nat.reduceEqDiff, Nat.reduceLeDiff, reduceCtorEq, Int.reduceToNat, hx1, hx2', hx3, hy1, hy2', hy3, List.length_map, encSt]
   refine ⟨_, E, ?_⟩
   try simp -implicitDefEqProofs only [go_sem, ↓reduceIte, Nat.reduceAdd, Nat.reduceMul, Nat.reduceEqDiff, Nat.reduceLeDiff, reduceCtorEq, Int.reduceToNat]
   refine ⟨heapOK_nil rfl, ?_⟩
   refine hK _ ?_; clear hK K
   refine AW.cond _ (by simp -implicitDefEqProofs only [go_sem, ↓reduceIte, Nat.reduceAdd, Nat.reduceMul, Nat.reduceEqDiff, Nat.reduceLeDiff, reduceCtorEq, Int.reduceToNat]; rfl) (fun hc => ?_) (fun hc => ?_)
   ·refine AW.rT (by rfl) fun K hK => ?_
    simp -implicitDefEqProofs only [go_sem, ↓reduceIte, Nat.reduceAdd, Nat.reduceMul, Nat.reduceEqDiff, Nat.reduceLeDiff, reduceCtorEq, Int.reduceToNat]
    refine hK _ ?_; clear hK K
    refine AW.ret ?_
    simp -implicitDefEqProofs only [go_sem, ↓reduceIte, Nat.reduceAdd, Nat.reduceMul, Nat.reduceEqDiff, Nat.reduceLeDiff, reduceCtorEq, Int.reduceToNat, HH]
   ·simp at hc
 have hc1 : ((i : Int) < (l.length : Int)) = False := eq_false (by omega)
 have HH : decide (l = l') = true := decide_eq_true (by rw [List.take_of_length_le (by omega), List.take_of_length_le (by omega)] at g2; exact g2)
 refine AW.rT (by rfl) fun K hK => ?_
 simp -implicitDefEqProofs only [go_sem, ↓reduceIte, Nat.reduceAdd, Nat.reduceMul, Nat.reduceEqDiff, Nat.reduceLeDiff, reduceCtorEq, Int.reduceToNat, hc1]
 refine hK _ ?_; clear hK K
 refine AW.seq ?_
 refine AW.cond _ (by simp -implicitDefEqProofs only [go_sem, ↓reduceIte, Nat.reduceAdd, Nat.reduceMul, Nat.reduceEqDiff, Nat.reduceLeDiff, reduceCtorEq, Int.reduceToNat]; rfl) (fun hc => ?_) (fun hc => ?_)
 ·simp at hc
 refine AW.exit ?_
 simp only [andThen, inBlk, reduceCtorEq, ↓reduceIte, if_t, if_f]
 refine AW.rT (by rfl) fun K hK => ?_
 simp -implicitDefEqProofs only [go_sem, ↓reduceIte, Nat.reduceAdd, Nat.reduceMul, Nat.reduceEqDiff, Nat.reduceLeDiff, reduceCtorEq, Int.reduceToNat]
 refine hK _ ?_; clear hK K
 refine AW.ret ?_
 simp -implicitDefEqProofs only [go_sem, ↓reduceIte, Nat.reduceAdd, Nat.reduceMul, Nat.reduceEqDiff, Nat.reduceLeDiff, reduceCtorEq, Int.reduceToNat, HH]
theorem adapt_Same1 (l l' : List Stp) (hl : l.length ≤ 1000000000000000) : PFn Tryd.prog 77 [.slice (l.map encSt), .slice (l'.map encSt)] (.bool (decide (l = l'))) := by
 have E1 := slices_EqualSt l l' hl
 refine PFn.of Tryd.func77 rfl (by decide) Tryd.ntmps77 Tryd.results77 (Nat.le_of_ble_eq_true rfl) ?_
 simp only [argsT]
 refine AW.rT (by rfl) fun K hK => ?_
 simp -implicitDefEqProofs only [go_sem, ↓reduceIte, Nat.reduceAdd, Nat.reduceMul, Nat.reduceEqDiff, Nat.reduceLeDiff, reduceCtorEq, Int.reduceToNat]
 refine hK _ ?_; clear hK K
 refine AW.rT (by rfl) fun K hK => ?_
 simp -implicitDefEqProofs only [go_sem, ↓reduceIte, Nat.reduceAdd, Nat.reduceMul, Nat.reduceEqDiff, Nat.reduceLeDiff, reduceCtorEq, Int.reduceToNat]
 refine ⟨.pure _, E1, ?_⟩
 try simp -implicitDefEqProofs only [go_sem, ↓reduceIte, Nat.reduceAdd, Nat.reduceMul, Nat.reduceEqDiff, Nat.reduceLeDiff, reduceCtorEq, Int.reduceToNat]
 refine hK _ ?_; clear hK K
 refine AW.ret ?_
 simp -implicitDefEqProofs only [go_sem, ↓reduceIte, Nat.reduceAdd, Nat.reduceMul, Nat.reduceEqDiff, Nat.reduceLeDiff, reduceCtorEq, Int.reduceToNat]
def fnV (f : FuncId) : PV := .cst (.func (.func f) #[] #[])
def qPt (l l' : List (List Stp)) (i : Nat) : St := ⟨ofL [(0, .p (.slice (l.map encPt))), (1, .p (.slice (l'.map encPt))), (2, .p (fnV 77)), (15, .p (.slice (l.map encPt))), (16, .p (.int .i64 (l.length : Int))), (17, .p (.int .i64 (i : Int)))], ofH [], 0⟩
set_option maxRecDepth 100000 in
set_option maxHeartbeats 4000000 in
theorem slices_EqualPt (l l' : List (List Stp)) (hl : l.length ≤ 1000000) (hs : ∀ x ∈ l, x.length ≤ 1000000000000000) : PFn Tryd.prog 76 [.slice (l.map encPt), .slice (l'.map encPt), fnV 77] (.bool (decide (l = l'))) := by
 refine PFn.of Tryd.func76 rfl (by decide) Tryd.ntmps76 Tryd.results76 (Nat.le_of_ble_eq_true rfl) ?_
 simp only [argsT, fnV]
 refine AW.rT (by rfl) fun K hK => ?_
 simp -implicitDefEqProofs only [go_sem, ↓reduceIte, Nat.reduceAdd, Nat.reduceMul, Nat.reduceEqDiff, Nat.reduceLeDiff, reduceCtorEq, Int.reduceToNat]
 refine hK _ ?_; clear hK K
 refine AW.seq ?_
 by_cases c4 : l.length = l'.length
 case neg =>
  have b4 : ((l.length : Int) != (l'.length : Int)) = true := by simp; omega
  have HH : decide (l = l') = false := decide_eq_false (fun h => c4 (by rw [h]))
  refine AW.rT (by rfl) fun K hK => ?_
  simp -implicitDefEqProofs only [go_sem, ↓reduceIte, Nat.reduceAdd, Nat.reduceMul, Nat.reduceEqDiff, Nat.reduceLeDiff, reduceCtorEq, Int.reduceToNat, b4, List.length_map]
  refine hK _ ?_; clear hK K
  refine AW.cond _ (by simp -implicitDefEqProofs only [go_sem, ↓reduceIte, Nat.reduceAdd, Nat.reduceMul, Nat.reduceEqDiff, Nat.reduceLeDiff, reduceCtorEq, Int.reduceToNat]; rfl) (fun hc => ?_) (fun hc => ?_)
  ·refine AW.rT (by rfl) fun K hK => ?_
   simp -implicitDefEqProofs only [go_sem, ↓reduceIte, Nat.reduceAdd, Nat.reduceMul, Nat.reduceEqDiff, Nat.reduceLeDiff, reduceCtorEq, Int.reduceToNat]
   refine hK _ ?_; clear hK K
   refine AW.ret ?_
   simp -implicitDefEqProofs only [go_sem, ↓reduceIte, Nat.reduceAdd, Nat.reduceMul, Nat.reduceEqDiff, Nat.reduceLeDiff, reduceCtorEq, Int.reduceToNat, HH]
  ·simp at hc
 have b4 : ((l.length : Int) != (l'.length : Int)) = false := by simp; omega
 refine AW.rT (by rfl) fun K hK => ?_
 simp -implicitDefEqProofs only [go_sem, ↓reduceIte, Nat.reduceAdd, Nat.reduceMul, Nat.reduceEqDiff, Nat.reduceLeDiff, reduceCtorEq, Int.reduceToNat, b4, List.length_map]
 refine hK _ ?_; clear hK K
 refine AW.cond _ (by simp -implicitDefEqProofs only [go_sem, ↓reduceIte, Nat.reduceAdd, Nat.reduceMul, Nat.reduceEqDiff, Nat.reduceLeDiff, reduceCtorEq, Int.reduceToNat]; rfl) (fun hc => ?_) (fun hc => ?_)
 ·simp at hc
 refine AW.skip ?_
 simp only [andThen, inBlk, reduceCtorEq, ↓reduceIte, if_t, if_f]
 refine AW.seq ?_
 refine AW.rT (by rfl) fun K hK => ?_
 simp -implicitDefEqProofs only [go_sem, ↓reduceIte, Nat.reduceAdd, Nat.reduceMul, Nat.reduceEqDiff, Nat.reduceLeDiff, reduceCtorEq, Int.reduceToNat, List.length_map]
 refine hK _ ?_; clear hK K
 refine AW.block ?_
 refine AW.loop (qPt l l') (fun i => i ≤ l.length ∧ l.take i = l'.take i) (fun i => l.length - i) 0 ?_ (by simp) fun i hi => ?_
 ·simp only [qPt, fnV]
  refine Ghost.sub ?_ ?_ <;> simp -implicitDefEqProofs only [go_sem, ↓reduceIte, Nat.reduceAdd, Nat.reduceMul, Nat.reduceEqDiff, Nat.reduceLeDiff, reduceCtorEq, Int.reduceToNat,  List.forall_mem_cons, List.not_mem_nil, false_implies, implies_true, and_self, labsIn_lift, List.all_append, List.all_cons, List.all_nil, Nat.reduceLT, labsInL, AV.labsIn]
  all_goals first | rfl | decide | skip
 obtain ⟨g1, g2⟩ := hi
 simp only [qPt, fnV]
 by_cases hil : i < l.length
 ·obtain ⟨x, hx⟩ : ∃ x, l[i]? = some x := ⟨_, List.getElem?_eq_getElem hil⟩
  obtain ⟨y, hy⟩ : ∃ y, l'[i]? = some y := ⟨_, List.getElem?_eq_getElem (by omega)⟩
  have ⟨hx1, hx2, hx3⟩ := at_map' encPt hx
  have ⟨hy1, hy2, hy3⟩ := at_map' encPt hy
  have hc1 : ((i : Int) < (l.length : Int)) = True := eq_true (by omega)
  have hx2' : (i : Int) < (l.length : Int) := by omega
  have hy2' : (i : Int) < (l'.length : Int) := by omega
  have IH := adapt_Same1 x y (hs x (List.mem_of_getElem? hx))
  refine AW.rT (by rfl) fun K hK => ?_
  simp -implicitDefEqProofs only [go_sem, ↓reduceIte, Nat.reduceAdd, Nat.reduceMul, Nat.reduceEqDiff, Nat.reduceLeDiff, reduceCtorEq, Int.reduceToNat, hc1]
  refine hK _ ?_; clear hK K
  refine AW.seq ?_
  refine AW.cond _ (by simp -implicitDefEqProofs only [go_sem, ↓reduceIte, Nat.reduceAdd, Nat.reduceMul, Nat.reduceEqDiff, Nat.reduceLeDiff, reduceCtorEq, Int.reduceToNat]; rfl) (fun hc => ?_) (fun hc => ?_)
  rotate_left
  ·simp at hc
  refine AW.skip ?_
  simp only [andThen, inBlk, reduceCtorEq, ↓reduceIte, if_t, if_f]
  refine AW.seq ?_
  refine AW.block ?_
  refine AW.rT (by rfl) fun K hK => ?_
  simp -implicitDefEqProofs only [go_sem, ↓reduceIte, Nat.reduceAdd, Nat.reduceMul, Nat.reduceEqDiff, Nat.reduceLeDiff, reduceCtorEq, Int.reduceToNat, hx1, hx2', hx3, List.length_map, encPt]
  refine hK _ ?_; clear hK K
  refine AW.rT (by rfl) fun K hK => ?_
  simp -implicitDefEqProofs only [go_sem, ↓reduceIte, Nat.reduceAdd, Nat.reduceMul, Nat.reduceEqDiff, Nat.reduceLeDiff, reduceCtorEq, Int.reduceToNat, hy1, hy2', hy3, List.length_map, encPt]
  refine hK _ ?_; clear hK K
  refine AW.rT (by rfl) fun K hK => ?_
  simp -implicitDefEqProofs only [go_sem, ↓reduceIte, Nat.reduceAdd, Nat.reduceMul, Nat.reduceEqDiff, Nat.reduceLeDiff, reduceCtorEq, Int.reduceToNat]
  refine ⟨.pure _, IH, ?_⟩
  try simp -implicitDefEqProofs only [go_sem, ↓reduceIte, Nat.reduceAdd, Nat.reduceMul, Nat.reduceEqDiff, Nat.reduceLeDiff, reduceCtorEq, Int.reduceToNat]
  refine hK _ ?_; clear hK K
  by_cases hxy : x = y
  ·have bx : decide (x = y) = true := decide_eq_true hxy
   rw [bx]
   refine AW.cond _ (by simp -implicitDefEqProofs only [go_sem, ↓reduceIte, Nat.reduceAdd, Nat.reduceMul, Nat.reduceEqDiff, Nat.reduceLeDiff, reduceCtorEq, Int.reduceToNat]; rfl) (fun hc => ?_) (fun hc => ?_)
   ·simp at hc
   refine AW.skip ?_
   simp only [andThen, inBlk, reduceCtorEq, ↓reduceIte, if_t, if_f]
   have w2 : IntKind.wrap .i64 ((i : Int) + 1) = ((i + 1 : Nat) : Int) := by rw [w64] <;> omega
   refine AW.rE (by rfl) fun K hK => ?_
   simp -implicitDefEqProofs only [go_sem, ↓reduceIte, Nat.reduceAdd, Nat.reduceMul, Nat.reduceEqDiff, Nat.reduceLeDiff, reduceCtorEq, Int.reduceToNat, w2]
   refine hK _ ?_; clear hK K
   refine ⟨i + 1, ⟨by omega, by rw [List.take_add_one, List.take_add_one, hx, hy, g2, hxy]⟩, by omega, ?_⟩
   refine Ghost.sub ?_ ?_ <;> simp -implicitDefEqProofs only [go_sem, ↓reduceIte, Nat.reduceAdd, Nat.reduceMul, Nat.reduceEqDiff, Nat.reduceLeDiff, reduceCtorEq, Int.reduceToNat,  List.forall_mem_cons, List.not_mem_nil, false_implies, implies_true, and_self, labsIn_lift, List.all_append, List.all_cons, List.all_nil, Nat.reduceLT, labsInL, AV.labsIn]
  ·have bx : decide (x = y) = false := decide_eq_false hxy
   have HH : decide (l = l') = false := decide_eq_false (ne_at hx hy hxy)
   rw [bx]
   refine AW.cond _ (by simp -implicitDefEqProofs only [go_sem, ↓reduceIte, Nat.reduceAdd, Nat.reduceMul, Nat.reduceEqDiff, Nat.reduceLeDiff, reduceCtorEq, Int.reduceToNat]; rfl) (fun hc => ?_) (fun hc => ?_)
   ·refine AW.rT (by rfl) fun K hK => ?_
    simp -implicitDefEqProofs only [go_sem, ↓reduceIte, Nat.reduceAdd, Nat.reduceMul, Nat.reduceEqDiff, Nat.reduceLeDiff, reduceCtorEq, Int.reduceToNat]
    refine hK _ ?_; clear hK K
    refine AW.ret ?_
    simp -implicitDefEqProofs only [go_sem, ↓reduceIte, Nat.reduceAdd, Nat.reduceMul, Nat.reduceEqDiff, Nat.reduceLeDiff, reduceCtorEq, Int.reduceToNat, HH]
   ·simp at hc
 have hc1 : ((i : Int) < (l.length : Int)) = False := eq_false (by omega)
 have HH : decide (l = l') = true := decide_eq_true (by rw [List.take_of_length_le (by omega), List.take_of_length_le (by omega)] at g2; exact g2)
 refine AW.rT (by rfl) fun K hK => ?_
 simp -implicitDefEqProofs only [go_sem, ↓reduceIte, Nat.reduceAdd, Nat.reduceMul, Nat.reduceEqDiff, Nat.reduceLeDiff, reduceCtorEq, Int.reduceToNat, hc1]
 refine hK _ ?_; clear hK K
 refine AW.seq ?_
 refine AW.cond _ (by simp -implicitDefEqProofs only [go_sem, ↓reduceIte, Nat.reduceAdd, Nat.reduceMul, Nat.reduceEqDiff, Nat.reduceLeDiff, reduceCtorEq, Int.reduceToNat]; rfl) (fun hc => ?_) (fun hc => ?_)
 ·simp at hc
 refine AW.exit ?_
 simp only [andThen, inBlk, reduceCtorEq, ↓reduceIte, if_t, if_f]
 refine AW.rT (by rfl) fun K hK => ?_
 simp -implicitDefEqProofs only [go_sem, ↓reduceIte, Nat.reduceAdd, Nat.reduceMul, Nat.reduceEqDiff, Nat.reduceLeDiff, reduceCtorEq, Int.reduceToNat]
 refine hK _ ?_; clear hK K
 refine AW.ret ?_
 simp -implicitDefEqProofs only [go_sem, ↓reduceIte, Nat.reduceAdd, Nat.reduceMul, Nat.reduceEqDiff, Nat.reduceLeDiff, reduceCtorEq, Int.reduceToNat, HH]
theorem adapt_Same (p q : List (List Stp)) (hl : p.length ≤ 1000000) (hs : ∀ x ∈ p, x.length ≤ 1000000000000000) : PFn Tryd.prog 57 [.agg [.slice (p.map encPt)], .agg [.slice (q.map encPt)]] (.bool (decide (p = q))) := by
 have E1 := slices_EqualPt p q hl hs
 simp only [fnV] at E1
 refine PFn.of Tryd.func57 rfl (by decide) Tryd.ntmps57 Tryd.results57 (Nat.le_of_ble_eq_true rfl) ?_
 simp only [argsT]
 refine AW.rT (by rfl) fun K hK => ?_
 simp -implicitDefEqProofs only [go_sem, ↓reduceIte, Nat.reduceAdd, Nat.reduceMul, Nat.reduceEqDiff, Nat.reduceLeDiff, reduceCtorEq, Int.reduceToNat]
 refine hK _ ?_; clear hK K
 refine AW.rT (by rfl) fun K hK => ?_
 simp -implicitDefEqProofs only [go_sem, ↓reduceIte, Nat.reduceAdd, Nat.reduceMul, Nat.reduceEqDiff, Nat.reduceLeDiff, reduceCtorEq, Int.reduceToNat]
 refine ⟨.pure _, E1, ?_⟩
 try simp -implicitDefEqProofs only [go_sem, ↓reduceIte, Nat.reduceAdd, Nat.reduceMul, Nat.reduceEqDiff, Nat.reduceLeDiff, reduceCtorEq, Int.reduceToNat]
 refine hK _ ?_; clear hK K
 refine AW.ret ?_
 simp -implicitDefEqProofs only [go_sem, ↓reduceIte, Nat.reduceAdd, Nat.reduceMul, Nat.reduceEqDiff, Nat.reduceLeDiff, reduceCtorEq, Int.reduceToNat]
end Go.Aw
namespace Go.Aw
open Go.Proofs Go.RowKit
set_option linter.unusedSimpArgs false
set_option linter.unusedVariables false
end Go.Aw
namespace Go.Aw
open Go.Proofs Go.RowKit
set_option linter.unusedSimpArgs false
set_option linter.unusedVariables false
end Go.Aw
namespace Go.Aw
open Go.Proofs Go.RowKit
set_option linter.unusedSimpArgs false
set_option linter.unusedVariables false
end Go.Aw
namespace Go.Aw
open Go.Proofs Go.RowKit
set_option linter.unusedSimpArgs false
set_option linter.unusedVariables false
end Go.Aw
namespace Go.Aw
open Go.Proofs Go.RowKit
set_option linter.unusedSimpArgs false
set_option linter.unusedVariables false
def vF : Fd := ⟨[120], 3, 1, ⟨1, []⟩⟩
end Go.Aw
namespace Go.Aw
open Go.Proofs Go.RowKit
set_option linter.unusedSimpArgs false
set_option linter.unusedVariables false
def aS : Sc := ⟨[97], [⟨[109], [vF], []⟩], [], []⟩
theorem aS_lens : LensS aS := lens_few (by decide +kernel)
theorem aS_made : makeR aS aS [109] [109] = ([[⟨1, 3, 0⟩]], 0) := by decide +kernel
theorem aS_prog : progB [[⟨1, 3, 0⟩]] = true := by decide +kernel
def ak0 : St := ⟨ofL [(2, .ptr 0 0 0)], ofH [(0, .row 4 [[.p (.str [97]), .own 1, .ex [], .ex []]]), (1, .row 3 [[.p (.str [109]), .own 2, .ex []]]), (2, .row 5 (liftE ([vF].map encFd)))], 3⟩
def ak1 : St := ⟨ofL [(2, .ptr 0 0 0)], ofH [(0, .row 4 [[.p (.str [97]), .own 1, .ex [], .ex []]]), (1, .row 3 [[.p (.str [109]), .p (.slice ([vF].map encFd)), .ex []]])], 3⟩
def ak2 : St := ⟨ofL [(2, .ptr 0 0 0)], ofH [(0, .row 4 [[.p (.str [97]), .p (.slice [encMs ⟨[109], [vF], []⟩]), .ex [], .ex []]])], 3⟩
set_option maxRecDepth 100000 in
set_option maxHeartbeats 4000000 in
theorem law15_awake : PFn Tryd.prog 48 [] (.bool true) := by
 refine PFn.of Tryd.func48 rfl (by decide) Tryd.ntmps48 Tryd.results48 (Nat.le_of_ble_eq_true rfl) ?_
 simp only [argsT]
 refine AW.rT (by rfl) fun K hK => ?_
 simp -implicitDefEqProofs only [go_sem, ↓reduceIte, Nat.reduceAdd, Nat.reduceMul, Nat.reduceEqDiff, Nat.reduceLeDiff, reduceCtorEq, Int.reduceToNat]
 refine hK _ ?_; clear hK K
 refine AW.rT (by rfl) fun K hK => ?_
 simp -implicitDefEqProofs only [go_sem, ↓reduceIte, Nat.reduceAdd, Nat.reduceMul, Nat.reduceEqDiff, Nat.reduceLeDiff, reduceCtorEq, Int.reduceToNat]
 refine hK _ ?_; clear hK K
 refine AW.rT (by rfl) fun K hK => ?_
 simp -implicitDefEqProofs only [go_sem, ↓reduceIte, Nat.reduceAdd, Nat.reduceMul, Nat.reduceEqDiff, Nat.reduceLeDiff, reduceCtorEq, Int.reduceToNat]
 refine hK _ ?_; clear hK K
 refine AW.ghost (s' := ak0) ?_ ?_
 ·simp only [ak0]
  refine Ghost.ent (fun l => if l = 0 then 10 else if l = 1 then 8 else 6) ?_ ?_ ?_ <;> simp -implicitDefEqProofs only [go_sem, ↓reduceIte, Nat.reduceAdd, Nat.reduceMul, Nat.reduceEqDiff, Nat.reduceLeDiff, reduceCtorEq, Int.reduceToNat, vF, encFd, liftE_cons, liftE_nil, List.map_cons, List.map_nil, List.forall_mem_cons, List.not_mem_nil, false_implies, implies_true, and_self, map_renL_lift, labsIn_lift, List.all_append, List.all_cons, List.all_nil, List.map_append, Nat.reduceLT, labsInL, AV.labsIn]
  all_goals first | rfl | decide | skip
 refine AW.ghost (s' := ak1) (Ghost.trans (Ghost.freeze (lb := 2) (ps := [vF].map encFd) rfl (unlift_liftE _)) ?_) ?_
 ·simp only [ak0, ak1]
  refine Ghost.sub ?_ ?_ <;> simp -implicitDefEqProofs only [go_sem, ↓reduceIte, Nat.reduceAdd, Nat.reduceMul, Nat.reduceEqDiff, Nat.reduceLeDiff, reduceCtorEq, Int.reduceToNat, thaw, thaw1, Option.map_some, List.map_cons, List.map_nil, vF, encFd, liftE_cons, liftE_nil, List.forall_mem_cons, List.not_mem_nil, false_implies, implies_true, and_self, labsIn_lift, List.all_append, List.all_cons, List.all_nil, Nat.reduceLT, labsInL, AV.labsIn]
  all_goals first | rfl | decide | skip
 refine AW.ghost (s' := ak2) (Ghost.trans (Ghost.freeze (lb := 1) (ps := [encMs ⟨[109], [vF], []⟩]) rfl (by rfl)) ?_) ?_
 ·simp only [ak1, ak2]
  refine Ghost.sub ?_ ?_ <;> simp -implicitDefEqProofs only [go_sem, ↓reduceIte, Nat.reduceAdd, Nat.reduceMul, Nat.reduceEqDiff, Nat.reduceLeDiff, reduceCtorEq, Int.reduceToNat, thaw, thaw1, Option.map_some, List.map_cons, List.map_nil, vF, encFd, encMs, liftE_cons, liftE_nil, List.forall_mem_cons, List.not_mem_nil, false_implies, implies_true, and_self, labsIn_lift, List.all_append, List.all_cons, List.all_nil, Nat.reduceLT, labsInL, AV.labsIn]
  all_goals first | rfl | decide | skip
 simp only [ak2]
 have C1 := adapt_Make aS aS aS_lens aS_lens [109] [109]
 rw [aS_made] at C1
 have C2 := adapt_Check [[⟨1, 3, 0⟩]]
 rw [aS_prog] at C2
 have E := eqP_st ⟨1, 3, 0⟩ ⟨1, 3, 0⟩
 rw [decide_eq_true rfl] at E
 simp only [encSc, aS, List.map_cons, List.map_nil, encPt, encSt] at C1 C2 E
 refine AW.rT (by rfl) fun K hK => ?_
 simp -implicitDefEqProofs only [go_sem, ↓reduceIte, Nat.reduceAdd, Nat.reduceMul, Nat.reduceEqDiff, Nat.reduceLeDiff, reduceCtorEq, Int.reduceToNat]
 refine ⟨.pure _, C1, ?_⟩
 try simp -implicitDefEqProofs only [go_sem, ↓reduceIte, Nat.reduceAdd, Nat.reduceMul, Nat.reduceEqDiff, Nat.reduceLeDiff, reduceCtorEq, Int.reduceToNat]
 refine hK _ ?_; clear hK K

 have n1 : (((1 : Nat) : Int) == 1) = true := rfl
 refine AW.rT (by rfl) fun K hK => ?_
 simp -implicitDefEqProofs only [go_sem, ↓reduceIte, Nat.reduceAdd, Nat.reduceMul, Nat.reduceEqDiff, Nat.reduceLeDiff, reduceCtorEq, Int.reduceToNat, n1, List.getD_cons_zero, List.getElem?_cons_zero, List.length_cons, List.length_nil, Int.natCast_one, beq_self_eq_true]
 refine ⟨⟨by decide, by decide⟩, ⟨by decide, by decide⟩, ⟨by decide, by decide⟩, _, E, ?_⟩
 try simp -implicitDefEqProofs only [go_sem, ↓reduceIte, Nat.reduceAdd, Nat.reduceMul, Nat.reduceEqDiff, Nat.reduceLeDiff, reduceCtorEq, Int.reduceToNat]
 refine ⟨.pure _, C2, ?_⟩
 try simp -implicitDefEqProofs only [go_sem, ↓reduceIte, Nat.reduceAdd, Nat.reduceMul, Nat.reduceEqDiff, Nat.reduceLeDiff, reduceCtorEq, Int.reduceToNat]
 refine hK _ ?_; clear hK K
 refine AW.ret ?_
 simp -implicitDefEqProofs only [go_sem, ↓reduceIte, Nat.reduceAdd, Nat.reduceMul, Nat.reduceEqDiff, Nat.reduceLeDiff, reduceCtorEq, Int.reduceToNat]
end Go.Aw
namespace Go.Aw
open Go.Proofs Go.RowKit
set_option linter.unusedSimpArgs false
set_option linter.unusedVariables false
end Go.Aw
namespace Go.Aw
open Go.Proofs Go.RowKit
set_option linter.unusedSimpArgs false
set_option linter.unusedVariables false
end Go.Aw
namespace Go.Aw
open Go.Proofs Go.RowKit
set_option linter.unusedSimpArgs false
set_option linter.unusedVariables false
theorem first_mem {α : Type} {p : α → Bool} {z : α} {l : List α} : (firstP p z l).1 ∈ l ∨ (firstP p z l).1 = z := by
 unfold firstP
 cases h : l.find? p with
 | none => exact .inr rfl
 | some a => exact .inl (List.mem_of_find?_eq_some h)
theorem FewS.msg {S : Sc} (F : FewS S) (p : Ms → Bool) : FewM (firstP p zMs S.msgs).1 := by
 rcases first_mem (p := p) (z := zMs) (l := S.msgs) with h | h
 ·exact F.ms _ h
 ·rw [h]; exact ⟨by decide, by decide, by decide, fun f hf => by cases hf⟩
theorem FewS.enum {S : Sc} (F : FewS S) (p : En → Bool) : FewE (firstP p zEn S.enums).1 := by
 rcases first_mem (p := p) (z := zEn) (l := S.enums) with h | h
 ·exact F.en _ h
 ·rw [h]; exact ⟨by decide, by decide, fun f hf => by cases hf⟩
end Go.Aw
namespace Go.Aw
open Go.Proofs Go.RowKit
set_option linter.unusedSimpArgs false
set_option linter.unusedVariables false
end Go.Aw
namespace Go.Aw
open Go.Proofs Go.RowKit
set_option linter.unusedSimpArgs false
set_option linter.unusedVariables false
end Go.Aw
namespace Go.Aw
open Go.Proofs Go.RowKit
set_option linter.unusedSimpArgs false
set_option linter.unusedVariables false
end Go.Aw
namespace Go.Aw
open Go.Proofs Go.RowKit
set_option linter.unusedSimpArgs false
set_option linter.unusedVariables false
theorem steps_len {mo mn : Ms} : ∀ (k : Nat) (t : Int) (l : List Pr), (stepsP mo mn k t l).1.length ≤ k
 | 0, t, l => Nat.le_refl _
 | k + 1, t, l => by
  have h := steps_len (mo := mo) (mn := mn) k (t + 1) (stepLs mo mn t l)
  rw [stepsP]
  simp only [List.length_append]
  have : (stepO mo mn t l).toList.length ≤ 1 := by cases stepO mo mn t l <;> simp
  omega
end Go.Aw
namespace Go.Aw
open Go.Proofs Go.RowKit
set_option linter.unusedSimpArgs false
set_option linter.unusedVariables false
end Go.Aw
namespace Go.Aw
open Go.RowKit Go.ChangeShapes Go.Proofs
set_option linter.unusedSimpArgs false
set_option linter.unusedVariables false
structure GSt (a : Stp) : Prop where
 op : okI a.op
 tag : okI a.tag
 sub : okI a.sub
def GSts (l : List Stp) : Prop := (l.length ≤ maxLen ∧ l.length * Tryd.prog.bytesOf 85 ≤ reachBytes) ∧ ∀ a ∈ l, GSt a
def GPts (l : List (List Stp)) : Prop := (l.length ≤ maxLen ∧ l.length * Tryd.prog.bytesOf 83 ≤ reachBytes) ∧ ∀ a ∈ l, GSts a
theorem GPts.lens {p : List (List Stp)} (G : GPts p) : ∀ x ∈ p, x.length ≤ 6000000000000 := fun x hx => by
 have h := (G.2 x hx).1.2
 have e : reachBytes = 140737488351232 := by decide
 have b : Tryd.prog.bytesOf 85 = 24 := by kernel_rfl
 rw [e, b] at h
 omega
theorem makeP_lens (S U : Sc) : ∀ (n i : Nat) (l : List Pr), (makeP S U n i l).length ≤ n ∧ ∀ x ∈ makeP S U n i l, x.length ≤ 500
 | 0, i, l => ⟨Nat.le_refl _, fun x hx => by cases hx⟩
 | n + 1, i, l => by
  rw [makeP]
  cases hp : l[i]? with
  | none => exact ⟨Nat.zero_le _, fun x hx => by cases hx⟩
  | some p =>
   simp only
   obtain ⟨a, b⟩ := makeP_lens S U n (i + 1) (stepsP (msgOf S p.o) (msgOf U p.n) 500 1 l).2
   refine ⟨by rw [List.length_cons]; omega, fun x hx => ?_⟩
   rcases List.mem_cons.1 hx with rfl | hx
   ·exact steps_len 500 1 l
   ·exact b x hx
theorem makeR_lens (S U : Sc) (a b : List UInt8) : (makeR S U a b).1.length ≤ 101 ∧ ∀ x ∈ (makeR S U a b).1, x.length ≤ 500 := by
 unfold makeR
 split
 ·split
  ·exact makeP_lens S U 101 0 [⟨a, b⟩]
  ·exact ⟨Nat.zero_le _, fun x hx => by cases hx⟩
 ·exact ⟨Nat.zero_le _, fun x hx => by cases hx⟩
end Go.Aw
namespace Go.Aw
open Go.RowKit
variable {P : Program}
theorem SeqR.opG {nt : Fm} {ops : Array Oper} {i : Nat} {s : St} {K : St → Prop} {o : Oper} (ho : ops[i]? = some o) (hgd : guardIs ops.toList o s.T = some true) (h : CallD P nt o s fun s' => SeqR P nt ops (i + 1) s' K) : SeqR P nt ops i s K := by
 intro w0 X I0 a w Q tx m hQ
 have hi : i < ops.size := (Array.getElem?_eq_some_iff.1 ho).1
 rw [show ops.size - i = (ops.size - (i + 1)) + 1 by omega, List.range'_succ]
 simp only [wpOps, ho]
 have : Region.wanted o (yielded ops a.tmps) = true := by
  obtain ⟨σ, I, hn, mm⟩ := m
  unfold guardIs at hgd
  cases hg : o.guard with
  | none => simp [Region.wanted, hg]
  | some jw =>
   obtain ⟨j, want⟩ := jw
   rw [hg] at hgd
   simp only at hgd
   split at hgd
   ·rename_i b' hb'
    injection hgd with hb
    obtain ⟨d, hd1, hd2⟩ := Option.bind_eq_some_iff.1 hb'
    rw [Array.getElem?_toList] at hd1
    obtain ⟨u, hu, hru⟩ := mm.tmps d _ hd2
    have hy : yielded ops a.tmps j = some b' := by
     cases hru with
     | p h => cases h; simp [yielded, hd1, hu]
    simp only [Region.wanted, hg, hy]
    cases b' <;> cases want <;> simp_all
   ·cases hgd
 rw [if_pos this]
 exact .inl (h w0 X I0 a w _ Q tx m fun s' a' w' m' k => k w0 X I0 a' w' Q tx m' hQ)
theorem SeqR.look {nt : Fm} {s s0 : St} {ops : Array Oper} {i : Nat} {K : St → Prop} {d : Tmp} {f : FuncId} {xs : Array Operand} {ts : Array TypeId} {ty : TypeId} {ps : String} {af : Array Edge} {gd : Option (Nat × Bool)} {l : List PV} {r : PV} (g : Ghost nt s s0)
  (ho : ops[i]? = some ⟨some d, .call { callee := .value (.func f), args := xs, argTypes := ts }, ty, ps, af, gd⟩) (hgd : guardIs ops.toList ⟨some d, .call { callee := .value (.func f), args := xs, argTypes := ts }, ty, ps, af, gd⟩ s.T = some true)
  (hd : dstOK nt ⟨some d, .call { callee := .value (.func f), args := xs, argTypes := ts }, ty, ps, af, gd⟩ = true) (hx : xs.toList.map (Go.Aw.ev s0.T) = l.map fun p => some (.p p)) (D : PFn P f l r) (hf : flatP r = true)
  (hk : SeqR P nt ops (i + 1) ⟨upd s.T d (some (.p r)), s.H, s.nx + 1⟩ K) : SeqR P nt ops i s K := by
 refine SeqR.opG ho hgd ?_
 intro w0 X I0 a w next Q tx M hnext
 obtain ⟨σ0, J, hn0, mm0⟩ := g w0 X I0 a w M
 obtain ⟨σ, I, hn, mm⟩ := M
 obtain ⟨hen, hp⟩ := D
 have IN : In σ0 w J s0.T s0.H w0 X I0 a s0.nx := ⟨mm0.heap, mm0.tmps, hn0 _ (Nat.le_refl _), tx⟩
 have hrun : (execOp a.eval ⟨some d, .call { callee := .value (.func f), args := xs, argTypes := ts }, ty, ps, af, gd⟩).run P w = .ok (.enter f (xs.map a.eval)) w := by
  simp only [execOp, resolve, Act.eval, Deferred.ofValue, Sem.run_bind, Sem.run_pure, Result.andThen_ok, invoke, Array.append_empty, Array.empty_append]
  exact run_enter hen _ _
 have hxl : xs.size = l.length := by have := congrArg List.length hx; simpa using this
 have hargs := hp w J (xs.map a.eval) (by simp [hxl]) (fun j u p h1 h2 => by
  rw [Array.getElem?_map, Option.map_eq_some_iff] at h1
  obtain ⟨x, hx1, rfl⟩ := h1
  have e1 : (xs.toList.map (Go.Aw.ev s0.T))[j]? = some (Go.Aw.ev s0.T x) := by rw [List.getElem?_map, Array.getElem?_toList, hx1]; rfl
  rw [hx, List.getElem?_map, h2] at e1
  injection e1 with e1
  have hev := IN.ev e1.symm
  generalize a.eval x = v at hev
  cases hev with
  | p h => exact h) (fun g hg => (mm0.heap.imm g hg).1) IN.tabs
 unfold Oper.wp
 rw [hrun, Oper.upon_enter]
 refine hargs.mono fun e w' he => ?_
 obtain ⟨v, rfl, hfr, hrep⟩ := he
 obtain ⟨c1, c2⟩ := mm.heap.called hfr
 refine hnext ⟨upd s.T d (some (.p r)), s.H, s.nx + 1⟩ _ w' ⟨σ, _, fun l' hl' => hn l' (by simp only at hl'; omega), mm.put hd c1 (fun _ _ h => h) (fun _ h => .inl h) (fun b hb => c2 b hb) fun x hx => ?_⟩ hk
 injection hx with hx
 subst hx
 exact .p (rep_flat hf hrep)
theorem AW.drawDeepN {nt : Fm} {ops : Array Oper} {ex : Nat} (n : Nat) {id : Nat} {y : Code} {s : St} {Q : Exit → St → Prop} {d : Tmp} {f : FuncId} {xs : Array Operand} {ts : Array TypeId} {ty : TypeId} {ps : String} {af : Array Edge} (l : List PV) {rr : AV} {h' : List (Nat × Blk)}
  (hops : ops[n]? = some ⟨some d, .call { callee := .value (.func f), args := xs, argTypes := ts }, ty, ps, af, none⟩)
  (hm : P.follows .mixedOrders = true) (hd : ops.toList.all (dstOK nt) = true) (hs : staticOK ops.toList = true)
  (DF : DFn P f (l.map AV.p) [] 0 [] rr h' ex) (hdis : distinct (h'.map (·.1)) = true) (hres : rr.labsBy (fun l => ([] : List Nat).contains l || decide (0 ≤ l)) = true) (hmem : h'.all (fun x => (([] : List Nat).contains x.1 || decide (0 ≤ x.1)) && x.2.labsBy (fun l => ([] : List Nat).contains l || decide (0 ≤ l))) = true)
  (h : ∀ K : St → Prop, (∀ s', AW P nt y s' Q → K s') → drawO P ops.toList s.nx (ops.toList.take n) s.T s.H [] fun T1 H1 n1 fs1 => xs.toList.map (Go.Aw.ev T1) = l.map (fun p => some (.p p)) ∧
   drawO P ops.toList (n1 + 1) (ops.toList.drop (n + 1)) (upd T1 d (some (rr.ren (lift2 (fun k => k) 0 (s.nx + ops.size))))) (putH H1 (newU (lift2 (fun k => k) 0 (s.nx + ops.size)) h')) (([], (newU (lift2 (fun k => k) 0 (s.nx + ops.size)) h').map (·.1)) :: fs1) fun T H n fs => heapA ops.toList fs.reverse = true ∧ K ⟨T, H, n + ex⟩) :
  AW P nt (.seq (.region id ops true) y) s Q := by
 obtain ⟨h1, h2⟩ := Array.getElem?_eq_some_iff.1 hops
 have e : ops.toList = ops.toList.take n ++ ⟨some d, .call { callee := .value (.func f), args := xs, argTypes := ts }, ty, ps, af, none⟩ :: ops.toList.drop (n + 1) := by
  have : n < ops.toList.length := by simpa using h1
  conv => lhs; rw [← List.take_append_drop n ops.toList, List.drop_eq_getElem_cons this]
  rw [Array.getElem_toList, h2]
 exact AW.drawDeep e rfl hm hd hs DF hdis hres hmem h
end Go.Aw
namespace Go.Aw
open Go.Proofs Go.RowKit
set_option linter.unusedSimpArgs false
set_option linter.unusedVariables false
def asT (m : List (Nat × AV)) : List (Nat × AV) := (4, .ptr 0 0 0) :: (5, .ptr 1 0 0) :: (9, .ptr 2 0 0) :: (10, .p (.int .i64 0)) :: (11, .ptr 3 0 0) :: (12, .p (.int .i64 0)) :: m
def asH (S U : Sc) (st : List Stp) (r : List (List Stp)) : List (Nat × Blk) := [(0, .row 4 [cellsSc S]), (1, .row 4 [cellsSc U]), (2, .row 1 [[.p (.slice ([.slice (st.map encSt)] :: r.map encPt))]]), (3, .row 1 [[.own 4]]), (4, .row 1 ([.own 5] :: liftE (r.map encPt))), (5, .row 3 (liftE (st.map encSt)))]
def asS (S U : Sc) (st : List Stp) (r : List (List Stp)) (m : List (Nat × AV)) : St := ⟨ofL (asT m), ofH (asH S U st r), 6⟩
def asZ (st0 : List Stp) (st : List Stp) (r : List (List Stp)) : St := ⟨ofL [(9, .ptr 2 0 0), (11, .ptr 3 0 0)], ofH [(2, .row 1 [[.p (.slice ([.slice (st0.map encSt)] :: r.map encPt))]]), (3, .row 1 [[.p (.slice ([.slice (st.map encSt)] :: r.map encPt))]])], 6⟩
def asZ2 (st0 : List Stp) (st : List Stp) (r : List (List Stp)) : St := ⟨ofL [(9, .ptr 2 0 0), (11, .ptr 3 0 0)], ofH [(2, .row 1 [[.p (.slice ([.slice (st0.map encSt)] :: r.map encPt))]]), (3, .row 1 [[.own 4]]), (4, .row 1 ([.own 5] :: liftE (r.map encPt))), (5, .row 3 (liftE (st.map encSt)))], 6⟩
def asZ1 (st0 : List Stp) (st : List Stp) (r : List (List Stp)) : St := ⟨ofL [(9, .ptr 2 0 0), (11, .ptr 3 0 0)], ofH [(2, .row 1 [[.p (.slice ([.slice (st0.map encSt)] :: r.map encPt))]]), (3, .row 1 [[.own 4]]), (4, .row 1 ([.p (.slice (st.map encSt))] :: liftE (r.map encPt)))], 6⟩
set_option maxRecDepth 100000 in
set_option maxHeartbeats 8000000 in
theorem law15_AdaptSame (S U : Sc) (a b : List UInt8) (G : GSc S) (G' : GSc U) : PFn Tryd.prog 20 [.agg (encSc S), .agg (encSc U), .str a, .str b] (.bool true) := by
 refine PFn.of Tryd.func20 rfl (by decide) Tryd.ntmps20 Tryd.results20 (Nat.le_of_ble_eq_true rfl) ?_
 simp only [argsT, encSc]
 have FW := law00_Few S G.big
 have FV := law00_Few U G'.big
 simp only [encSc] at FW FV
 refine AW.rT (by rfl) fun K hK => ?_
 simp -implicitDefEqProofs only [go_sem, ↓reduceIte, Nat.reduceAdd, Nat.reduceMul, Nat.reduceEqDiff, Nat.reduceLeDiff, reduceCtorEq, Int.reduceToNat]
 refine hK _ ?_; clear hK K
 refine AW.seq ?_
 cases hf : fewB S with
 | false =>
  rw [hf] at FW
  refine AW.rT (by rfl) fun K hK => ?_
  simp -implicitDefEqProofs only [go_sem, ↓reduceIte, Nat.reduceAdd, Nat.reduceMul, Nat.reduceEqDiff, Nat.reduceLeDiff, reduceCtorEq, Int.reduceToNat]
  refine ⟨.pure _, FW, ?_⟩
  try simp -implicitDefEqProofs only [go_sem, ↓reduceIte, Nat.reduceAdd, Nat.reduceMul, Nat.reduceEqDiff, Nat.reduceLeDiff, reduceCtorEq, Int.reduceToNat]
  refine hK _ ?_; clear hK K
  refine AW.cond _ (by simp -implicitDefEqProofs only [go_sem, ↓reduceIte, Nat.reduceAdd, Nat.reduceMul, Nat.reduceEqDiff, Nat.reduceLeDiff, reduceCtorEq, Int.reduceToNat]; rfl) (fun hc => ?_) (fun hc => ?_)
  rotate_left
  ·simp at hc
  refine AW.rT (by rfl) fun K hK => ?_
  simp -implicitDefEqProofs only [go_sem, ↓reduceIte, Nat.reduceAdd, Nat.reduceMul, Nat.reduceEqDiff, Nat.reduceLeDiff, reduceCtorEq, Int.reduceToNat]
  refine ⟨.pure _, law15_awake, ?_⟩
  try simp -implicitDefEqProofs only [go_sem, ↓reduceIte, Nat.reduceAdd, Nat.reduceMul, Nat.reduceEqDiff, Nat.reduceLeDiff, reduceCtorEq, Int.reduceToNat]
  refine hK _ ?_; clear hK K
  refine AW.ret ?_
  simp -implicitDefEqProofs only [go_sem, ↓reduceIte, Nat.reduceAdd, Nat.reduceMul, Nat.reduceEqDiff, Nat.reduceLeDiff, reduceCtorEq, Int.reduceToNat]
 | true =>
 rw [hf] at FW
 cases hg : fewB U with
 | false =>
  rw [hg] at FV
  refine AW.rT (by rfl) fun K hK => ?_
  simp -implicitDefEqProofs only [go_sem, ↓reduceIte, Nat.reduceAdd, Nat.reduceMul, Nat.reduceEqDiff, Nat.reduceLeDiff, reduceCtorEq, Int.reduceToNat]
  refine ⟨.pure _, FW, ?_⟩
  try simp -implicitDefEqProofs only [go_sem, ↓reduceIte, Nat.reduceAdd, Nat.reduceMul, Nat.reduceEqDiff, Nat.reduceLeDiff, reduceCtorEq, Int.reduceToNat]
  refine ⟨.pure _, FV, ?_⟩
  try simp -implicitDefEqProofs only [go_sem, ↓reduceIte, Nat.reduceAdd, Nat.reduceMul, Nat.reduceEqDiff, Nat.reduceLeDiff, reduceCtorEq, Int.reduceToNat]
  refine hK _ ?_; clear hK K
  refine AW.cond _ (by simp -implicitDefEqProofs only [go_sem, ↓reduceIte, Nat.reduceAdd, Nat.reduceMul, Nat.reduceEqDiff, Nat.reduceLeDiff, reduceCtorEq, Int.reduceToNat]; rfl) (fun hc => ?_) (fun hc => ?_)
  rotate_left
  ·simp at hc
  refine AW.rT (by rfl) fun K hK => ?_
  simp -implicitDefEqProofs only [go_sem, ↓reduceIte, Nat.reduceAdd, Nat.reduceMul, Nat.reduceEqDiff, Nat.reduceLeDiff, reduceCtorEq, Int.reduceToNat]
  refine ⟨.pure _, law15_awake, ?_⟩
  try simp -implicitDefEqProofs only [go_sem, ↓reduceIte, Nat.reduceAdd, Nat.reduceMul, Nat.reduceEqDiff, Nat.reduceLeDiff, reduceCtorEq, Int.reduceToNat]
  refine hK _ ?_; clear hK K
  refine AW.ret ?_
  simp -implicitDefEqProofs only [go_sem, ↓reduceIte, Nat.reduceAdd, Nat.reduceMul, Nat.reduceEqDiff, Nat.reduceLeDiff, reduceCtorEq, Int.reduceToNat]
 | true =>
 rw [hg] at FV
 have F := few_spec hf
 have L := F.lens
 have FU := few_spec hg
 have LU := FU.lens
 have SC := law00_Schema S F
 have SU := law00_Schema U FU
 have MK := adapt_Make S U L LU a b
 obtain ⟨xl, xs⟩ := makeR_lens S U a b
 refine AW.rT (by rfl) fun K hK => ?_
 simp -implicitDefEqProofs only [go_sem, ↓reduceIte, Nat.reduceAdd, Nat.reduceMul, Nat.reduceEqDiff, Nat.reduceLeDiff, reduceCtorEq, Int.reduceToNat]
 refine ⟨.pure _, FW, ?_⟩
 try simp -implicitDefEqProofs only [go_sem, ↓reduceIte, Nat.reduceAdd, Nat.reduceMul, Nat.reduceEqDiff, Nat.reduceLeDiff, reduceCtorEq, Int.reduceToNat]
 refine ⟨.pure _, FV, ?_⟩
 try simp -implicitDefEqProofs only [go_sem, ↓reduceIte, Nat.reduceAdd, Nat.reduceMul, Nat.reduceEqDiff, Nat.reduceLeDiff, reduceCtorEq, Int.reduceToNat]
 refine hK _ ?_; clear hK K
 refine AW.cond _ (by simp -implicitDefEqProofs only [go_sem, ↓reduceIte, Nat.reduceAdd, Nat.reduceMul, Nat.reduceEqDiff, Nat.reduceLeDiff, reduceCtorEq, Int.reduceToNat]; rfl) (fun hc => ?_) (fun hc => ?_)
 ·simp at hc
 refine AW.skip ?_
 simp only [andThen, inBlk, reduceCtorEq, ↓reduceIte, if_t, if_f]
 by_cases hok : (checkC S = 0 ∧ checkC U = 0) ∧ (hasM S a = true ∧ hasM U b = true)
 case neg =>
  have hX : (makeR S U a b).1 = [] ∧ (makeR S U a b).2 ≠ 0 := by
   unfold makeR
   split
   ·rename_i h1
    rw [if_neg (fun h2 => hok ⟨h1, h2⟩)]
    exact ⟨rfl, by decide⟩
   ·exact ⟨rfl, by decide⟩
  obtain ⟨hX1, hX2⟩ := hX
  have Q1 := adapt_Same (makeR S U a b).1 (makeR S U a b).1 (by omega) (fun x hx => by have := xs x hx; omega)
  rw [decide_eq_true rfl] at Q1
  rw [hX1] at MK Q1
  generalize (makeR S U a b).2 = e at *
  have e1 : (e != e) = false := by simp
  have e2 : (e != 0) = true := by simp [hX2]
  have z0 : (((0 : Nat) : Int) == 0) = true := rfl
  simp only [encSc, List.map_nil] at SC SU MK Q1
  refine AW.dT mixed (by rfl) (by decide +kernel) fun K hK => ?_
  simp -implicitDefEqProofs only [go_sem, ↓reduceIte, Nat.reduceAdd, Nat.reduceMul, Nat.reduceEqDiff, Nat.reduceLeDiff, reduceCtorEq, Int.reduceToNat]
  refine ⟨.pure _, SC, ?_⟩
  try simp -implicitDefEqProofs only [go_sem, ↓reduceIte, Nat.reduceAdd, Nat.reduceMul, Nat.reduceEqDiff, Nat.reduceLeDiff, reduceCtorEq, Int.reduceToNat]
  refine ⟨.pure _, SU, ?_⟩
  try simp -implicitDefEqProofs only [go_sem, ↓reduceIte, Nat.reduceAdd, Nat.reduceMul, Nat.reduceEqDiff, Nat.reduceLeDiff, reduceCtorEq, Int.reduceToNat]
  refine ⟨.pure _, MK, ?_⟩
  try simp -implicitDefEqProofs only [go_sem, ↓reduceIte, Nat.reduceAdd, Nat.reduceMul, Nat.reduceEqDiff, Nat.reduceLeDiff, reduceCtorEq, Int.reduceToNat]
  refine ⟨by decide +kernel, ?_⟩
  refine hK _ ?_; clear hK K
  refine AW.dT mixed (by rfl) (by decide +kernel) fun K hK => ?_
  simp -implicitDefEqProofs only [go_sem, ↓reduceIte, Nat.reduceAdd, Nat.reduceMul, Nat.reduceEqDiff, Nat.reduceLeDiff, reduceCtorEq, Int.reduceToNat]
  refine ⟨.pure _, SC, ?_⟩
  try simp -implicitDefEqProofs only [go_sem, ↓reduceIte, Nat.reduceAdd, Nat.reduceMul, Nat.reduceEqDiff, Nat.reduceLeDiff, reduceCtorEq, Int.reduceToNat]
  refine ⟨.pure _, SU, ?_⟩
  try simp -implicitDefEqProofs only [go_sem, ↓reduceIte, Nat.reduceAdd, Nat.reduceMul, Nat.reduceEqDiff, Nat.reduceLeDiff, reduceCtorEq, Int.reduceToNat]
  refine ⟨.pure _, MK, ?_⟩
  try simp -implicitDefEqProofs only [go_sem, ↓reduceIte, Nat.reduceAdd, Nat.reduceMul, Nat.reduceEqDiff, Nat.reduceLeDiff, reduceCtorEq, Int.reduceToNat]
  refine ⟨by decide +kernel, ?_⟩
  refine hK _ ?_; clear hK K
  refine AW.seq ?_
  refine AW.rT (by rfl) fun K hK => ?_
  simp -implicitDefEqProofs only [go_sem, ↓reduceIte, Nat.reduceAdd, Nat.reduceMul, Nat.reduceEqDiff, Nat.reduceLeDiff, reduceCtorEq, Int.reduceToNat, e1]
  refine ⟨.pure _, Q1, ?_⟩
  try simp -implicitDefEqProofs only [go_sem, ↓reduceIte, Nat.reduceAdd, Nat.reduceMul, Nat.reduceEqDiff, Nat.reduceLeDiff, reduceCtorEq, Int.reduceToNat]
  refine hK _ ?_; clear hK K
  refine AW.cond _ (by simp -implicitDefEqProofs only [go_sem, ↓reduceIte, Nat.reduceAdd, Nat.reduceMul, Nat.reduceEqDiff, Nat.reduceLeDiff, reduceCtorEq, Int.reduceToNat]; rfl) (fun hc => ?_) (fun hc => ?_)
  ·simp at hc
  refine AW.skip ?_
  simp only [andThen, inBlk, reduceCtorEq, ↓reduceIte, if_t, if_f]
  refine AW.seq ?_
  refine AW.rT (by rfl) fun K hK => ?_
  simp -implicitDefEqProofs only [go_sem, ↓reduceIte, Nat.reduceAdd, Nat.reduceMul, Nat.reduceEqDiff, Nat.reduceLeDiff, reduceCtorEq, Int.reduceToNat, e2]
  refine hK _ ?_; clear hK K
  refine AW.cond _ (by simp -implicitDefEqProofs only [go_sem, ↓reduceIte, Nat.reduceAdd, Nat.reduceMul, Nat.reduceEqDiff, Nat.reduceLeDiff, reduceCtorEq, Int.reduceToNat]; rfl) (fun hc => ?_) (fun hc => ?_)
  rotate_left
  ·simp at hc
  refine AW.rT (by rfl) fun K hK => ?_
  simp -implicitDefEqProofs only [go_sem, ↓reduceIte, Nat.reduceAdd, Nat.reduceMul, Nat.reduceEqDiff, Nat.reduceLeDiff, reduceCtorEq, Int.reduceToNat, z0, List.length_nil]
  refine ⟨.pure _, law15_awake, ?_⟩
  try simp -implicitDefEqProofs only [go_sem, ↓reduceIte, Nat.reduceAdd, Nat.reduceMul, Nat.reduceEqDiff, Nat.reduceLeDiff, reduceCtorEq, Int.reduceToNat]
  refine hK _ ?_; clear hK K
  refine AW.ret ?_
  simp -implicitDefEqProofs only [go_sem, ↓reduceIte, Nat.reduceAdd, Nat.reduceMul, Nat.reduceEqDiff, Nat.reduceLeDiff, reduceCtorEq, Int.reduceToNat]
 obtain ⟨⟨hS, hU⟩, ha, hb⟩ := hok
 obtain ⟨hpr, hll, r, hr⟩ := make_prog hS hU ha hb
 have mk : makeR S U a b = (makeP S U 101 0 [⟨a, b⟩], 0) := by unfold makeR; rw [if_pos ⟨hS, hU⟩, if_pos ⟨ha, hb⟩]
 have MD := adapt_MakeD S U L LU a b hS hU ha hb hr
 rw [mk] at MK xl xs
 rw [hr] at MK xl xs
 obtain ⟨st, hst⟩ : ∃ st, st = (stepsP (msgOf S a) (msgOf U b) 500 1 [⟨a, b⟩]).1 := ⟨_, rfl⟩
 rw [← hst] at MK MD xl xs
 clear hst hr mk hpr hll
 have Q1 := adapt_Same (st :: r) (st :: r) (by simp only at xl; omega) (fun x hx => by have := xs x hx; omega)
 rw [decide_eq_true rfl] at Q1
 have Q2 := adapt_Same (st :: r) ((st ++ [⟨1, 500, 0⟩]) :: r) (by simp only at xl; omega) (fun x hx => by have := xs x hx; omega)
 rw [decide_eq_false (by intro h; injection h with h; have := congrArg List.length h; simp at this)] at Q2
 have hsl : st.length ≤ 500 := xs st List.mem_cons_self
 have hrl : r.length ≤ 101 := by simp only [List.length_cons] at xl; omega
 clear xl xs
 simp only [encSc, List.map_cons, encPt] at SC SU MK MD Q1 Q2
 refine AW.dT mixed (by rfl) (by decide +kernel) fun K hK => ?_
 simp -implicitDefEqProofs only [go_sem, ↓reduceIte, Nat.reduceAdd, Nat.reduceMul, Nat.reduceEqDiff, Nat.reduceLeDiff, reduceCtorEq, Int.reduceToNat]
 refine ⟨.pure _, SC, ?_⟩
 try simp -implicitDefEqProofs only [go_sem, ↓reduceIte, Nat.reduceAdd, Nat.reduceMul, Nat.reduceEqDiff, Nat.reduceLeDiff, reduceCtorEq, Int.reduceToNat]
 refine ⟨.pure _, SU, ?_⟩
 try simp -implicitDefEqProofs only [go_sem, ↓reduceIte, Nat.reduceAdd, Nat.reduceMul, Nat.reduceEqDiff, Nat.reduceLeDiff, reduceCtorEq, Int.reduceToNat]
 refine ⟨.pure _, MK, ?_⟩
 try simp -implicitDefEqProofs only [go_sem, ↓reduceIte, Nat.reduceAdd, Nat.reduceMul, Nat.reduceEqDiff, Nat.reduceLeDiff, reduceCtorEq, Int.reduceToNat]
 refine ⟨by decide +kernel, ?_⟩
 refine hK _ ?_; clear hK K
 refine AW.drawDeepN 6 [.agg [.str S.name, .slice (S.msgs.map encMs), .slice (S.enums.map encEn), .slice (S.meths.map encMt)], .agg [.str U.name, .slice (U.msgs.map encMs), .slice (U.enums.map encEn), .slice (U.meths.map encMt)], .str a, .str b] rfl mixed (by rfl) (by decide +kernel) MD rfl rfl ?_ fun K hK => ?_
 ·have h1 := labsBy_lift (p := fun l => ([] : List Nat).contains l || decide (0 ≤ l)) (sz := 1) (es := r.map encPt)
  have h2 := labsBy_lift (p := fun l => ([] : List Nat).contains l || decide (0 ≤ l)) (sz := 3) (es := st.map encSt)
  simp only [Blk.labsBy] at h1 h2
  simp only [List.all_cons, List.all_nil, Blk.labsBy, h1, h2]
  simp [labsByL, AV.labsBy]
 simp -implicitDefEqProofs only [go_sem, ↓reduceIte, Nat.reduceAdd, Nat.reduceMul, Nat.reduceEqDiff, Nat.reduceLeDiff, reduceCtorEq, Int.reduceToNat]
 refine ⟨.pure _, SC, ?_⟩
 try simp -implicitDefEqProofs only [go_sem, ↓reduceIte, Nat.reduceAdd, Nat.reduceMul, Nat.reduceEqDiff, Nat.reduceLeDiff, reduceCtorEq, Int.reduceToNat]
 refine ⟨.pure _, SU, ?_⟩
 try simp -implicitDefEqProofs only [go_sem, ↓reduceIte, Nat.reduceAdd, Nat.reduceMul, Nat.reduceEqDiff, Nat.reduceLeDiff, reduceCtorEq, Int.reduceToNat]
 refine ⟨?_, ?_⟩
 ·simp only [newU, lift2, List.map_cons, List.map_nil]
  decide +kernel
 refine hK _ ?_; clear hK K
 refine AW.ghost (s' := asS S U st r []) ?_ ?_
 ·simp only [asS, asT, asH, cellsSc]
  refine Ghost.ent (fun l => if l = 2 then 21 else if l = 3 then 34 else if l = 4 then 37 else if l = 5 then 38 else l) ?_ ?_ ?_ <;> simp -implicitDefEqProofs only [go_sem, ↓reduceIte, Nat.reduceAdd, Nat.reduceMul, Nat.reduceEqDiff, Nat.reduceLeDiff, reduceCtorEq, Int.reduceToNat, lift2, newU, List.size_toArray, List.length_cons, List.length_nil, Nat.reduceSub, List.forall_mem_cons, List.not_mem_nil, false_implies, implies_true, and_self, map_renL_lift, labsIn_lift, List.all_append, List.all_cons, List.all_nil, List.map_append, Nat.reduceLT, labsInL, AV.labsIn]
  done
 refine AW.seq ?_
 simp only [asS, asT, asH, cellsSc]
 have n0 : ((0 : Int) != 0) = false := rfl
 refine AW.rR (SeqR.ev 6 (by rfl) (by decide) ?_)
 simp -implicitDefEqProofs only [go_sem, ↓reduceIte, Nat.reduceAdd, Nat.reduceMul, Nat.reduceEqDiff, Nat.reduceLeDiff, reduceCtorEq, Int.reduceToNat, n0]
 refine SeqR.ghost (s' := asS S U st r [(45, .p (.bool false)), (46, .p (.agg [.slice ([.slice (st.map encSt)] :: r.map encPt)])), (47, .agg [.own 4])]) ?_ ?_
 ·simp only [asS, asT, asH, cellsSc]
  refine Ghost.sub ?_ ?_ <;> simp -implicitDefEqProofs only [go_sem, ↓reduceIte, Nat.reduceAdd, Nat.reduceMul, Nat.reduceEqDiff, Nat.reduceLeDiff, reduceCtorEq, Int.reduceToNat,  List.forall_mem_cons, List.not_mem_nil, false_implies, implies_true, and_self, labsIn_lift, List.all_append, List.all_cons, List.all_nil, Nat.reduceLT, labsInL, AV.labsIn]
  done
 have ul : unlift ([AV.p (.slice (st.map encSt))] :: liftE (r.map encPt)) = some ([.slice (st.map encSt)] :: r.map encPt) := by
  rw [unlift, unlift_liftE]
  rfl
 simp only [asS, asT, asH, cellsSc]
 refine SeqR.look (s0 := ⟨ofL [(46, .p (.agg [.slice ([.slice (st.map encSt)] :: r.map encPt)])), (47, .p (.agg [.slice ([.slice (st.map encSt)] :: r.map encPt)]))], ofH [], 6⟩) (Ghost.trans (Ghost.freeze (lb := 5) (sz := 3) (ps := st.map encSt) rfl (unlift_liftE _)) (Ghost.trans (s' := ⟨ofL [(46, .p (.agg [.slice ([.slice (st.map encSt)] :: r.map encPt)])), (47, .agg [.own 4])], ofH [(4, .row 1 ([.p (.slice (st.map encSt))] :: liftE (r.map encPt)))], 6⟩) ?_ (Ghost.trans (Ghost.freeze (lb := 4) (sz := 1) (ps := [.slice (st.map encSt)] :: r.map encPt) rfl ul) ?_))) rfl rfl rfl ?_ Q1 rfl ?_
 ·refine Ghost.sub ?_ ?_ <;> simp -implicitDefEqProofs only [go_sem, ↓reduceIte, Nat.reduceAdd, Nat.reduceMul, Nat.reduceEqDiff, Nat.reduceLeDiff, reduceCtorEq, Int.reduceToNat, thaw, thaw1, mkAgg, Option.map_some, List.map_cons, List.map_nil, thaw_lift, List.forall_mem_cons, List.not_mem_nil, false_implies, implies_true, and_self, labsIn_lift, List.all_append, List.all_cons, List.all_nil, Nat.reduceLT, labsInL, AV.labsIn]
  done
 ·refine Ghost.sub ?_ ?_ <;> simp -implicitDefEqProofs only [go_sem, ↓reduceIte, Nat.reduceAdd, Nat.reduceMul, Nat.reduceEqDiff, Nat.reduceLeDiff, reduceCtorEq, Int.reduceToNat, thaw, thaw1, mkAgg, Option.map_some, List.map_cons, List.map_nil, thaw_lift, List.forall_mem_cons, List.not_mem_nil, false_implies, implies_true, and_self, labsIn_lift, List.all_append, List.all_cons, List.all_nil, Nat.reduceLT, labsInL, AV.labsIn]
  done
 ·simp -implicitDefEqProofs only [go_sem, ↓reduceIte, Nat.reduceAdd, Nat.reduceMul, Nat.reduceEqDiff, Nat.reduceLeDiff, reduceCtorEq, Int.reduceToNat, List.map_cons, List.map_nil]
  done
 refine SeqR.ev 2 (by rfl) (by decide) ?_
 simp -implicitDefEqProofs only [go_sem, ↓reduceIte, Nat.reduceAdd, Nat.reduceMul, Nat.reduceEqDiff, Nat.reduceLeDiff, reduceCtorEq, Int.reduceToNat]
 refine SeqR.last rfl ?_
 refine AW.cond _ (by simp -implicitDefEqProofs only [go_sem, ↓reduceIte, Nat.reduceAdd, Nat.reduceMul, Nat.reduceEqDiff, Nat.reduceLeDiff, reduceCtorEq, Int.reduceToNat]; rfl) (fun hc => ?_) (fun hc => ?_)
 ·simp at hc
 refine AW.skip ?_
 simp only [andThen, inBlk, reduceCtorEq, ↓reduceIte, if_t, if_f]
 refine AW.seq ?_
 refine AW.rT (by rfl) fun K hK => ?_
 simp -implicitDefEqProofs only [go_sem, ↓reduceIte, Nat.reduceAdd, Nat.reduceMul, Nat.reduceEqDiff, Nat.reduceLeDiff, reduceCtorEq, Int.reduceToNat, n0]
 refine hK _ ?_; clear hK K
 refine AW.cond _ (by simp -implicitDefEqProofs only [go_sem, ↓reduceIte, Nat.reduceAdd, Nat.reduceMul, Nat.reduceEqDiff, Nat.reduceLeDiff, reduceCtorEq, Int.reduceToNat]; rfl) (fun hc => ?_) (fun hc => ?_)
 ·simp at hc
 refine AW.skip ?_
 simp only [andThen, inBlk, reduceCtorEq, ↓reduceIte, if_t, if_f]
 refine AW.seq ?_
 have z9 : (((r.length + 1 : Nat) : Int) == 0) = false := beq_eq_false_iff_ne.2 (by omega)
 refine AW.rT (by rfl) fun K hK => ?_
 simp -implicitDefEqProofs only [go_sem, ↓reduceIte, Nat.reduceAdd, Nat.reduceMul, Nat.reduceEqDiff, Nat.reduceLeDiff, reduceCtorEq, Int.reduceToNat, List.length_cons, List.length_map, z9]
 refine hK _ ?_; clear hK K
 refine AW.cond _ (by simp -implicitDefEqProofs only [go_sem, ↓reduceIte, Nat.reduceAdd, Nat.reduceMul, Nat.reduceEqDiff, Nat.reduceLeDiff, reduceCtorEq, Int.reduceToNat]; rfl) (fun hc => ?_) (fun hc => ?_)
 ·simp at hc
 refine AW.skip ?_
 simp only [andThen, inBlk, reduceCtorEq, ↓reduceIte, if_t, if_f]
 refine AW.dT mixed (by rfl) (by decide +kernel) fun K hK => ?_
 simp -implicitDefEqProofs only [go_sem, ↓reduceIte, Nat.reduceAdd, Nat.reduceMul, Nat.reduceEqDiff, Nat.reduceLeDiff, reduceCtorEq, Int.reduceToNat, List.length_cons, List.getElem?_cons_zero]
 have rl : (liftE (r.map encPt)).length = r.length := by rw [liftE_length, List.length_map]
 have sl : (liftE (st.map encSt)).length = st.length := by rw [liftE_length, List.length_map]
 refine ⟨⟨Int.le_refl 0, by omega⟩, ⟨by simp, by simp [oneAll, AV.one, PV.one], by simp⟩, by rw [sl]; omega, ⟨Int.le_refl 0, by omega⟩, by decide +kernel, ?_⟩
 refine hK _ ?_; clear hK K
 have el : liftE (st.map encSt) ++ [[.p (.int .i64 1), .p (.int .i64 500), .p (.int .i64 0)]] = liftE ((st ++ [(⟨1, 500, 0⟩ : Stp)]).map encSt) := by
  rw [List.map_append, liftE_append]
  rfl
 have ul2 : unlift ([AV.p (.slice ((st ++ [(⟨1, 500, 0⟩ : Stp)]).map encSt))] :: liftE (r.map encPt)) = some ([.slice ((st ++ [(⟨1, 500, 0⟩ : Stp)]).map encSt)] :: r.map encPt) := by
  rw [unlift, unlift_liftE]
  rfl
 rw [el]

 generalize st ++ [(⟨1, 500, 0⟩ : Stp)] = st2 at *
 refine AW.ghost (s' := asZ2 st st2 r) ?_ (AW.ghost (s' := asZ st st2 r) (Ghost.trans (Ghost.freeze (lb := 5) (sz := 3) (ps := st2.map encSt) rfl (unlift_liftE _)) (Ghost.trans (s' := asZ1 st st2 r) ?_ (Ghost.trans (Ghost.freeze (lb := 4) (sz := 1) (ps := [.slice (st2.map encSt)] :: r.map encPt) rfl ul2) ?_))) ?_)
 ·simp only [asZ2]
  refine Ghost.ent (fun l => if l = 5 then 23 else l) ?_ ?_ ?_ <;> simp -implicitDefEqProofs only [go_sem, ↓reduceIte, Nat.reduceAdd, Nat.reduceMul, Nat.reduceEqDiff, Nat.reduceLeDiff, reduceCtorEq, Int.reduceToNat, List.set_cons_zero, List.map_cons, List.forall_mem_cons, List.not_mem_nil, false_implies, implies_true, and_self, map_renL_lift, labsIn_lift, List.all_append, List.all_cons, List.all_nil, List.map_append, Nat.reduceLT, labsInL, AV.labsIn]
  done
 ·simp only [asZ2, asZ1]
  refine Ghost.sub ?_ ?_ <;> simp -implicitDefEqProofs only [go_sem, ↓reduceIte, Nat.reduceAdd, Nat.reduceMul, Nat.reduceEqDiff, Nat.reduceLeDiff, reduceCtorEq, Int.reduceToNat, thaw, thaw1, mkAgg, Option.map_some, List.map_cons, List.map_nil, thaw_lift, List.forall_mem_cons, List.not_mem_nil, false_implies, implies_true, and_self, labsIn_lift, List.all_append, List.all_cons, List.all_nil, Nat.reduceLT, labsInL, AV.labsIn]
  done
 ·simp only [asZ, asZ1]
  refine Ghost.sub ?_ ?_ <;> simp -implicitDefEqProofs only [go_sem, ↓reduceIte, Nat.reduceAdd, Nat.reduceMul, Nat.reduceEqDiff, Nat.reduceLeDiff, reduceCtorEq, Int.reduceToNat, thaw, thaw1, mkAgg, Option.map_some, List.map_cons, List.map_nil, thaw_lift, List.forall_mem_cons, List.not_mem_nil, false_implies, implies_true, and_self, labsIn_lift, List.all_append, List.all_cons, List.all_nil, Nat.reduceLT, labsInL, AV.labsIn]
  done
 simp only [asZ]
 refine AW.rT (by rfl) fun K hK => ?_
 simp -implicitDefEqProofs only [go_sem, ↓reduceIte, Nat.reduceAdd, Nat.reduceMul, Nat.reduceEqDiff, Nat.reduceLeDiff, reduceCtorEq, Int.reduceToNat]
 refine ⟨.pure _, Q2, ?_⟩
 try simp -implicitDefEqProofs only [go_sem, ↓reduceIte, Nat.reduceAdd, Nat.reduceMul, Nat.reduceEqDiff, Nat.reduceLeDiff, reduceCtorEq, Int.reduceToNat]
 refine ⟨.pure _, law15_awake, ?_⟩
 try simp -implicitDefEqProofs only [go_sem, ↓reduceIte, Nat.reduceAdd, Nat.reduceMul, Nat.reduceEqDiff, Nat.reduceLeDiff, reduceCtorEq, Int.reduceToNat]
 refine hK _ ?_; clear hK K
 refine AW.ret ?_
 simp -implicitDefEqProofs only [go_sem, ↓reduceIte, Nat.reduceAdd, Nat.reduceMul, Nat.reduceEqDiff, Nat.reduceLeDiff, reduceCtorEq, Int.reduceToNat]
end Go.Aw
